/-
  TakeRun, State, Give, Words of places; the document's examples of places live.
-/
import Derived.Test.YtfijchofplkcoaaHa
set_option linter.unusedVariables false
set_option linter.unusedSimpArgs false
set_option maxRecDepth 100000
namespace Go.Proofs.Ytfijchofplkcoaa

section
variable {h : H} {bs bt bb n : Nat} {tw bw : List Nat}
theorem SlM.c0 (m : SlM h bs bt bb n tw bw) : hcell h ⟨bs, 0, none⟩ = some (.int .i64 (n : Int)) := by rw [hcell_blk m.top]; rfl
theorem SlM.c1 (m : SlM h bs bt bb n tw bw) : hcell h ⟨bs, 1, none⟩ = some (.slice (some ⟨bt, 0, none⟩) ((n + 63) / 64) ((n + 63) / 64)) := by rw [hcell_blk m.top]; rfl
theorem SlM.c2 (m : SlM h bs bt bb n tw bw) : hcell h ⟨bs, 2, none⟩ = some (.slice (some ⟨bb, 0, none⟩) ((n + 63) / 64) ((n + 63) / 64)) := by rw [hcell_blk m.top]; rfl

/-- From a place on so many are free. -/
def free (tw : List Nat) (k i : Nat) : Prop := ∀ d, d < k → bit tw (i + d) = false
theorem C69 {k : Int} {Q : Int → Bool → H → Prop} (m : SlM h bs bt bb n tw bw)
    (q : ∀ (i kk : Nat) h' tw', k = (kk : Int) → 1 ≤ kk → i + kk ≤ n → free tw kk i → (∀ i', i' < i → ¬ free tw kk i') → Upd h bt h' → SlM h' bs bt bb n tw' bw →
      (∀ x, bit tw' x = (bit tw x || decide (i ≤ x ∧ x < i + kk))) → Q i true h')
    (q0 : (∀ kk : Nat, k = (kk : Int) → 1 ≤ kk → ∀ i, i + kk ≤ n → ¬ free tw kk i) → Q 0 false h) : F69 (some ⟨bs, 0, none⟩) k Q h := by
  have hn := m.le
  rw [F69_eq]
  unfold B69 JoinM
  simp only [Option.isNone_some, Br_false]
  refine Br_dec (fun hh => q0 fun kk hk h1 i hi => by omega) fun hk1 => ?_
  simp only [NilP, add_mk, Nat.add_zero, Nat.zero_add]
  refine Ld_i m.c0 (Br_dec (fun hh => q0 fun kk hk h1 i hi => by omega) fun hkn => ?_)
  obtain ⟨kk, rfl⟩ := Int.eq_ofNat_of_zero_le (show 0 ≤ k by omega)
  refine Loop_intro (σ := Int × Unit) (x := (0, ())) (fun c z h' => ∃ i : Nat, z.1 = (i : Int) ∧ c = n + 1 - i ∧ i ≤ n ∧ h = h' ∧ ∀ i', i' < i → ¬ free tw kk i') (n + 1) ⟨0, rfl, rfl, by omega, rfl, fun i' hi' => by omega⟩ ?_
  rintro c ⟨ii, u⟩ h' ⟨i, hi, hc, hin, rfl, hI⟩
  simp only at hi
  subst hi
  refine Ld_i m.c0 ?_
  rw [wrap_i64' ((n : Int) - kk) (by omega) (by omega)]
  refine Br_dec (fun hle => ?_) fun hgt => ?_
  rotate_left
  · refine q0 fun kk' hk' h1 i' hi' => ?_
    obtain rfl : kk' = kk := by omega
    exact hI i' (by simp at hgt; omega)
  have hle : i + kk ≤ n := by simp at hle; omega
  simp only [LetI]
  have e1 : IntKind.wrap .i64 ((IntKind.wrap .i64 ((i : Int) + kk)) - 1) = ((i + kk - 1 : Nat) : Int) := by
    rw [wrap_i64' ((i : Int) + kk) (by omega) (by omega), wrap_i64' _ (by omega) (by omega)]; omega
  rw [e1]
  refine Loop_intro (σ := Int × Int × Unit) (x := ((i : Int), ((i + kk - 1 : Nat) : Int), ())) (fun c z h' => z.1 = (i : Int) ∧ c ≤ kk ∧ z.2.1 = (i : Int) + c - 1 ∧ h = h' ∧ ∀ d, c ≤ d → d < kk → bit tw (i + d) = false) kk
    ⟨rfl, by omega, by simp; omega, rfl, fun d h1 h2 => by omega⟩ ?_
  rintro c2 ⟨i1, j1, u⟩ h'' ⟨hz1, hc2, hj, rfl, hF⟩
  simp only at hz1 hj
  subst hz1 hj
  refine Br_dec (fun hge => ?_) fun hlt => ?_
  · have hc1 : 1 ≤ c2 := by simp at hge; omega
    obtain ⟨d, rfl⟩ : ∃ d, c2 = d + 1 := ⟨c2 - 1, by omega⟩
    have ej : (i : Int) + ((d + 1 : Nat) : Int) - 1 = ((i + d : Nat) : Int) := by omega
    simp only [ej]
    refine Ld_s (x := ⟨some ⟨bt, 0, none⟩, (n + 63) / 64, (n + 63) / 64⟩) m.c1 (C156 m.tak m.lt (by omega) (by omega) ?_)
    cases hb : bit tw (i + d)
    · refine ⟨d, by omega, by trivial, by omega, ?_, by trivial, ?_⟩
      · show IntKind.wrap .i64 (((i + d : Nat) : Int) - 1) = _
        rw [wrap_i64' _ (by omega) (by omega)]; omega
      · intro d' h1 h2
        by_cases e : d' = d
        · subst e; exact hb
        · exact hF d' (by omega) h2
    · refine ⟨n + 1 - (i + d + 1), by omega, i + d + 1, ?_, rfl, by omega, by trivial, ?_⟩
      · show IntKind.wrap .i64 (((i + d : Nat) : Int) + 1) = _
        rw [wrap_i64' _ (by omega) (by omega)]; omega
      · intro i' hi' hf
        by_cases e : i' < i
        · exact hI i' e hf
        · have := hf (i + d - i') (by omega)
          rw [show i' + (i + d - i') = i + d by omega, hb] at this
          cases this
  · have hc0 : c2 = 0 := by simp at hlt; omega
    subst hc0
    have hfree : free tw kk i := fun d hd => hF d (by omega) hd
    refine Loop_intro (σ := Int × Unit) (x := (0, ())) (fun c z h' => ∃ d : Nat, z.1 = (d : Int) ∧ c = kk - d ∧ d ≤ kk ∧ Upd h bt h' ∧ ∃ tw', SlM h' bs bt bb n tw' bw ∧ ∀ x, bit tw' x = (bit tw x || decide (i ≤ x ∧ x < i + d))) kk
      ⟨0, rfl, rfl, by omega, ⟨rfl, fun _ _ => rfl⟩, tw, m, fun x => by rw [decide_eq_false (by omega), Bool.or_false]⟩ ?_
    rintro c3 ⟨dd, u⟩ h3 ⟨d, hd, hc3, hdk, uu, tw3, m3, hb3⟩
    simp only at hd
    subst hd
    refine Br_dec (fun hlt => ?_) fun hge => ?_
    · have hlt : d < kk := by simp at hlt; omega
      refine Ld_s (x := ⟨some ⟨bt, 0, none⟩, (n + 63) / 64, (n + 63) / 64⟩) m3.c1 ?_
      have e2 : IntKind.wrap .i64 ((i : Int) + (d : Int)) = ((i + d : Nat) : Int) := by rw [wrap_i64' _ (by omega) (by omega)]; omega
      simp only [e2]
      refine C157 m3.tak m3.lt (by omega) (by omega) fun h4 tw4 u4 e4 l4 hb4 => ?_
      refine ⟨kk - (d + 1), by omega, d + 1, ?_, rfl, by omega, ⟨u4.1.trans uu.1, fun x hx => (u4.2 x hx).trans (uu.2 x hx)⟩, tw4, m3.setT u4 e4 l4, ?_⟩
      · show IntKind.wrap .i64 ((d : Int) + 1) = _
        rw [wrap_i64' _ (by omega) (by omega)]; omega
      · intro x
        rw [hb4, hb3, Bool.or_assoc]
        congr 1
        by_cases h1 : i ≤ x ∧ x < i + d
        · rw [decide_eq_true h1, decide_eq_true (show i ≤ x ∧ x < i + (d + 1) by omega), Bool.true_or]
        · rw [decide_eq_false h1, Bool.false_or]
          by_cases h2 : x = i + d
          · rw [decide_eq_true h2, decide_eq_true (show i ≤ x ∧ x < i + (d + 1) by omega)]
          · rw [decide_eq_false h2, decide_eq_false (show ¬ (i ≤ x ∧ x < i + (d + 1)) by omega)]
    · have : d = kk := by simp at hge; omega
      subst this
      exact q i d h3 tw3 rfl (by omega) hle hfree hI uu m3 hb3

theorem C73 {i : Int} {Q : Int → H → Prop} (m : SlM h bs bt bb n tw bw) (q : ∀ j : Nat, i = (j : Int) → j < n → Q (cond (bit bw j) 2 (cond (bit tw j) 1 0)) h) (q0 : ¬ (0 ≤ i ∧ i < n) → Q (-1) h) :
    F73 (some ⟨bs, 0, none⟩) i Q h := by
  have hn := m.le
  rw [F73_eq]
  unfold B73
  rw [F158_eq]
  unfold B158
  simp only [Option.isNone_some, Bool.not_false, Br_true, NilP, add_mk, Nat.add_zero, Nat.zero_add]
  refine Br_dec (fun h0 => Ld_i m.c0 ?_) fun hh => q0 (by omega)
  by_cases hin : i < (n : Int)
  · rw [decide_eq_true hin]
    simp only [Bool.not_true, Br_false]
    obtain ⟨j, rfl⟩ := Int.eq_ofNat_of_zero_le (show 0 ≤ i by omega)
    have := q j rfl (by omega)
    refine Ld_s (x := ⟨some ⟨bb, 0, none⟩, (n + 63) / 64, (n + 63) / 64⟩) m.c2 (C156 m.bad m.lb (by omega) (by omega) ?_)
    cases hb : bit bw j <;> rw [hb] at this
    · refine Ld_s (x := ⟨some ⟨bt, 0, none⟩, (n + 63) / 64, (n + 63) / 64⟩) m.c1 (C156 m.tak m.lt (by omega) (by omega) ?_)
      cases ht : bit tw j <;> rw [ht] at this <;> exact this
    · exact this
  · rw [decide_eq_false hin]
    exact q0 (by omega)
end
end Go.Proofs.Ytfijchofplkcoaa
