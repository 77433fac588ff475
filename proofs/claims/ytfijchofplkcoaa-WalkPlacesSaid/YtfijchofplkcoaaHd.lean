/-
  The document's examples of places live; the law SlotsNone over the heap predicates.
-/
import Derived.Test.YtfijchofplkcoaaHc
set_option linter.unusedVariables false
set_option linter.unusedSimpArgs false
set_option maxRecDepth 100000
namespace Go.Proofs.Ytfijchofplkcoaa

theorem seven {l : List Nat} (hl : l.length = 1) (hw : ∀ w ∈ l, w < 2 ^ 64) (hb : ∀ x, bit l x = decide (x < 3)) : l = [7] := by
  match l, hl with
  | [w], _ =>
    have hw' := hw w (by simp)
    congr 1
    apply Nat.eq_of_testBit_eq
    intro i
    by_cases hi : i < 64
    · have := hb i
      unfold bit at this
      rw [show i / 64 = 0 by omega, show i % 64 = i by omega] at this
      have e : ∀ i, i < 64 → (7 : Nat).testBit i = decide (i < 3) := by decide
      rw [e i hi]
      exact this
    · have p : (2 : Nat) ^ 64 ≤ 2 ^ i := Nat.pow_le_pow_right (by omega) (by omega)
      rw [Nat.testBit_lt_two_pow (Nat.lt_of_lt_of_le hw' p), Nat.testBit_lt_two_pow (Nat.lt_of_lt_of_le (by omega) p)]

theorem C67 {Q : Bool → H → Prop} {h : H} (q : ∀ h', Kept h h' → Q true h') : F67 Q h := by
  rw [F67_eq]
  refine C66 (n := 4) (by omega) fun bs bt bb h1 k1 hbs hbt hbb m1 => ?_
  simp only [Option.isNone_some, Br_false]
  generalize ht0 : List.replicate ((4 + 63) / 64) 0 = z0 at *
  have b0 : ∀ x, bit z0 x = false := fun x => by rw [← ht0]; exact bit_zero _ _
  rw [F68_eq]
  refine C69 m1 (fun i kk h2 tw2 hk h1' hi hf hl u2 m2 b2 => ?_) fun hh => absurd (fun d _ => b0 _) (hh 1 rfl (by omega) 0 (by omega))
  obtain rfl : kk = 1 := by omega
  have i0 : i = 0 := by
    by_cases e : i = 0
    · exact e
    · exact absurd (fun d _ => b0 _) (hl 0 (by omega))
  subst i0
  have K2 : Kept h h2 := u2.kept k1 hbt
  have B2 : ∀ x, bit tw2 x = decide (x < 1) := fun x => by rw [b2, b0, Bool.false_or]; congr 1; simp; try omega
  refine C69 m2 (fun i kk h3 tw3 hk h1' hi hf hl u3 m3 b3 => ?_) fun hh => absurd (fun d hd => ?_) (hh 2 rfl (by omega) 1 (by omega))
  rotate_left
  · rw [B2]; simp
  obtain rfl : kk = 2 := by omega
  have i1 : i = 1 := by
    have h0 : i ≠ 0 := by
      intro e; subst e
      have := hf 0 (by omega); rw [B2] at this; simp at this
    by_cases e : i = 1
    · exact e
    · exact absurd (fun d hd => by rw [B2]; simp) (hl 1 (by omega))
  subst i1
  have K3 := u3.kept K2 hbt
  have B3 : ∀ x, bit tw3 x = decide (x < 3) := fun x => by
    rw [b3, B2]
    by_cases e : x < 1
    · rw [decide_eq_true e, decide_eq_true (show x < 3 by omega), Bool.true_or]
    · rw [decide_eq_false e, Bool.false_or]; congr 1; simp; omega
  refine C70 m3 (fun j h4 tw4 hj hjn hb ht u4 m4 b4 => ?_) fun hh => ?_
  rotate_left
  · rcases hh 1 rfl (by omega) with e | e
    · rw [b0] at e; cases e
    · rw [B3] at e; simp at e
  obtain rfl : j = 1 := by omega
  have K4 := u4.kept K3 hbt
  have B4 : ∀ x, bit tw4 x = (decide (x < 3) && !decide (x = 1)) := fun x => by rw [b4, B3]
  refine C69 m4 (fun i kk h5 tw5 hk h1' hi hf hl u5 m5 b5 => ?_) fun _ => ?_
  · obtain rfl : kk = 2 := by omega
    have e : i = 0 ∨ i = 1 ∨ i = 2 := by omega
    rcases e with rfl | rfl | rfl
    · have := hf 0 (by omega); rw [B4] at this; simp at this
    · have := hf 1 (by omega); rw [B4] at this; simp at this
    · have := hf 0 (by omega); rw [B4] at this; simp at this
  refine C69 m4 (fun i kk h5 tw5 hk h1' hi hf hl u5 m5 b5 => ?_) fun hh => absurd (fun d hd => ?_) (hh 1 rfl (by omega) 1 (by omega))
  rotate_left
  · obtain rfl : d = 0 := by omega
    rw [B4]; simp
  obtain rfl : kk = 1 := by omega
  have i1 : i = 1 := by
    have h0 : i ≠ 0 := by
      intro e; subst e
      have := hf 0 (by omega); rw [B4] at this; simp at this
    by_cases e : i = 1
    · exact e
    · exact absurd (fun d hd => by obtain rfl : d = 0 := by omega
                                   rw [B4]; simp) (hl 1 (by omega))
  subst i1
  have K5 := u5.kept K4 hbt
  have B5 : ∀ x, bit tw5 x = decide (x < 3) := fun x => by
    rw [b5, B4]
    by_cases e : x = 1
    · subst e; simp
    · rw [decide_eq_false e]; simp; omega
  have e7 : tw5 = [7] := seven m5.lt m5.tak.2 B5
  subst e7
  refine C72 m5 fun c h6 k6 hc W6 => Nw_intro fun d h7 hd k7 e7 => ?_
  refine C113 (l := [7]) ⟨k7.blk W6.1, W6.2⟩ ⟨e7, by simp⟩ rfl (by omega) ?_
  exact q h7 ((K5.trans k6).trans k7)

/-- No places, or some that no call made. -/
def NS (h : H) (p : Option Addr) : Prop := p = none ∨ ∃ b, p = some ⟨b, 0, none⟩ ∧ h[b]? = some (.cells #[.int .i64 0, .slice none 0 0, .slice none 0 0] 131)
theorem NS.kept {h h' : H} {p : Option Addr} (m : NS h p) (k : Kept h h') : NS h' p := by
  rcases m with rfl | ⟨b, rfl, e⟩
  · exact .inl rfl
  · exact .inr ⟨b, rfl, k.blk e⟩
section
variable {h : H} {p : Option Addr}
theorem O69 {k : Int} {Q : Int → Bool → H → Prop} (m : NS h p) (q : Q 0 false h) : F69 p k Q h := by
  rw [F69_eq]
  unfold B69 JoinM
  rcases m with rfl | ⟨b, rfl, e⟩
  · exact q
  · refine Br_dec (fun _ => q) fun h1 => ?_
    refine Ld_i (x := 0) (by simp only [add_mk]; rw [hcell_blk e]; rfl) (Br_dec (fun _ => q) fun h2 => by omega)
theorem O68 {Q : Int → Bool → H → Prop} (m : NS h p) (q : Q 0 false h) : F68 p Q h := by
  rw [F68_eq]; exact O69 m q
theorem O73 {i : Int} {Q : Int → H → Prop} (m : NS h p) (q : Q (-1) h) : F73 p i Q h := by
  rw [F73_eq]
  unfold B73
  rw [F158_eq]
  rcases m with rfl | ⟨b, rfl, e⟩
  · exact q
  · refine Br_dec (fun h0 => ?_) fun _ => q
    refine Ld_i (x := 0) (by simp only [add_mk]; rw [hcell_blk e]; rfl) ?_
    rw [decide_eq_false (show ¬ i < 0 by omega)]
    exact q
theorem O70 {i : Int} {Q : Bool → H → Prop} (m : NS h p) (q : Q false h) : F70 p i Q h := by
  rw [F70_eq]; exact O73 m q
theorem O71 {i : Int} {Q : Bool → H → Prop} (m : NS h p) (q : Q false h) : F71 p i Q h := by
  rw [F71_eq]; exact O73 m q
theorem O182 {Q : Int → H → Prop} (q : Q 0 h) : F182 ⟨none, 0, 0⟩ Q h := by
  rw [F182_eq]
  refine Loop_intro (σ := Int × Int × Unit) (x := (0, 0, ())) (fun k z h' => z = (0, 0, ()) ∧ h = h') 0 ⟨rfl, rfl⟩ ?_
  rintro k z h' ⟨rfl, rfl⟩
  exact Br_dec (fun hh => absurd hh (by simp)) fun _ => q
theorem O111 {s : Int} {Q : Int → H → Prop} (m : NS h p) (q : Q 0 h) : F111 p s Q h := by
  rw [F111_eq]
  unfold B111
  rcases m with rfl | ⟨b, rfl, e⟩
  · exact q
  · have c0 : hcell h ((⟨b, 0, none⟩ : Addr).add 0 |>.add 0) = some (.int .i64 0) := by simp only [add_mk]; rw [hcell_blk e]; rfl
    have c1 : hcell h ((⟨b, 0, none⟩ : Addr).add 1 |>.add 0) = some (.slice none 0 0) := by simp only [add_mk]; rw [hcell_blk e]; rfl
    have c2 : hcell h ((⟨b, 0, none⟩ : Addr).add 2 |>.add 0) = some (.slice none 0 0) := by simp only [add_mk]; rw [hcell_blk e]; rfl
    rw [Option.isNone_some, Br_false]
    refine Br_if (fun _ => Ld_i c0 (Ld_s (x := ⟨none, 0, 0⟩) c1 ⟨(0, ()), O182 ⟨rfl, rfl⟩, q⟩)) fun _ => ?_
    refine Br_if (fun _ => Ld_s (x := ⟨none, 0, 0⟩) c1 ⟨(0, ()), O182 ⟨rfl, rfl⟩, Ld_s (x := ⟨none, 0, 0⟩) c2 ⟨(0, ()), O182 ⟨rfl, rfl⟩, q⟩⟩) fun _ => ?_
    exact Br_if (fun _ => Ld_s (x := ⟨none, 0, 0⟩) c2 (O182 q)) fun _ => q
theorem O72 {Q : Sl → H → Prop} (m : NS h p) (q : ∀ s h', Kept h h' → s.len = 0 → Q s h') : F72 p Q h := by
  rw [F72_eq]
  rcases m with rfl | ⟨b, rfl, e⟩
  · exact q _ h (Kept.refl h) rfl
  · have c1 : hcell h ((⟨b, 0, none⟩ : Addr).add 1 |>.add 0) = some (.slice none 0 0) := by simp only [add_mk]; rw [hcell_blk e]; rfl
    refine Ld_s (x := ⟨none, 0, 0⟩) c1 ⟨⟨by simp, by simp, by simp⟩, Nw_intro fun c h4 hc k4 e4 => ?_⟩
    refine Ld_s (x := ⟨none, 0, 0⟩) (k4.cell c1) ?_
    exact ⟨[], ⟨rfl, fun j v hv => by simp at hv, by simp⟩, fun a ha j hj => absurd hj (by simp), q _ h4 k4 rfl⟩
end

theorem zero131 : zeroC Try.prog 131 = #[.int .i64 0, .slice none 0 0, .slice none 0 0] := by kernel_rfl
theorem L27 {n : Int} {Q : Bool → H → Prop} {h : H} (q : ∀ h', Kept h h' → Q true h') : F27 n Q h := by
  rw [F27_eq]
  refine Nw_intro fun z h2 hz k2 e2 => ?_
  rw [zero131] at e2
  refine Loop_intro (σ := Int × Unit) (x := (0, ())) (fun c y h' => ∃ i : Nat, y.1 = (i : Int) ∧ c = 2 - i ∧ i ≤ 2 ∧ Kept h2 h') 2 ⟨0, rfl, rfl, by omega, Kept.refl h2⟩ ?_
  rintro c ⟨ii, u⟩ h7 ⟨i, hi, hc, hi2, K7⟩
  simp only at hi
  subst hi
  refine Br_dec (fun hlt => ?_) fun _ => C67 fun h9 k9 => q h9 ((k2.trans K7).trans k9)
  have hlt : i < 2 := by simp at hlt; omega
  refine ⟨⟨by simp, by simp; omega⟩, ?_⟩
  simp only
  obtain ⟨P, hP⟩ : ∃ P : Option Addr, P = List.getD [none, some ⟨z, 0, none⟩] (Int.toNat (i : Int)) none := ⟨_, rfl⟩
  rw [← hP]
  have m : NS h7 P := by
    have : i = 0 ∨ i = 1 := by omega
    rcases this with rfl | rfl
    · exact .inl hP
    · exact .inr ⟨z, hP, K7.blk e2⟩
  refine O68 m (O69 m ?_)
  simp only [Br_false]
  refine O70 m ?_
  simp only [Br_false]
  refine O71 m ?_
  simp only [Br_false]
  refine O73 m ?_
  simp only [bne_self_eq_false, Br_false]
  refine O111 m (O111 m (O111 m (O72 m fun s h8 k8 hs => ?_)))
  rw [hs]
  exact ⟨2 - (i + 1), by omega, i + 1, by show IntKind.wrap .i64 ((i : Int) + 1) = _; rw [wrap_i64' _ (by omega) (by omega)]; omega, rfl, by omega, K7.trans k8⟩
end Go.Proofs.Ytfijchofplkcoaa
