/-
  Counts of places: the set bits of words, and the states of places.
-/
import Derived.Test.YtfijchofplkcoaaHf
import Derived.Test.YtfijchofplkcoaaDb
set_option linter.unusedVariables false
set_option linter.unusedSimpArgs false
set_option maxRecDepth 100000
namespace Go.Proofs.Ytfijchofplkcoaa

theorem Join_intro {σ : Type} {A : (σ → H → Prop) → Prop} {B : σ → H → Prop} (J : σ → H → Prop) (hA : ∀ J' : σ → H → Prop, (∀ x h, J x h → J' x h) → A J') (hB : ∀ x h, J x h → B x h) : JoinM A B :=
  hA B hB

theorem pc_succ (k : Nat) : ∀ x, pc (k + 1) x = pc k x + (x.testBit k).toNat := by
  induction k with
  | zero =>
    intro x
    simp only [pc, Nat.testBit_zero]
    by_cases h : x % 2 = 1
    · rw [decide_eq_true h, h]; rfl
    · rw [decide_eq_false h, show x % 2 = 0 by omega]; rfl
  | succ k ih =>
    intro x
    have h1 : pc (k + 1 + 1) x = x % 2 + pc (k + 1) (x / 2) := rfl
    have h2 : pc (k + 1) x = x % 2 + pc k (x / 2) := rfl
    rw [h1, ih, h2, Nat.testBit_succ]; omega
/-- How many of the first places have their bit set. -/
def cb (l : List Nat) : Nat → Nat
  | 0 => 0
  | k + 1 => cb l k + (bit l k).toNat
theorem cb_word (l : List Nat) (i : Nat) : ∀ k, k ≤ 64 → cb l (64 * i + k) = cb l (64 * i) + pc k (l.getD i 0) := by
  intro k
  induction k with
  | zero => intro _; simp [pc]
  | succ k ih =>
    intro hk
    have := ih (by omega)
    rw [show 64 * i + (k + 1) = (64 * i + k) + 1 by omega]
    simp only [cb]
    rw [this, pc_succ]
    have : bit l (64 * i + k) = (l.getD i 0).testBit k := by
      unfold bit
      rw [show (64 * i + k) / 64 = i by omega, show (64 * i + k) % 64 = k by omega]
    rw [this]; omega
theorem cb_le (l : List Nat) (k : Nat) : cb l k ≤ k := by
  induction k with
  | zero => simp [cb]
  | succ k ih => simp only [cb]; have := Bool.toNat_le (bit l k); omega
theorem cb_more (l : List Nat) (n : Nat) (h : ∀ x, bit l x = true → x < n) : ∀ m, n ≤ m → cb l m = cb l n := by
  intro m
  induction m with
  | zero => intro hm; rw [show n = 0 by omega]
  | succ m ih =>
    intro hm
    by_cases e : n = m + 1
    · rw [e]
    · simp only [cb]
      rw [ih (by omega)]
      cases hb : bit l m
      · rfl
      · have := h m hb; omega
theorem C182 {b nw : Nat} {l : List Nat} {Q : Int → H → Prop} {h : H} (e : WB h b l) (hl : l.length = nw) (hn : nw ≤ 1000) (q : Q ((cb l (64 * nw) : Nat) : Int) h) : F182 ⟨some ⟨b, 0, none⟩, nw, nw⟩ Q h := by
  rw [F182_eq]
  unfold B182
  refine Loop_intro (σ := Int × Int × Unit) (x := (0, 0, ())) (fun k z h' => ∃ i : Nat, z.2.1 = (i : Int) ∧ k = nw - i ∧ i ≤ nw ∧ z.1 = ((cb l (64 * i) : Nat) : Int) ∧ h = h') nw ⟨0, rfl, rfl, by omega, rfl, rfl⟩ ?_
  rintro k ⟨acc, ii, u⟩ h' ⟨i, hi, hk, hin, ha, rfl⟩
  simp only at hi ha
  subst hi ha
  refine Br_dec (fun hlt => ?_) fun hge => ?_
  · have hlt : i < nw := by simp at hlt; omega
    refine ⟨⟨by simp, by simp; omega⟩, ?_⟩
    simp only [add_mk, Int.toNat_natCast, Nat.mul_one, Nat.add_zero, Nat.zero_add]
    refine Ld_i (e.cell (i := i) (by omega)) ?_
    simp only [LetI]
    refine C203 (e.lt _) ?_
    have h1 := cb_word l i 64 (by omega)
    have h2 := cb_le l (64 * i + 64)
    refine ⟨nw - (i + 1), by omega, i + 1, by show IntKind.wrap .i64 ((i : Int) + 1) = _; rw [wrap_i64' _ (by omega) (by omega)]; omega, rfl, by omega, ?_, by trivial⟩
    show IntKind.wrap .i64 (((cb l (64 * i) : Nat) : Int) + ((pc 64 (l.getD i 0) : Nat) : Int)) = _
    rw [wrap_i64' _ (by omega) (by omega), show 64 * (i + 1) = 64 * i + 64 by omega, h1]; omega
  · have : i = nw := by simp at hge; omega
    subst this
    exact q

/-- A place's state. -/
def stt (tw bw : List Nat) (j : Nat) : Int := cond (bit bw j) 2 (cond (bit tw j) 1 0)
/-- How many of the first places have a state. -/
def cst (f : Nat → Int) (c : Int) : Nat → Int
  | 0 => 0
  | k + 1 => cst f c k + if f k = c then 1 else 0
theorem cst_le (f : Nat → Int) (c : Int) (k : Nat) : 0 ≤ cst f c k ∧ cst f c k ≤ k := by
  induction k with
  | zero => simp [cst]
  | succ k ih => simp only [cst]; split <;> omega
theorem cst_cb {tw bw : List Nat} (h : ∀ x, bit bw x = true → bit tw x = true) : ∀ k : Nat,
    cst (stt tw bw) 0 k = (k : Int) - cb tw k ∧ cst (stt tw bw) 1 k = (cb tw k : Int) - cb bw k ∧ cst (stt tw bw) 2 k = (cb bw k : Int) := by
  intro k
  induction k with
  | zero => simp [cst, cb]
  | succ k ih =>
    obtain ⟨h0, h1, h2⟩ := ih
    have hk := h k
    have hs : stt tw bw k = cond (bit bw k) 2 (cond (bit tw k) 1 0) := rfl
    simp only [cst, cb, hs]
    generalize bit bw k = x at *
    generalize bit tw k = y at *
    cases x <;> cases y <;> simp at hk ⊢ <;> omega
theorem cst_none {f : Nat → Int} {c : Int} (h : ∀ k, f k ≠ c) : ∀ k, cst f c k = 0 := by
  intro k
  induction k with
  | zero => rfl
  | succ k ih => simp only [cst]; rw [ih, if_neg (h k)]; rfl
theorem cst_all {tw bw : List Nat} : ∀ k : Nat, cst (stt tw bw) 0 k + cst (stt tw bw) 1 k + cst (stt tw bw) 2 k = k := by
  intro k
  induction k with
  | zero => rfl
  | succ k ih =>
    simp only [cst]
    unfold stt at ih ⊢
    cases hb : bit bw k <;> cases ht : bit tw k <;> simp <;> omega
theorem C111 {h : H} {bs bt bb n : Nat} {tw bw : List Nat} {c : Int} {Q : Int → H → Prop} (m : SlM h bs bt bb n tw bw) (g : Good2 n tw bw) (q : Q (cst (stt tw bw) c n) h) : F111 (some ⟨bs, 0, none⟩) c Q h := by
  have hn := m.le
  rw [F111_eq]
  unfold B111
  have ct := cb_more tw n g.1 (64 * ((n + 63) / 64)) (by omega)
  have cbb := cb_more bw n (fun x hx => g.1 x (g.2 x hx)) (64 * ((n + 63) / 64)) (by omega)
  obtain ⟨s0, s1, s2⟩ := cst_cb g.2 n
  have t1 := cb_le tw n
  have t2 := cb_le bw n
  simp only [Option.isNone_some, Br_false, NilP, add_mk, Nat.add_zero, Nat.zero_add]
  refine Br_beq_int (fun e => ?_) fun n0 => Br_beq_int (fun e => ?_) fun n1 => Br_beq_int (fun e => ?_) fun n2 => ?_
  · subst e
    refine Ld_i m.c0 (Ld_s (x := ⟨some ⟨bt, 0, none⟩, (n + 63) / 64, (n + 63) / 64⟩) m.c1 ⟨(((cb tw (64 * ((n + 63) / 64)) : Nat) : Int), ()), C182 m.tak m.lt (by omega) ⟨rfl, rfl⟩, ?_⟩)
    simp only [LetI]
    rw [ct, wrap_i64' _ (by omega) (by omega), ← s0]; exact q
  · subst e
    refine Ld_s (x := ⟨some ⟨bt, 0, none⟩, (n + 63) / 64, (n + 63) / 64⟩) m.c1 ⟨(((cb tw (64 * ((n + 63) / 64)) : Nat) : Int), ()), C182 m.tak m.lt (by omega) ⟨rfl, rfl⟩, ?_⟩
    refine Ld_s (x := ⟨some ⟨bb, 0, none⟩, (n + 63) / 64, (n + 63) / 64⟩) m.c2 ⟨(((cb bw (64 * ((n + 63) / 64)) : Nat) : Int), ()), C182 m.bad m.lb (by omega) ⟨rfl, rfl⟩, ?_⟩
    simp only [LetI]
    rw [ct, cbb, wrap_i64' _ (by omega) (by omega), ← s1]; exact q
  · subst e
    refine Ld_s (x := ⟨some ⟨bb, 0, none⟩, (n + 63) / 64, (n + 63) / 64⟩) m.c2 (C182 m.bad m.lb (by omega) ?_)
    simp only [LetI]
    rw [cbb, ← s2]; exact q
  · rw [cst_none] at q
    · exact q
    · intro k hk
      unfold stt at hk
      cases hb : bit bw k <;> cases ht : bit tw k <;> rw [hb, ht] at hk <;> simp at hk <;> omega

/-- What TakeRun answers. -/
def RunS (n : Nat) (tw tw' : List Nat) (k r : Int) (ok : Bool) : Prop :=
  (ok = true ∧ ∃ i kk : Nat, r = (i : Int) ∧ k = (kk : Int) ∧ 1 ≤ kk ∧ i + kk ≤ n ∧ free tw kk i ∧ (∀ i', i' < i → ¬ free tw kk i') ∧ ∀ x, bit tw' x = (bit tw x || decide (i ≤ x ∧ x < i + kk))) ∨
  (ok = false ∧ r = 0 ∧ tw' = tw ∧ ∀ kk : Nat, k = (kk : Int) → 1 ≤ kk → ∀ i, i + kk ≤ n → ¬ free tw kk i)
section
variable {h : H} {bs bt bb n : Nat} {tw bw : List Nat}
theorem V69 {k : Int} {Q : Int → Bool → H → Prop} (m : SlM h bs bt bb n tw bw) (q : ∀ r ok tw' h', RunS n tw tw' k r ok → KB h bt h' → SlM h' bs bt bb n tw' bw → Q r ok h') : F69 (some ⟨bs, 0, none⟩) k Q h :=
  C69 m (fun i kk h' tw' hk h1 hi hf hl u m' hb => q _ _ tw' h' (.inl ⟨rfl, i, kk, rfl, hk, h1, hi, hf, hl, hb⟩) u.kb m') fun hh => q _ _ tw h (.inr ⟨rfl, rfl, rfl, hh⟩) (Kept.refl h).kb m
end
theorem RunS.good {n : Nat} {tw tw' bw : List Nat} {k r : Int} {ok : Bool} (s : RunS n tw tw' k r ok) (g : Good2 n tw bw) : Good2 n tw' bw := by
  rcases s with ⟨_, i, kk, _, _, _, hi, _, _, hb⟩ | ⟨_, _, rfl, _⟩
  · refine ⟨fun x hx => ?_, fun x hx => by rw [hb, g.2 x hx, Bool.true_or]⟩
    rw [hb] at hx
    simp only [Bool.or_eq_true, decide_eq_true_eq] at hx
    rcases hx with hx | hx
    · exact g.1 x hx
    · omega
  · exact g
end Go.Proofs.Ytfijchofplkcoaa
