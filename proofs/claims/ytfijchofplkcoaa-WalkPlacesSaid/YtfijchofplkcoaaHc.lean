/-
  Give, Words and Same of places; the document's examples live; the law SlotsNone over the heap predicates.
-/
import Derived.Test.YtfijchofplkcoaaHb
set_option linter.unusedVariables false
set_option linter.unusedSimpArgs false
set_option maxRecDepth 100000
namespace Go.Proofs.Ytfijchofplkcoaa

def spl (xs : List Value) (o : Nat) (ys : List Value) : List Value := xs.take o ++ ys ++ xs.drop (o + ys.length)
theorem spl_cons {xs ys : List Value} {o : Nat} {y : Value} (h : o < xs.length) : spl (xs.set o y) (o + 1) ys = spl xs o (y :: ys) := by
  unfold spl
  have e1 : (xs.set o y).take (o + 1) = xs.take o ++ [y] := by
    rw [List.take_set, List.take_add_one, List.getElem?_eq_getElem h]
    simp only [Option.toList]
    rw [List.set_append_right _ _ (by simp; omega)]
    simp [Nat.min_eq_left (Nat.le_of_lt h)]
  have e2 : (xs.set o y).drop (o + 1 + ys.length) = xs.drop (o + (y :: ys).length) := by
    rw [List.drop_set_of_lt (by omega)]; congr 1; simp; omega
  rw [e1, e2]; simp
theorem hsetL_blk {b t o : Nat} : ∀ (ys : List Value) (xs : List Value) (h : H) (i : Nat), h[b]? = some (.cells xs.toArray t) → o + i + ys.length ≤ xs.length →
    Upd h b (hsetL h ⟨b, o, none⟩ i ys) ∧ (hsetL h ⟨b, o, none⟩ i ys)[b]? = some (.cells (spl xs (o + i) ys).toArray t) := by
  intro ys
  induction ys with
  | nil => intro xs h i e hl; exact ⟨⟨rfl, fun _ _ => rfl⟩, by simpa [spl, hsetL] using e⟩
  | cons y ys ih =>
    intro xs h i e hl
    simp only [List.length_cons] at hl
    have hs1 := hset_blk (o := o + i) y e
    have e' : (hset h ⟨b, o + i, none⟩ y)[b]? = some (.cells (xs.set (o + i) y).toArray t) := by
      rw [hs1]; congr 2; simp
    obtain ⟨u, e2⟩ := ih (xs.set (o + i) y) (hset h ⟨b, o + i, none⟩ y) (i + 1) e' (by simp; omega)
    simp only [hsetL, add_mk]
    refine ⟨⟨u.1.trans (hset_upd h b (o + i) y).1, fun j hj => (u.2 j hj).trans ((hset_upd h b (o + i) y).2 j hj)⟩, ?_⟩
    rw [← spl_cons (by omega)]
    exact e2

theorem clr (x m : Nat) (hx : x < 2 ^ 64) (hm : m < 64) : ∃ y : Nat, bAndNot .u64 (x : Int) ((2 ^ m : Nat) : Int) = (y : Int) ∧ y < 2 ^ 64 ∧ ∀ i, i < 64 → y.testBit i = (x.testBit i && !decide (i = m)) := by
  have hp : (2 : Nat) ^ m < 2 ^ 64 := Nat.pow_lt_pow_right (by omega) hm
  refine ⟨(BitVec.ofInt 64 (x : Int) &&& ~~~ BitVec.ofInt 64 ((2 ^ m : Nat) : Int)).toNat, ?_, BitVec.isLt _, ?_⟩
  · show IntKind.wrap .u64 ((BitVec.ofInt 64 (x : Int) &&& ~~~ BitVec.ofInt 64 ((2 ^ m : Nat) : Int)).toNat : Int) = _
    have := BitVec.isLt (BitVec.ofInt 64 (x : Int) &&& ~~~ BitVec.ofInt 64 ((2 ^ m : Nat) : Int))
    rw [wrap_u64]
    omega
  · intro i hi
    have e1 : (BitVec.ofInt 64 ((2 ^ m : Nat) : Int)) = BitVec.ofNat 64 (2 ^ m) := by rw [BitVec.ofInt_natCast]
    have e0 : (BitVec.ofInt 64 (x : Int)) = BitVec.ofNat 64 x := by rw [BitVec.ofInt_natCast]
    rw [e1, e0]
    rw [BitVec.testBit_toNat, BitVec.getLsbD_and, BitVec.getLsbD_not, BitVec.getLsbD_ofNat, BitVec.getLsbD_ofNat, Nat.testBit_two_pow, decide_eq_true hi]
    simp only [Bool.true_and]
    congr 2
    by_cases e : m = i
    · rw [decide_eq_true e, decide_eq_true e.symm]
    · rw [decide_eq_false e, decide_eq_false (fun h => e h.symm)]

section
variable {h : H} {bs bt bb n : Nat} {tw bw : List Nat}
theorem C70 {i : Int} {Q : Bool → H → Prop} (m : SlM h bs bt bb n tw bw)
    (q : ∀ (j : Nat) h' tw', i = (j : Int) → j < n → bit bw j = false → bit tw j = true → Upd h bt h' → SlM h' bs bt bb n tw' bw → (∀ x, bit tw' x = (bit tw x && !decide (x = j))) → Q true h')
    (q0 : (∀ j : Nat, i = (j : Int) → j < n → bit bw j = true ∨ bit tw j = false) → Q false h) : F70 (some ⟨bs, 0, none⟩) i Q h := by
  have hn := m.le
  rw [F70_eq]
  refine C73 m (fun j hj hjn => ?_) fun hh => q0 fun j hj hjn => by omega
  cases hb : bit bw j
  · cases ht : bit tw j
    · exact q0 fun j' hj' _ => .inr ((show j = j' by omega) ▸ ht)
    · simp only [cond_false, cond_true, bne_self_eq_false, Br_false, NilP, add_mk, Nat.add_zero, Nat.zero_add]
      subst hj
      have e1 : IntKind.wrap .i64 (Int.tdiv (j : Int) 64) = ((j / 64 : Nat) : Int) := by
        rw [Int.tdiv_eq_ediv_of_nonneg (by omega), wrap_i64'] <;> omega
      have e2 : Int.tmod (j : Int) 64 = ((j % 64 : Nat) : Int) := by rw [Int.tmod_eq_emod_of_nonneg (by omega)]; omega
      refine Ld_s (x := ⟨some ⟨bt, 0, none⟩, (n + 63) / 64, (n + 63) / 64⟩) m.c1 ⟨by omega, ?_⟩
      rw [e1, e2]
      refine ⟨⟨by omega, by simp; omega⟩, ?_⟩
      simp only [add_mk, Int.toNat_natCast, Nat.mul_one, Nat.add_zero, Nat.zero_add]
      have hlt := m.lt
      refine Ld_i (m.tak.cell (i := j / 64) (by omega)) ⟨by omega, by omega, ⟨by omega, by simp; omega⟩, ?_⟩
      have hm : j % 64 < 64 := Nat.mod_lt _ (by omega)
      simp only [add_mk, Nat.zero_add, Nat.add_zero]
      rw [shl1 _ hm]
      obtain ⟨y, hy, hy64, hyb⟩ := clr (tw.getD (j / 64) 0) (j % 64) (m.tak.lt _) hm
      rw [hy]
      refine St_W m.tak (by omega) hy64 fun h' u e' => ?_
      refine q j h' _ rfl hjn hb ht u (m.setT u e' (by simpa using m.lt)) fun x => ?_
      rw [bit_set _ _ _ _ (by omega)]
      split
      · rename_i hh
        rw [hyb _ (Nat.mod_lt _ (by omega))]
        have : bit tw x = (tw.getD (j / 64) 0).testBit (x % 64) := by unfold bit; rw [hh]
        rw [this]
        congr 2
        by_cases hij : x = j
        · subst hij; simp
        · rw [decide_eq_false hij, decide_eq_false (by omega)]
      · rename_i hh
        have : x ≠ j := by intro e; exact hh (by rw [e])
        rw [decide_eq_false this, Bool.not_false, Bool.and_true]
  · exact q0 fun j' hj' _ => .inl ((show j = j' by omega) ▸ hb)

theorem C72 {Q : Sl → H → Prop} (m : SlM h bs bt bb n tw bw) (q : ∀ c h', Kept h h' → h.size ≤ c → WB h' c tw → Q ⟨some ⟨c, 0, none⟩, (n + 63) / 64, (n + 63) / 64⟩ h') : F72 (some ⟨bs, 0, none⟩) Q h := by
  have hn := m.le
  rw [F72_eq]
  unfold B72
  simp only [Option.isNone_some, Br_false, NilP, add_mk, Nat.add_zero, Nat.zero_add]
  refine Ld_s (x := ⟨some ⟨bt, 0, none⟩, (n + 63) / 64, (n + 63) / 64⟩) m.c1 ⟨⟨by omega, by omega, by simp; omega⟩, Nw_intro fun c h4 hc k4 e4 => ?_⟩
  rw [show ((((n + 63) / 64 : Nat) : Int).toNat) = (n + 63) / 64 from rfl, zeros23] at e4
  have m4 := m.kept k4
  refine Ld_s (x := ⟨some ⟨bt, 0, none⟩, (n + 63) / 64, (n + 63) / 64⟩) m4.c1 ?_
  have hl := m.lt
  refine ⟨tw.map fun w : Nat => Value.int .u64 (w : Int), ⟨by simp [hl]; omega, ?_, ?_⟩, ?_, ?_⟩
  · intro j v hv
    refine ⟨_, rfl, ?_⟩
    simp only [add_mk, Nat.zero_add]
    rw [hcell_blk m4.tak.1]
    simpa [W64] using hv
  · intro v hv
    simp only [List.mem_map] at hv
    obtain ⟨w, _, rfl⟩ := hv
    rfl
  · rintro a ha j hj
    simp only [Option.some.injEq] at ha
    subst ha
    simp only [List.length_map, hl] at hj
    rw [add_mk]
    refine ⟨⟨.int .u64 0, ?_⟩, ?_⟩
    · have hj' : j < (n + 63) / 64 := hj
      rw [hcell_blk e4]; simp [W64, List.getElem?_replicate, hj']
    · simp [hfroz, e4]
  · simp only
    obtain ⟨u, e5⟩ := hsetL_blk (o := 0) (tw.map fun w : Nat => Value.int .u64 (w : Int)) ((List.replicate ((n + 63) / 64) 0).map fun w : Nat => Value.int .u64 (w : Int)) h4 0 e4 (by simp [hl])
    refine q c _ ⟨by rw [u.1]; exact k4.1, fun i hi => ?_⟩ (by omega) ⟨?_, m.tak.2⟩
    · rw [u.2 i (by omega)]; exact k4.2 i hi
    · rw [e5]
      congr 2
      simp [spl, hl]
end

theorem C113 {c d n cc dc : Nat} {l : List Nat} {Q : Bool → H → Prop} {h : H} (a : WB h c l) (b : WB h d l) (hl : l.length = n) (hn : n < 1000) (q : Q true h) : F113 ⟨some ⟨c, 0, none⟩, n, cc⟩ ⟨some ⟨d, 0, none⟩, n, dc⟩ Q h := by
  rw [F113_eq]
  unfold B113
  simp only [bne_self_eq_false, Br_false]
  refine Loop_intro (σ := Int × Unit) (x := (0, ())) (fun k z h' => ∃ i : Nat, z.1 = (i : Int) ∧ k = n - i ∧ i ≤ n ∧ h = h') n ⟨0, rfl, rfl, by omega, rfl⟩ ?_
  rintro k ⟨ii, u⟩ h' ⟨i, hi, hk, hin, rfl⟩
  simp only at hi
  subst hi
  refine Br_dec (fun hlt => ?_) fun _ => q
  have hlt : i < n := by simp at hlt; omega
  refine ⟨⟨by simp, by simp; omega⟩, ?_⟩
  simp only [add_mk, Int.toNat_natCast, Nat.mul_one, Nat.add_zero, Nat.zero_add]
  refine Ld_i (a.cell (i := i) (by omega)) ⟨⟨by simp, by simp; omega⟩, ?_⟩
  simp only [add_mk, Int.toNat_natCast, Nat.mul_one, Nat.add_zero, Nat.zero_add]
  refine Ld_i (b.cell (i := i) (by omega)) (Br_bne_int (fun hh => absurd rfl hh) fun _ => ?_)
  exact ⟨n - (i + 1), by omega, i + 1, by rw [wrap_i64' _ (by omega) (by omega)]; omega, rfl, by omega, by trivial⟩
end Go.Proofs.Ytfijchofplkcoaa
