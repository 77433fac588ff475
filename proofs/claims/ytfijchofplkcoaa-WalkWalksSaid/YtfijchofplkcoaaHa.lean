/-
  What the functions of places answer (package slots): places are bits of words.
-/
import Derived.Test.YtfijchofplkcoaaCb
import Derived.Test.YtfijchofplkcoaaGg
set_option linter.unusedVariables false
set_option linter.unusedSimpArgs false
set_option maxRecDepth 100000
namespace Go.Proofs.Ytfijchofplkcoaa

abbrev W64 (l : List Nat) : Array Value := (l.map fun w : Nat => Value.int .u64 (w : Int)).toArray
def bit (l : List Nat) (j : Nat) : Bool := (l.getD (j / 64) 0).testBit (j % 64)
def WB (h : H) (b : Nat) (l : List Nat) : Prop := h[b]? = some (.cells (W64 l) 23) ∧ ∀ w ∈ l, w < 2 ^ 64
theorem WB.cell {h : H} {b i : Nat} {l : List Nat} (e : WB h b l) (hi : i < l.length) : hcell h ⟨b, i, none⟩ = some (.int .u64 ((l.getD i 0 : Nat) : Int)) := by
  rw [hcell_blk e.1]; simp [hi, List.getElem?_eq_getElem]
theorem WB.lt {h : H} {b : Nat} {l : List Nat} (e : WB h b l) (i : Nat) : l.getD i 0 < 2 ^ 64 := by
  rw [List.getD_eq_getElem?_getD]
  cases hi : l[i]? with
  | none => simp
  | some w => exact e.2 w (List.mem_of_getElem? hi)
theorem St_W {h : H} {b o : Nat} {l : List Nat} {w : Nat} {K : H → Prop} (e : WB h b l) (ho : o < l.length) (hw : w < 2 ^ 64)
    (k : ∀ h', Upd h b h' → WB h' b (l.set o w) → K h') : St h ⟨b, o, none⟩ (.int .u64 (w : Int)) K := by
  refine St_intro e.1 (by simpa using ho) fun h' u e' => k h' u ⟨?_, ?_⟩
  · rw [e']; congr 2; simp [W64, List.map_set]
  · intro x hx
    rcases List.mem_or_eq_of_mem_set hx with hx | rfl
    · exact e.2 x hx
    · exact hw
theorem bit_set (l : List Nat) (j i : Nat) (w : Nat) (hj : j / 64 < l.length) : bit (l.set (j / 64) w) i = if i / 64 = j / 64 then w.testBit (i % 64) else bit l i := by
  unfold bit
  rw [List.getD_eq_getElem?_getD, List.getD_eq_getElem?_getD, List.getElem?_set]
  split
  · rename_i hh
    rw [if_pos hh.symm]; first | rfl | (rw [if_pos (by omega)]; rfl)
  · rename_i hh
    rw [if_neg (by omega)]

theorem shl1 (m : Nat) (hm : m < 64) : shL .u64 1 (m : Int) = ((2 ^ m : Nat) : Int) := by
  have : (2 : Nat) ^ m ≤ 2 ^ 63 := Nat.pow_le_pow_right (by omega) (by omega)
  rw [shL_nat _ _ (by simp [IntKind.bits]; omega), wrap_u64]
  generalize (2 : Nat) ^ m = p at *
  omega
theorem hasbit (x m : Nat) (hx : x < 2 ^ 64) (hm : m < 64) : decide ((bAnd .u64 (shR .u64 (x : Int) (m : Int)) 1) > 0) = x.testBit m := by
  rw [shR_nat _ _ (by simp [IntKind.bits]; omega)]
  have e1 : ((x : Int) / ((2 ^ m : Nat) : Int)) = ((x / 2 ^ m : Nat) : Int) := by simp
  have hb : x / 2 ^ m < 2 ^ 64 := Nat.lt_of_le_of_lt (Nat.div_le_self _ _) hx
  have e2 : bAnd .u64 ((x / 2 ^ m : Nat) : Int) 1 = ((x / 2 ^ m % 2 : Nat) : Int) := by
    have := bAnd_u64 (x / 2 ^ m) 1 hb (by omega)
    rw [Nat.and_one_is_mod] at this
    exact this
  rw [e1, e2, Nat.testBit_eq_decide_div_mod_eq]
  have : x / 2 ^ m % 2 < 2 := Nat.mod_lt _ (by omega)
  by_cases hh : x / 2 ^ m % 2 = 1
  · rw [decide_eq_true hh, hh]; decide
  · rw [decide_eq_false hh, show x / 2 ^ m % 2 = 0 by omega]; decide

section
variable {h : H} {b nw : Nat} {l : List Nat}
theorem C156 {j : Nat} {Q : Bool → H → Prop} (e : WB h b l) (hl : l.length = nw) (hj : j / 64 < nw) (hb : j < 2 ^ 62) (q : Q (bit l j) h) : F156 ⟨some ⟨b, 0, none⟩, nw, nw⟩ j Q h := by
  rw [F156_eq]
  have e1 : IntKind.wrap .i64 (Int.tdiv (j : Int) 64) = ((j / 64 : Nat) : Int) := by
    rw [Int.tdiv_eq_ediv_of_nonneg (by omega), wrap_i64'] <;> omega
  have e2 : Int.tmod (j : Int) 64 = ((j % 64 : Nat) : Int) := by rw [Int.tmod_eq_emod_of_nonneg (by omega)]; omega
  refine ⟨by omega, ?_⟩
  rw [e1, e2]
  refine ⟨⟨by omega, by simp; omega⟩, ?_⟩
  simp only [add_mk, Int.toNat_natCast, Nat.mul_one, Nat.add_zero, Nat.zero_add]
  refine Ld_i (e.cell (i := j / 64) (by omega)) ⟨by omega, by omega, ?_⟩
  rw [hasbit _ _ (e.lt _) (Nat.mod_lt _ (by omega))]
  exact q
theorem C157 {j : Nat} {Q : H → Prop} (e : WB h b l) (hl : l.length = nw) (hj : j / 64 < nw) (hb : j < 2 ^ 62)
    (q : ∀ h' l', Upd h b h' → WB h' b l' → l'.length = nw → (∀ i, bit l' i = (bit l i || decide (i = j))) → Q h') : F157 ⟨some ⟨b, 0, none⟩, nw, nw⟩ j Q h := by
  rw [F157_eq]
  have e1 : IntKind.wrap .i64 (Int.tdiv (j : Int) 64) = ((j / 64 : Nat) : Int) := by
    rw [Int.tdiv_eq_ediv_of_nonneg (by omega), wrap_i64'] <;> omega
  have e2 : Int.tmod (j : Int) 64 = ((j % 64 : Nat) : Int) := by rw [Int.tmod_eq_emod_of_nonneg (by omega)]; omega
  refine ⟨by omega, ?_⟩
  rw [e1, e2]
  refine ⟨⟨by omega, by simp; omega⟩, ?_⟩
  simp only [add_mk, Int.toNat_natCast, Nat.mul_one, Nat.add_zero, Nat.zero_add]
  refine Ld_i (e.cell (i := j / 64) (by omega)) ⟨by omega, by omega, ⟨by omega, by simp; omega⟩, ?_⟩
  have hm : j % 64 < 64 := Nat.mod_lt _ (by omega)
  have hp : (2 : Nat) ^ (j % 64) < 2 ^ 64 := Nat.pow_lt_pow_right (by omega) hm
  simp only [add_mk, Nat.zero_add, Nat.add_zero]
  rw [shl1 _ hm, bOr_u64 _ _ (e.lt _) hp]
  refine St_W e (by omega) (Nat.or_lt_two_pow (e.lt _) hp) fun h' u e' => q h' _ u e' (by simpa using hl) fun i => ?_
  rw [bit_set _ _ _ _ (by omega)]
  split
  · rename_i hh
    rw [Nat.testBit_or, Nat.testBit_two_pow]
    have : bit l i = (l.getD (j / 64) 0).testBit (i % 64) := by unfold bit; rw [hh]
    rw [this]
    congr 1
    by_cases hij : i = j
    · subst hij; simp
    · rw [decide_eq_false hij, decide_eq_false (by omega)]
  · rename_i hh
    have : i ≠ j := by intro e; exact hh (by rw [e])
    rw [decide_eq_false this, Bool.or_false]
end

structure SlM (h : H) (bs bt bb n : Nat) (tw bw : List Nat) : Prop where
  top : h[bs]? = some (.cells #[.int .i64 (n : Int), .slice (some ⟨bt, 0, none⟩) ((n + 63) / 64) ((n + 63) / 64), .slice (some ⟨bb, 0, none⟩) ((n + 63) / 64) ((n + 63) / 64)] 131)
  tak : WB h bt tw
  bad : WB h bb bw
  lt : tw.length = (n + 63) / 64
  lb : bw.length = (n + 63) / 64
  n1 : bs ≠ bt
  n2 : bs ≠ bb
  n3 : bt ≠ bb
  le : n ≤ 256
theorem SlM.kept {h h' : H} {bs bt bb n : Nat} {tw bw : List Nat} (m : SlM h bs bt bb n tw bw) (k : Kept h h') : SlM h' bs bt bb n tw bw :=
  ⟨k.blk m.top, ⟨k.blk m.tak.1, m.tak.2⟩, ⟨k.blk m.bad.1, m.bad.2⟩, m.lt, m.lb, m.n1, m.n2, m.n3, m.le⟩
theorem SlM.setT {h h' : H} {bs bt bb n : Nat} {tw tw' bw : List Nat} (m : SlM h bs bt bb n tw bw) (u : Upd h bt h') (e : WB h' bt tw') (hl : tw'.length = (n + 63) / 64) : SlM h' bs bt bb n tw' bw :=
  ⟨u.blk m.top m.n1, e, ⟨u.blk m.bad.1 (Ne.symm m.n3), m.bad.2⟩, hl, m.lb, m.n1, m.n2, m.n3, m.le⟩

theorem zero23 : zeroC Try.prog 23 = #[.int .u64 0] := by kernel_rfl
theorem zeros23 (n : Nat) : zerosC Try.prog 23 n = W64 (List.replicate n 0) := by
  unfold zerosC
  rw [zero23]
  apply Array.ext
  · simp
  · intro i h1 h2
    simp only [Array.getElem_map, List.size_toArray, List.length_cons, List.length_nil, Nat.zero_add, Nat.mod_one]
    simp
theorem bit_zero (n j : Nat) : bit (List.replicate n 0) j = false := by
  unfold bit
  rw [List.getD_eq_getElem?_getD, List.getElem?_replicate]
  split <;> simp
theorem C66 {n : Nat} {Q : Option Addr → H → Prop} {h : H} (hn : n ≤ 256)
    (q : ∀ bs bt bb h', Kept h h' → h.size ≤ bs → h.size ≤ bt → h.size ≤ bb → SlM h' bs bt bb n (List.replicate ((n + 63) / 64) 0) (List.replicate ((n + 63) / 64) 0) → Q (some ⟨bs, 0, none⟩) h') : F66 n Q h := by
  rw [F66_eq]
  unfold B66 JoinM
  refine Br_dec (fun hh => by omega) fun _ => ?_
  refine Br_dec (fun hh => by omega) fun _ => ⟨by omega, ?_⟩
  have e1 : IntKind.wrap .i64 (Int.tdiv (IntKind.wrap .i64 ((IntKind.wrap .i64 ((n : Int) + 64)) - 1)) 64) = (((n + 63) / 64 : Nat) : Int) := by
    rw [wrap_i64' ((n : Int) + 64) (by omega) (by omega), wrap_i64' ((n : Int) + 64 - 1) (by omega) (by omega), Int.tdiv_eq_ediv_of_nonneg (by omega), wrap_i64'] <;> omega
  simp only [LetI]
  rw [e1]
  have zb : ∀ w ∈ List.replicate ((n + 63) / 64) 0, w < 2 ^ 64 := by intro w hw; rw [List.eq_of_mem_replicate hw]; omega
  have both : ∀ (K : Sl → Sl → Array Value), (∀ a c, K a c = #[.int .i64 (n : Int), .slice a.a a.len a.cap, .slice c.a c.len c.cap]) ∨ (∀ a c, K a c = #[.int .i64 (n : Int), .slice c.a c.len c.cap, .slice a.a a.len a.cap]) →
      Mk Try.prog ⟨none, 23, 1, 8⟩ h (((n + 63) / 64 : Nat) : Int) (((n + 63) / 64 : Nat) : Int) fun s5 h6 => Mk Try.prog ⟨none, 23, 1, 8⟩ h6 (((n + 63) / 64 : Nat) : Int) (((n + 63) / 64 : Nat) : Int) fun s7 h8 =>
        Nw h8 (K s5 s7) 131 fun a9 h10 => Q (some a9) h10 := by
    intro K hK
    refine ⟨⟨by omega, by omega, by simp; omega⟩, Nw_intro fun b1 h1 hb1 k1 e1 => ⟨⟨by omega, by omega, by simp; omega⟩, Nw_intro fun b2 h2 hb2 k2 e2 => Nw_intro fun b3 h3 hb3 k3 e3 => ?_⟩⟩
    rw [show ((((n + 63) / 64 : Nat) : Int).toNat) = (n + 63) / 64 from rfl, zeros23] at e1 e2
    have l1 := (Array.getElem?_eq_some_iff.1 e1).1
    have l2 := (Array.getElem?_eq_some_iff.1 e2).1
    have s1 := k1.1
    have s2 := k2.1
    have E1 := k3.blk (k2.blk e1)
    have E2 := k3.blk e2
    rcases hK with hK | hK
    · rw [hK] at e3
      exact q b3 b1 b2 h3 ((k1.trans k2).trans k3) (by omega) (by omega) (by omega) ⟨e3, ⟨E1, zb⟩, ⟨E2, zb⟩, by simp, by simp, by omega, by omega, by omega, hn⟩
    · rw [hK] at e3
      exact q b3 b2 b1 h3 ((k1.trans k2).trans k3) (by omega) (by omega) (by omega) ⟨e3, ⟨E2, zb⟩, ⟨E1, zb⟩, by simp, by simp, by omega, by omega, by omega, hn⟩
  exact ⟨both (fun a c => #[.int .i64 (n : Int), .slice a.a a.len a.cap, .slice c.a c.len c.cap]) (.inl fun _ _ => rfl), both (fun a c => #[.int .i64 (n : Int), .slice c.a c.len c.cap, .slice a.a a.len a.cap]) (.inr fun _ _ => rfl)⟩
end Go.Proofs.Ytfijchofplkcoaa
