/-
  Wire, Loan and Own of a pool of frames; the law FramesHolds over the heap predicates.
-/
import Derived.Test.YtfijchofplkcoaaIc
set_option linter.unusedVariables false
set_option linter.unusedSimpArgs false
set_option maxRecDepth 100000
namespace Go.Proofs.Ytfijchofplkcoaa

theorem C178 {h : H} {b t o : Nat} {xs : List Int} {x : Int} {Q : Int → H → Prop} (e : IL h b t xs) (ho : o < xs.length) (hw : 0 ≤ xs.getD o 0 ∧ xs.getD o 0 ≤ 1000000)
    (hx : -1000000000 ≤ x ∧ x ≤ 1000000000) (q : ∀ h', -(xs.getD o 0) ≤ x → x ≤ 1000000 - xs.getD o 0 → Upd h b h' → IL h' b t (xs.set o (xs.getD o 0 + x)) → Q 0 h')
    (q2 : ¬ (-(xs.getD o 0) ≤ x ∧ x ≤ 1000000 - xs.getD o 0) → Q 2 h) : F178 (some ⟨b, o, none⟩) x Q h := by
  rw [F178_eq]
  unfold B178
  simp only [JoinM, NilP, add_mk, Nat.add_zero]
  have c := e.cell ho
  generalize xs.getD o 0 = w at *
  refine Ld_i c ?_
  rw [wrap_i64' (0 - w) (by omega) (by omega)]
  refine Br_dec (fun hh => q2 (by omega)) fun h1 => Ld_i c ?_
  rw [wrap_i64' (1000000 - w) (by omega) (by omega)]
  refine Br_dec (fun hh => q2 (by omega)) fun h2 => Ld_i c ?_
  rw [wrap_i64' (w + x) (by omega) (by omega)]
  exact St_I e ho fun h' u e' => q h' (by omega) (by omega) u e'

section
variable {h : H} {bp bf n : Nat} {res : Int} {xs : List Int}
theorem C102 {j : Nat} {x : Int} {Q : Int → H → Prop} (m : PM h bp bf n res xs) (hj : j < n) (hw : 0 ≤ xs.getD (5 * j + 3) 0 ∧ xs.getD (5 * j + 3) 0 ≤ 1000000)
    (hx : -1000000000 ≤ x ∧ x ≤ 1000000000)
    (q : ∀ h', xs.getD (5 * j) 0 ≠ 0 → -(xs.getD (5 * j + 3) 0) ≤ x → x ≤ 1000000 - xs.getD (5 * j + 3) 0 → KB h bf h' → PM h' bp bf n res (xs.set (5 * j + 3) (xs.getD (5 * j + 3) 0 + x)) → Q 0 h')
    (q2 : ∀ h', (xs.getD (5 * j) 0 = 0 ∨ ¬ (-(xs.getD (5 * j + 3) 0) ≤ x ∧ x ≤ 1000000 - xs.getD (5 * j + 3) 0)) → Kept h h' → Q 2 h') : F102 (some ⟨bp, 0, none⟩) j x Q h := by
  have hn := m.le
  rw [F102_eq]
  refine Nw_intro fun c h1 hc k1 e1 => ?_
  have m1 := m.kept k1
  rw [F162Wire_eq]
  refine C159 m1 ?_
  simp only [Bool.not_true, Br_false, NilP, add_mk, Nat.add_zero]
  refine Br_dec (fun hh => absurd hh (by omega)) fun h0 => ?_
  refine Ld_s (x := ⟨some ⟨bf, 0, none⟩, n, n⟩) m1.c0 (Br_dec (fun hh => absurd hh (by simp; omega)) fun _ => ?_)
  refine Ld_s (x := ⟨some ⟨bf, 0, none⟩, n, n⟩) m1.c0 ⟨⟨by omega, by simp; omega⟩, ?_⟩
  simp only [add_mk, Int.toNat_natCast, Nat.zero_add]
  refine Ld_i (m1.f hj (d := 0) (by omega)) (Br_beq_int (fun e => q2 h1 (.inl e) k1) fun e => ?_)
  refine Ld_s (x := ⟨some ⟨bf, 0, none⟩, n, n⟩) m1.c0 ⟨⟨by omega, by simp; omega⟩, ?_⟩
  simp only [add_mk, Int.toNat_natCast, Nat.zero_add]
  rw [F177_eq]
  unfold B177
  simp only [NilP, add_mk, Nat.zero_add]
  refine Ld_i (x := x) (by rw [hcell_blk e1]; rfl) ?_
  rw [Nat.mul_comm j 5]
  have hl := m1.len
  exact C178 m1.row (by omega) hw hx (fun h' a b u e' => q h' e a b (k1.kb.trans u.kb) (m1.set u e' (by simp))) fun hh => q2 h1 (.inr hh) k1
theorem C103 {j : Nat} {x : Int} {Q : Int → H → Prop} (m : PM h bp bf n res xs) (hj : j < n) (hw : 0 ≤ xs.getD (5 * j + 4) 0 ∧ xs.getD (5 * j + 4) 0 ≤ 1000000)
    (hx : -1000000000 ≤ x ∧ x ≤ 1000000000)
    (q : ∀ h', xs.getD (5 * j) 0 ≠ 0 → -(xs.getD (5 * j + 4) 0) ≤ x → x ≤ 1000000 - xs.getD (5 * j + 4) 0 → KB h bf h' → PM h' bp bf n res (xs.set (5 * j + 4) (xs.getD (5 * j + 4) 0 + x)) → Q 0 h')
    (q2 : ∀ h', (xs.getD (5 * j) 0 = 0 ∨ ¬ (-(xs.getD (5 * j + 4) 0) ≤ x ∧ x ≤ 1000000 - xs.getD (5 * j + 4) 0)) → Kept h h' → Q 2 h') : F103 (some ⟨bp, 0, none⟩) j x Q h := by
  have hn := m.le
  rw [F103_eq]
  refine Nw_intro fun c h1 hc k1 e1 => ?_
  have m1 := m.kept k1
  rw [F162Loan_eq]
  refine C159 m1 ?_
  simp only [Bool.not_true, Br_false, NilP, add_mk, Nat.add_zero]
  refine Br_dec (fun hh => absurd hh (by omega)) fun h0 => ?_
  refine Ld_s (x := ⟨some ⟨bf, 0, none⟩, n, n⟩) m1.c0 (Br_dec (fun hh => absurd hh (by simp; omega)) fun _ => ?_)
  refine Ld_s (x := ⟨some ⟨bf, 0, none⟩, n, n⟩) m1.c0 ⟨⟨by omega, by simp; omega⟩, ?_⟩
  simp only [add_mk, Int.toNat_natCast, Nat.zero_add]
  refine Ld_i (m1.f hj (d := 0) (by omega)) (Br_beq_int (fun e => q2 h1 (.inl e) k1) fun e => ?_)
  refine Ld_s (x := ⟨some ⟨bf, 0, none⟩, n, n⟩) m1.c0 ⟨⟨by omega, by simp; omega⟩, ?_⟩
  simp only [add_mk, Int.toNat_natCast, Nat.zero_add]
  rw [F179_eq]
  unfold B179
  simp only [NilP, add_mk, Nat.zero_add]
  refine Ld_i (x := x) (by rw [hcell_blk e1]; rfl) ?_
  rw [Nat.mul_comm j 5]
  have hl := m1.len
  exact C178 m1.row (by omega) hw hx (fun h' a b u e' => q h' e a b (k1.kb.trans u.kb) (m1.set u e' (by simp))) fun hh => q2 h1 (.inr hh) k1

theorem C104 {j : Nat} {c o x : Int} {Q : Int → H → Prop} (m : PM h bp bf n res xs) (hj : j < n) (hne : xs.getD (5 * j) 0 ≠ 0) (hc : 1 ≤ c ∧ c ≤ 4)
    (q : ∀ h', KB h bf h' → PM h' bp bf n res (((xs.set (5 * j) c).set (5 * j + 1) o).set (5 * j + 2) x) → Q 0 h') : F104 (some ⟨bp, 0, none⟩) j c o x Q h := by
  have hn := m.le
  rw [F104_eq]
  refine Nw_intro fun b1 h1 hb1 k1 e1 => Nw_intro fun b2 h2 hb2 k2 e2 => Nw_intro fun b3 h3 hb3 k3 e3 => ?_
  have k := (k1.trans k2).trans k3
  have m3 := m.kept k
  have hbf : bf < h.size := (Array.getElem?_eq_some_iff.1 (show h[bf]? = some _ from m.row)).1
  have s1 := k1.1
  have s2 := k2.1
  have E1 := k3.blk (k2.blk e1)
  have E2 := k3.blk e2
  rw [F162Own_eq]
  refine C159 m3 ?_
  simp only [Bool.not_true, Br_false, NilP, add_mk, Nat.add_zero]
  refine Br_dec (fun hh => absurd hh (by omega)) fun h0 => ?_
  refine Ld_s (x := ⟨some ⟨bf, 0, none⟩, n, n⟩) m3.c0 (Br_dec (fun hh => absurd hh (by simp; omega)) fun _ => ?_)
  refine Ld_s (x := ⟨some ⟨bf, 0, none⟩, n, n⟩) m3.c0 ⟨⟨by omega, by simp; omega⟩, ?_⟩
  simp only [add_mk, Int.toNat_natCast, Nat.zero_add]
  refine Ld_i (m3.f hj (d := 0) (by omega)) (Br_beq_int (fun e => absurd e hne) fun e => ?_)
  refine Ld_s (x := ⟨some ⟨bf, 0, none⟩, n, n⟩) m3.c0 ⟨⟨by omega, by simp; omega⟩, ?_⟩
  simp only [add_mk, Int.toNat_natCast, Nat.zero_add]
  rw [F180_eq]
  unfold B180
  simp only [NilP, add_mk, Nat.zero_add, Nat.add_zero, JoinM]
  refine Ld_i (x := c) (by rw [hcell_blk E1]; rfl) (Br_dec (fun (hh : c < 1) => absurd hh (by omega)) fun _ => ?_)
  refine Ld_i (x := c) (by rw [hcell_blk E1]; rfl) (Br_dec (fun (hh : c > 4) => absurd hh (by omega)) fun _ => ?_)
  refine Ld_i (x := c) (by rw [hcell_blk E1]; rfl) (Ld_i (x := o) (by rw [hcell_blk E2]; rfl) (Ld_i (x := x) (by rw [hcell_blk e3]; rfl) ?_))
  rw [Nat.mul_comm j 5]
  have hl := m3.len
  refine St_I m3.row (by omega) fun h5 u5 e5 => ⟨by rw [hcell_blk (u5.blk e3 (by omega))]; rfl, by rw [hcell_blk (u5.blk E2 (by omega))]; rfl, St_I e5 (by simp; omega) fun h6 u6 e6 => ⟨by rw [hcell_blk (u6.blk (u5.blk e3 (by omega)) (by omega))]; rfl, St_I e6 (by simp; omega) fun h7 u7 e7 => ?_⟩⟩
  exact q h7 (k.kb.trans ((u5.trans u6).trans u7).kb) (m3.set ((u5.trans u6).trans u7) e7 (by simp))
end

theorem L23 {w0 l0 : Int} {Q : Bool → H → Prop} {h : H} (hw0 : 0 ≤ w0 ∧ w0 < 18446744073709551616) (hl0 : 0 ≤ l0 ∧ l0 < 18446744073709551616) (q : ∀ h', Kept h h' → Q true h') : F23 w0 l0 Q h := by
  rw [F23_eq]
  refine C75 (by omega) (by omega) fun bp bf h1 k1 hbp hbf m1 => ?_
  have m1 : PM h1 bp bf 2 0 [0, 0, 0, 0, 0, 0, 0, 0, 0, 0] := m1
  refine C76 m1 (fun j h2 _ _ hj hz hl u2 m2 => ?_) (fun h2 _ hh _ => ?_) (fun hh => absurd (by omega) hh)
  rotate_left
  · rcases hh with hh | hh
    · exact absurd hh (by decide)
    · exact absurd (hh 0 (by omega)) (by decide)
  obtain rfl : j = 0 := by
    by_cases e : j = 0
    · exact e
    · exact absurd (hl 0 (by omega)) (by decide)
  have K2 := u2.kept k1 hbf
  have m2 : PM h2 bp bf 2 0 [2, 3, 4, 0, 0, 0, 0, 0, 0, 0] := m2
  simp only [LetI, bne_self_eq_false, Br_false]
  refine ⟨by omega, by omega, ?_⟩
  obtain ⟨w, hw⟩ : ∃ w : Int, w = w0 % 1000 := ⟨_, rfl⟩
  obtain ⟨l, hl⟩ : ∃ l : Int, l = l0 % 1000 := ⟨_, rfl⟩
  have ew : IntKind.wrap .i64 (Int.tmod w0 1000) = w := by rw [Int.tmod_eq_emod_of_nonneg hw0.1, wrap_i64'] <;> omega
  have el : IntKind.wrap .i64 (Int.tmod l0 1000) = l := by rw [Int.tmod_eq_emod_of_nonneg hl0.1, wrap_i64'] <;> omega
  rw [ew, el]
  have e1 : IntKind.wrap .i64 (IntKind.wrap .i64 (0 - w) - 1) = -w - 1 := by rw [wrap_i64' (0 - w) (by omega) (by omega), wrap_i64' _ (by omega) (by omega)]; omega
  have e2 : IntKind.wrap .i64 (IntKind.wrap .i64 (0 - l) - 1) = -l - 1 := by rw [wrap_i64' (0 - l) (by omega) (by omega), wrap_i64' _ (by omega) (by omega)]; omega
  have e3 : IntKind.wrap .i64 (0 - w) = -w := by rw [wrap_i64' (0 - w) (by omega) (by omega)]; omega
  have e4 : IntKind.wrap .i64 (0 - l) = -l := by rw [wrap_i64' (0 - l) (by omega) (by omega)]; omega
  have e5 : IntKind.wrap .i64 (w + l) = w + l := by rw [wrap_i64' _ (by omega) (by omega)]
  rw [e1, e2, e3, e4, e5]
  simp only [JoinM]
  refine C102 (j := 0) m2 (by omega) (by decide) (by omega) (fun h3 _ _ _ u3 m3 => ?_) (fun h3 hh _ => ?_)
  rotate_left
  · rcases hh with hh | hh
    · exact absurd hh (by decide)
    · exact absurd ⟨show -(0 : Int) ≤ w by omega, show w ≤ 1000000 - 0 by omega⟩ hh
  have K3 := u3.kept K2 hbf
  have m3 : PM h3 bp bf 2 0 [2, 3, 4, 0 + w, 0, 0, 0, 0, 0, 0] := m3
  rw [Int.zero_add] at m3
  simp only [bne_self_eq_false, Br_false]
  refine C103 (j := 0) m3 (by omega) (show (0 : Int) ≤ 0 ∧ (0 : Int) ≤ 1000000 by omega) (by omega) (fun h4 _ _ _ u4 m4 => ?_) (fun h3 hh _ => ?_)
  rotate_left
  · rcases hh with hh | hh
    · exact absurd hh (show ¬ (2 : Int) = 0 by omega)
    · exact absurd ⟨show -(0 : Int) ≤ l by omega, show l ≤ 1000000 - 0 by omega⟩ hh
  have K4 := u4.kept K3 hbf
  have m4 : PM h4 bp bf 2 0 [2, 3, 4, w, 0 + l, 0, 0, 0, 0, 0] := m4
  rw [Int.zero_add] at m4
  simp only [bne_self_eq_false, Br_false]
  refine C102 (j := 0) m4 (by omega) (show 0 ≤ w ∧ w ≤ 1000000 by omega) (by omega) (fun h5 _ (a : -w ≤ -w - 1) _ _ _ => absurd a (by omega)) (fun h5 _ k5 => ?_)
  simp only [bne_self_eq_false, Br_false]
  have m5 := m4.kept k5
  refine C103 (j := 0) m5 (by omega) (show 0 ≤ l ∧ l ≤ 1000000 by omega) (by omega) (fun h5 _ (a : -l ≤ -l - 1) _ _ _ => absurd a (by omega)) (fun h6 _ k6 => ?_)
  simp only [bne_self_eq_false, Br_false]
  have m6 := m5.kept k6
  have K6 := (K4.trans k5).trans k6
  refine C78 (j := 0) m6 (by omega) fun h7 k7 => Nw_intro fun b h8 hb k8 e8 => ?_
  rw [zero72] at e8
  have e8' : IL h8 b 72 [0, 0, 0, 0, 0] := e8
  simp only [add_mk]
  refine St_I e8' (by simp) fun h11 u11 e11 => St_I e11 (by simp) fun h12 u12 e12 => St_I e12 (by simp) fun h13 u13 e13 => St_I e13 (by simp) fun h14 u14 e14 => St_I e14 (by simp) fun h15 u15 e15 => ?_
  have uu := ((((u11.trans u12).trans u13).trans u14).trans u15)
  have hk7 := k7.1
  have hk6 := K6.1
  have k615 : Kept h6 h15 := uu.kept (k7.trans k8) (by omega)
  have K15 := K6.trans k615
  have m15 := m6.kept k615
  refine Ld_i (x := 2) (by rw [hcell_blk e15]; rfl) (Ld_i (x := 3) (by rw [hcell_blk e15]; rfl) (Ld_i (x := 4) (by rw [hcell_blk e15]; rfl) (Ld_i (x := w) (by rw [hcell_blk e15]; rfl) (Ld_i (x := l) (by rw [hcell_blk e15]; rfl) ?_))))
  simp only [beq_self_eq_true, Bool.and_self, Bool.not_true, Br_false]
  by_cases hz : w + l = 0
  · have hw1 : w = 0 := by omega
    have hl1 : l = 0 := by omega
    refine C77 m15 (fun j h16 hj _ _ _ _ u16 m16 => ?_) (fun j hj _ _ h8 => ?_) (fun j hj _ h2 => ?_) (fun hh => absurd (by omega) hh)
    rotate_left
    · obtain rfl : j = 0 := by omega
      exact absurd ⟨show w = 0 from hw1, show l = 0 from hl1⟩ h8
    · obtain rfl : j = 0 := by omega
      exact absurd h2 (show ¬ (2 : Int) = 0 by omega)
    obtain rfl : j = 0 := by omega
    rw [hz]
    simp only [beq_self_eq_true, Bool.not_true, Br_false, bne_self_eq_false, Br_true]
    have m16 : PM h16 bp bf 2 0 [0, 0, 0, 0, 0, 0, 0, 0, 0, 0] := m16
    refine C102 (j := 0) m16 (by omega) (by decide) (by omega) (fun h17 (a : (0 : Int) ≠ 0) _ _ _ _ => absurd rfl a) (fun h17 _ k17 => ?_)
    simp only [beq_self_eq_true, Br_true]
    exact C79 fun h18 k18 => q h18 (((u16.kb.kept K15 hbf).trans k17).trans k18)
  · refine C77 m15 (fun j h16 hj _ _ e3 e4 u16 m16 => ?_) (fun j hj _ _ h8 => ?_) (fun j hj _ h2 => ?_) (fun hh => absurd (by omega) hh)
    · obtain rfl : j = 0 := by omega
      have a : w = 0 := e3
      have b : l = 0 := e4
      omega
    rotate_left
    · obtain rfl : j = 0 := by omega
      exact absurd h2 (show ¬ (2 : Int) = 0 by omega)
    have hzf : (w + l == 0) = false := by simpa using hz
    rw [hzf]
    simp only [show ((8 : Int) == 0) = false by decide, beq_self_eq_true, Bool.not_true, Br_false, show ((8 : Int) != 0) = true by decide, Br_true, bne_self_eq_false]
    refine C104 (j := 0) m15 (by omega) (show (2 : Int) ≠ 0 by omega) (by omega) fun h17 u17 m17 => ?_
    have K17 := u17.kept K15 hbf
    have m17 : PM h17 bp bf 2 0 [4, 0, 0, w, l, 0, 0, 0, 0, 0] := m17
    simp only [beq_self_eq_true, Br_true]
    refine C102 (j := 0) m17 (by omega) (show 0 ≤ w ∧ w ≤ 1000000 by omega) (by omega) (fun h18 _ _ _ u18 m18 => ?_) (fun h18 hh _ => ?_)
    rotate_left
    · rcases hh with hh | hh
      · exact absurd hh (show ¬ (4 : Int) = 0 by omega)
      · exact absurd ⟨show -w ≤ -w by omega, show -w ≤ 1000000 - w by omega⟩ hh
    have K18 := u18.kept K17 hbf
    have m18 : PM h18 bp bf 2 0 [4, 0, 0, w + -w, l, 0, 0, 0, 0, 0] := m18
    rw [Int.add_right_neg] at m18
    simp only [beq_self_eq_true, Br_true]
    refine C103 (j := 0) m18 (by omega) (show 0 ≤ l ∧ l ≤ 1000000 by omega) (by omega) (fun h19 _ _ _ u19 m19 => ?_) (fun h19 hh _ => ?_)
    rotate_left
    · rcases hh with hh | hh
      · exact absurd hh (show ¬ (4 : Int) = 0 by omega)
      · exact absurd ⟨show -l ≤ -l by omega, show -l ≤ 1000000 - l by omega⟩ hh
    have K19 := u19.kept K18 hbf
    have m19 : PM h19 bp bf 2 0 [4, 0, 0, 0, l + -l, 0, 0, 0, 0, 0] := m19
    rw [Int.add_right_neg] at m19
    simp only [beq_self_eq_true, Br_true]
    refine C77 m19 (fun j h20 hj _ _ _ _ u20 m20 => ?_) (fun j hj _ _ h8 => ?_) (fun j hj _ h2 => ?_) (fun hh => absurd (by omega) hh)
    rotate_left
    · obtain rfl : j = 0 := by omega
      exact absurd (by decide) h8
    · obtain rfl : j = 0 := by omega
      exact absurd h2 (by decide)
    obtain rfl : j = 0 := by omega
    have m20 : PM h20 bp bf 2 0 [0, 0, 0, 0, 0, 0, 0, 0, 0, 0] := m20
    simp only [beq_self_eq_true, Br_true]
    rw [F98_eq]
    refine C100 m20 fun h21 k21 => ?_
    rw [show cnt [0, 0, 0, 0, 0, 0, 0, 0, 0, 0] 0 2 = 2 by decide]
    simp only [LetI, beq_self_eq_true, Br_true]
    exact C79 fun h22 k22 => q h22 (((u20.kb.kept K19 hbf).trans k21).trans k22)
end Go.Proofs.Ytfijchofplkcoaa
