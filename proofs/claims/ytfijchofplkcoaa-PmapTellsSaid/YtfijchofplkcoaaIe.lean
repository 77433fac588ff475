/-
  What an act does to a pool of frames: what holds of all frames stays.
-/
import Derived.Test.YtfijchofplkcoaaId
set_option linter.unusedVariables false
set_option linter.unusedSimpArgs false
set_option maxRecDepth 100000
namespace Go.Proofs.Ytfijchofplkcoaa

/-- A class; a free one has nothing; counts within their bounds. -/
structure GF (xs : List Int) (n : Nat) : Prop where
  cls : ∀ j, j < n → 0 ≤ xs.getD (5 * j) 0 ∧ xs.getD (5 * j) 0 ≤ 4
  emp : ∀ j, j < n → xs.getD (5 * j) 0 = 0 → z5 xs j = true
  wir : ∀ j, j < n → 0 ≤ xs.getD (5 * j + 3) 0 ∧ xs.getD (5 * j + 3) 0 ≤ 1000000
  lon : ∀ j, j < n → 0 ≤ xs.getD (5 * j + 4) 0 ∧ xs.getD (5 * j + 4) 0 ≤ 1000000

section
variable {h : H} {bp bf n : Nat} {res : Int} {xs : List Int}
/-- Whatever number comes: Wire. -/
theorem W102 {i x : Int} {Q : Int → H → Prop} (m : PM h bp bf n res xs) (g : GF xs n) (hx : -9223372036854775808 ≤ x ∧ x ≤ 9223372036854775807)
    (q : ∀ e h' ys, KB h bf h' → PM h' bp bf n res ys → GF ys n → Q e h') : F102 (some ⟨bp, 0, none⟩) i x Q h := by
  have hn := m.le
  rw [F102_eq]
  refine Nw_intro fun c h1 hc k1 e1 => ?_
  have m1 := m.kept k1
  have qk : ∀ e, Q e h1 := fun e => q e h1 xs k1.kb m1 g
  rw [F162Wire_eq]
  refine C159 m1 ?_
  simp only [Bool.not_true, Br_false, NilP, add_mk, Nat.add_zero]
  refine Br_dec (fun hh => qk _) fun h0 => ?_
  refine Ld_s (x := ⟨some ⟨bf, 0, none⟩, n, n⟩) m1.c0 (Br_dec (fun hh => qk _) fun h2 => ?_)
  obtain ⟨j, rfl⟩ := Int.eq_ofNat_of_zero_le (show 0 ≤ i by omega)
  have hj : j < n := by simp at h2; omega
  refine Ld_s (x := ⟨some ⟨bf, 0, none⟩, n, n⟩) m1.c0 ⟨⟨by omega, by simp; omega⟩, ?_⟩
  simp only [add_mk, Int.toNat_natCast, Nat.zero_add]
  refine Ld_i (m1.f hj (d := 0) (by omega)) (Br_beq_int (fun e => qk _) fun e => ?_)
  refine Ld_s (x := ⟨some ⟨bf, 0, none⟩, n, n⟩) m1.c0 ⟨⟨by omega, by simp; omega⟩, ?_⟩
  simp only [add_mk, Int.toNat_natCast, Nat.zero_add]
  rw [F177_eq]
  unfold B177
  simp only [NilP, add_mk, Nat.zero_add]
  refine Ld_i (x := x) (by rw [hcell_blk e1]; rfl) ?_
  have hl := m1.len
  rw [F178_eq]
  unfold B178
  simp only [JoinM, NilP, add_mk, Nat.add_zero]
  have cw := m1.f hj (d := 3) (by omega)
  have gw := g.wir j hj
  refine Ld_i cw ?_
  rw [wrap_i64' (0 - xs.getD (5 * j + 3) 0) (by omega) (by omega)]
  refine Br_dec (fun hh => qk _) fun a1 => Ld_i cw ?_
  rw [wrap_i64' (1000000 - xs.getD (5 * j + 3) 0) (by omega) (by omega)]
  refine Br_dec (fun hh => qk _) fun a2 => Ld_i cw ?_
  have b1 : -(xs.getD (5 * j + 3) 0) ≤ x := by have := a1; simp at this; omega
  have b2 : x ≤ 1000000 - xs.getD (5 * j + 3) 0 := by have := a2; simp at this; omega
  rw [wrap_i64' (xs.getD (5 * j + 3) 0 + x) (by omega) (by omega), show j * 5 + 3 = 5 * j + 3 by omega]
  refine St_I m1.row (by omega) fun h' u e' => q _ h' _ (k1.kb.trans u.kb) (m1.set u e' (by simp)) ?_
  have hb : 5 * j + 3 < xs.length := by omega
  have gs := fun t => getD_set xs (5 * j + 3) t (xs.getD (5 * j + 3) 0 + x) hb
  refine ⟨fun j' hj' => ?_, fun j' hj' hz => ?_, fun j' hj' => ?_, fun j' hj' => ?_⟩
  · rw [gs, if_neg (by omega)]; exact g.cls j' hj'
  · rw [gs, if_neg (by omega)] at hz
    have hne : j' ≠ j := by
      intro ee
      subst ee
      exact e hz
    have := g.emp j' hj' hz
    unfold z5 at this ⊢
    rw [gs, gs, gs, gs, gs, if_neg (by omega), if_neg (by omega), if_neg (by omega), if_neg (by omega), if_neg (by omega)]
    exact this
  · rw [gs]
    split
    · omega
    · exact g.wir j' hj'
  · rw [gs, if_neg (by omega)]; exact g.lon j' hj'
/-- Whatever number comes: Loan. -/
theorem W103 {i x : Int} {Q : Int → H → Prop} (m : PM h bp bf n res xs) (g : GF xs n) (hx : -9223372036854775808 ≤ x ∧ x ≤ 9223372036854775807)
    (q : ∀ e h' ys, KB h bf h' → PM h' bp bf n res ys → GF ys n → Q e h') : F103 (some ⟨bp, 0, none⟩) i x Q h := by
  have hn := m.le
  rw [F103_eq]
  refine Nw_intro fun c h1 hc k1 e1 => ?_
  have m1 := m.kept k1
  have qk : ∀ e, Q e h1 := fun e => q e h1 xs k1.kb m1 g
  rw [F162Loan_eq]
  refine C159 m1 ?_
  simp only [Bool.not_true, Br_false, NilP, add_mk, Nat.add_zero]
  refine Br_dec (fun hh => qk _) fun h0 => ?_
  refine Ld_s (x := ⟨some ⟨bf, 0, none⟩, n, n⟩) m1.c0 (Br_dec (fun hh => qk _) fun h2 => ?_)
  obtain ⟨j, rfl⟩ := Int.eq_ofNat_of_zero_le (show 0 ≤ i by omega)
  have hj : j < n := by simp at h2; omega
  refine Ld_s (x := ⟨some ⟨bf, 0, none⟩, n, n⟩) m1.c0 ⟨⟨by omega, by simp; omega⟩, ?_⟩
  simp only [add_mk, Int.toNat_natCast, Nat.zero_add]
  refine Ld_i (m1.f hj (d := 0) (by omega)) (Br_beq_int (fun e => qk _) fun e => ?_)
  refine Ld_s (x := ⟨some ⟨bf, 0, none⟩, n, n⟩) m1.c0 ⟨⟨by omega, by simp; omega⟩, ?_⟩
  simp only [add_mk, Int.toNat_natCast, Nat.zero_add]
  rw [F179_eq]
  unfold B179
  simp only [NilP, add_mk, Nat.zero_add]
  refine Ld_i (x := x) (by rw [hcell_blk e1]; rfl) ?_
  have hl := m1.len
  rw [F178_eq]
  unfold B178
  simp only [JoinM, NilP, add_mk, Nat.add_zero]
  have cw := m1.f hj (d := 4) (by omega)
  have gw := g.lon j hj
  refine Ld_i cw ?_
  rw [wrap_i64' (0 - xs.getD (5 * j + 4) 0) (by omega) (by omega)]
  refine Br_dec (fun hh => qk _) fun a1 => Ld_i cw ?_
  rw [wrap_i64' (1000000 - xs.getD (5 * j + 4) 0) (by omega) (by omega)]
  refine Br_dec (fun hh => qk _) fun a2 => Ld_i cw ?_
  have b1 : -(xs.getD (5 * j + 4) 0) ≤ x := by have := a1; simp at this; omega
  have b2 : x ≤ 1000000 - xs.getD (5 * j + 4) 0 := by have := a2; simp at this; omega
  rw [wrap_i64' (xs.getD (5 * j + 4) 0 + x) (by omega) (by omega), show j * 5 + 4 = 5 * j + 4 by omega]
  refine St_I m1.row (by omega) fun h' u e' => q _ h' _ (k1.kb.trans u.kb) (m1.set u e' (by simp)) ?_
  have hb : 5 * j + 4 < xs.length := by omega
  have gs := fun t => getD_set xs (5 * j + 4) t (xs.getD (5 * j + 4) 0 + x) hb
  refine ⟨fun j' hj' => ?_, fun j' hj' hz => ?_, fun j' hj' => ?_, fun j' hj' => ?_⟩
  · rw [gs, if_neg (by omega)]; exact g.cls j' hj'
  · rw [gs, if_neg (by omega)] at hz
    have hne : j' ≠ j := by
      intro ee
      subst ee
      exact e hz
    have := g.emp j' hj' hz
    unfold z5 at this ⊢
    rw [gs, gs, gs, gs, gs, if_neg (by omega), if_neg (by omega), if_neg (by omega), if_neg (by omega), if_neg (by omega)]
    exact this
  · rw [gs, if_neg (by omega)]; exact g.wir j' hj'
  · rw [gs]
    split
    · omega
    · exact g.lon j' hj'
theorem GF.set5 (g : GF xs n) (hl : xs.length = 5 * n) {j : Nat} (hj : j < n) {c o x : Int} (hc : 0 ≤ c ∧ c ≤ 4) (h0 : c = 0 → o = 0 ∧ x = 0) : GF (set5 xs j c o x 0 0) n := by
  have hb : 5 * j + 5 ≤ xs.length := by omega
  have g0 : ∀ k, (Go.Proofs.Ytfijchofplkcoaa.set5 xs j c o x 0 0).getD (5 * k) 0 = if k = j then c else xs.getD (5 * k) 0 := by
    intro k
    have := set5_get xs j k 0 c o x 0 0 hb (by omega)
    rw [Nat.add_zero] at this; exact this
  refine ⟨fun k hk => ?_, fun k hk hz => ?_, fun k hk => ?_, fun k hk => ?_⟩
  · rw [g0]; split
    · exact hc
    · exact g.cls k hk
  · rw [g0] at hz
    rw [set5_z5 _ _ _ _ _ _ _ _ hb]
    split
    · rename_i e
      rw [if_pos e] at hz
      obtain ⟨a, b⟩ := h0 hz
      subst hz a b; rfl
    · rename_i e
      rw [if_neg e] at hz
      exact g.emp k hk hz
  · rw [set5_get _ _ _ _ _ _ _ _ _ hb (by omega)]; split
    · simp
    · exact g.wir k hk
  · rw [set5_get _ _ _ _ _ _ _ _ _ hb (by omega)]; split
    · simp
    · exact g.lon k hk
theorem W76 {c o x : Int} {Q : Int → Int → H → Prop} (m : PM h bp bf n res xs) (g : GF xs n)
    (q : ∀ r e h' ys, KB h bf h' → PM h' bp bf n res ys → GF ys n → Q r e h') : F76 (some ⟨bp, 0, none⟩) c o x Q h :=
  C76 m (fun j h' hc _ hj _ _ u m' => q _ _ h' _ u m' (g.set5 m.len hj (by omega) (fun e => by omega))) (fun h' _ _ k => q _ _ h' xs k.kb (m.kept k) g) fun _ => q _ _ h xs (Kept.refl h).kb m g
theorem W77 {i : Int} {Q : Int → H → Prop} (m : PM h bp bf n res xs) (g : GF xs n)
    (q : ∀ e h' ys, KB h bf h' → PM h' bp bf n res ys → GF ys n → (∀ j : Nat, i = (j : Int) → j < n → 0 < xs.getD (5 * j + 3) 0 ∨ 0 < xs.getD (5 * j + 4) 0 → e = 8) → Q e h') : F77 (some ⟨bp, 0, none⟩) i Q h := by
  have same : ∀ e, (∀ j : Nat, i = (j : Int) → j < n → 0 < xs.getD (5 * j + 3) 0 ∨ 0 < xs.getD (5 * j + 4) 0 → e = 8) → Q e h := fun e hh => q e h xs (Kept.refl h).kb m g hh
  refine C77 m (fun j h' hj hjn _ e3 e4 u m' => q _ h' _ u.kb m' (g.set5 m.len hjn (by omega) fun _ => ⟨rfl, rfl⟩) fun j' hj' _ hh => ?_) (fun j hj hjn _ _ => same _ fun _ _ _ _ => rfl) (fun j hj hjn h2 => same _ fun j' hj' _ hh => ?_) fun hh => same _ fun j hj hjn => by omega
  · obtain rfl : j' = j := by omega
    rcases hh with hh | hh <;> omega
  · obtain rfl : j' = j := by omega
    have := g.emp j' hjn h2
    unfold z5 at this
    simp only [Bool.and_eq_true, beq_iff_eq] at this
    rcases hh with hh | hh <;> omega
theorem W104 {i c o x : Int} {Q : Int → H → Prop} (m : PM h bp bf n res xs) (g : GF xs n)
    (q : ∀ e h' ys, KB h bf h' → PM h' bp bf n res ys → GF ys n → Q e h') : F104 (some ⟨bp, 0, none⟩) i c o x Q h := by
  have hn := m.le
  rw [F104_eq]
  refine Nw_intro fun b1 h1 hb1 k1 e1 => Nw_intro fun b2 h2 hb2 k2 e2 => Nw_intro fun b3 h3 hb3 k3 e3 => ?_
  have k := (k1.trans k2).trans k3
  have m3 := m.kept k
  have hbf : bf < h.size := (Array.getElem?_eq_some_iff.1 (show h[bf]? = some _ from m.row)).1
  have s1 := k1.1
  have s2 := k2.1
  have E1 := k3.blk (k2.blk e1)
  have E2 := k3.blk e2
  have qk : ∀ e, Q e h3 := fun e => q e h3 xs k.kb m3 g
  rw [F162Own_eq]
  refine C159 m3 ?_
  simp only [Bool.not_true, Br_false, NilP, add_mk, Nat.add_zero]
  refine Br_dec (fun hh => qk _) fun h0 => ?_
  refine Ld_s (x := ⟨some ⟨bf, 0, none⟩, n, n⟩) m3.c0 (Br_dec (fun hh => qk _) fun h4 => ?_)
  obtain ⟨j, rfl⟩ := Int.eq_ofNat_of_zero_le (show 0 ≤ i by omega)
  have hj : j < n := by simp at h4; omega
  refine Ld_s (x := ⟨some ⟨bf, 0, none⟩, n, n⟩) m3.c0 ⟨⟨by omega, by simp; omega⟩, ?_⟩
  simp only [add_mk, Int.toNat_natCast, Nat.zero_add]
  refine Ld_i (m3.f hj (d := 0) (by omega)) (Br_beq_int (fun e => qk _) fun e => ?_)
  refine Ld_s (x := ⟨some ⟨bf, 0, none⟩, n, n⟩) m3.c0 ⟨⟨by omega, by simp; omega⟩, ?_⟩
  simp only [add_mk, Int.toNat_natCast, Nat.zero_add]
  rw [F180_eq]
  unfold B180
  simp only [NilP, add_mk, Nat.zero_add, Nat.add_zero, JoinM]
  refine Ld_i (x := c) (by rw [hcell_blk E1]; rfl) (Br_dec (fun _ => qk _) fun (c1 : ¬ c < 1) => ?_)
  refine Ld_i (x := c) (by rw [hcell_blk E1]; rfl) (Br_dec (fun _ => qk _) fun (c2 : ¬ c > 4) => ?_)
  refine Ld_i (x := c) (by rw [hcell_blk E1]; rfl) (Ld_i (x := o) (by rw [hcell_blk E2]; rfl) (Ld_i (x := x) (by rw [hcell_blk e3]; rfl) ?_))
  rw [Nat.mul_comm j 5]
  have hl := m3.len
  refine St_I m3.row (by omega) fun h5 u5 e5 => ⟨by rw [hcell_blk (u5.blk e3 (by omega))]; rfl, by rw [hcell_blk (u5.blk E2 (by omega))]; rfl, St_I e5 (by simp; omega) fun h6 u6 e6 => ⟨by rw [hcell_blk (u6.blk (u5.blk e3 (by omega)) (by omega))]; rfl, St_I e6 (by simp; omega) fun h7 u7 e7 => ?_⟩⟩
  have gs : ∀ t, (((xs.set (5 * j) c).set (5 * j + 1) o).set (5 * j + 2) x).getD t 0 = if 5 * j + 2 = t then x else if 5 * j + 1 = t then o else if 5 * j = t then c else xs.getD t 0 := by
    intro t
    rw [getD_set _ _ _ _ (by simp; omega), getD_set _ _ _ _ (by simp; omega), getD_set _ _ _ _ (by omega)]
  refine q 0 h7 _ (k.kb.trans ((u5.trans u6).trans u7).kb) (m3.set ((u5.trans u6).trans u7) e7 (by simp)) ⟨fun j' hj' => ?_, fun j' hj' hz => ?_, fun j' hj' => ?_, fun j' hj' => ?_⟩
  · rw [gs, if_neg (by omega), if_neg (by omega)]; split
    · omega
    · exact g.cls j' hj'
  · rw [gs, if_neg (by omega), if_neg (by omega)] at hz
    split at hz
    · omega
    · have hne : j' ≠ j := by omega
      have := g.emp j' hj' hz
      unfold z5 at this ⊢
      rw [gs, gs, gs, gs, gs]
      rw [if_neg (by omega), if_neg (by omega), if_neg (by omega), if_neg (by omega), if_neg (by omega), if_neg (by omega), if_neg (by omega), if_neg (by omega), if_neg (by omega), if_neg (by omega), if_neg (by omega), if_neg (by omega), if_neg (by omega), if_neg (by omega), if_neg (by omega)]
      exact this
  · rw [gs, if_neg (by omega), if_neg (by omega), if_neg (by omega)]; exact g.wir j' hj'
  · rw [gs, if_neg (by omega), if_neg (by omega), if_neg (by omega)]; exact g.lon j' hj'

/-- An act. -/
theorem W96 {k f a b c : Int} {Q : Int → Int → H → Prop} (m : PM h bp bf n res xs) (g : GF xs n) (ha : -9223372036854775808 ≤ a ∧ a ≤ 9223372036854775807)
    (q : ∀ r e h' ys, KB h bf h' → PM h' bp bf n res ys → GF ys n → (k = 1 → ∀ j : Nat, f = (j : Int) → j < n → 0 < xs.getD (5 * j + 3) 0 ∨ 0 < xs.getD (5 * j + 4) 0 → e = 8) → Q r e h') : F96 (some ⟨bp, 0, none⟩) k f a b c Q h := by
  rw [F96_eq]
  refine Nw_intro fun w h2 hw k2 e2 => ?_
  have m2 := m.kept k2
  simp only [add_mk, JoinM]
  refine Ld_i (x := k) (by rw [hcell_blk e2]; rfl) ?_
  refine Br_beq_int (fun e => Ld_i (x := a) (by rw [hcell_blk e2]; rfl) (Ld_i (x := b) (by rw [hcell_blk e2]; rfl) (Ld_i (x := c) (by rw [hcell_blk e2]; rfl) (W76 m2 g fun r e' h' ys u m' g' => q r e' h' ys (k2.kb.trans u) m' g' fun hh => by omega)))) fun h0 => ?_
  refine Br_beq_int (fun e => Ld_i (x := f) (by rw [hcell_blk e2]; rfl) (W77 m2 g fun e' h' ys u m' g' p => q 0 e' h' ys (k2.kb.trans u) m' g' fun _ => p)) fun h1 => ?_
  refine Br_beq_int (fun e => Ld_i (x := f) (by rw [hcell_blk e2]; rfl) (Ld_i (x := a) (by rw [hcell_blk e2]; rfl) (Ld_i (x := b) (by rw [hcell_blk e2]; rfl) (Ld_i (x := c) (by rw [hcell_blk e2]; rfl) (W104 m2 g fun e' h' ys u m' g' => q 0 e' h' ys (k2.kb.trans u) m' g' fun hh => by omega))))) fun h2' => ?_
  refine Br_beq_int (fun e => Ld_i (x := f) (by rw [hcell_blk e2]; rfl) (Ld_i (x := a) (by rw [hcell_blk e2]; rfl) (W102 m2 g ha fun e' h' ys u m' g' => q 0 e' h' ys (k2.kb.trans u) m' g' fun hh => by omega))) fun h3 => ?_
  refine Br_beq_int (fun e => Ld_i (x := f) (by rw [hcell_blk e2]; rfl) (Ld_i (x := a) (by rw [hcell_blk e2]; rfl) (W103 m2 g ha fun e' h' ys u m' g' => q 0 e' h' ys (k2.kb.trans u) m' g' fun hh => by omega))) fun h4 => ?_
  exact q 0 0 h2 xs k2.kb m2 g fun hh => by omega
end
end Go.Proofs.Ytfijchofplkcoaa
