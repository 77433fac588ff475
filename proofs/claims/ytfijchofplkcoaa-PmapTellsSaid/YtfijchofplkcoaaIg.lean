/-
  What an act comes to on a list of frames (plain), and that an act on a pool does just that.
-/
import Derived.Test.YtfijchofplkcoaaIf
set_option linter.unusedVariables false
set_option linter.unusedSimpArgs false
set_option maxRecDepth 100000
namespace Go.Proofs.Ytfijchofplkcoaa

/-- The first frame that is nothing. -/
def fst0 (xs : List Int) (n : Nat) : Nat := ((List.range n).find? (fun j => z5 xs j)).getD 0
theorem fst0_eq {xs : List Int} {n j : Nat} (hj : j < n) (hz : z5 xs j = true) (hl : ∀ i, i < j → z5 xs i = false) : fst0 xs n = j := by
  unfold fst0
  have : (List.range n).find? (fun j => z5 xs j) = some j := by
    rw [List.find?_range_eq_some]
    exact ⟨hz, by simpa using hj, fun i hi => by simp [hl i hi]⟩
  rw [this]; rfl
/-- Some free one, if their count is not 0. -/
theorem cnt_pos {xs : List Int} {n : Nat} (g : GF xs n) : ∀ m, m ≤ n → (∀ i, i < m → z5 xs i = false) → cnt xs 0 m = 0 := by
  intro m
  induction m with
  | zero => intro _ _; rfl
  | succ m ih =>
    intro hm h
    simp only [cnt]
    rw [ih (by omega) (fun i hi => h i (by omega))]
    rw [if_neg]
    · rfl
    · intro e
      have := g.emp m (by omega) e
      rw [h m (by omega)] at this; cases this
def sTake (xs : List Int) (n : Nat) (res c o x : Int) : Int × Int × List Int :=
  if ¬ (1 ≤ c ∧ c ≤ 4) then (0, 2, xs) else if cnt xs 0 n ≤ (if c = 1 then 0 else res) then (0, 5, xs) else ((fst0 xs n : Nat), 0, set5 xs (fst0 xs n) c o x 0 0)
def sGive (xs : List Int) (n : Nat) (i : Int) : Int × List Int :=
  if ¬ (0 ≤ i ∧ i < n) then (7, xs) else if xs.getD (5 * i.toNat) 0 = 0 then (2, xs) else
  if ¬ (xs.getD (5 * i.toNat + 3) 0 = 0 ∧ xs.getD (5 * i.toNat + 4) 0 = 0) then (8, xs) else (0, set5 xs i.toNat 0 0 0 0 0)
def sOwn (xs : List Int) (n : Nat) (i c o x : Int) : Int × List Int :=
  if ¬ (0 ≤ i ∧ i < n) then (7, xs) else if xs.getD (5 * i.toNat) 0 = 0 then (2, xs) else
  if ¬ (1 ≤ c ∧ c ≤ 4) then (2, xs) else (0, ((xs.set (5 * i.toNat) c).set (5 * i.toNat + 1) o).set (5 * i.toNat + 2) x)
def sCnt (d : Nat) (xs : List Int) (n : Nat) (i x : Int) : Int × List Int :=
  if ¬ (0 ≤ i ∧ i < n) then (7, xs) else if xs.getD (5 * i.toNat) 0 = 0 then (2, xs) else
  if ¬ (-(xs.getD (5 * i.toNat + d) 0) ≤ x ∧ x ≤ 1000000 - xs.getD (5 * i.toNat + d) 0) then (2, xs) else
  (0, xs.set (5 * i.toNat + d) (xs.getD (5 * i.toNat + d) 0 + x))
/-- An act: what it answers, its error, the frames behind it. -/
def sAct (xs : List Int) (n : Nat) (res k f a b c : Int) : Int × Int × List Int :=
  if k = 0 then sTake xs n res a b c else if k = 1 then (0, sGive xs n f) else if k = 2 then (0, sOwn xs n f a b c) else
  if k = 3 then (0, sCnt 3 xs n f a) else if k = 4 then (0, sCnt 4 xs n f a) else (0, 0, xs)

theorem sTake_g {xs : List Int} {n : Nat} {res c o x : Int} (g : GF xs n) (hl : xs.length = 5 * n) (hr : 0 ≤ res) : GF (sTake xs n res c o x).2.2 n ∧ (sTake xs n res c o x).2.2.length = 5 * n := by
  unfold sTake
  by_cases hc : 1 ≤ c ∧ c ≤ 4
  · rw [if_neg (fun h => h hc)]
    obtain ⟨kept, hk⟩ : ∃ kept, kept = (if c = 1 then 0 else res) := ⟨_, rfl⟩
    rw [← hk]
    have hk0 : 0 ≤ kept := by rw [hk]; split <;> omega
    by_cases h0 : cnt xs 0 n ≤ kept
    · rw [if_pos h0]; exact ⟨g, hl⟩
    · rw [if_neg h0]
      have : ∃ j, j < n ∧ z5 xs j = true := by
        apply Classical.byContradiction
        intro hne
        have : cnt xs 0 n = 0 := cnt_pos g n (Nat.le_refl _) fun i hi => by
          cases hz : z5 xs i
          · rfl
          · exact absurd ⟨i, hi, hz⟩ hne
        omega
      have hlt : fst0 xs n < n := by
        obtain ⟨j, hj, hz⟩ := this
        unfold fst0
        cases hf : (List.range n).find? (fun j => z5 xs j) with
        | none => show 0 < n; omega
        | some i =>
          have := List.mem_of_find?_eq_some hf
          simpa using this
      exact ⟨g.set5 hl hlt (by omega) (fun e => by omega), by rw [set5_len]; exact hl⟩
  · rw [if_pos hc]; exact ⟨g, hl⟩
theorem sGive_g {xs : List Int} {n : Nat} {i : Int} (g : GF xs n) (hl : xs.length = 5 * n) : GF (sGive xs n i).2 n ∧ (sGive xs n i).2.length = 5 * n := by
  unfold sGive
  split
  · exact ⟨g, hl⟩
  · split
    · exact ⟨g, hl⟩
    · split
      · exact ⟨g, hl⟩
      · exact ⟨g.set5 hl (by omega) (by omega) fun _ => ⟨rfl, rfl⟩, by rw [set5_len]; exact hl⟩
theorem sOwn_g {xs : List Int} {n : Nat} {i c o x : Int} (g : GF xs n) (hl : xs.length = 5 * n) : GF (sOwn xs n i c o x).2 n ∧ (sOwn xs n i c o x).2.length = 5 * n := by
  unfold sOwn
  split
  · exact ⟨g, hl⟩
  rename_i hi
  split
  · exact ⟨g, hl⟩
  rename_i hz
  split
  · exact ⟨g, hl⟩
  obtain ⟨j, rfl⟩ := Int.eq_ofNat_of_zero_le (show 0 ≤ i by omega)
  simp only [Int.toNat_natCast] at hz ⊢
  have gs : ∀ t, (((xs.set (5 * j) c).set (5 * j + 1) o).set (5 * j + 2) x).getD t 0 = if 5 * j + 2 = t then x else if 5 * j + 1 = t then o else if 5 * j = t then c else xs.getD t 0 := by
    intro t
    rw [getD_set _ _ _ _ (by simp; omega), getD_set _ _ _ _ (by simp; omega), getD_set _ _ _ _ (by omega)]
  refine ⟨⟨fun j' hj' => ?_, fun j' hj' hz' => ?_, fun j' hj' => ?_, fun j' hj' => ?_⟩, by simpa using hl⟩
  · rw [gs, if_neg (by omega), if_neg (by omega)]; split
    · omega
    · exact g.cls j' hj'
  · rw [gs, if_neg (by omega), if_neg (by omega)] at hz'
    split at hz'
    · omega
    · have hne : j' ≠ j := by omega
      have := g.emp j' hj' hz'
      unfold z5 at this ⊢
      rw [gs, gs, gs, gs, gs]
      rw [if_neg (by omega), if_neg (by omega), if_neg (by omega), if_neg (by omega), if_neg (by omega), if_neg (by omega), if_neg (by omega), if_neg (by omega), if_neg (by omega), if_neg (by omega), if_neg (by omega), if_neg (by omega), if_neg (by omega), if_neg (by omega), if_neg (by omega)]
      exact this
  · rw [gs, if_neg (by omega), if_neg (by omega), if_neg (by omega)]; exact g.wir j' hj'
  · rw [gs, if_neg (by omega), if_neg (by omega), if_neg (by omega)]; exact g.lon j' hj'
theorem sCnt_g {d : Nat} {xs : List Int} {n : Nat} {i x : Int} (hd : d = 3 ∨ d = 4) (g : GF xs n) (hl : xs.length = 5 * n) : GF (sCnt d xs n i x).2 n ∧ (sCnt d xs n i x).2.length = 5 * n := by
  unfold sCnt
  split
  · exact ⟨g, hl⟩
  rename_i hi
  split
  · exact ⟨g, hl⟩
  rename_i hz
  split
  · exact ⟨g, hl⟩
  rename_i hx
  obtain ⟨j, rfl⟩ := Int.eq_ofNat_of_zero_le (show 0 ≤ i by omega)
  simp only [Int.toNat_natCast] at hz hx ⊢
  have gs := fun t => getD_set xs (5 * j + d) t (xs.getD (5 * j + d) 0 + x) (by omega)
  refine ⟨⟨fun j' hj' => ?_, fun j' hj' hz' => ?_, fun j' hj' => ?_, fun j' hj' => ?_⟩, by simpa using hl⟩
  · rw [gs, if_neg (by omega)]; exact g.cls j' hj'
  · rw [gs, if_neg (by omega)] at hz'
    have hne : j' ≠ j := by
      intro ee
      subst ee
      exact hz hz'
    have := g.emp j' hj' hz'
    unfold z5 at this ⊢
    rw [gs, gs, gs, gs, gs, if_neg (by omega), if_neg (by omega), if_neg (by omega), if_neg (by omega), if_neg (by omega)]
    exact this
  · rw [gs]
    split
    · omega
    · exact g.wir j' hj'
  · rw [gs]
    split
    · omega
    · exact g.lon j' hj'
theorem sAct_g {xs : List Int} {n : Nat} {res k f a b c : Int} (g : GF xs n) (hl : xs.length = 5 * n) (hr : 0 ≤ res) : GF (sAct xs n res k f a b c).2.2 n ∧ (sAct xs n res k f a b c).2.2.length = 5 * n := by
  unfold sAct
  split
  · exact sTake_g g hl hr
  split
  · exact sGive_g g hl
  split
  · exact sOwn_g g hl
  split
  · exact sCnt_g (.inl rfl) g hl
  split
  · exact sCnt_g (.inr rfl) g hl
  · exact ⟨g, hl⟩

section
variable {h : H} {bp bf n : Nat} {res : Int} {xs : List Int}
theorem X76 {c o x : Int} {Q : Int → Int → H → Prop} (m : PM h bp bf n res xs) (g : GF xs n)
    (q : ∀ r e ys h', sTake xs n res c o x = (r, e, ys) → KB h bf h' → PM h' bp bf n res ys → Q r e h') : F76 (some ⟨bp, 0, none⟩) c o x Q h := by
  have hr := m.res0
  refine C76 m (fun j h' hc hgt hj hz hl u m' => q _ _ _ h' ?_ u m') (fun h' hc hh k => q _ _ _ h' ?_ k.kb (m.kept k)) fun hc => q _ _ _ h ?_ (Kept.refl h).kb m
  · unfold sTake
    rw [if_neg (by simpa using hc), if_neg (by omega), fst0_eq hj hz hl]
  · unfold sTake
    rw [if_neg (by simpa using hc), if_pos]
    rcases hh with hh | hh
    · exact hh
    · rw [cnt_pos g n (Nat.le_refl _) hh]; split <;> omega
  · unfold sTake
    rw [if_pos hc]
theorem X77 {i : Int} {Q : Int → H → Prop} (m : PM h bp bf n res xs)
    (q : ∀ e ys h', sGive xs n i = (e, ys) → KB h bf h' → PM h' bp bf n res ys → Q e h') : F77 (some ⟨bp, 0, none⟩) i Q h := by
  refine C77 m (fun j h' hj hjn hz e3 e4 u m' => q _ _ h' ?_ u.kb m') (fun j hj hjn hz h8 => q _ _ h ?_ (Kept.refl h).kb m) (fun j hj hjn hz => q _ _ h ?_ (Kept.refl h).kb m) fun hh => q _ _ h ?_ (Kept.refl h).kb m
  · subst hj; unfold sGive; simp only [Int.toNat_natCast]
    rw [if_neg (by omega), if_neg hz, if_neg (fun hn => hn ⟨e3, e4⟩)]
  · subst hj; unfold sGive; simp only [Int.toNat_natCast]
    rw [if_neg (by omega), if_neg hz, if_pos h8]
  · subst hj; unfold sGive; simp only [Int.toNat_natCast]
    rw [if_neg (by omega), if_pos hz]
  · unfold sGive; rw [if_pos hh]
/-- Whatever number comes: Wire. -/
theorem X102 {i x : Int} {Q : Int → H → Prop} (m : PM h bp bf n res xs) (g : GF xs n) (hx : -9223372036854775808 ≤ x ∧ x ≤ 9223372036854775807)
    (q : ∀ e ys h', sCnt 3 xs n i x = (e, ys) → KB h bf h' → PM h' bp bf n res ys → Q e h') : F102 (some ⟨bp, 0, none⟩) i x Q h := by
  have hn := m.le
  rw [F102_eq]
  refine Nw_intro fun c h1 hc k1 e1 => ?_
  have m1 := m.kept k1
  have qk : ∀ e, sCnt 3 xs n i x = (e, xs) → Q e h1 := fun e he => q e xs h1 he k1.kb m1
  rw [F162Wire_eq]
  refine C159 m1 ?_
  simp only [Bool.not_true, Br_false, NilP, add_mk, Nat.add_zero]
  refine Br_dec (fun hh => qk _ (by unfold sCnt; rw [if_pos (by omega)])) fun h0 => ?_
  refine Ld_s (x := ⟨some ⟨bf, 0, none⟩, n, n⟩) m1.c0 (Br_dec (fun hh => qk _ (by simp at hh; unfold sCnt; rw [if_pos (by omega)])) fun h2 => ?_)
  obtain ⟨j, rfl⟩ := Int.eq_ofNat_of_zero_le (show 0 ≤ i by omega)
  have hj : j < n := by simp at h2; omega
  refine Ld_s (x := ⟨some ⟨bf, 0, none⟩, n, n⟩) m1.c0 ⟨⟨by omega, by simp; omega⟩, ?_⟩
  simp only [add_mk, Int.toNat_natCast, Nat.zero_add]
  refine Ld_i (m1.f hj (d := 0) (by omega)) (Br_beq_int (fun e => qk _ (by unfold sCnt; simp only [Int.toNat_natCast]; rw [if_neg (by omega), if_pos (show xs.getD (5 * j) 0 = 0 from e)])) fun e => ?_)
  refine Ld_s (x := ⟨some ⟨bf, 0, none⟩, n, n⟩) m1.c0 ⟨⟨by omega, by simp; omega⟩, ?_⟩
  simp only [add_mk, Int.toNat_natCast, Nat.zero_add]
  rw [F177_eq]
  unfold B177
  simp only [NilP, add_mk, Nat.zero_add]
  refine Ld_i (x := x) (by rw [hcell_blk e1]; rfl) ?_
  have hl := m1.len
  rw [F178_eq]
  unfold B178
  simp only [JoinM, NilP, add_mk, Nat.add_zero]
  have cw := m1.f hj (d := 3) (by omega)
  have gw := g.wir j hj
  refine Ld_i cw ?_
  rw [wrap_i64' (0 - xs.getD (5 * j + 3) 0) (by omega) (by omega)]
  refine Br_dec (fun hh => qk _ (by unfold sCnt; simp only [Int.toNat_natCast]; rw [if_neg (by omega), if_neg (show ¬ xs.getD (5 * j) 0 = 0 from e), if_pos (by omega)])) fun a1 => Ld_i cw ?_
  rw [wrap_i64' (1000000 - xs.getD (5 * j + 3) 0) (by omega) (by omega)]
  refine Br_dec (fun hh => qk _ (by unfold sCnt; simp only [Int.toNat_natCast]; rw [if_neg (by omega), if_neg (show ¬ xs.getD (5 * j) 0 = 0 from e), if_pos (by omega)])) fun a2 => Ld_i cw ?_
  rw [wrap_i64' (xs.getD (5 * j + 3) 0 + x) (by omega) (by omega), show j * 5 + 3 = 5 * j + 3 by omega]
  exact St_I m1.row (by omega) fun h' u e' => q 0 _ h' (by unfold sCnt; simp only [Int.toNat_natCast]; rw [if_neg (by omega), if_neg (show ¬ xs.getD (5 * j) 0 = 0 from e), if_neg (by omega)]) (k1.kb.trans u.kb) (m1.set u e' (by simp))
/-- Whatever number comes: Loan. -/
theorem X103 {i x : Int} {Q : Int → H → Prop} (m : PM h bp bf n res xs) (g : GF xs n) (hx : -9223372036854775808 ≤ x ∧ x ≤ 9223372036854775807)
    (q : ∀ e ys h', sCnt 4 xs n i x = (e, ys) → KB h bf h' → PM h' bp bf n res ys → Q e h') : F103 (some ⟨bp, 0, none⟩) i x Q h := by
  have hn := m.le
  rw [F103_eq]
  refine Nw_intro fun c h1 hc k1 e1 => ?_
  have m1 := m.kept k1
  have qk : ∀ e, sCnt 4 xs n i x = (e, xs) → Q e h1 := fun e he => q e xs h1 he k1.kb m1
  rw [F162Loan_eq]
  refine C159 m1 ?_
  simp only [Bool.not_true, Br_false, NilP, add_mk, Nat.add_zero]
  refine Br_dec (fun hh => qk _ (by unfold sCnt; rw [if_pos (by omega)])) fun h0 => ?_
  refine Ld_s (x := ⟨some ⟨bf, 0, none⟩, n, n⟩) m1.c0 (Br_dec (fun hh => qk _ (by simp at hh; unfold sCnt; rw [if_pos (by omega)])) fun h2 => ?_)
  obtain ⟨j, rfl⟩ := Int.eq_ofNat_of_zero_le (show 0 ≤ i by omega)
  have hj : j < n := by simp at h2; omega
  refine Ld_s (x := ⟨some ⟨bf, 0, none⟩, n, n⟩) m1.c0 ⟨⟨by omega, by simp; omega⟩, ?_⟩
  simp only [add_mk, Int.toNat_natCast, Nat.zero_add]
  refine Ld_i (m1.f hj (d := 0) (by omega)) (Br_beq_int (fun e => qk _ (by unfold sCnt; simp only [Int.toNat_natCast]; rw [if_neg (by omega), if_pos (show xs.getD (5 * j) 0 = 0 from e)])) fun e => ?_)
  refine Ld_s (x := ⟨some ⟨bf, 0, none⟩, n, n⟩) m1.c0 ⟨⟨by omega, by simp; omega⟩, ?_⟩
  simp only [add_mk, Int.toNat_natCast, Nat.zero_add]
  rw [F179_eq]
  unfold B179
  simp only [NilP, add_mk, Nat.zero_add]
  refine Ld_i (x := x) (by rw [hcell_blk e1]; rfl) ?_
  have hl := m1.len
  rw [F178_eq]
  unfold B178
  simp only [JoinM, NilP, add_mk, Nat.add_zero]
  have cw := m1.f hj (d := 4) (by omega)
  have gw := g.lon j hj
  refine Ld_i cw ?_
  rw [wrap_i64' (0 - xs.getD (5 * j + 4) 0) (by omega) (by omega)]
  refine Br_dec (fun hh => qk _ (by unfold sCnt; simp only [Int.toNat_natCast]; rw [if_neg (by omega), if_neg (show ¬ xs.getD (5 * j) 0 = 0 from e), if_pos (by omega)])) fun a1 => Ld_i cw ?_
  rw [wrap_i64' (1000000 - xs.getD (5 * j + 4) 0) (by omega) (by omega)]
  refine Br_dec (fun hh => qk _ (by unfold sCnt; simp only [Int.toNat_natCast]; rw [if_neg (by omega), if_neg (show ¬ xs.getD (5 * j) 0 = 0 from e), if_pos (by omega)])) fun a2 => Ld_i cw ?_
  rw [wrap_i64' (xs.getD (5 * j + 4) 0 + x) (by omega) (by omega), show j * 5 + 4 = 5 * j + 4 by omega]
  exact St_I m1.row (by omega) fun h' u e' => q 0 _ h' (by unfold sCnt; simp only [Int.toNat_natCast]; rw [if_neg (by omega), if_neg (show ¬ xs.getD (5 * j) 0 = 0 from e), if_neg (by omega)]) (k1.kb.trans u.kb) (m1.set u e' (by simp))
theorem X104 {i c o x : Int} {Q : Int → H → Prop} (m : PM h bp bf n res xs)
    (q : ∀ e ys h', sOwn xs n i c o x = (e, ys) → KB h bf h' → PM h' bp bf n res ys → Q e h') : F104 (some ⟨bp, 0, none⟩) i c o x Q h := by
  have hn := m.le
  rw [F104_eq]
  refine Nw_intro fun b1 h1 hb1 k1 e1 => Nw_intro fun b2 h2 hb2 k2 e2 => Nw_intro fun b3 h3 hb3 k3 e3 => ?_
  have k := (k1.trans k2).trans k3
  have m3 := m.kept k
  have hbf : bf < h.size := (Array.getElem?_eq_some_iff.1 (show h[bf]? = some _ from m.row)).1
  have s1 := k1.1
  have s2 := k2.1
  have E1 := k3.blk (k2.blk e1)
  have E2 := k3.blk e2
  have qk : ∀ e, sOwn xs n i c o x = (e, xs) → Q e h3 := fun e he => q e xs h3 he k.kb m3
  rw [F162Own_eq]
  refine C159 m3 ?_
  simp only [Bool.not_true, Br_false, NilP, add_mk, Nat.add_zero]
  refine Br_dec (fun hh => qk _ (by unfold sOwn; rw [if_pos (by omega)])) fun h0 => ?_
  refine Ld_s (x := ⟨some ⟨bf, 0, none⟩, n, n⟩) m3.c0 (Br_dec (fun hh => qk _ (by simp at hh; unfold sOwn; rw [if_pos (by omega)])) fun h4 => ?_)
  obtain ⟨j, rfl⟩ := Int.eq_ofNat_of_zero_le (show 0 ≤ i by omega)
  have hj : j < n := by simp at h4; omega
  refine Ld_s (x := ⟨some ⟨bf, 0, none⟩, n, n⟩) m3.c0 ⟨⟨by omega, by simp; omega⟩, ?_⟩
  simp only [add_mk, Int.toNat_natCast, Nat.zero_add]
  refine Ld_i (m3.f hj (d := 0) (by omega)) (Br_beq_int (fun e => qk _ (by unfold sOwn; simp only [Int.toNat_natCast]; rw [if_neg (by omega), if_pos (show xs.getD (5 * j) 0 = 0 from e)])) fun e => ?_)
  refine Ld_s (x := ⟨some ⟨bf, 0, none⟩, n, n⟩) m3.c0 ⟨⟨by omega, by simp; omega⟩, ?_⟩
  simp only [add_mk, Int.toNat_natCast, Nat.zero_add]
  rw [F180_eq]
  unfold B180
  simp only [NilP, add_mk, Nat.zero_add, Nat.add_zero, JoinM]
  refine Ld_i (x := c) (by rw [hcell_blk E1]; rfl) (Br_dec (fun (hh : c < 1) => qk _ (by unfold sOwn; simp only [Int.toNat_natCast]; rw [if_neg (by omega), if_neg (show ¬ xs.getD (5 * j) 0 = 0 from e), if_pos (by omega)])) fun (c1 : ¬ c < 1) => ?_)
  refine Ld_i (x := c) (by rw [hcell_blk E1]; rfl) (Br_dec (fun (hh : c > 4) => qk _ (by unfold sOwn; simp only [Int.toNat_natCast]; rw [if_neg (by omega), if_neg (show ¬ xs.getD (5 * j) 0 = 0 from e), if_pos (by omega)])) fun (c2 : ¬ c > 4) => ?_)
  refine Ld_i (x := c) (by rw [hcell_blk E1]; rfl) (Ld_i (x := o) (by rw [hcell_blk E2]; rfl) (Ld_i (x := x) (by rw [hcell_blk e3]; rfl) ?_))
  rw [Nat.mul_comm j 5]
  have hl := m3.len
  refine St_I m3.row (by omega) fun h5 u5 e5 => ⟨by rw [hcell_blk (u5.blk e3 (by omega))]; rfl, by rw [hcell_blk (u5.blk E2 (by omega))]; rfl, St_I e5 (by simp; omega) fun h6 u6 e6 => ⟨by rw [hcell_blk (u6.blk (u5.blk e3 (by omega)) (by omega))]; rfl, St_I e6 (by simp; omega) fun h7 u7 e7 => ?_⟩⟩
  exact q 0 _ h7 (by unfold sOwn; simp only [Int.toNat_natCast]; rw [if_neg (by omega), if_neg (show ¬ xs.getD (5 * j) 0 = 0 from e), if_neg (by omega)]) (k.kb.trans ((u5.trans u6).trans u7).kb) (m3.set ((u5.trans u6).trans u7) e7 (by simp))
/-- An act. -/
theorem X96 {k f a b c : Int} {Q : Int → Int → H → Prop} (m : PM h bp bf n res xs) (g : GF xs n) (ha : -9223372036854775808 ≤ a ∧ a ≤ 9223372036854775807)
    (q : ∀ r e ys h', sAct xs n res k f a b c = (r, e, ys) → KB h bf h' → PM h' bp bf n res ys → Q r e h') : F96 (some ⟨bp, 0, none⟩) k f a b c Q h := by
  rw [F96_eq]
  refine Nw_intro fun w h2 hw k2 e2 => ?_
  have m2 := m.kept k2
  simp only [add_mk, JoinM]
  refine Ld_i (x := k) (by rw [hcell_blk e2]; rfl) ?_
  refine Br_beq_int (fun e => Ld_i (x := a) (by rw [hcell_blk e2]; rfl) (Ld_i (x := b) (by rw [hcell_blk e2]; rfl) (Ld_i (x := c) (by rw [hcell_blk e2]; rfl) (X76 m2 g fun r e' ys h' hs u m' => q r e' ys h' (by unfold sAct; rw [if_pos e, hs]) (k2.kb.trans u) m')))) fun h0 => ?_
  refine Br_beq_int (fun e => Ld_i (x := f) (by rw [hcell_blk e2]; rfl) (X77 m2 fun e' ys h' hs u m' => q 0 e' ys h' (by unfold sAct; rw [if_neg h0, if_pos e, hs]) (k2.kb.trans u) m')) fun h1 => ?_
  refine Br_beq_int (fun e => Ld_i (x := f) (by rw [hcell_blk e2]; rfl) (Ld_i (x := a) (by rw [hcell_blk e2]; rfl) (Ld_i (x := b) (by rw [hcell_blk e2]; rfl) (Ld_i (x := c) (by rw [hcell_blk e2]; rfl) (X104 m2 fun e' ys h' hs u m' => q 0 e' ys h' (by unfold sAct; rw [if_neg h0, if_neg h1, if_pos e, hs]) (k2.kb.trans u) m'))))) fun h2' => ?_
  refine Br_beq_int (fun e => Ld_i (x := f) (by rw [hcell_blk e2]; rfl) (Ld_i (x := a) (by rw [hcell_blk e2]; rfl) (X102 m2 g ha fun e' ys h' hs u m' => q 0 e' ys h' (by unfold sAct; rw [if_neg h0, if_neg h1, if_neg h2', if_pos e, hs]) (k2.kb.trans u) m'))) fun h3 => ?_
  refine Br_beq_int (fun e => Ld_i (x := f) (by rw [hcell_blk e2]; rfl) (Ld_i (x := a) (by rw [hcell_blk e2]; rfl) (X103 m2 g ha fun e' ys h' hs u m' => q 0 e' ys h' (by unfold sAct; rw [if_neg h0, if_neg h1, if_neg h2', if_neg h3, if_pos e, hs]) (k2.kb.trans u) m'))) fun h4 => ?_
  exact q 0 0 xs h2 (by unfold sAct; rw [if_neg h0, if_neg h1, if_neg h2', if_neg h3, if_neg h4]) k2.kb m2
end
end Go.Proofs.Ytfijchofplkcoaa
