/-
  Give and Get of a pool of frames; the law FramesReserve over the heap predicates.
-/
import Derived.Test.YtfijchofplkcoaaIa
set_option linter.unusedVariables false
set_option linter.unusedSimpArgs false
set_option maxRecDepth 100000
namespace Go.Proofs.Ytfijchofplkcoaa

theorem set5_len (xs : List Int) (j : Nat) (a b c d e : Int) : (set5 xs j a b c d e).length = xs.length := by simp [set5]
theorem getD_set (xs : List Int) (i k : Nat) (v : Int) (hi : i < xs.length) : (xs.set i v).getD k 0 = if i = k then v else xs.getD k 0 := by
  rw [List.getD_eq_getElem?_getD, List.getD_eq_getElem?_getD, List.getElem?_set]
  split
  · rename_i e; subst e; first | rfl | (rw [if_pos hi]; rfl)
  · rfl
theorem set5_get (xs : List Int) (j k t : Nat) (a b c d e : Int) (hj : 5 * j + 5 ≤ xs.length) (ht : t < 5) :
    (set5 xs j a b c d e).getD (5 * k + t) 0 = if k = j then [a, b, c, d, e].getD t 0 else xs.getD (5 * k + t) 0 := by
  unfold set5
  rw [getD_set _ _ _ _ (by simp; omega), getD_set _ _ _ _ (by simp; omega), getD_set _ _ _ _ (by simp; omega), getD_set _ _ _ _ (by simp; omega), getD_set _ _ _ _ (by omega)]
  by_cases h : k = j
  · subst h
    rw [if_pos rfl]
    have : t = 0 ∨ t = 1 ∨ t = 2 ∨ t = 3 ∨ t = 4 := by omega
    rcases this with rfl | rfl | rfl | rfl | rfl <;> simp
  · rw [if_neg h, if_neg (by omega), if_neg (by omega), if_neg (by omega), if_neg (by omega), if_neg (by omega)]
theorem set5_z5 (xs : List Int) (j k : Nat) (a b c d e : Int) (hj : 5 * j + 5 ≤ xs.length) : z5 (set5 xs j a b c d e) k = if k = j then ((a == 0) && ((b == 0) && ((c == 0) && ((d == 0) && ((e == 0) && true))))) else z5 xs k := by
  unfold z5
  have g := fun t ht => set5_get xs j k t a b c d e hj ht
  have g0 := g 0 (by omega)
  rw [Nat.add_zero] at g0
  rw [g0, g 1 (by omega), g 2 (by omega), g 3 (by omega), g 4 (by omega)]
  split <;> rfl

section
variable {h : H} {bp bf n : Nat} {res : Int} {xs : List Int}
theorem C163 {j : Nat} {Q : Int → H → Prop} (m : PM h bp bf n res xs) (hj : j < n)
    (q : ∀ h', xs.getD (5 * j + 3) 0 = 0 → xs.getD (5 * j + 4) 0 = 0 → Upd h bf h' → PM h' bp bf n res (set5 xs j 0 0 0 0 0) → Q 0 h')
    (q8 : ¬ (xs.getD (5 * j + 3) 0 = 0 ∧ xs.getD (5 * j + 4) 0 = 0) → Q 8 h) : F163 (some ⟨bf, j * 5, none⟩) Q h := by
  rw [F163_eq]
  unfold B163
  simp only [JoinM, NilP, add_mk, Nat.add_zero]
  have hl := m.len
  refine Ld_i (m.f hj (d := 3) (by omega)) (Br_bne_int (fun hh => q8 fun a => hh a.1) fun e3 => ?_)
  refine Ld_i (m.f hj (d := 4) (by omega)) (Br_bne_int (fun hh => q8 fun a => hh a.2) fun e4 => ?_)
  rw [Nat.mul_comm j 5]
  refine St_I m.row (by omega) fun h5 u5 e5 => St_I e5 (by simp; omega) fun h6 u6 e6 => St_I e6 (by simp; omega) fun h7 u7 e7 => St_I e7 (by simp; omega) fun h8 u8 e8 => St_I e8 (by simp; omega) fun h9 u9 e9 => ?_
  have u := ((((u5.trans u6).trans u7).trans u8).trans u9)
  exact q h9 e3 e4 u (m.set u e9 (by simp [set5]))
theorem C77 {i : Int} {Q : Int → H → Prop} (m : PM h bp bf n res xs)
    (q : ∀ (j : Nat) h', i = (j : Int) → j < n → xs.getD (5 * j) 0 ≠ 0 → xs.getD (5 * j + 3) 0 = 0 → xs.getD (5 * j + 4) 0 = 0 → Upd h bf h' → PM h' bp bf n res (set5 xs j 0 0 0 0 0) → Q 0 h')
    (q8 : ∀ j : Nat, i = (j : Int) → j < n → xs.getD (5 * j) 0 ≠ 0 → ¬ (xs.getD (5 * j + 3) 0 = 0 ∧ xs.getD (5 * j + 4) 0 = 0) → Q 8 h)
    (q2 : ∀ j : Nat, i = (j : Int) → j < n → xs.getD (5 * j) 0 = 0 → Q 2 h)
    (q7 : ¬ (0 ≤ i ∧ i < n) → Q 7 h) : F77 (some ⟨bp, 0, none⟩) i Q h := by
  have hn := m.le
  rw [F77_eq]
  unfold B77
  rw [F162Give_eq]
  refine C159 m ?_
  simp only [Bool.not_true, Br_false, NilP, add_mk, Nat.add_zero]
  refine Br_dec (fun hh => q7 (by omega)) fun h0 => ?_
  refine Ld_s (x := ⟨some ⟨bf, 0, none⟩, n, n⟩) m.c0 (Br_dec (fun hh => q7 (by simp at hh; omega)) fun h1 => ?_)
  obtain ⟨j, rfl⟩ := Int.eq_ofNat_of_zero_le (show 0 ≤ i by omega)
  have hjn : j < n := by simp at h1; omega
  refine Ld_s (x := ⟨some ⟨bf, 0, none⟩, n, n⟩) m.c0 ⟨⟨by omega, by simp; omega⟩, ?_⟩
  simp only [add_mk, Int.toNat_natCast, Nat.zero_add]
  refine Ld_i (m.f hjn (d := 0) (by omega)) (Br_beq_int (fun e => q2 j rfl hjn e) fun e => ?_)
  refine Ld_s (x := ⟨some ⟨bf, 0, none⟩, n, n⟩) m.c0 ⟨⟨by omega, by simp; omega⟩, ?_⟩
  simp only [add_mk, Int.toNat_natCast, Nat.zero_add]
  exact C163 m hjn (fun h' e3 e4 u m' => q j h' rfl hjn e e3 e4 u m') fun e8 => q8 j rfl hjn e e8
theorem C78 {j : Nat} {Q : Int → Int → Int → Int → Int → Bool → H → Prop} (m : PM h bp bf n res xs) (hj : j < n)
    (q : ∀ h', Kept h h' → Q (xs.getD (5 * j + 0) 0) (xs.getD (5 * j + 1) 0) (xs.getD (5 * j + 2) 0) (xs.getD (5 * j + 3) 0) (xs.getD (5 * j + 4) 0) true h') : F78 (some ⟨bp, 0, none⟩) j Q h := by
  rw [F78_eq]
  refine Nw_intro fun w h1 hw k1 e1 => ?_
  rw [zero72] at e1
  have e1' : IL h1 w 72 [0, 0, 0, 0, 0] := e1
  have m1 := m.kept k1
  refine C159 m1 ?_
  simp only [Bool.not_true, Br_false, NilP, add_mk, Nat.add_zero]
  refine Br_dec (fun hh => absurd hh (by omega)) fun _ => ?_
  refine Ld_s (x := ⟨some ⟨bf, 0, none⟩, n, n⟩) m1.c0 (Br_dec (fun hh => absurd hh (by simp; omega)) fun _ => ?_)
  refine Ld_s (x := ⟨some ⟨bf, 0, none⟩, n, n⟩) m1.c0 ⟨⟨by omega, by simp; omega⟩, ?_⟩
  simp only [add_mk, Int.toNat_natCast, Nat.zero_add]
  refine Ld_i (m1.f hj (d := 0) (by omega)) (Ld_i (m1.f hj (d := 1) (by omega)) (Ld_i (m1.f hj (d := 2) (by omega)) (Ld_i (m1.f hj (d := 3) (by omega)) (Ld_i (m1.f hj (d := 4) (by omega)) ?_))))
  refine St_I e1' (by simp) fun h2 u2 e2 => St_I e2 (by simp) fun h3 u3 e3 => St_I e3 (by simp) fun h4 u4 e4 => St_I e4 (by simp) fun h5 u5 e5 => St_I e5 (by simp) fun h6 u6 e6 => ?_
  have K6 : Kept h h6 := u6.kept (u5.kept (u4.kept (u3.kept (u2.kept k1 (by omega)) (by omega)) (by omega)) (by omega)) (by omega)
  refine Ld_i (x := xs.getD (5 * j + 0) 0) (by rw [hcell_blk e6]; simp [VI]) (Ld_i (x := xs.getD (5 * j + 1) 0) (by rw [hcell_blk e6]; simp [VI]) (Ld_i (x := xs.getD (5 * j + 2) 0) (by rw [hcell_blk e6]; simp [VI]) (Ld_i (x := xs.getD (5 * j + 3) 0) (by rw [hcell_blk e6]; simp [VI]) (Ld_i (x := xs.getD (5 * j + 4) 0) (by rw [hcell_blk e6]; simp [VI]) (q h6 K6)))))
end

/-- The first frames are taken, the others are nothing. -/
structure Inv (xs : List Int) (n i : Nat) : Prop where
  used : ∀ j, j < n → j < i → xs.getD (5 * j) 0 ≠ 0
  rest : ∀ j, j < n → i ≤ j → z5 xs j = true
  hold : ∀ j, j < n → xs.getD (5 * j + 3) 0 = 0 ∧ xs.getD (5 * j + 4) 0 = 0
theorem z5_cls {xs : List Int} {j : Nat} (h : z5 xs j = true) : xs.getD (5 * j) 0 = 0 := by
  unfold z5 at h
  simp only [Bool.and_eq_true, beq_iff_eq] at h
  exact h.1
theorem Inv.cnt {xs : List Int} {n i : Nat} (v : Inv xs n i) (hi : i ≤ n) : ∀ m, m ≤ n → cnt xs 0 m = if m ≤ i then 0 else (m : Int) - i := by
  intro m
  induction m with
  | zero => intro _; simp [Go.Proofs.Ytfijchofplkcoaa.cnt]
  | succ m ih =>
    intro hm
    simp only [Go.Proofs.Ytfijchofplkcoaa.cnt]
    rw [ih (by omega)]
    by_cases h : m < i
    · rw [if_neg (v.used m (by omega) h), if_pos (by omega), if_pos (by omega)]; rfl
    · rw [if_pos (z5_cls (v.rest m (by omega) (by omega)))]
      split <;> split <;> omega
theorem Inv.take {xs : List Int} {n i : Nat} {c o x : Int} (v : Inv xs n i) (hl : xs.length = 5 * n) (hi : i < n) (hc : c ≠ 0) : Inv (set5 xs i c o x 0 0) n (i + 1) := by
  have hb : 5 * i + 5 ≤ xs.length := by omega
  refine ⟨fun j hj hji => ?_, fun j hj hij => ?_, fun j hj => ?_⟩
  · have := set5_get xs i j 0 c o x 0 0 hb (by omega)
    rw [Nat.add_zero] at this
    rw [this]
    split
    · exact hc
    · exact v.used j hj (by omega)
  · rw [set5_z5 _ _ _ _ _ _ _ _ hb, if_neg (by omega)]; exact v.rest j hj (by omega)
  · rw [set5_get _ _ _ _ _ _ _ _ _ hb (by omega), set5_get _ _ _ _ _ _ _ _ _ hb (by omega)]
    split
    · exact ⟨rfl, rfl⟩
    · exact v.hold j hj

theorem L15 {n0 r0 g0 : Int} {Q : Bool → H → Prop} {h : H} (hn0 : 0 ≤ n0 ∧ n0 < 18446744073709551616) (hr0 : 0 ≤ r0 ∧ r0 < 18446744073709551616) (hg0 : 0 ≤ g0 ∧ g0 < 18446744073709551616)
    (q : ∀ h', Kept h h' → Q true h') : F15 n0 r0 g0 Q h := by
  rw [F15_eq]
  refine ⟨by omega, ?_⟩
  obtain ⟨n, hn⟩ : ∃ n : Nat, n = (1 + n0 % 30).toNat := ⟨_, rfl⟩
  have en : IntKind.wrap .i64 (1 + IntKind.wrap .i64 (Int.tmod n0 30)) = (n : Int) := by
    rw [Int.tmod_eq_emod_of_nonneg hn0.1, wrap_i64' (n0 % 30) (by omega) (by omega), wrap_i64' _ (by omega) (by omega)]; omega
  have hn1 : 1 ≤ n ∧ n ≤ 30 := by omega
  rw [en]
  simp only [LetI]
  have e1 : IntKind.wrap .u64 (IntKind.wrap .i64 ((n : Int) + 1)) = (n : Int) + 1 := by rw [wrap_i64' _ (by omega) (by omega), wrap_u64]; omega
  rw [e1]
  refine ⟨by omega, ?_⟩
  obtain ⟨r, hr⟩ : ∃ r : Nat, r = (r0 % ((n : Int) + 1)).toNat := ⟨_, rfl⟩
  have hrb : 0 ≤ r0 % ((n : Int) + 1) ∧ r0 % ((n : Int) + 1) < (n : Int) + 1 := ⟨Int.emod_nonneg _ (by omega), Int.emod_lt_of_pos _ (by omega)⟩
  have er : IntKind.wrap .i64 (Int.tmod r0 ((n : Int) + 1)) = (r : Int) := by
    rw [Int.tmod_eq_emod_of_nonneg hr0.1, wrap_i64' _ (by omega) (by omega)]; omega
  have hrn : r ≤ n := by omega
  rw [er]
  refine C75 (by omega) (by omega) fun bp bf h1 k1 hbp hbf m1 => ?_
  rw [show ((n : Int).toNat) = n from rfl] at m1
  simp only [Option.isNone_some, Br_false]
  have enr : IntKind.wrap .i64 ((n : Int) - (r : Int)) = ((n - r : Nat) : Int) := by rw [wrap_i64' _ (by omega) (by omega)]; omega
  rw [enr]
  have inv0 : Inv (List.replicate (5 * n) 0) n 0 := by
    have z : ∀ k, (List.replicate (5 * n) (0 : Int)).getD k 0 = 0 := by
      intro k
      rw [List.getD_eq_getElem?_getD, List.getElem?_replicate]
      split <;> rfl
    refine ⟨fun j hj hji => by omega, fun j hj _ => ?_, fun j hj => ⟨z _, z _⟩⟩
    unfold z5
    rw [z, z, z, z, z]; rfl
  refine Loop_intro (σ := Int × Unit) (x := (0, ())) (fun c z h' => ∃ i : Nat, z.1 = (i : Int) ∧ c = (n - r) - i ∧ i ≤ n - r ∧ Kept h h' ∧ ∃ xs, PM h' bp bf n r xs ∧ Inv xs n i) (n - r) ⟨0, rfl, rfl, by omega, k1, _, m1, inv0⟩ ?_
  rintro c ⟨ii, u⟩ h2 ⟨i, hi, hc, hin, K2, xs, m2, v2⟩
  simp only at hi
  subst hi
  refine Br_dec (fun hlt => ?_) fun hge => ?_
  · have hlt : i < n - r := by simp at hlt; omega
    have hcn := v2.cnt (by omega) n (by omega)
    rw [if_neg (by omega)] at hcn
    refine C76 m2 (fun j h3 _ _ hj hz hl u3 m3 => ?_) (fun h3 _ hh _ => ?_) (fun hh => absurd (by omega) hh)
    rotate_left
    · rcases hh with hh | hh
      · rw [if_neg (by omega), hcn] at hh; omega
      · have := hh i (by omega); rw [v2.rest i (by omega) (by omega)] at this; cases this
    obtain rfl : j = i := by
      have a : ¬ j < i := fun hlt' => v2.used j hj hlt' (z5_cls hz)
      have b : ¬ i < j := fun hlt' => by have := hl i hlt'; rw [v2.rest i (by omega) (by omega)] at this; cases this
      omega
    simp only [bne_self_eq_false, Br_false]
    exact ⟨(n - r) - (j + 1), by omega, j + 1, by rw [wrap_i64' _ (by omega) (by omega)]; omega, rfl, by omega, u3.kept K2 hbf, _, m3, v2.take m2.len (by omega) (by omega)⟩
  have hi : i = n - r := by simp at hge; omega
  subst hi
  have hcn := v2.cnt (by omega) n (by omega)
  refine C76 m2 (fun j h3 _ hc' hj hz hl u3 m3 => ?_) (fun h3 _ hh k3 => ?_) (fun hh => absurd (by omega) hh)
  · rw [if_neg (by omega), hcn] at hc'
    split at hc' <;> omega
  simp only [bne_self_eq_false, Br_false]
  have m3 := m2.kept k3
  refine Loop_intro (σ := Int × Unit) (x := (((n - r : Nat) : Int), ())) (fun c z h' => ∃ i : Nat, z.1 = (i : Int) ∧ c = n - i ∧ i ≤ n ∧ Kept h h' ∧ ∃ xs, PM h' bp bf n r xs ∧ Inv xs n i) (n - (n - r)) ⟨n - r, rfl, rfl, by omega, K2.trans k3, _, m3, v2⟩ ?_
  rintro c4 ⟨ii, u⟩ h4 ⟨i, hi, hc4, hin4, K4, ys, m4, v4⟩
  simp only at hi
  subst hi
  refine Br_dec (fun hlt => ?_) fun hge => ?_
  · have hlt : i < n := by simp at hlt; omega
    have hcn := v4.cnt (by omega) n (by omega)
    rw [if_neg (by omega)] at hcn
    refine C76 m4 (fun j h5 _ _ hj hz hl u5 m5 => ?_) (fun h5 _ hh _ => ?_) (fun hh => absurd (by omega) hh)
    rotate_left
    · rcases hh with hh | hh
      · rw [if_pos rfl, hcn] at hh; omega
      · have := hh i (by omega); rw [v4.rest i (by omega) (by omega)] at this; cases this
    obtain rfl : j = i := by
      have a : ¬ j < i := fun hlt' => v4.used j hj hlt' (z5_cls hz)
      have b : ¬ i < j := fun hlt' => by have := hl i hlt'; rw [v4.rest i (by omega) (by omega)] at this; cases this
      omega
    simp only [bne_self_eq_false, Br_false]
    exact ⟨n - (j + 1), by omega, j + 1, by rw [wrap_i64' _ (by omega) (by omega)]; omega, rfl, by omega, u5.kept K4 hbf, _, m5, v4.take m4.len (by omega) (by omega)⟩
  have hi : i = n := by simp at hge; omega
  subst hi
  have hcn := v4.cnt (by omega) i (by omega)
  rw [if_pos (by omega)] at hcn
  refine C76 m4 (fun j h5 _ hc' hj hz hl u5 m5 => ?_) (fun h5 _ hh k5 => ?_) (fun hh => absurd (by omega) hh)
  · rw [if_pos rfl, hcn] at hc'; omega
  simp only [bne_self_eq_false, Br_false]
  have m5 := m4.kept k5
  have K5 := K4.trans k5
  have e2 : IntKind.wrap .u64 (i : Int) = (i : Int) := by rw [wrap_u64]; omega
  rw [e2]
  refine ⟨by omega, ?_⟩
  obtain ⟨k, hk⟩ : ∃ k : Nat, k = (g0 % (i : Int)).toNat := ⟨_, rfl⟩
  have hgb : 0 ≤ g0 % (i : Int) ∧ g0 % (i : Int) < (i : Int) := ⟨Int.emod_nonneg _ (by omega), Int.emod_lt_of_pos _ (by omega)⟩
  have ek : IntKind.wrap .i64 (Int.tmod g0 (i : Int)) = (k : Int) := by
    rw [Int.tmod_eq_emod_of_nonneg hg0.1, wrap_i64' _ (by omega) (by omega)]; omega
  have hki : k < i := by omega
  rw [ek]
  simp only [JoinM]
  have hyl := m5.len
  have hb : 5 * k + 5 ≤ ys.length := by omega
  refine C77 m5 (fun j h6 hj hji _ _ _ u6 m6 => ?_) (fun j hj hji _ h8 => ?_) (fun j hj hji h2 => ?_) (fun hh => absurd (by omega) hh)
  rotate_left
  · obtain rfl : j = k := by omega
    exact absurd (v4.hold j hki) h8
  · obtain rfl : j = k := by omega
    exact absurd h2 (v4.used j hki hki)
  obtain rfl : j = k := by omega
  have K6 := u6.kb.kept K5 hbf
  simp only [bne_self_eq_false, Br_false]
  have cj : (set5 ys j 0 0 0 0 0).getD (5 * j) 0 = 0 := by
    have := set5_get ys j j 0 0 0 0 0 0 hb (by omega)
    rw [Nat.add_zero, if_pos rfl] at this
    exact this
  refine C77 m6 (fun j' h7 hj' hji' hne _ _ _ _ => ?_) (fun j' hj' hji' hne _ => ?_) (fun j' hj' hji' h2 => ?_) (fun hh => absurd (by omega) hh)
  · obtain rfl : j' = j := by omega
    exact absurd cj hne
  · obtain rfl : j' = j := by omega
    exact absurd cj hne
  simp only [bne_self_eq_false, Br_false]
  have zj : ∀ t, z5 (set5 ys j 0 0 0 0 0) t = if t = j then true else z5 ys t := fun t => by rw [set5_z5 _ _ _ _ _ _ _ _ hb]; rfl
  have zz : z5 (set5 ys j 0 0 0 0 0) j = true := by rw [zj, if_pos rfl]
  have cpos : ∀ m, j < m → 0 < cnt (set5 ys j 0 0 0 0 0) 0 m := by
    intro m
    induction m with
    | zero => intro hm; omega
    | succ m ih =>
      intro hm
      simp only [cnt]
      have := cnt_le (set5 ys j 0 0 0 0 0) 0 m
      by_cases e : j = m
      · subst e; rw [if_pos cj]; omega
      · have := ih (by omega); split <;> omega
  refine C76 m6 (fun t h8 _ _ ht hz hl u8 m8 => ?_) (fun h8 _ hh _ => ?_) (fun hh => absurd (by omega) hh)
  rotate_left
  · rcases hh with hh | hh
    · rw [if_pos rfl] at hh; have := cpos i hki; omega
    · have := hh j hki; rw [zz] at this; cases this
  obtain rfl : t = j := by
    have a : ¬ t < j := fun hlt' => by
      rw [zj, if_neg (by omega)] at hz
      exact v4.used t ht ht (z5_cls hz)
    have b : ¬ j < t := fun hlt' => by have := hl j hlt'; rw [zz] at this; cases this
    omega
  have K8 := u8.kept K6 hbf
  have g := fun s hs => set5_get (set5 ys t 0 0 0 0 0) t t s 1 1 2 0 0 (by rw [set5_len]; exact hb) hs
  refine C78 m8 hki fun h9 k9 => Nw_intro fun w h10 hw k10 e10 => ?_
  rw [g 0 (by omega), g 1 (by omega), g 2 (by omega), g 3 (by omega), g 4 (by omega)]
  simp only [if_true]
  rw [zero72] at e10
  have e10' : IL h10 w 72 [0, 0, 0, 0, 0] := e10
  simp only [add_mk]
  refine St_I e10' (by simp) fun h11 u11 e11 => St_I e11 (by simp) fun h12 u12 e12 => St_I e12 (by simp) fun h13 u13 e13 => St_I e13 (by simp) fun h14 u14 e14 => St_I e14 (by simp) fun h15 u15 e15 => ?_
  have uu := ((((u11.trans u12).trans u13).trans u14).trans u15)
  have hk8 := K8.1
  have hk9 := k9.1
  have K15 : Kept h h15 := uu.kept ((K8.trans k9).trans k10) (by omega)
  simp only [beq_self_eq_true, Br_true]
  refine Ld_i (x := 1) (by rw [hcell_blk e15]; rfl) (Ld_i (x := 1) (by rw [hcell_blk e15]; rfl) (Ld_i (x := 2) (by rw [hcell_blk e15]; rfl) (Ld_i (x := 0) (by rw [hcell_blk e15]; rfl) (Ld_i (x := 0) (by rw [hcell_blk e15]; rfl) ?_))))
  exact C79 fun h16 k16 => q h16 (K15.trans k16)
end Go.Proofs.Ytfijchofplkcoaa
