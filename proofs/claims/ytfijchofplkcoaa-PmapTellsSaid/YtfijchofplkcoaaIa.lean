/-
  What the functions of a pool of frames answer (package frames): a pool is a list of numbers, five a frame.
-/
import Derived.Test.YtfijchofplkcoaaDb
import Derived.Test.YtfijchofplkcoaaGe
set_option linter.unusedVariables false
set_option linter.unusedSimpArgs false
set_option maxRecDepth 100000
namespace Go.Proofs.Ytfijchofplkcoaa

abbrev VI (xs : List Int) : Array Value := (xs.map (Value.int .i64)).toArray
def IL (h : H) (b t : Nat) (xs : List Int) : Prop := h[b]? = some (.cells (VI xs) t)
theorem IL.cell {h : H} {b t : Nat} {xs : List Int} (e : IL h b t xs) {i : Nat} (hi : i < xs.length) : hcell h ⟨b, i, none⟩ = some (.int .i64 (xs.getD i 0)) := by
  rw [hcell_blk e]; simp [hi, List.getElem?_eq_getElem]
theorem St_I {h : H} {b t o : Nat} {xs : List Int} {v : Int} {K : H → Prop} (e : IL h b t xs) (ho : o < xs.length)
    (k : ∀ h', Upd h b h' → IL h' b t (xs.set o v) → K h') : St h ⟨b, o, none⟩ (.int .i64 v) K := by
  refine St_intro e (by simpa using ho) fun h' u e' => k h' u ?_
  unfold IL
  rw [e']
  congr 2
  simp [VI, List.map_set]

structure PM (h : H) (bp bf n : Nat) (res : Int) (xs : List Int) : Prop where
  top : h[bp]? = some (.cells #[.slice (some ⟨bf, 0, none⟩) n n, .int .i64 res] 118)
  row : IL h bf 72 xs
  len : xs.length = 5 * n
  ne : bp ≠ bf
  lo : 1 ≤ n
  le : n ≤ 256
  res0 : 0 ≤ res ∧ res ≤ n
theorem PM.kept {h h' : H} {bp bf n : Nat} {res : Int} {xs : List Int} (m : PM h bp bf n res xs) (k : Kept h h') : PM h' bp bf n res xs :=
  ⟨k.blk m.top, k.blk m.row, m.len, m.ne, m.lo, m.le, m.res0⟩
theorem PM.set {h h' : H} {bp bf n : Nat} {res : Int} {xs ys : List Int} (m : PM h bp bf n res xs) (u : Upd h bf h') (e : IL h' bf 72 ys) (hl : ys.length = xs.length) : PM h' bp bf n res ys :=
  ⟨u.blk m.top m.ne, e, hl.trans m.len, m.ne, m.lo, m.le, m.res0⟩

theorem zero72 : zeroC Try.prog 72 = VI [0, 0, 0, 0, 0] := by kernel_rfl
theorem zeros72 (n : Nat) : zerosC Try.prog 72 n = VI (List.replicate (5 * n) 0) := by
  unfold zerosC
  rw [zero72]
  apply Array.ext
  · simp [Nat.mul_comm]
  · intro i h1 h2
    simp only [Array.getElem_map]
    have : i % 5 < 5 := Nat.mod_lt _ (by omega)
    simp only [Array.getElem_range]
    have e : ∀ j, j < 5 → (VI [0, 0, 0, 0, 0])[j]! = .int .i64 0 := by
      intro j hj
      have : j = 0 ∨ j = 1 ∨ j = 2 ∨ j = 3 ∨ j = 4 := by omega
      rcases this with rfl | rfl | rfl | rfl | rfl <;> rfl
    have e2 : (VI [0, 0, 0, 0, 0]).size = 5 := rfl
    rw [e2, e _ this]
    simp
theorem C75 {n r : Int} {Q : Option Addr → H → Prop} {h : H} (h1 : 1 ≤ n ∧ n ≤ 256) (h2 : 0 ≤ r ∧ r ≤ n)
    (q : ∀ bp bf h', Kept h h' → h.size ≤ bp → h.size ≤ bf → PM h' bp bf n.toNat r (List.replicate (5 * n.toNat) 0) → Q (some ⟨bp, 0, none⟩) h') : F75 n r Q h := by
  rw [F75_eq]
  obtain ⟨k, rfl⟩ := Int.eq_ofNat_of_zero_le (show 0 ≤ n by omega)
  refine Br_dec (fun hh => by omega) fun _ => Br_dec (fun hh => by omega) fun _ => Br_dec (fun hh => by omega) fun _ => Br_dec (fun hh => by omega) fun _ => ⟨⟨by omega, by omega, by simp; omega⟩, ?_⟩
  refine Nw_intro fun b h3 hb k3 e => ?_
  rw [show ((k : Int).toNat) = k from rfl, zeros72] at e
  refine Nw_intro fun b' h4 hb' k4 e' => ?_
  have hlt : b < h3.size := (Array.getElem?_eq_some_iff.1 e).1
  have := k3.1
  exact q b' b h4 (k3.trans k4) (by omega) (by omega) ⟨e', k4.blk e, by simp, by omega, by simp; omega, by simp; omega, by simpa using h2⟩

/-- How many of the first frames are of a class. -/
def cnt (xs : List Int) (c : Int) : Nat → Int
  | 0 => 0
  | k + 1 => cnt xs c k + if xs.getD (5 * k) 0 = c then 1 else 0
theorem cnt_le (xs : List Int) (c : Int) (k : Nat) : 0 ≤ cnt xs c k ∧ cnt xs c k ≤ k := by
  induction k with
  | zero => simp [cnt]
  | succ k ih => simp only [cnt]; split <;> omega
/-- A frame that is nothing. -/
def z5 (xs : List Int) (j : Nat) : Bool := (xs.getD (5 * j) 0 == 0) && ((xs.getD (5 * j + 1) 0 == 0) && ((xs.getD (5 * j + 2) 0 == 0) && ((xs.getD (5 * j + 3) 0 == 0) && ((xs.getD (5 * j + 4) 0 == 0) && true))))
def set5 (xs : List Int) (j : Nat) (a b c d e : Int) : List Int := ((((xs.set (5 * j) a).set (5 * j + 1) b).set (5 * j + 2) c).set (5 * j + 3) d).set (5 * j + 4) e

section
variable {h : H} {bp bf n : Nat} {res : Int} {xs : List Int}
theorem PM.c0 (m : PM h bp bf n res xs) : hcell h ⟨bp, 0, none⟩ = some (.slice (some ⟨bf, 0, none⟩) n n) := by rw [hcell_blk m.top]; rfl
theorem PM.c1 (m : PM h bp bf n res xs) : hcell h ⟨bp, 1, none⟩ = some (.int .i64 res) := by rw [hcell_blk m.top]; rfl
theorem PM.f (m : PM h bp bf n res xs) {j d : Nat} (hj : j < n) (hd : d < 5) : hcell h ⟨bf, j * 5 + d, none⟩ = some (.int .i64 (xs.getD (5 * j + d) 0)) := by
  have := m.len
  rw [show j * 5 + d = 5 * j + d by omega]
  exact m.row.cell (by omega)
theorem C159 {Q : Bool → H → Prop} (m : PM h bp bf n res xs) (q : Q true h) : F159 (some ⟨bp, 0, none⟩) Q h := by
  rw [F159_eq]
  unfold B159
  simp only [Option.isNone_some, Bool.not_false, Br_true, NilP, add_mk]
  refine Ld_s (x := ⟨some ⟨bf, 0, none⟩, n, n⟩) m.c0 ?_
  have := m.lo
  rw [decide_eq_true (show (((⟨some ⟨bf, 0, none⟩, n, n⟩ : Sl).len : Nat) : Int) > 0 by simp; omega)]
  exact q
theorem C100 {c : Int} {Q : Int → H → Prop} (m : PM h bp bf n res xs) (q : ∀ h', Kept h h' → Q (cnt xs c n) h') : F100 (some ⟨bp, 0, none⟩) c Q h := by
  have hn := m.le
  rw [F100_eq]
  refine C159 m ?_
  simp only [Bool.not_true, Br_false, NilP, add_mk]
  refine Ld_s (x := ⟨some ⟨bf, 0, none⟩, n, n⟩) m.c0 ?_
  refine Loop_intro (σ := Int × Int × Unit) (x := (0, 0, ())) (fun k z h' => ∃ i : Nat, z.2.1 = (i : Int) ∧ k = n - i ∧ i ≤ n ∧ z.1 = cnt xs c i ∧ Kept h h') n ⟨0, rfl, rfl, by omega, rfl, Kept.refl h⟩ ?_
  rintro k ⟨acc, ii, u⟩ h' ⟨i, hi, hk, hin, ha, kk⟩
  simp only at hi ha
  subst hi ha
  have m' := m.kept kk
  refine Br_dec (fun hlt => ?_) fun hge => ?_
  · have hlt : i < n := by simp at hlt; omega
    refine ⟨⟨by simp, by simp; omega⟩, ?_⟩
    simp only [add_mk, Int.toNat_natCast, Nat.zero_add]
    refine Ld_i (m'.f hlt (d := 0) (by omega)) (Ld_i (m'.f hlt (d := 1) (by omega)) (Ld_i (m'.f hlt (d := 2) (by omega)) (Ld_i (m'.f hlt (d := 3) (by omega)) (Ld_i (m'.f hlt (d := 4) (by omega)) ?_))))
    refine Nw_intro fun w h1 hw k1 e1 => ?_
    rw [zero72] at e1
    simp only [add_mk]
    have e1' : IL h1 w 72 [0, 0, 0, 0, 0] := e1
    refine St_I e1' (by simp) fun h2 u2 e2 => St_I e2 (by simp) fun h3 u3 e3 => St_I e3 (by simp) fun h4 u4 e4 => St_I e4 (by simp) fun h5 u5 e5 => St_I e5 (by simp) fun h6 u6 e6 => ?_
    have hk1 := kk.1
    have K6 : Kept h h6 := u6.kept (u5.kept (u4.kept (u3.kept (u2.kept (kk.trans k1) (by omega)) (by omega)) (by omega)) (by omega)) (by omega)
    refine Ld_i (x := xs.getD (5 * i + 0) 0) (by rw [hcell_blk e6]; simp [VI]) ?_
    have hc := cnt_le xs c i
    have w1 : IntKind.wrap .i64 ((i : Int) + 1) = ((i + 1 : Nat) : Int) := by rw [wrap_i64' _ (by omega) (by omega)]; omega
    refine Br_beq_int (fun heq => ?_) fun hne => ?_
    · refine ⟨n - (i + 1), by omega, i + 1, w1, rfl, by omega, ?_, K6⟩
      show IntKind.wrap .i64 (cnt xs c i + 1) = _
      rw [wrap_i64' _ (by omega) (by omega)]
      simp only [cnt]
      rw [if_pos (by simpa using heq)]
    · refine ⟨n - (i + 1), by omega, i + 1, w1, rfl, by omega, ?_, K6⟩
      show cnt xs c i = _
      simp only [cnt]
      rw [if_neg (by simpa using hne)]; omega
  · have : i = n := by simp at hge; omega
    subst this
    exact q h' kk
theorem C161 {a b c d e : Int} {Q : Bool → H → Prop} (q : ∀ h', Kept h h' → Q ((a == 0) && ((b == 0) && ((c == 0) && ((d == 0) && ((e == 0) && true))))) h') : F161 a b c d e Q h := by
  rw [F161_eq]
  refine Nw_intro fun w h1 hw k1 e1 => ?_
  have e1' : IL h1 w 72 [a, b, c, d, e] := e1
  simp only [add_mk]
  refine Ld_i (e1'.cell (i := 0 + 0) (by simp)) (Ld_i (e1'.cell (i := 0 + 1) (by simp)) (Ld_i (e1'.cell (i := 0 + 2) (by simp)) (Ld_i (e1'.cell (i := 0 + 3) (by simp)) (Ld_i (e1'.cell (i := 0 + 4) (by simp)) ?_))))
  exact q h1 k1
theorem C160 {Q : Int → H → Prop} (m : PM h bp bf n res xs) (q : ∀ (j : Nat) h', j < n → z5 xs j = true → (∀ i, i < j → z5 xs i = false) → Kept h h' → Q j h')
    (q0 : ∀ h', (∀ i, i < n → z5 xs i = false) → Kept h h' → Q (-1) h') : F160 ⟨some ⟨bf, 0, none⟩, n, n⟩ Q h := by
  have hn := m.le
  rw [F160_eq]
  refine Loop_intro (σ := Int × Unit) (x := (0, ())) (fun k z h' => ∃ i : Nat, z.1 = (i : Int) ∧ k = n - i ∧ i ≤ n ∧ Kept h h' ∧ ∀ j, j < i → z5 xs j = false) n ⟨0, rfl, rfl, by omega, Kept.refl h, fun j hj => by omega⟩ ?_
  rintro k ⟨ii, u⟩ h' ⟨i, hi, hk, hin, kk, hz⟩
  simp only at hi
  subst hi
  have m' := m.kept kk
  refine Br_dec (fun hlt => ?_) fun hge => ?_
  · have hlt : i < n := by simp at hlt; omega
    refine ⟨⟨by simp, by simp; omega⟩, ?_⟩
    simp only [add_mk, Int.toNat_natCast, Nat.zero_add]
    refine Ld_i (m'.f hlt (d := 0) (by omega)) (Ld_i (m'.f hlt (d := 1) (by omega)) (Ld_i (m'.f hlt (d := 2) (by omega)) (Ld_i (m'.f hlt (d := 3) (by omega)) (Ld_i (m'.f hlt (d := 4) (by omega)) (C161 fun h2 k2 => ?_)))))
    have e : ((xs.getD (5 * i + 0) 0 == 0) && ((xs.getD (5 * i + 1) 0 == 0) && ((xs.getD (5 * i + 2) 0 == 0) && ((xs.getD (5 * i + 3) 0 == 0) && ((xs.getD (5 * i + 4) 0 == 0) && true))))) = z5 xs i := rfl
    rw [e]
    cases hzi : z5 xs i
    · refine ⟨n - (i + 1), by omega, i + 1, by show IntKind.wrap .i64 ((i : Int) + 1) = _; rw [wrap_i64' _ (by omega) (by omega)]; omega, rfl, by omega, kk.trans k2, fun j hj => ?_⟩
      by_cases e : j = i
      · subst e; exact hzi
      · exact hz j (by omega)
    · exact q i h2 hlt hzi hz (kk.trans k2)
  · have : i = n := by simp at hge; omega
    subst this
    exact q0 h' hz kk
theorem C76 {c o i : Int} {Q : Int → Int → H → Prop} (m : PM h bp bf n res xs)
    (q : ∀ (j : Nat) h', 1 ≤ c ∧ c ≤ 4 → (if c = 1 then 0 else res) < cnt xs 0 n → j < n → z5 xs j = true → (∀ i, i < j → z5 xs i = false) → KB h bf h' → PM h' bp bf n res (set5 xs j c o i 0 0) → Q j 0 h')
    (q5 : ∀ h', 1 ≤ c ∧ c ≤ 4 → (cnt xs 0 n ≤ (if c = 1 then 0 else res) ∨ ∀ i, i < n → z5 xs i = false) → Kept h h' → Q 0 5 h')
    (q2 : ¬ (1 ≤ c ∧ c ≤ 4) → Q 0 2 h) : F76 (some ⟨bp, 0, none⟩) c o i Q h := by
  rw [F76_eq]
  refine C159 m ?_
  simp only [Bool.not_true, Br_false, JoinM]
  refine Br_dec (fun hh => q2 (by omega)) fun h1 => Br_dec (fun hh => q2 (by omega)) fun h2 => ?_
  simp only [NilP, add_mk, LetI]
  refine Ld_i m.c1 ?_
  have body : ∀ kept : Int, kept = (if c = 1 then 0 else res) → F98 (some ⟨bp, 0, none⟩) (fun r12 h13 => Br (decide (r12 ≤ kept)) (Q 0 5 h13)
      (Ld .s h13 ⟨bp, 0 + 0 + 0, none⟩ fun x15 => F160 x15 (fun r16 h17 => Br (decide (r16 < 0)) (Q 0 5 h17)
        (Ld .s h17 ⟨bp, 0 + 0 + 0, none⟩ fun x20 => IdxS x20.a x20.len r16 fun a21 =>
          St h17 ((a21.add (Int.toNat r16 * 5)).add 0) (.int .i64 c) fun h22 =>
          St h22 ((a21.add (Int.toNat r16 * 5)).add 1) (.int .i64 o) fun h23 =>
          St h23 ((a21.add (Int.toNat r16 * 5)).add 2) (.int .i64 i) fun h24 =>
          St h24 ((a21.add (Int.toNat r16 * 5)).add 3) (.int .i64 0) fun h25 =>
          St h25 ((a21.add (Int.toNat r16 * 5)).add 4) (.int .i64 0) fun h26 => Q r16 0 h26)) h13)) h := by
    intro kept hk
    rw [F98_eq]
    refine C100 m fun h3 k3 => ?_
    simp only [LetI]
    have m3 := m.kept k3
    refine Br_dec (fun hle => q5 h3 ⟨by omega, by omega⟩ (.inl (by rw [← hk]; exact hle)) k3) fun hgt => ?_
    refine Ld_s (x := ⟨some ⟨bf, 0, none⟩, n, n⟩) m3.c0 (C160 m3 (fun j h4 hj hz hl k4 => ?_) fun h4 hz k4 => ?_)
    · refine Br_dec (fun hh => by omega) fun _ => ?_
      have m4 := m3.kept k4
      refine Ld_s (x := ⟨some ⟨bf, 0, none⟩, n, n⟩) m4.c0 ⟨⟨by simp, by simp; omega⟩, ?_⟩
      simp only [add_mk, Int.toNat_natCast, Nat.zero_add, Nat.mul_comm j 5, Nat.add_zero]
      have hl4 := m4.len
      refine St_I m4.row (by omega) fun h5 u5 e5 => St_I e5 (by simp; omega) fun h6 u6 e6 => St_I e6 (by simp; omega) fun h7 u7 e7 => St_I e7 (by simp; omega) fun h8 u8 e8 => St_I e8 (by simp; omega) fun h9 u9 e9 => ?_
      have u := ((((u5.trans u6).trans u7).trans u8).trans u9)
      exact q j h9 ⟨by omega, by omega⟩ (by rw [← hk]; omega) hj hz hl ((k3.trans k4).kb.trans u.kb) (m4.set u e9 (by simp [set5]))
    · exact Br_dec (fun _ => q5 h4 ⟨by omega, by omega⟩ (.inr hz) (k3.trans k4)) fun hh => absurd (by omega) hh
  refine Br_beq_int (fun he => body 0 (by rw [if_pos he])) fun hne => body res (by rw [if_neg hne])

theorem C79 {Q : Bool → H → Prop} {h : H} (q : ∀ h', Kept h h' → Q true h') : F79 Q h := by
  rw [F79_eq]
  refine C75 (by omega) (by omega) fun bp bf h1 k1 hbp hbf m1 => ?_
  have m1 : PM h1 bp bf 3 1 [0, 0, 0, 0, 0, 0, 0, 0, 0, 0, 0, 0, 0, 0, 0] := m1
  refine C76 m1 (fun j h2 _ _ hj hz hl u2 m2 => ?_) (fun h2 _ hh _ => ?_) (fun hh => absurd (by omega) hh)
  rotate_left
  · rcases hh with hh | hh
    · exact absurd hh (by decide)
    · exact absurd (hh 0 (by omega)) (by decide)
  obtain rfl : j = 0 := by
    by_cases e : j = 0
    · exact e
    · exact absurd (hl 0 (by omega)) (by decide)
  have K2 := u2.kept k1 hbf
  have m2 : PM h2 bp bf 3 1 [2, 1, 0, 0, 0, 0, 0, 0, 0, 0, 0, 0, 0, 0, 0] := m2
  refine C76 m2 (fun j h3 _ _ hj hz hl u3 m3 => ?_) (fun h2 _ hh _ => ?_) (fun hh => absurd (by omega) hh)
  rotate_left
  · rcases hh with hh | hh
    · exact absurd hh (by decide)
    · exact absurd (hh 1 (by omega)) (by decide)
  obtain rfl : j = 1 := by
    have h0 : j ≠ 0 := by intro e; subst e; exact absurd hz (by decide)
    by_cases e : j = 1
    · exact e
    · exact absurd (hl 1 (by omega)) (by decide)
  have K3 := u3.kept K2 hbf
  have m3 : PM h3 bp bf 3 1 [2, 1, 0, 0, 0, 2, 1, 0, 0, 0, 0, 0, 0, 0, 0] := m3
  refine C76 m3 (fun j h4 _ hc hj hz hl u4 m4 => absurd hc (by decide)) (fun h4 _ hh k4 => ?_) (fun hh => absurd (by omega) hh)
  have m4 := m3.kept k4
  refine C76 m4 (fun j h5 _ _ hj hz hl u5 m5 => ?_) (fun h2 _ hh _ => ?_) (fun hh => absurd (by omega) hh)
  rotate_left
  · rcases hh with hh | hh
    · exact absurd hh (by decide)
    · exact absurd (hh 2 (by omega)) (by decide)
  obtain rfl : j = 2 := by
    have h0 : j ≠ 0 := by intro e; subst e; exact absurd hz (by decide)
    have h1 : j ≠ 1 := by intro e; subst e; exact absurd hz (by decide)
    omega
  exact q h5 (u5.kept (K3.trans k4) hbf)
end
end Go.Proofs.Ytfijchofplkcoaa
