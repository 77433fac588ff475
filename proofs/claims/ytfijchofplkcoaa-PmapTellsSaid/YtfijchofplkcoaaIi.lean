/-
  The law FramesActs over the heap predicates.
-/
import Derived.Test.YtfijchofplkcoaaIh
set_option linter.unusedVariables false
set_option linter.unusedSimpArgs false
set_option maxRecDepth 100000
namespace Go.Proofs.Ytfijchofplkcoaa

theorem N75 {n r : Int} {Q : Option Addr → H → Prop} {h : H} (hn : ¬ ((1 ≤ n ∧ n ≤ 256) ∧ (0 ≤ r ∧ r ≤ n))) (q : Q none h) : F75 n r Q h := by
  rw [F75_eq]
  refine Br_dec (fun hh => q) fun _ => Br_dec (fun hh => q) fun _ => Br_dec (fun hh => q) fun _ => Br_dec (fun hh => q) fun _ => ?_
  exact absurd ⟨⟨by omega, by omega⟩, ⟨by omega, by omega⟩⟩ hn
theorem N95 {n r : Int} {Q : Option Addr → H → Prop} {h : H} (hn : ¬ ((1 ≤ n ∧ n ≤ 256) ∧ (0 ≤ r ∧ r ≤ n))) (q : Q none h) : F95 n r Q h := by
  rw [F95_eq]
  refine Br_dec (fun hh => q) fun _ => Br_dec (fun hh => q) fun _ => Br_dec (fun hh => q) fun _ => Br_dec (fun hh => q) fun _ => ?_
  exact absurd ⟨⟨by omega, by omega⟩, ⟨by omega, by omega⟩⟩ hn
theorem C95 {n r : Int} {ex : List Nat} {Q : Option Addr → H → Prop} {h : H} (h1 : 1 ≤ n ∧ n ≤ 256) (h2 : 0 ≤ r ∧ r ≤ n) (hex : ∀ b ∈ ex, b < h.size)
    (q : ∀ rp h', Kept h h' → h.size ≤ rp → RM h' rp ex n.toNat r (List.replicate (5 * n.toNat) 0) → Q (some ⟨rp, 0, none⟩) h') : F95 n r Q h := by
  rw [F95_eq]
  obtain ⟨k, rfl⟩ := Int.eq_ofNat_of_zero_le (show 0 ≤ n by omega)
  refine Br_dec (fun hh => by omega) fun _ => Br_dec (fun hh => by omega) fun _ => Br_dec (fun hh => by omega) fun _ => Br_dec (fun hh => by omega) fun _ => ⟨⟨by omega, by omega, by simp; omega⟩, ?_⟩
  refine Nw_intro fun b h3 hb k3 e => ?_
  rw [show ((k : Int).toNat) = k from rfl, zeros111] at e
  refine Nw_intro fun b' h4 hb' k4 e' => ?_
  have hlt : b < h3.size := (Array.getElem?_eq_some_iff.1 e).1
  have := k3.1
  exact q b' h4 (k3.trans k4) (by omega) ⟨b, k, List.replicate (5 * k) 0, ⟨e', k4.blk e, by simp, by omega⟩, by simp, fun hm => absurd (hex _ hm) (by omega)⟩

section
variable {h : H} {bp bf n : Nat} {res : Int} {xs : List Int}
theorem PM.kbo {h' : H} {b : Nat} (m : PM h bp bf n res xs) (k : KB h b h') (h1 : bp ≠ b) (h2 : bf ≠ b) : PM h' bp bf n res xs :=
  ⟨k.blk m.top h1, k.blk m.row h2, m.len, m.ne, m.lo, m.le, m.res0⟩
theorem X78 {i : Int} {Q : Int → Int → Int → Int → Int → Bool → H → Prop} (m : PM h bp bf n res xs)
    (q : ∀ (j : Nat) h', i = (j : Int) → j < n → Kept h h' → Q (xs.getD (5 * j + 0) 0) (xs.getD (5 * j + 1) 0) (xs.getD (5 * j + 2) 0) (xs.getD (5 * j + 3) 0) (xs.getD (5 * j + 4) 0) true h')
    (q0 : ∀ h', ¬ (0 ≤ i ∧ i < n) → Kept h h' → Q 0 0 0 0 0 false h') : F78 (some ⟨bp, 0, none⟩) i Q h := by
  by_cases hin : 0 ≤ i ∧ i < n
  · obtain ⟨j, rfl⟩ := Int.eq_ofNat_of_zero_le hin.1
    exact C78 m (by omega) fun h' k => q j h' rfl (by omega) k
  · rw [F78_eq]
    refine Nw_intro fun w h1 hw k1 e1 => ?_
    rw [zero72] at e1
    have m1 := m.kept k1
    refine C159 m1 ?_
    simp only [Bool.not_true, Br_false, NilP, add_mk, Nat.add_zero]
    have fin : St h1 ⟨w, 0, none⟩ (.int .i64 0) fun h8 => St h8 ⟨w, 0 + 1, none⟩ (.int .i64 0) fun h9 => St h9 ⟨w, 0 + 2, none⟩ (.int .i64 0) fun h10 => St h10 ⟨w, 0 + 3, none⟩ (.int .i64 0) fun h11 => St h11 ⟨w, 0 + 4, none⟩ (.int .i64 0) fun h12 =>
        Ld (.i .i64) h12 ⟨w, 0, none⟩ fun x13 => Ld (.i .i64) h12 ⟨w, 0 + 1, none⟩ fun x14 => Ld (.i .i64) h12 ⟨w, 0 + 2, none⟩ fun x15 => Ld (.i .i64) h12 ⟨w, 0 + 3, none⟩ fun x16 => Ld (.i .i64) h12 ⟨w, 0 + 4, none⟩ fun x17 => Q x13 x14 x15 x16 x17 false h12 := by
      refine put5 e1 fun h6 u6 e6 => ?_
      have K6 : Kept h h6 := u6.kept k1 (by omega)
      exact Ld_i (x := 0) (by rw [hcell_blk e6]; rfl) (Ld_i (x := 0) (by rw [hcell_blk e6]; rfl) (Ld_i (x := 0) (by rw [hcell_blk e6]; rfl) (Ld_i (x := 0) (by rw [hcell_blk e6]; rfl) (Ld_i (x := 0) (by rw [hcell_blk e6]; rfl) (q0 h6 hin K6)))))
    refine Br_dec (fun _ => fin) fun h0 => ?_
    refine Ld_s (x := ⟨some ⟨bf, 0, none⟩, n, n⟩) m1.c0 (Br_dec (fun _ => fin) fun hh => absurd hh (by simp; omega))
end

structure S20 (h0 : H) (bp bf rp n : Nat) (res : Int) (h' : H) : Prop where
  kept : Kept h0 h'
  both : ∃ xs, PM h' bp bf n res xs ∧ RM h' rp [bf, bp] n res xs ∧ GF xs n
theorem S20.k {h0 h h' : H} {bp bf rp n : Nat} {res : Int} (s : S20 h0 bp bf rp n res h) (k : Kept h h') : S20 h0 bp bf rp n res h' := by
  obtain ⟨k0, xs, m, r, g⟩ := s
  exact ⟨k0.trans k, xs, m.kept k, r.kept k, g⟩

theorem L20 {n0 r0 : Int} {a1 : Option Addr} {l1 c1 : Nat} {Q : Bool → H → Prop} {h : H} (o1 : Opn h (.slice D5) [.slice a1 l1 c1])
    (q : ∀ h', Kept h h' → Q true h') : F20 n0 r0 ⟨a1, l1, c1⟩ Q h := by
  have acts := Acts5.of o1
  have liv : ∀ h', Kept h h' → F79 (fun r6 h7 => Q r6 h7) h' := fun h' k => C79 fun h9 k9 => q h9 (k.trans k9)
  rw [F20_eq]
  by_cases hv : (1 ≤ n0 ∧ n0 ≤ 256) ∧ (0 ≤ r0 ∧ r0 ≤ n0)
  rotate_left
  · exact N75 hv (N95 hv (liv h (Kept.refl h)))
  refine C75 hv.1 hv.2 fun bp bf h1 k1 hbp hbf m1 => ?_
  have hbf1 : bf < h1.size := (Array.getElem?_eq_some_iff.1 (show h1[bf]? = some _ from m1.row)).1
  have hbp1 : bp < h1.size := (Array.getElem?_eq_some_iff.1 m1.top).1
  refine C95 (ex := [bf, bp]) hv.1 hv.2 (by simp; omega) fun rp h2 k2 hrp r2 => ?_
  obtain ⟨n, hn⟩ : ∃ n : Nat, n0 = (n : Int) := Int.eq_ofNat_of_zero_le (show 0 ≤ n0 by omega)
  subst hn
  simp only [Int.toNat_natCast] at m1 r2
  have m2 := m1.kept k2
  have K2 := k1.trans k2
  have hn1 : 1 ≤ n ∧ n ≤ 256 := by omega
  simp only [JoinM, Option.isNone_some, Br_false, beq_self_eq_true, Bool.not_true]
  have g1 : GF (List.replicate (5 * n) 0) n := by
    have z : ∀ k, (List.replicate (5 * n) (0 : Int)).getD k 0 = 0 := by
      intro k
      rw [List.getD_eq_getElem?_getD, List.getElem?_replicate]
      split <;> rfl
    refine ⟨fun j _ => by rw [z]; omega, fun j _ _ => ?_, fun j _ => by rw [z]; omega, fun j _ => by rw [z]; omega⟩
    unfold z5
    rw [z, z, z, z, z]; rfl
  refine Br_dec (fun _ => liv h2 K2) fun hl150 => ?_
  have hl150 : l1 ≤ 150 := by simp at hl150; omega
  refine Loop_intro (σ := Int × Unit) (x := (0, ())) (fun c z h' => ∃ i : Nat, z.1 = (i : Int) ∧ c = l1 - i ∧ i ≤ l1 ∧ S20 h bp bf rp n r0 h') l1 ⟨0, rfl, rfl, by omega, K2, _, m2, r2, g1⟩ ?_
  rintro d ⟨ii, u⟩ h3 ⟨i, hi, hd, hil, S3⟩
  simp only at hi
  subst hi
  obtain ⟨K3, xs, m3, r3, g3⟩ := S3
  have hxl := m3.len
  refine Br_dec (fun hlt => ?_) fun _ => ?_
  · have hlt : i < l1 := by simp at hlt; omega
    obtain ⟨ad, had, k, f, a, b, c, hra, g_0, g_1, g_2, g_3, g_4⟩ := acts.kept K3 i hlt
    simp only at had
    simp only [had]
    refine ⟨⟨by omega, by omega⟩, ?_⟩
    simp only [add_add, Int.toNat_natCast]
    refine Ld_i g_0 (Ld_i g_1 (Ld_i g_2 (Ld_i g_3 (Ld_i g_4 (Nw_intro fun w h4 hw k4 e4 => ?_)))))
    rw [zero108] at e4
    simp only [add_mk]
    refine put5 e4 fun h5 u5 e5 => ?_
    have k35 : Kept h3 h5 := u5.kept k4 (by omega)
    have K5 := K3.trans k35
    have m5 := m3.kept k35
    have r5 := r3.kept k35
    have hbf3 : bf < h3.size := (Array.getElem?_eq_some_iff.1 (show h3[bf]? = some _ from m3.row)).1
    have hbp3 : bp < h3.size := (Array.getElem?_eq_some_iff.1 m3.top).1
    have hrp3 : rp < h3.size := by obtain ⟨_, _, _, r, _⟩ := r3; exact (Array.getElem?_eq_some_iff.1 r.top).1
    have hk35 := k35.1
    refine Ld_i (x := k) (by rw [hcell_blk e5]; rfl) (Ld_i (x := f) (by rw [hcell_blk e5]; rfl) (Ld_i (x := a) (by rw [hcell_blk e5]; rfl) (Ld_i (x := b) (by rw [hcell_blk e5]; rfl) (Ld_i (x := c) (by rw [hcell_blk e5]; rfl) ?_))))
    refine X96 m5 g3 hra fun r e ys h6 hs6 u6 m6 => ?_
    have e6 : IL h6 w 108 [k, f, a, b, c] := u6.blk e5 (by omega)
    have r6 := r5.kb u6 (by omega) (by simp)
    have hu6 := u6.1
    simp only [LetI]
    refine Ld_i (x := k) (by rw [hcell_blk e6]; rfl) (Ld_i (x := f) (by rw [hcell_blk e6]; rfl) (Ld_i (x := a) (by rw [hcell_blk e6]; rfl) (Ld_i (x := b) (by rw [hcell_blk e6]; rfl) (Ld_i (x := c) (by rw [hcell_blk e6]; rfl) ?_))))
    refine Y97 r6 g3 (by omega) hn1.2 (by simp; omega) fun r' e' ys' h7 hs7 u7 r7 => ?_
    rw [hs6] at hs7
    simp only [Prod.mk.injEq] at hs7
    obtain ⟨rfl, rfl, rfl⟩ := hs7
    have e7 : IL h7 w 108 [k, f, a, b, c] := u7.blk e6 (by omega)
    have m7 := m6.kbo u7 (by omega) (by omega)
    have g7 : GF ys n := by
      have := (sAct_g (res := r0) (k := k) (f := f) (a := a) (b := b) (c := c) g3 hxl (by omega)).1
      rw [hs6] at this; exact this
    have K7 : Kept h h7 := u7.kept (u6.kept K5 hbf) (by omega)
    simp only [bne_self_eq_false, Br_false]
    rw [F98_eq]
    refine C100 m7 fun h8 k8 => C99 (r7.kept k8) hn1.2 fun h9 k9 => ?_
    have k79 := k8.trans k9
    simp only [LetI, bne_self_eq_false, Br_false]
    have e9 : IL h9 w 108 [k, f, a, b, c] := k79.blk e7
    refine Ld_i (x := a) (by rw [hcell_blk e9]; rfl) (Ld_i (x := a) (by rw [hcell_blk e9]; rfl) ?_)
    refine C100 (m7.kept k79) fun h10 k10 => ?_
    have e10 : IL h10 w 108 [k, f, a, b, c] := k10.blk e9
    refine ⟨by rw [hcell_blk e10]; rfl, C99 (r7.kept (k79.trans k10)) hn1.2 fun h11 k11 => ?_⟩
    have k711 := (k79.trans k10).trans k11
    simp only [bne_self_eq_false, Br_false]
    exact ⟨l1 - (i + 1), by omega, i + 1, by show IntKind.wrap .i64 ((i : Int) + 1) = _; rw [wrap_i64' _ (by omega) (by omega)]; omega, rfl, by omega, K7.trans k711, ys, m7.kept k711, r7.kept k711, g7⟩
  · refine Loop_intro (σ := Int × Unit) (x := (-1, ())) (fun c z h' => ∃ i : Nat, z.1 = (i : Int) - 1 ∧ c = n + 2 - i ∧ i ≤ n + 2 ∧ Kept h3 h') (n + 2) ⟨0, rfl, rfl, by omega, Kept.refl h3⟩ ?_
    rintro c ⟨jj, u⟩ h4 ⟨j, hj, hc, hjn, k4⟩
    simp only at hj
    subst hj
    refine Br_dec (fun hle => ?_) fun hgt => liv h4 (K3.trans k4)
    have hle : j < n + 2 := by simp at hle; omega
    have fin : ∀ (h5 h8 : H) (v0 v1 v2 v3 v4 : Int) (B : Bool) (w v : Nat), Kept h3 h8 → IL h8 w 72 [v0, v1, v2, v3, v4] → IL h8 v 111 [v0, v1, v2, v3, v4] →
        Ld (.i .i64) h8 ⟨w, 0 + 0, none⟩ fun x89 => Ld (.i .i64) h8 ⟨w, 0 + 1, none⟩ fun x90 => Ld (.i .i64) h8 ⟨w, 0 + 2, none⟩ fun x91 => Ld (.i .i64) h8 ⟨w, 0 + 3, none⟩ fun x92 => Ld (.i .i64) h8 ⟨w, 0 + 4, none⟩ fun x93 =>
        Ld (.i .i64) h8 ⟨v, 0 + 0, none⟩ fun x94 => Ld (.i .i64) h8 ⟨v, 0 + 1, none⟩ fun x95 => Ld (.i .i64) h8 ⟨v, 0 + 2, none⟩ fun x96 => Ld (.i .i64) h8 ⟨v, 0 + 3, none⟩ fun x97 => Ld (.i .i64) h8 ⟨v, 0 + 4, none⟩ fun x98 =>
        Br (!((x89 == x94) && ((x90 == x95) && ((x91 == x96) && ((x92 == x97) && ((x93 == x98) && true)))))) (Q false h8) (Br (!(B == B)) (Q false h8)
        (∃ k', k' < c ∧ ∃ i : Nat, (IntKind.wrap .i64 ((j : Int) - 1 + 1)) = (i : Int) - 1 ∧ k' = n + 2 - i ∧ i ≤ n + 2 ∧ Kept h3 h8)) := by
      intro h5 h8 v0 v1 v2 v3 v4 B w v k8 e f
      refine Ld_i (x := v0) (by rw [hcell_blk e]; rfl) (Ld_i (x := v1) (by rw [hcell_blk e]; rfl) (Ld_i (x := v2) (by rw [hcell_blk e]; rfl) (Ld_i (x := v3) (by rw [hcell_blk e]; rfl) (Ld_i (x := v4) (by rw [hcell_blk e]; rfl) ?_))))
      refine Ld_i (x := v0) (by rw [hcell_blk f]; rfl) (Ld_i (x := v1) (by rw [hcell_blk f]; rfl) (Ld_i (x := v2) (by rw [hcell_blk f]; rfl) (Ld_i (x := v3) (by rw [hcell_blk f]; rfl) (Ld_i (x := v4) (by rw [hcell_blk f]; rfl) ?_))))
      simp only [beq_self_eq_true, Bool.and_self, Bool.not_true, Br_false]
      exact ⟨n + 2 - (j + 1), by omega, j + 1, by rw [wrap_i64' _ (by omega) (by omega)]; omega, rfl, by omega, k8⟩
    refine X78 (m3.kept k4) (fun jj h5 hjj hjn' k5 => ?_) fun h5 hno k5 => ?_
    · refine Nw_intro fun w h6 hw k6 e6 => ?_
      rw [zero72] at e6
      simp only [add_mk]
      refine put5 e6 fun h7 u7 e7 => ?_
      have k57 : Kept h5 h7 := u7.kept k6 (by omega)
      have k37 := (k4.trans k5).trans k57
      refine Y101 (r3.kept k37) (fun j2 h8 hj2 hj2n k8 => ?_) fun h8 hno k8 => absurd ⟨by omega, by omega⟩ hno
      obtain rfl : j2 = jj := by omega
      refine Nw_intro fun v h9 hv k9 e9 => ?_
      rw [zero111] at e9
      simp only [add_mk]
      refine put5 e9 fun h10 u10 e10 => ?_
      have k810 : Kept h8 h10 := u10.kept k9 (by omega)
      exact fin h5 h10 _ _ _ _ _ _ w v ((k37.trans k8).trans k810) (k810.blk (k8.blk e7)) e10
    · refine Nw_intro fun w h6 hw k6 e6 => ?_
      rw [zero72] at e6
      simp only [add_mk]
      refine put5 e6 fun h7 u7 e7 => ?_
      have k57 : Kept h5 h7 := u7.kept k6 (by omega)
      have k37 := (k4.trans k5).trans k57
      refine Y101 (r3.kept k37) (fun j2 h8 hj2 hj2n k8 => absurd ⟨by omega, by omega⟩ hno) fun h8 _ k8 => ?_
      refine Nw_intro fun v h9 hv k9 e9 => ?_
      rw [zero111] at e9
      simp only [add_mk]
      refine put5 e9 fun h10 u10 e10 => ?_
      have k810 : Kept h8 h10 := u10.kept k9 (by omega)
      exact fin h5 h10 _ _ _ _ _ _ w v ((k37.trans k8).trans k810) (k810.blk (k8.blk e7)) e10
end Go.Proofs.Ytfijchofplkcoaa
