/-
  The law FramesClasses over the heap predicates.
-/
import Derived.Test.YtfijchofplkcoaaIe
set_option linter.unusedVariables false
set_option linter.unusedSimpArgs false
set_option maxRecDepth 100000
namespace Go.Proofs.Ytfijchofplkcoaa

theorem cnt_all {xs : List Int} {n : Nat} (g : GF xs n) : ∀ m, m ≤ n → cnt xs 0 m + cnt xs 1 m + cnt xs 2 m + cnt xs 3 m + cnt xs 4 m = m := by
  intro m
  induction m with
  | zero => intro _; simp [cnt]
  | succ m ih =>
    intro hm
    have := ih (by omega)
    have c := g.cls m (by omega)
    simp only [cnt]
    generalize xs.getD (5 * m) 0 = v at *
    have : v = 0 ∨ v = 1 ∨ v = 2 ∨ v = 3 ∨ v = 4 := by omega
    rcases this with rfl | rfl | rfl | rfl | rfl <;> simp <;> omega
/-- The counts of the first classes together. -/
def sumc (xs : List Int) (n : Nat) : Nat → Int
  | 0 => 0
  | c + 1 => sumc xs n c + cnt xs c n
section
variable {h : H} {bp bf n : Nat} {res : Int} {xs : List Int}
theorem W78 {i : Int} {Q : Int → Int → Int → Int → Int → Bool → H → Prop} (m : PM h bp bf n res xs)
    (q : ∀ (j : Nat) h', i = (j : Int) → j < n → Kept h h' → Q (xs.getD (5 * j + 0) 0) (xs.getD (5 * j + 1) 0) (xs.getD (5 * j + 2) 0) (xs.getD (5 * j + 3) 0) (xs.getD (5 * j + 4) 0) true h')
    (q0 : ∀ h', Kept h h' → Q 0 0 0 0 0 false h') : F78 (some ⟨bp, 0, none⟩) i Q h := by
  by_cases hin : 0 ≤ i ∧ i < n
  · obtain ⟨j, rfl⟩ := Int.eq_ofNat_of_zero_le hin.1
    exact C78 m (by omega) fun h' k => q j h' rfl (by omega) k
  · rw [F78_eq]
    refine Nw_intro fun w h1 hw k1 e1 => ?_
    rw [zero72] at e1
    have e1' : IL h1 w 72 [0, 0, 0, 0, 0] := e1
    have m1 := m.kept k1
    refine C159 m1 ?_
    simp only [Bool.not_true, Br_false, NilP, add_mk, Nat.add_zero]
    have fin : St h1 ⟨w, 0, none⟩ (.int .i64 0) fun h8 => St h8 ⟨w, 0 + 1, none⟩ (.int .i64 0) fun h9 => St h9 ⟨w, 0 + 2, none⟩ (.int .i64 0) fun h10 => St h10 ⟨w, 0 + 3, none⟩ (.int .i64 0) fun h11 => St h11 ⟨w, 0 + 4, none⟩ (.int .i64 0) fun h12 =>
        Ld (.i .i64) h12 ⟨w, 0, none⟩ fun x13 => Ld (.i .i64) h12 ⟨w, 0 + 1, none⟩ fun x14 => Ld (.i .i64) h12 ⟨w, 0 + 2, none⟩ fun x15 => Ld (.i .i64) h12 ⟨w, 0 + 3, none⟩ fun x16 => Ld (.i .i64) h12 ⟨w, 0 + 4, none⟩ fun x17 => Q x13 x14 x15 x16 x17 false h12 := by
      refine St_I e1' (by simp) fun h2 u2 e2 => St_I e2 (by simp) fun h3 u3 e3 => St_I e3 (by simp) fun h4 u4 e4 => St_I e4 (by simp) fun h5 u5 e5 => St_I e5 (by simp) fun h6 u6 e6 => ?_
      have K6 : Kept h h6 := u6.kept (u5.kept (u4.kept (u3.kept (u2.kept k1 (by omega)) (by omega)) (by omega)) (by omega)) (by omega)
      exact Ld_i (x := 0) (by rw [hcell_blk e6]; rfl) (Ld_i (x := 0) (by rw [hcell_blk e6]; rfl) (Ld_i (x := 0) (by rw [hcell_blk e6]; rfl) (Ld_i (x := 0) (by rw [hcell_blk e6]; rfl) (Ld_i (x := 0) (by rw [hcell_blk e6]; rfl) (q0 h6 K6)))))
    refine Br_dec (fun _ => fin) fun h0 => ?_
    refine Ld_s (x := ⟨some ⟨bf, 0, none⟩, n, n⟩) m1.c0 (Br_dec (fun _ => fin) fun hh => absurd hh (by simp; omega))
end

def Acts5 (h : H) (s : Sl) : Prop := ∀ i, i < s.len → ∃ ad, s.a = some ad ∧ ∃ k f a b c : Int, (-9223372036854775808 ≤ a ∧ a ≤ 9223372036854775807) ∧ hcell h (ad.add (i * 5 + 0)) = some (.int .i64 k) ∧ hcell h (ad.add (i * 5 + 1)) = some (.int .i64 f) ∧
  hcell h (ad.add (i * 5 + 2)) = some (.int .i64 a) ∧ hcell h (ad.add (i * 5 + 3)) = some (.int .i64 b) ∧ hcell h (ad.add (i * 5 + 4)) = some (.int .i64 c)
theorem Acts5.kept {h h' : H} {s : Sl} (e : Acts5 h s) (k : Kept h h') : Acts5 h' s := by
  intro i hi
  obtain ⟨ad, h1, x, f, a, b, c, hr, g0, g1, g2, g3, g4⟩ := e i hi
  exact ⟨ad, h1, x, f, a, b, c, hr, k.cell g0, k.cell g1, k.cell g2, k.cell g3, k.cell g4⟩
abbrev D5 : DTy := .pair (.int .i64) (.pair (.int .i64) (.pair (.int .i64) (.pair (.int .i64) (.pair (.int .i64) .unit))))
theorem Acts5.of {h : H} {a : Option Addr} {l c : Nat} (o : Opn h (.slice D5) [.slice a l c]) : Acts5 h ⟨a, l, c⟩ := by
  rcases o with o | ⟨x, l', c', o, hl, hm, hx⟩
  · simp only [List.cons.injEq, Value.slice.injEq, and_true] at o
    obtain ⟨rfl, rfl, rfl⟩ := o
    intro i hi; exact absurd hi (by simp)
  · simp only [List.cons.injEq, Value.slice.injEq, and_true] at o
    obtain ⟨rfl, rfl, rfl⟩ := o
    intro i hi
    obtain ⟨es, h1, h2, h3⟩ := hx i hi
    obtain ⟨k, f, a, b, c, rfl, _, _, wa, _, _⟩ := opn_IIIII h2
    exact ⟨x, rfl, k, f, a, b, c, wf_i64 wa, h3 0 _ rfl, h3 1 _ rfl, h3 2 _ rfl, h3 3 _ rfl, h3 4 _ rfl⟩

theorem zero108 : zeroC Try.prog 108 = VI [0, 0, 0, 0, 0] := by kernel_rfl
/-- Five numbers put into a new block. -/
theorem put5 {h : H} {w t : Nat} {a b c d e : Int} {K : H → Prop} (e1 : IL h w t [0, 0, 0, 0, 0]) (k : ∀ h', Upd h w h' → IL h' w t [a, b, c, d, e] → K h') :
    St h ⟨w, 0 + 0, none⟩ (.int .i64 a) fun h2 => St h2 ⟨w, 0 + 1, none⟩ (.int .i64 b) fun h3 => St h3 ⟨w, 0 + 2, none⟩ (.int .i64 c) fun h4 => St h4 ⟨w, 0 + 3, none⟩ (.int .i64 d) fun h5 => St h5 ⟨w, 0 + 4, none⟩ (.int .i64 e) K :=
  St_I e1 (by simp) fun h2 u2 e2 => St_I e2 (by simp) fun h3 u3 e3 => St_I e3 (by simp) fun h4 u4 e4 => St_I e4 (by simp) fun h5 u5 e5 => St_I e5 (by simp) fun h6 u6 e6 => k h6 ((((u2.trans u3).trans u4).trans u5).trans u6) e6

structure S21 (h0 : H) (bp bf n : Nat) (res : Int) (h' : H) : Prop where
  kept : Kept h0 h'
  pool : ∃ xs, PM h' bp bf n res xs ∧ GF xs n

theorem L21 {n0 : Int} {a1 : Option Addr} {l1 c1 : Nat} {Q : Bool → H → Prop} {h : H} (hn0 : 0 ≤ n0 ∧ n0 < 18446744073709551616) (o1 : Opn h (.slice D5) [.slice a1 l1 c1])
    (q : ∀ h', Kept h h' → Q true h') : F21 n0 ⟨a1, l1, c1⟩ Q h := by
  have acts := Acts5.of o1
  rw [F21_eq]
  refine ⟨by omega, ?_⟩
  obtain ⟨n, hn⟩ : ∃ n : Nat, n = (1 + n0 % 20).toNat := ⟨_, rfl⟩
  have en : IntKind.wrap .i64 (1 + IntKind.wrap .i64 (Int.tmod n0 20)) = (n : Int) := by
    rw [Int.tmod_eq_emod_of_nonneg hn0.1, wrap_i64' (n0 % 20) (by omega) (by omega), wrap_i64' _ (by omega) (by omega)]; omega
  have hn1 : 1 ≤ n ∧ n ≤ 20 := by omega
  rw [en]
  simp only [LetI]
  have e4 : IntKind.wrap .i64 (Int.tdiv (n : Int) 4) = (n : Int) / 4 := by rw [Int.tdiv_eq_ediv_of_nonneg (by omega), wrap_i64'] <;> omega
  rw [e4]
  refine ⟨by omega, C75 (by omega) (by omega) fun bp bf h1 k1 hbp hbf m1 => ?_⟩
  rw [show ((n : Int).toNat) = n from rfl] at m1
  simp only [JoinM, Option.isNone_some, Br_false, Bool.not_false, Br_true]
  have liv : ∀ h', Kept h h' → F79 (fun r6 h7 => Q r6 h7) h' := fun h' k => C79 fun h9 k9 => q h9 (k.trans k9)
  refine Br_dec (fun _ => liv h1 k1) fun hl150 => ?_
  have hl150 : l1 ≤ 150 := by simp at hl150; omega
  have g1 : GF (List.replicate (5 * n) 0) n := by
    have z : ∀ k, (List.replicate (5 * n) (0 : Int)).getD k 0 = 0 := by
      intro k
      rw [List.getD_eq_getElem?_getD, List.getElem?_replicate]
      split <;> rfl
    refine ⟨fun j _ => by rw [z]; omega, fun j _ _ => ?_, fun j _ => by rw [z]; omega, fun j _ => by rw [z]; omega⟩
    unfold z5
    rw [z, z, z, z, z]; rfl
  refine Loop_intro (σ := Int × Unit) (x := (0, ())) (fun c z h' => ∃ i : Nat, z.1 = (i : Int) ∧ c = l1 - i ∧ i ≤ l1 ∧ S21 h bp bf n ((n : Int) / 4) h') l1 ⟨0, rfl, rfl, by omega, k1, _, m1, g1⟩ ?_
  rintro d ⟨ii, u⟩ h2 ⟨i, hi, hd, hil, S2⟩
  simp only at hi
  subst hi
  refine Br_dec (fun hlt => ?_) fun _ => liv h2 S2.kept
  have hlt : i < l1 := by simp at hlt; omega
  obtain ⟨K2, xs, m2, g2⟩ := S2
  obtain ⟨ad, had, k, f, a, b, c, hra, g_0, g_1, g_2, g_3, g_4⟩ := acts.kept K2 i hlt
  simp only at had
  simp only [had]
  refine ⟨⟨by omega, by omega⟩, ?_⟩
  simp only [add_add, Int.toNat_natCast]
  refine Ld_i g_0 (Ld_i g_1 (Ld_i g_2 (Ld_i g_3 (Ld_i g_4 (Nw_intro fun w h3 hw k3 e3 => ?_)))))
  rw [zero108] at e3
  simp only [add_mk]
  refine put5 e3 fun h4 u4 e4' => ?_
  have k24 : Kept h2 h4 := u4.kept k3 (by omega)
  have m4 := m2.kept k24
  have hs2 := K2.1
  refine Ld_i (x := f) (by rw [hcell_blk e4']; rfl) ?_
  have hbf2 : bf < h2.size := (Array.getElem?_eq_some_iff.1 (show h2[bf]? = some _ from m2.row)).1
  have hwb : w ≠ bf := by omega
  -- behind the act
  have after : ∀ h8, S21 h bp bf n ((n : Int) / 4) h8 → LoopM (σ := Int × Int × Unit) (fun self58 z59 h60 =>
  Br (decide (z59.2.1 < 5))
  (F100 (some ⟨bp, 0, none⟩) z59.2.1 (fun r61 h62 =>
  self58 ((IntKind.wrap .i64 (z59.1 + r61)), (IntKind.wrap .i64 (z59.2.1 + 1)), ()) h62) h60)
  (Br (z59.1 != (n : Int))
  (Q false h60)
  (F100 (some ⟨bp, 0, none⟩) 0 (fun r68 h69 =>
  F98 (some ⟨bp, 0, none⟩) (fun r70 h71 =>
  Br (r68 != r70)
  (Q false h71)
  (LoopM (σ := Int × Unit) (fun self72 z73 h74 =>
  Br (decide (z73.1 < (n : Int)))
  (F78 (some ⟨bp, 0, none⟩) z73.1 (fun r75 r76 r77 r78 r79 r80 h81 =>
  Nw h81 (zeroC Try.prog 72) 72 fun a82 h83 =>
  St h83 (a82.add 0) (.int .i64 r75) fun h84 =>
  St h84 (a82.add 1) (.int .i64 r76) fun h85 =>
  St h85 (a82.add 2) (.int .i64 r77) fun h86 =>
  St h86 (a82.add 3) (.int .i64 r78) fun h87 =>
  St h87 (a82.add 4) (.int .i64 r79) fun h88 =>
  Ld (.i .i64) h88 ((a82.add 0).add 0) fun x89 =>
  Br (x89 == 0)
  (Ld (.i .i64) h88 (a82.add 0) fun x90 =>
  Ld (.i .i64) h88 (a82.add 1) fun x91 =>
  Ld (.i .i64) h88 (a82.add 2) fun x92 =>
  Ld (.i .i64) h88 (a82.add 3) fun x93 =>
  Ld (.i .i64) h88 (a82.add 4) fun x94 =>
  Br (!((x90 == 0) && ((x91 == 0) && ((x92 == 0) && ((x93 == 0) && ((x94 == 0) && true))))))
  (Q false h88)
  (Ld (.i .i64) h88 ((a82.add 3).add 0) fun x95 =>
  Br (decide (x95 < 0))
  (Q false h88)
  (Ld (.i .i64) h88 ((a82.add 4).add 0) fun x96 =>
  Br (decide (x96 < 0))
  (Q false h88)
  (self72 ((IntKind.wrap .i64 (z73.1 + 1)), ()) h88))))
  (Ld (.i .i64) h88 ((a82.add 3).add 0) fun x98 =>
  Br (decide (x98 < 0))
  (Q false h88)
  (Ld (.i .i64) h88 ((a82.add 4).add 0) fun x99 =>
  Br (decide (x99 < 0))
  (Q false h88)
  (self72 ((IntKind.wrap .i64 (z73.1 + 1)), ()) h88)))) h74)
  (∃ k', k' < d ∧ ∃ i' : Nat, (IntKind.wrap .i64 ((i : Int) + 1)) = (i' : Int) ∧ k' = l1 - i' ∧ i' ≤ l1 ∧ S21 h bp bf n ((n : Int) / 4) h74)) (0, ()) h71)) h69) h60))) (0, 0, ()) h8 := by
    intro h8 S8
    obtain ⟨K8, ys, m8, g8⟩ := S8
    have h5s : sumc ys n 5 = n := by
      have := cnt_all g8 n (Nat.le_refl _)
      simp only [sumc]
      have e0 : ((0 : Nat) : Int) = 0 := rfl
      have e1 : ((1 : Nat) : Int) = 1 := rfl
      have e2 : ((2 : Nat) : Int) = 2 := rfl
      have e3 : ((3 : Nat) : Int) = 3 := rfl
      have e4 : ((4 : Nat) : Int) = 4 := rfl
      rw [e0, e1, e2, e3, e4]; omega
    have hsb : ∀ c, 0 ≤ sumc ys n c ∧ sumc ys n c ≤ 20 * c := by
      intro c
      induction c with
      | zero => simp [sumc]
      | succ c ih => simp only [sumc]; have := cnt_le ys c n; omega
    refine Loop_intro (fun c z h' => ∃ j : Nat, z.2.1 = (j : Int) ∧ c = 5 - j ∧ j ≤ 5 ∧ z.1 = sumc ys n j ∧ Kept h8 h') 5 ⟨0, rfl, rfl, by omega, rfl, Kept.refl h8⟩ ?_
    rintro c5 ⟨acc, jj, u⟩ h9 ⟨j, hj, hc5, hj5, ha, k9⟩
    simp only at hj ha
    subst hj ha
    refine Br_dec (fun hlt5 => ?_) fun hge5 => ?_
    · have hlt5 : j < 5 := by simp at hlt5; omega
      refine C100 (m8.kept k9) fun h10 k10 => ?_
      have b1 := hsb j
      have b2 := cnt_le ys j n
      refine ⟨5 - (j + 1), by omega, j + 1, ?_, rfl, by omega, ?_, k9.trans k10⟩
      · show IntKind.wrap .i64 ((j : Int) + 1) = _
        rw [wrap_i64' _ (by omega) (by omega)]; omega
      · show IntKind.wrap .i64 (sumc ys n j + cnt ys j n) = _
        rw [wrap_i64' _ (by omega) (by omega)]; rfl
    · have : j = 5 := by simp at hge5; omega
      subst this
      simp only [h5s, bne_self_eq_false, Br_false]
      refine C100 (m8.kept k9) fun h10 k10 => ?_
      rw [F98_eq]
      refine C100 ((m8.kept k9).kept k10) fun h11 k11 => ?_
      simp only [LetI, bne_self_eq_false, Br_false]
      have k811 := (k9.trans k10).trans k11
      refine Loop_intro (fun c z h' => ∃ j : Nat, z.1 = (j : Int) ∧ c = n - j ∧ j ≤ n ∧ Kept h8 h') n ⟨0, rfl, rfl, by omega, k811⟩ ?_
      rintro c6 ⟨jj, u⟩ h12 ⟨j, hj, hc6, hjn, k12⟩
      simp only at hj
      subst hj
      refine Br_dec (fun hltn => ?_) fun _ => ⟨l1 - (i + 1), by omega, i + 1, by rw [wrap_i64' _ (by omega) (by omega)]; omega, rfl, by omega, K8.trans k12, ys, m8.kept k12, g8⟩
      have hltn : j < n := by simp at hltn; omega
      refine C78 (m8.kept k12) hltn fun h13 k13 => Nw_intro fun v h14 hv k14 e14 => ?_
      rw [zero72] at e14
      simp only [add_mk]
      refine put5 e14 fun h15 u15 e15 => ?_
      have k15 : Kept h8 h15 := u15.kept ((k12.trans k13).trans k14) (by have := k12.1; have := k13.1; omega)
      have nx : ∃ k', k' < c6 ∧ ∃ j' : Nat, (IntKind.wrap .i64 ((j : Int) + 1)) = (j' : Int) ∧ k' = n - j' ∧ j' ≤ n ∧ Kept h8 h15 :=
        ⟨n - (j + 1), by omega, j + 1, by rw [wrap_i64' _ (by omega) (by omega)]; omega, rfl, by omega, k15⟩
      have gw := g8.wir j hltn
      have gl := g8.lon j hltn
      have c0 : hcell h15 ⟨v, 0 + 0, none⟩ = some (.int .i64 (ys.getD (5 * j + 0) 0)) := by rw [hcell_blk e15]; rfl
      have c1 : hcell h15 ⟨v, 0 + 1, none⟩ = some (.int .i64 (ys.getD (5 * j + 1) 0)) := by rw [hcell_blk e15]; rfl
      have c2 : hcell h15 ⟨v, 0 + 2, none⟩ = some (.int .i64 (ys.getD (5 * j + 2) 0)) := by rw [hcell_blk e15]; rfl
      have c3 : hcell h15 ⟨v, 0 + 3, none⟩ = some (.int .i64 (ys.getD (5 * j + 3) 0)) := by rw [hcell_blk e15]; rfl
      have c4 : hcell h15 ⟨v, 0 + 4, none⟩ = some (.int .i64 (ys.getD (5 * j + 4) 0)) := by rw [hcell_blk e15]; rfl
      have tail : Ld (.i .i64) h15 ⟨v, 0 + 3 + 0, none⟩ fun x95 => Br (decide (x95 < 0)) (Q false h15) (Ld (.i .i64) h15 ⟨v, 0 + 4 + 0, none⟩ fun x96 => Br (decide (x96 < 0)) (Q false h15)
          (∃ k', k' < c6 ∧ ∃ j' : Nat, (IntKind.wrap .i64 ((j : Int) + 1)) = (j' : Int) ∧ k' = n - j' ∧ j' ≤ n ∧ Kept h8 h15)) := by
        refine Ld_i c3 (Br_dec (fun (hh : ys.getD (5 * j + 3) 0 < 0) => absurd hh (by omega)) fun _ => Ld_i c4 (Br_dec (fun (hh : ys.getD (5 * j + 4) 0 < 0) => absurd hh (by omega)) fun _ => nx))
      refine Ld_i c0 (Br_beq_int (fun hz => ?_) fun _ => tail)
      refine Ld_i c0 (Ld_i c1 (Ld_i c2 (Ld_i c3 (Ld_i c4 ?_))))
      have : ((ys.getD (5 * j + 0) 0 == 0) && ((ys.getD (5 * j + 1) 0 == 0) && ((ys.getD (5 * j + 2) 0 == 0) && ((ys.getD (5 * j + 3) 0 == 0) && ((ys.getD (5 * j + 4) 0 == 0) && true))))) = true := g8.emp j hltn hz
      rw [this]
      exact tail
  refine W78 m4 (fun j h5 hf hjn k5 => ?_) (fun h5 k5 => ?_)
  · refine Nw_intro fun v h6 hv k6 e6 => ?_
    rw [zero72] at e6
    simp only [add_mk]
    refine put5 e6 fun h7 u7 e7 => ?_
    have hk5 := k5.1
    have hk24 := k24.1
    have k47 : Kept h4 h7 := u7.kept (k5.trans k6) (by omega)
    have e47 : IL h7 w 108 [k, f, a, b, c] := k47.blk e4'
    have m7 := m4.kept k47
    refine Ld_i (x := k) (by rw [hcell_blk e47]; rfl) (Ld_i (x := f) (by rw [hcell_blk e47]; rfl) (Ld_i (x := a) (by rw [hcell_blk e47]; rfl) (Ld_i (x := b) (by rw [hcell_blk e47]; rfl) (Ld_i (x := c) (by rw [hcell_blk e47]; rfl) ?_))))
    refine W96 m7 g2 hra fun r e h8 ys u8 m8 g8 p8 => ?_
    have A := after h8 ⟨u8.kept ((K2.trans k24).trans k47) hbf, ys, m8, g8⟩
    have e8 : IL h8 w 108 [k, f, a, b, c] := u8.blk e47 hwb
    have hbf4 : bf < h4.size := by omega
    have f8 := u8.blk e7 (show v ≠ bf by omega)
    refine Ld_i (x := k) (by rw [hcell_blk e8]; rfl) (Br_beq_int (fun hk1 => ?_) fun _ => A)
    refine Ld_i (x := xs.getD (5 * j + 3) 0) (by rw [hcell_blk f8]; rfl) (Br_dec (fun (hw : xs.getD (5 * j + 3) 0 > 0) => Br_bne_int (fun hh => absurd (p8 hk1 j hf hjn (.inl hw)) hh) fun _ => A) fun _ => ?_)
    refine Ld_i (x := xs.getD (5 * j + 4) 0) (by rw [hcell_blk f8]; rfl) (Br_dec (fun (hw : xs.getD (5 * j + 4) 0 > 0) => Br_bne_int (fun hh => absurd (p8 hk1 j hf hjn (.inr hw)) hh) fun _ => A) fun _ => A)
  · refine Nw_intro fun v h6 hv k6 e6 => ?_
    rw [zero72] at e6
    simp only [add_mk]
    refine put5 e6 fun h7 u7 e7 => ?_
    have hk5 := k5.1
    have hk24 := k24.1
    have k47 : Kept h4 h7 := u7.kept (k5.trans k6) (by omega)
    have e47 : IL h7 w 108 [k, f, a, b, c] := k47.blk e4'
    have m7 := m4.kept k47
    refine Ld_i (x := k) (by rw [hcell_blk e47]; rfl) (Ld_i (x := f) (by rw [hcell_blk e47]; rfl) (Ld_i (x := a) (by rw [hcell_blk e47]; rfl) (Ld_i (x := b) (by rw [hcell_blk e47]; rfl) (Ld_i (x := c) (by rw [hcell_blk e47]; rfl) ?_))))
    refine W96 m7 g2 hra fun r e h8 ys u8 m8 g8 p8 => ?_
    have A := after h8 ⟨u8.kept ((K2.trans k24).trans k47) hbf, ys, m8, g8⟩
    have e8 : IL h8 w 108 [k, f, a, b, c] := u8.blk e47 hwb
    have hbf4 : bf < h4.size := by omega
    have f8 := u8.blk e7 (show v ≠ bf by omega)
    refine Ld_i (x := k) (by rw [hcell_blk e8]; rfl) (Br_beq_int (fun hk1 => ?_) fun _ => A)
    exact A
end Go.Proofs.Ytfijchofplkcoaa
