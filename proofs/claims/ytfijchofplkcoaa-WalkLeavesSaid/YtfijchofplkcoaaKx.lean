/-
  The law WalkLeaves.
-/
import Derived.Test.YtfijchofplkcoaaKw
set_option linter.unusedVariables false
set_option linter.unusedSimpArgs false
set_option maxRecDepth 100000
namespace Go.Proofs.Ytfijchofplkcoaa

theorem R125 {s : Sl} {l : List Q4} {Q : Bool → H → Prop} {h : H} (e : WSl h s l) (hl : s.len ≤ 1000) (q : ∀ b h', Kept h h' → Q b h') : F125 s Q h := by
  rw [F125_eq]
  unfold B125
  refine Loop_intro (σ := Int × Int × Unit) (x := (0, 0, ())) (fun c z h' => ∃ i : Nat, z.2.1 = (i : Int) ∧ c = s.len - i ∧ i ≤ s.len ∧ Kept h h') s.len ⟨0, rfl, rfl, by omega, Kept.refl h⟩ ?_
  rintro c ⟨n, ii, u⟩ h3 ⟨i, hi, hc, hil, k3⟩
  simp only at hi
  subst hi
  refine Br_dec (fun hlt => ?_) fun hge => q _ h3 k3
  have hlt : i < s.len := by simpa using hlt
  obtain ⟨ad, had, w, hw, g0, g1, g2, g3⟩ := (e.kept k3).2 i hlt
  simp only [had]
  refine ⟨⟨by omega, by omega⟩, ?_⟩
  simp only [add_add, Int.toNat_natCast]
  refine Ld_i g0 (Ld_i g1 (Ld_i g2 (Ld_i g3 (Nw_intro fun b h4 hb k4 e4 => ?_))))
  rw [zero134] at e4
  simp only [add_mk]
  refine put4 e4 fun h5 u5 e5 => ?_
  have k35 : Kept h3 h5 := u5.kept k4 (by omega)
  refine Ld_i (x := w.2.2.1) (by rw [hcell_blk e5]; rfl) (Ld_i (x := w.2.2.2) (by rw [hcell_blk e5]; rfl) (C54 fun h6 k6 => ?_))
  have nx : ∃ i' : Nat, IntKind.wrap .i64 ((i : Int) + 1) = (i' : Int) ∧ s.len - (i + 1) = s.len - i' ∧ i' ≤ s.len ∧ Kept h h6 :=
    ⟨i + 1, by rw [wrap_i64' _ (by omega) (by omega)]; omega, rfl, hlt, (k3.trans k35).trans k6⟩
  refine Br_beq_int (fun _ => ?_) fun _ => ?_
  · exact ⟨s.len - (i + 1), by omega, nx⟩
  · exact ⟨s.len - (i + 1), by omega, nx⟩
theorem flat3_at {T d r : List (Int × Int)} {e : Int × Int} (h : T = d ++ e :: r) :
    (flat3 T).getD (3 * d.length + 0) 0 = e.1 ∧ (flat3 T).getD (3 * d.length + 1) 0 = flg e.2 ∧ (flat3 T).getD (3 * d.length + 2) 0 = ppn e.2 := by
  have hT : flat3 T = flat3 d ++ (e.1 :: flg e.2 :: ppn e.2 :: flat3 r) := by
    rw [h, flat3_append]
    unfold flat3
    rw [List.flatMap_cons]
    rfl
  rw [hT]
  have hd := flat3_len d
  refine ⟨?_, ?_, ?_⟩ <;> rw [List.getD_eq_getElem?_getD, List.getElem?_append_right (by omega), hd, Nat.add_sub_cancel_left] <;> rfl
theorem leavesT_len (n : Nat) (ws : List Int) (root : Int) : (leavesT n ws root).length ≤ 134217728 := by
  unfold leavesT
  split
  · rw [leavesS_eq]
    have := flatMap_len (entL n ws 2 root.toNat 0) (512 ^ 2) (fun j => entL_len n ws 2 _ 0 j) 512
    rw [show (512 : Nat) * 512 ^ 2 = 134217728 by decide] at this
    exact this
  · simp
theorem setL {h : H} {l : Nat} {o : Obj} (hl : l < h.size) : (h.setIfInBounds l o)[l]? = some o := by
  rw [Array.getElem?_setIfInBounds_self_of_lt hl]
theorem set_upd (h : H) (l : Nat) (o : Obj) : Upd h l (h.setIfInBounds l o) := ⟨by simp, fun i hi => by rw [Array.getElem?_setIfInBounds_ne (Ne.symm hi)]⟩
theorem recE_none {r : Loop} (hr : r.state = .ready) (hp : r.pending = none) : recE r none = r := by
  unfold recE
  cases r
  simp only at hr hp
  subst hr hp
  rfl
theorem L32 {a0 : Option Addr} {l0 c0 : Nat} {root most : Int} {Q : Bool → H → Prop} {h : H} (o0 : Opn h (.slice DW) [.slice a0 l0 c0])
    (q : ∀ h', Kept h h' → Q true h') : F32 ⟨a0, l0, c0⟩ root most Q h := by
  obtain ⟨wl, W⟩ := WSl.of o0
  rw [F32_eq]
  unfold B32
  refine Nw_intro fun a1 h2 ha1 k2 e1 => Nw_intro fun a3 h4 ha3 k4 e3 => ?_
  rw [show zeroC Try.prog 4 = #[.bool false] by kernel_rfl] at e3
  have l1 := (Array.getElem?_eq_some_iff.1 e1).1
  have e1 := k4.blk e1
  have hk4 := k4.1
  have l3 := (Array.getElem?_eq_some_iff.1 e3).1
  have hk2 := k2.1
  have K4 := k2.trans k4
  simp only [add_mk]
  have fin : ∀ h', Kept h4 h' → F115 (fun r5 h6 => St h6 ⟨a3, 0 + 0, none⟩ (.bool r5) fun h7 => TakeAll [] h7 fun h8 => Ld .b h8 ⟨a3, 0 + 0, none⟩ fun x9 => Q x9 h8) h' := by
    intro h' k
    refine C115 fun h6 k6 => St_intro ((k.trans k6).blk e3) (by simp) fun h7 u7 e7 => ?_
    show Ld .b h7 _ _
    exact Ld_b (x := true) (by rw [hcell_blk e7]; rfl) (q h7 (u7.kept ((K4.trans k).trans k6) (by omega)))
  refine Br_dec (fun _ => fin h4 (Kept.refl _)) fun hl => ?_
  have hl : l0 ≤ 40 := by simp at hl; omega
  refine R125 (W.kept K4) (by simp; omega) fun b h11 k11 => ?_
  cases b with
  | true => simp only [Br_true]; exact fin h11 k11
  | false =>
    simp only [Br_false]
    refine C116 ((W.kept K4).kept k11) (by simp; omega) fun bm bf rm rt cs h19 T => R126 T.rw fun s h21 k21 g21 => Nw_intro fun a22 h23 ha22 k23 e22 => ?_
    rw [show zeroC Try.prog 159 = #[.slice none 0 0] by kernel_rfl] at e22
    simp only [add_mk]
    refine St_intro e22 (by simp) fun h24 u24 e22 => ?_
    have e22 : h24[a22]? = some (.cells #[.slice s.a s.len s.cap] 159) := e22
    rw [F127c_eq]
    unfold B127c
    refine Nw_intro fun a25 h26 ha25 k26 e25 => Nw_intro fun a26 h27 ha26 k27 e26 => Nw_intro fun a28 h29 ha28 k29 e28 => ?_
    rw [show zeroC Try.prog 3 = #[.int .i64 0] by kernel_rfl] at e28
    simp only [add_mk]
    refine St_intro e28 (by simp) fun h30 u30 e28 => ?_
    have e28 : h30[a28]? = some (.cells #[.int .i64 0] 3) := e28
    have k24 : Kept h21 h24 := u24.kept k23 (by omega)
    have k30 : Kept h27 h30 := u30.kept k29 (by omega)
    have l19 := T.kept.1
    have s11 := k11.1
    have s21 := k21.1
    have s24 := k24.1
    have s26 := k26.1
    have s27 := k27.1
    have s30 := k30.1
    have s23 := k23.1
    have bT := T.mw.lt
    have nb : bm ≠ a3 := by
      intro hh
      have x := T.mw.mem.top
      rw [hh, (k11.trans T.kept).blk e3] at x
      simp at x
    have bf11 := T.l1
    have K30 : Kept h21 h30 := ((k24.trans k26).trans k27).trans k30
    have K430 : Kept h4 h30 := ((k11.trans T.kept).trans k21).trans K30
    have l28 := (Array.getElem?_eq_some_iff.1 e28).1
    have l22 := (Array.getElem?_eq_some_iff.1 e22).1
    have l25 := (Array.getElem?_eq_some_iff.1 e25).1
    have l26 := (Array.getElem?_eq_some_iff.1 e26).1
    intro r hr hp Y hround
    obtain ⟨D, hD⟩ : ∃ D, D = h30.size := ⟨_, rfl⟩
    rw [← hD] at hround ⊢
    obtain ⟨T0, hT0⟩ : ∃ T0, T0 = leavesT 8 (madeS wl) root := ⟨_, rfl⟩
    obtain ⟨hq, hhq⟩ : ∃ hq, hq = (h30.push (.deferred (some []))).push (.loop r) := ⟨_, rfl⟩
    rw [← hhq]
    have s1 : hq.size = D + 2 := by rw [hhq, hD]; simp
    have kq : Kept h30 hq := by
      rw [hhq]
      exact ⟨by simp; omega, fun i hi => by rw [Array.getElem?_push_lt (by simp; omega), Array.getElem_push_lt hi]; simp [hi]⟩
    have eqr : hq[D + 1]? = some (.loop r) := by
      rw [hhq, hD, show h30.size + 1 = (h30.push (.deferred (some []))).size by simp, Array.getElem?_push_size]
    have eqD : hq[D]? = some (.deferred (some [])) := by rw [hhq, hD]; simp [Array.getElem?_push]
    have glen : T0.length = s.len := by have := g21.1; rw [← hT0, flat3_len] at this; omega
    have gx : GS .i64 h21 165 3 s (flat3 T0) [a28, a3, D + 1] 0 := by
      rw [← hT0] at g21
      refine ⟨g21.1, ?_⟩
      rcases g21.2 with g | ⟨b, zs, g1, g2, g3, g4, g5⟩
      · exact .inl g
      · have := (Array.getElem?_eq_some_iff.1 (show h21[b]? = some _ from g4)).1
        refine .inr ⟨b, zs, g1, Nat.zero_le _, ?_, g4, g5⟩
        simp only [List.mem_cons, List.not_mem_nil, or_false]
        omega
    have tl := leavesT_len 8 (madeS wl) root
    rw [← hT0] at tl
    have fin2 : ∀ h', Kept h h' → h'[D]? = some (.deferred (some [])) → h'[a3]? = some (.cells #[.bool true] 4) → TakeAll (D :: []) h' fun h90 => Ld .b h90 ⟨a3, 0 + 0, none⟩ fun x91 => Q x91 h90 := by
      intro h' k d3 e3
      refine ⟨d3, ?_⟩
      have u := set_upd h' D (.deferred none)
      have e3 := u.blk e3 (show a3 ≠ D by omega)
      exact Ld_b (x := true) (by rw [hcell_blk e3]; rfl) (q _ (u.kept k (by omega)))
    have Kq : Kept h hq := (K4.trans K430).trans kq
    show F186 Y (yV (D + 1)) ⟨a25, 0, none⟩ ⟨a26, 0, none⟩ _ _
    refine K186 (bm := bm) (bf := bf) (n := 8) (ws := madeS wl) (root := root) (Lx := [a28, a3, D + 1])
      (J0 := fun d h' => Kept h h' ∧ MW h' bm bf 8 (madeS wl) ∧ h'[a1]? = some (.cells #[.int .i64 most] 3) ∧ h'[a22]? = some (.cells #[.slice s.a s.len s.cap] 159) ∧ GS .i64 h' 165 3 s (flat3 T0) [a28, a3, D + 1] 0 ∧
        h'[a28]? = some (.cells #[.int .i64 (d.length : Int)] 3) ∧ h'[D + 1]? = some (.loop r) ∧ h'[D]? = some (.deferred (some [])) ∧ h'[a3]? = some (.cells #[.bool false] 4))
      (X := fun h' => Kept h h' ∧ h'[D + 1]? = some (.loop (recE r (some .ret))) ∧ h'[D]? = some (.deferred (some [])) ∧ h'[a3]? = some (.cells #[.bool true] 4))
      (fun d h j => j.2.1) (fun d h1 h' ⟨j1, j2, j3, j4, j5, j6, j7, j8, j9⟩ k => ⟨j1.trans k, j2.kept k, k.blk j3, k.blk j4, j5.kept k, k.blk j6, k.blk j7, k.blk j8, k.blk j9⟩)
      (kq.blk (k30.blk (k27.blk e25))) (show IL hq a26 3 [root] from kq.blk (k30.blk e26)) (by simp only [List.mem_cons, List.not_mem_nil, or_false]; omega) (fun b hb => by simp only [List.mem_cons, List.not_mem_nil, or_false] at hb; omega) ?_
      ⟨Kq, (((T.mw.kept k21).kept K30).kept kq), kq.blk (K430.blk e1), kq.blk (k30.blk (k27.blk (k26.blk e22))), (gx.kept K30).kept kq, kq.blk e28, eqr, eqD, kq.blk (K430.blk e3)⟩ ?_ ?_
    · rintro d e rr h' K hT ⟨j1, j2, j3, j4, j5, j6, j7, j8, j9⟩ qt qf
      rw [← hT0] at hT
      refine hround (e.1, (flg e.2, ppn e.2, ()), ()) K h' j7 ?_
      have dl : d.length < T0.length := by rw [hT]; simp
      have m28 := (Array.getElem?_eq_some_iff.1 j6).1
      have m3 := (Array.getElem?_eq_some_iff.1 j9).1
      have mr := (Array.getElem?_eq_some_iff.1 j7).1
      have m1 := (Array.getElem?_eq_some_iff.1 j3).1
      simp only [LetI]
      refine Nw_intro fun a43 h44 ha43 k44 e43 => ?_
      rw [zero25v] at e43
      simp only [add_mk]
      refine put25 e43 fun h46 u46 e43 => ?_
      have k46 : Kept h' h46 := u46.kept k44 (by omega)
      refine ⟨k46.blk j7, ?_⟩
      have s46 := k46.1
      have ur := set_upd h46 (D + 1) (.loop (recB r))
      have er : (h46.setIfInBounds (D + 1) (.loop (recB r)))[D + 1]? = some (.loop (recB r)) := setL (by omega)
      generalize h46.setIfInBounds (D + 1) (.loop (recB r)) = h38 at ur er ⊢
      have kl : KL h' [a28, a3, D + 1] h38 := k46.kl.trans (ur.kl (by simp))
      have kk : Kept h h38 := ur.kept (j1.trans k46) (by omega)
      have n1 : ∀ x, x ≠ a28 → x ≠ a3 → x ≠ D + 1 → x ∉ [a28, a3, D + 1] := fun x h1 h2 h3 => by simp only [List.mem_cons, List.not_mem_nil, or_false]; omega
      have f28 := ur.blk (k46.blk j6) (show a28 ≠ D + 1 by omega)
      have f3 := ur.blk (k46.blk j9) (show a3 ≠ D + 1 by omega)
      have fD := ur.blk (k46.blk j8) (show D ≠ D + 1 by omega)
      have f1 := kl.blk j3 (n1 a1 (by omega) (by omega) (by omega))
      have f22 := kl.blk j4 (n1 a22 (by omega) (by omega) (by omega))
      have f43 : IL h38 a43 25 [flg e.2, ppn e.2] := ur.blk e43 (show a43 ≠ D + 1 by omega)
      have g38 := j5.kl kl fun b hb => hb
      obtain ⟨t0, t1, t2⟩ := flat3_at hT
      have c28 : hcell h38 ⟨a28, 0 + 0, none⟩ = some (.int .i64 (d.length : Int)) := by rw [hcell_blk f28]; rfl
      have c22 : hcell h38 ⟨a22, 0 + 0, none⟩ = some (.slice s.a s.len s.cap) := by rw [hcell_blk f22]; rfl
      refine Ld_i c28 (Ld_i (x := most) (by rw [hcell_blk f1]; rfl) (Br_beq_int (fun _ => ?_) fun _ => ?_))
      · refine C115 fun h50 k50 => St_intro (k50.blk f3) (by simp) fun h51 u51 e51 => ?_
        have s50 := k50.1
        have s38 := kl.1
        refine ⟨u51.blk (k50.blk er) (by omega), qf _ ?_⟩
        have u5 := set_upd h51 (D + 1) (.loop (recE r (some .ret)))
        have k51 : Kept h h51 := u51.kept (kk.trans k50) (by omega)
        exact ⟨u5.kept k51 (by omega), setL (by have := u51.1; omega), u5.blk (u51.blk (k50.blk fD) (by omega)) (by omega), u5.blk e51 (by omega)⟩
      · refine Ld_i c28 (Ld_s (x := s) c22 (Br_dec (fun hge => ?_) fun _ => Ld_s (x := s) c22 (Ld_i c28 ?_)))
        · exact absurd (show (s.len : Int) ≤ d.length from hge) (by omega)
        have hi : d.length < s.len := by omega
        obtain ⟨b0, hb0, p0⟩ := g38.idx (d := 0) hi (by omega)
        obtain ⟨b1, hb1, p1⟩ := g38.idx (d := 1) hi (by omega)
        obtain ⟨b2, hb2, p2⟩ := g38.idx (d := 2) hi (by omega)
        obtain rfl : b0 = b1 := by rw [hb0] at hb1; simpa using hb1
        obtain rfl : b0 = b2 := by rw [hb0] at hb2; simpa using hb2
        rw [t0] at p0
        rw [t1] at p1
        rw [t2] at p2
        simp only [hb0]
        refine ⟨⟨by omega, by omega⟩, ?_⟩
        simp only [add_mk, Int.toNat_natCast]
        refine Ld_i (x := e.1) p0 ?_
        simp only [bne_self_eq_false, Br_false]
        refine Ld_s (x := s) c22 (Ld_i c28 ?_)
        simp only [hb0]
        refine ⟨⟨by omega, by omega⟩, ?_⟩
        simp only [add_mk, Int.toNat_natCast]
        refine Ld_i (x := flg e.2) p1 (Ld_i (x := ppn e.2) p2 (Ld_i (x := flg e.2) (by rw [hcell_blk f43]; rfl) (Ld_i (x := ppn e.2) (by rw [hcell_blk f43]; rfl) ?_)))
        simp only [beq_self_eq_true, Bool.and_self, Bool.not_true, Br_false]
        refine Ld_i c28 (St_intro f28 (by simp) fun h69 u69 e69 => ?_)
        have s38 := kl.1
        have s69 := u69.1
        refine ⟨u69.blk er (by omega), ?_⟩
        rw [recE_none hr hp]
        have u7 := set_upd h69 (D + 1) (.loop r)
        have kz : KL h' [a28, a3, D + 1] (h69.setIfInBounds (D + 1) (.loop r)) := kl.trans ((u69.kl (by simp)).trans (u7.kl (by simp)))
        have w1 : IntKind.wrap .i64 ((d.length : Int) + 1) = (((d ++ [e]).length : Nat) : Int) := by rw [wrap_i64' _ (by omega) (by omega)]; simp
        rw [w1] at e69
        refine qt _ ⟨u7.kept (u69.kept kk (by omega)) (by omega), j2.kl kz (n1 bm (by omega) (by omega) (by omega)) (n1 bf (by omega) (by omega) (by omega)), kz.blk j3 (n1 a1 (by omega) (by omega) (by omega)), kz.blk j4 (n1 a22 (by omega) (by omega) (by omega)), j5.kl kz fun b hb => hb, u7.blk e69 (by omega), setL (by omega), u7.blk (u69.blk fD (by omega)) (by omega), u7.blk (u69.blk f3 (by omega)) (by omega)⟩ kz
    · rintro h' ⟨j1, j2, j3, j4, j5, j6, j7, j8, j9⟩
      refine ⟨none, by rw [recE_none hr hp]; exact j7, ?_⟩
      rw [← hT0] at j6
      have m28 := (Array.getElem?_eq_some_iff.1 j6).1
      have mr := (Array.getElem?_eq_some_iff.1 j7).1
      have ux := set_upd h' (D + 1) (.loop (recX r none))
      have kx : Kept h (h'.setIfInBounds (D + 1) (.loop (recX r none))) := ux.kept j1 (by omega)
      generalize h'.setIfInBounds (D + 1) (.loop (recX r none)) = hx at ux kx ⊢
      show Ld _ _ _ _
      refine Ld_i (x := (T0.length : Int)) (by rw [hcell_blk (ux.blk j6 (by omega))]; rfl) (Ld_s (x := s) (by rw [hcell_blk (ux.blk j4 (by omega))]; rfl) (Br_beq_int (fun _ => ?_) fun hne => absurd (by omega) hne))
      refine C115 fun h83 k83 => St_intro (k83.blk (ux.blk j9 (by omega))) (by simp) fun h84 u84 e84 => ?_
      exact fin2 h84 (u84.kept (kx.trans k83) (by omega)) (u84.blk (k83.blk (ux.blk j8 (by omega))) (by omega)) e84
    · rintro h' ⟨j1, j7, j8, j9⟩
      refine ⟨some .ret, j7, ?_⟩
      have ux := set_upd h' (D + 1) (.loop (recX r (some .ret)))
      exact fin2 _ (ux.kept j1 (by omega)) (ux.blk j8 (by omega)) (ux.blk j9 (by omega))
end Go.Proofs.Ytfijchofplkcoaa
