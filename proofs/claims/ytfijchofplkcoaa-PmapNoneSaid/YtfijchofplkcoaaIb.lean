/-
  A pool that no call made has no frames: the law FramesNone over the heap predicates.
-/
import Derived.Test.YtfijchofplkcoaaIa
set_option linter.unusedVariables false
set_option linter.unusedSimpArgs false
set_option maxRecDepth 100000
namespace Go.Proofs.Ytfijchofplkcoaa

/-- No pool, or one that no call made. -/
def NP (h : H) (p : Option Addr) : Prop := p = none ∨ ∃ b, p = some ⟨b, 0, none⟩ ∧ h[b]? = some (.cells #[.slice none 0 0, .int .i64 0] 118)
theorem NP.kept {h h' : H} {p : Option Addr} (m : NP h p) (k : Kept h h') : NP h' p := by
  rcases m with rfl | ⟨b, rfl, e⟩
  · exact .inl rfl
  · exact .inr ⟨b, rfl, k.blk e⟩
section
variable {h : H} {p : Option Addr}
theorem U159 {Q : Bool → H → Prop} (m : NP h p) (q : Q false h) : F159 p Q h := by
  rw [F159_eq]
  rcases m with rfl | ⟨b, rfl, e⟩
  · exact q
  · refine Ld_s (x := ⟨none, 0, 0⟩) (by simp only [add_mk]; rw [hcell_blk e]; rfl) ?_
    exact q
theorem U76 {c o i : Int} {Q : Int → Int → H → Prop} (m : NP h p) (q : Q 0 1 h) : F76 p c o i Q h := by
  rw [F76_eq]; exact U159 m q
theorem U77 {i : Int} {Q : Int → H → Prop} (m : NP h p) (q : Q 1 h) : F77 p i Q h := by
  rw [F77_eq]; unfold B77; rw [F162Give_eq]; exact U159 m q
theorem U104 {i c o x : Int} {Q : Int → H → Prop} (m : NP h p) (q : ∀ h', Kept h h' → Q 1 h') : F104 p i c o x Q h := by
  rw [F104_eq]
  refine Nw_intro fun _ h1 _ k1 _ => Nw_intro fun _ h2 _ k2 _ => Nw_intro fun _ h3 _ k3 _ => ?_
  have k := (k1.trans k2).trans k3
  rw [F162Own_eq]; exact U159 (m.kept k) (q h3 k)
theorem U102 {i x : Int} {Q : Int → H → Prop} (m : NP h p) (q : ∀ h', Kept h h' → Q 1 h') : F102 p i x Q h := by
  rw [F102_eq]
  refine Nw_intro fun _ h1 _ k1 _ => ?_
  rw [F162Wire_eq]; exact U159 (m.kept k1) (q h1 k1)
theorem U103 {i x : Int} {Q : Int → H → Prop} (m : NP h p) (q : ∀ h', Kept h h' → Q 1 h') : F103 p i x Q h := by
  rw [F103_eq]
  refine Nw_intro fun _ h1 _ k1 _ => ?_
  rw [F162Loan_eq]; exact U159 (m.kept k1) (q h1 k1)
theorem U100 {c : Int} {Q : Int → H → Prop} (m : NP h p) (q : Q 0 h) : F100 p c Q h := by
  rw [F100_eq]; exact U159 m q
theorem U98 {Q : Int → H → Prop} (m : NP h p) (q : Q 0 h) : F98 p Q h := by
  rw [F98_eq]; exact U100 m q
theorem U78 {i : Int} {Q : Int → Int → Int → Int → Int → Bool → H → Prop} (m : NP h p) (q : ∀ h', Kept h h' → Q 0 0 0 0 0 false h') : F78 p i Q h := by
  rw [F78_eq]
  refine Nw_intro fun w h1 hw k1 e1 => ?_
  rw [zero72] at e1
  have e1' : IL h1 w 72 [0, 0, 0, 0, 0] := e1
  refine U159 (m.kept k1) ?_
  simp only [Bool.not_false, Br_true, add_mk]
  refine St_I e1' (by simp) fun h2 u2 e2 => St_I e2 (by simp) fun h3 u3 e3 => St_I e3 (by simp) fun h4 u4 e4 => St_I e4 (by simp) fun h5 u5 e5 => St_I e5 (by simp) fun h6 u6 e6 => ?_
  have K6 : Kept h h6 := u6.kept (u5.kept (u4.kept (u3.kept (u2.kept k1 (by omega)) (by omega)) (by omega)) (by omega)) (by omega)
  refine Ld_i (x := 0) (by rw [hcell_blk e6]; rfl) (Ld_i (x := 0) (by rw [hcell_blk e6]; rfl) (Ld_i (x := 0) (by rw [hcell_blk e6]; rfl) (Ld_i (x := 0) (by rw [hcell_blk e6]; rfl) (Ld_i (x := 0) (by rw [hcell_blk e6]; rfl) (q h6 K6)))))
theorem U96 {k f a b c : Int} {Q : Int → Int → H → Prop} (m : NP h p) (hk : 0 ≤ k ∧ k < 5) (q : ∀ h', Kept h h' → Q 0 1 h') : F96 p k f a b c Q h := by
  rw [F96_eq]
  refine Nw_intro fun n h2 hn k2 e2 => ?_
  have m2 := m.kept k2
  have q2 : ∀ h', Kept h2 h' → Q 0 1 h' := fun h' kk => q h' (k2.trans kk)
  simp only [add_mk, JoinM]
  refine Ld_i (x := k) (by rw [hcell_blk e2]; rfl) ?_
  refine Br_beq_int (fun _ => Ld_i (x := a) (by rw [hcell_blk e2]; rfl) (Ld_i (x := b) (by rw [hcell_blk e2]; rfl) (Ld_i (x := c) (by rw [hcell_blk e2]; rfl) (U76 m2 (q2 h2 (Kept.refl h2)))))) fun h0 => ?_
  refine Br_beq_int (fun _ => Ld_i (x := f) (by rw [hcell_blk e2]; rfl) (U77 m2 (q2 h2 (Kept.refl h2)))) fun h1 => ?_
  refine Br_beq_int (fun _ => Ld_i (x := f) (by rw [hcell_blk e2]; rfl) (Ld_i (x := a) (by rw [hcell_blk e2]; rfl) (Ld_i (x := b) (by rw [hcell_blk e2]; rfl) (Ld_i (x := c) (by rw [hcell_blk e2]; rfl) (U104 m2 fun h' kk => q2 h' kk))))) fun h2' => ?_
  refine Br_beq_int (fun _ => Ld_i (x := f) (by rw [hcell_blk e2]; rfl) (Ld_i (x := a) (by rw [hcell_blk e2]; rfl) (U102 m2 fun h' kk => q2 h' kk))) fun h3 => ?_
  exact Br_beq_int (fun _ => Ld_i (x := f) (by rw [hcell_blk e2]; rfl) (Ld_i (x := a) (by rw [hcell_blk e2]; rfl) (U103 m2 fun h' kk => q2 h' kk))) fun h4 => by omega
end

theorem zero118 : zeroC Try.prog 118 = #[.slice none 0 0, .int .i64 0] := by kernel_rfl
structure S22 (h0 : H) (n z : Nat) (f a b c : Int) (h' : H) : Prop where
  kept : Kept h0 h'
  act : ∃ k : Int, IL h' n 108 [k, f, a, b, c]
  mem : h'[z]? = some (.cells #[.slice none 0 0, .int .i64 0] 118)
  lo : h0.size ≤ n
  ne : n ≠ z
theorem S22.more {h0 h1 h2 : H} {n z : Nat} {f a b c : Int} (e : S22 h0 n z f a b c h1) (k : Kept h1 h2) : S22 h0 n z f a b c h2 :=
  ⟨e.kept.trans k, by obtain ⟨kk, e'⟩ := e.act; exact ⟨kk, k.blk e'⟩, k.blk e.mem, e.lo, e.ne⟩
theorem L22 {k f a b c : Int} {Q : Bool → H → Prop} {h : H} (q : ∀ h', Kept h h' → Q true h') : F22 k f a b c Q h := by
  rw [F22_eq]
  refine Nw_intro fun n h2 hn k2 e2 => Nw_intro fun z h4 hz k4 e4 => ?_
  rw [zero118] at e4
  have hne : n ≠ z := by have := (Array.getElem?_eq_some_iff.1 e2).1; omega
  have S0 : S22 h n z f a b c h4 := ⟨k2.trans k4, ⟨k, k4.blk e2⟩, e4, by omega, hne⟩
  refine Loop_intro (σ := Int × Unit) (x := (0, ())) (fun d y h' => ∃ i : Nat, y.1 = (i : Int) ∧ d = 2 - i ∧ i ≤ 2 ∧ S22 h n z f a b c h') 2 ⟨0, rfl, rfl, by omega, S0⟩ ?_
  rintro d ⟨ii, u⟩ h7 ⟨i, hi, hd, hi2, S7⟩
  simp only at hi
  subst hi
  refine Br_dec (fun hlt => ?_) fun _ => C79 fun h9 k9 => q h9 (S7.kept.trans k9)
  have hlt : i < 2 := by simp at hlt; omega
  refine ⟨⟨by simp, by simp; omega⟩, ?_⟩
  obtain ⟨P, hP⟩ : ∃ P : Option Addr, P = List.getD [none, some ⟨z, 0, none⟩] (Int.toNat (i : Int)) none := ⟨_, rfl⟩
  simp only
  rw [← hP]
  have hNM : ∀ h', S22 h n z f a b c h' → NP h' P := by
    intro h' S
    have : i = 0 ∨ i = 1 := by omega
    rcases this with rfl | rfl
    · exact .inl hP
    · exact .inr ⟨z, hP, S.mem⟩
  refine Loop_intro (σ := Int × Unit) (x := (0, ())) (fun d y h' => ∃ i : Nat, y.1 = (i : Int) ∧ d = 5 - i ∧ i ≤ 5 ∧ S22 h n z f a b c h') 5 ⟨0, rfl, rfl, by omega, S7⟩ ?_
  rintro d2 ⟨jj, u⟩ h10 ⟨j, hj, hd2, hj5, S10⟩
  simp only at hj
  subst hj
  refine Br_dec (fun hlt5 => ?_) fun _ => ?_
  · have hlt5 : j < 5 := by simp at hlt5; omega
    obtain ⟨k0, e10⟩ := S10.act
    simp only [add_mk]
    refine St_I e10 (by simp) fun h11 u11 e11 => ?_
    have S11 : S22 h n z f a b c h11 := ⟨u11.kept S10.kept S10.lo, ⟨j, e11⟩, u11.blk S10.mem (Ne.symm S10.ne), S10.lo, S10.ne⟩
    refine Ld_i (x := (j : Int)) (by rw [hcell_blk e11]; rfl) (Ld_i (x := f) (by rw [hcell_blk e11]; rfl) (Ld_i (x := a) (by rw [hcell_blk e11]; rfl) (Ld_i (x := b) (by rw [hcell_blk e11]; rfl) (Ld_i (x := c) (by rw [hcell_blk e11]; rfl) ?_))))
    refine U96 (hNM _ S11) (by omega) fun h12 k12 => ?_
    simp only [LetI, bne_self_eq_false, Br_false]
    exact ⟨5 - (j + 1), by omega, j + 1, by show IntKind.wrap .i64 ((j : Int) + 1) = _; rw [wrap_i64' _ (by omega) (by omega)]; omega, by trivial, by omega, S11.more k12⟩
  · obtain ⟨k0, e10⟩ := S10.act
    have nm := hNM _ S10
    have cf : hcell h10 ((({ block := n, off := 0, spot := none } : Addr).add 1).add 0) = some (.int .i64 f) := by simp only [add_mk]; rw [hcell_blk e10]; rfl
    have ca : hcell h10 ((({ block := n, off := 0, spot := none } : Addr).add 2).add 0) = some (.int .i64 a) := by simp only [add_mk]; rw [hcell_blk e10]; rfl
    refine Ld_i cf (U78 nm fun h11 k11 => Nw_intro fun w h12 hw k12 e12 => ?_)
    rw [zero72] at e12
    have e12' : IL h12 w 72 [0, 0, 0, 0, 0] := e12
    have S12 := (S10.more k11).more k12
    have hs := S10.kept.1
    have hs2 := k11.1
    have hnlt : n < h10.size := (Array.getElem?_eq_some_iff.1 (show h10[n]? = some _ from e10)).1
    have hzlt : z < h10.size := (Array.getElem?_eq_some_iff.1 S10.mem).1
    refine St_I e12' (by simp) fun h13 u13 e13 => St_I e13 (by simp) fun h14 u14 e14 => St_I e14 (by simp) fun h15 u15 e15 => St_I e15 (by simp) fun h16 u16 e16 => St_I e16 (by simp) fun h17 u17 e17 => ?_
    have uu := ((((u13.trans u14).trans u15).trans u16).trans u17)
    have kk : Kept h10 h17 := uu.kept (k11.trans k12) (by omega)
    have S17 := S10.more kk
    have nm17 := hNM _ S17
    simp only [Br_false]
    refine Ld_i (kk.cell ca) (U98 nm17 ⟨kk.cell ca, U100 nm17 ?_⟩)
    exact ⟨2 - (i + 1), by omega, i + 1, by show IntKind.wrap .i64 ((i : Int) + 1) = _; rw [wrap_i64' _ (by omega) (by omega)]; omega, rfl, by omega, S17⟩
end Go.Proofs.Ytfijchofplkcoaa
