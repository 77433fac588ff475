/-
  A space's tables (package pmap): what its functions come to on words, frames and a count; Find, tidy, Remove, Protect and Clear of the program.
  Remove, Protect, Clear, New and Enter of the program's spaces.
  New and Enter of the program's spaces.
  Enter of the program's spaces, whole.
-/
import Derived.Test.YtfijchofplkcoaaJc
import Derived.Test.YtfijchofplkcoaaIi
import Derived.Test.YtfijchofplkcoaaGk
set_option linter.unusedVariables false
set_option linter.unusedSimpArgs false
set_option maxRecDepth 100000
namespace Go.Proofs.Ytfijchofplkcoaa

/-- Words, frames, the count of tables. -/
abbrev PS := List Int × List Int × Int
def ix2 (v : Int) : Nat := (v / 262144 % 512).toNat
def ix1 (v : Int) : Nat := (v / 512 % 512).toNat
def ix0 (v : Int) : Nat := (v % 512).toNat
theorem ix_lt (v : Int) : ix2 v < 512 ∧ ix1 v < 512 ∧ ix0 v < 512 := by unfold ix2 ix1 ix0; omega
theorem ix_eq (v : Int) : idxF v 2 = (ix2 v : Int) ∧ idxF v 1 = (ix1 v : Int) ∧ idxF v 0 = (ix0 v : Int) := by
  rw [idx2, idx1, idx0]; unfold ix2 ix1 ix0; omega
def giveS (n f i : Nat) (s : PS) : PS := (s.1.set (f * 512 + i) 0, (sGive s.2.1 n (ppn (wat s.1 f i))).2, s.2.2 - 1)
def bareB (ws : List Int) (f : Nat) : Bool := (List.range 512).all fun t => wat ws f t == 0
theorem bareB_iff {ws : List Int} {f : Nat} : bareB ws f = true ↔ ∀ t, t < 512 → wat ws f t = 0 := by
  unfold bareB
  rw [List.all_eq_true]
  simp
/-- The first half of tidy: the lowest table. -/
def tidy1 (n m i1 : Nat) (s : PS) : PS :=
  match lead n (wat s.1 m i1) with
  | some l => if bareB s.1 l = true then giveS n m i1 s else s
  | none => s
def tidyS (n root : Nat) (vpn : Int) (s : PS) : PS :=
  match lead n (wat s.1 root (ix2 vpn)) with
  | none => s
  | some m => if bareB (tidy1 n m (ix1 vpn) s).1 m = true then giveS n root (ix2 vpn) (tidy1 n m (ix1 vpn) s) else tidy1 n m (ix1 vpn) s
def findS (n : Nat) (ws : List Int) (root vpn : Int) : Option Int := (entS n ws root vpn).bind fun v => if kindM (lo8 (flg v)) = 2 then some v else none
/-- An entry is another one; without one, tables go. -/
def changeS (n root : Nat) (vpn v' : Int) (s : PS) : PS :=
  match placeS n s.1 root vpn with
  | some (f, i) => if v' = 0 then tidyS n root vpn (s.1.set (f * 512 + i) v', s.2.1, s.2.2) else (s.1.set (f * 512 + i) v', s.2.1, s.2.2)
  | none => s
def hadN (fl : Nat) (flags : Int) : Nat := fl &&& lo8 flags &&& 192
def removeS (n root : Nat) (vpn : Int) (s : PS) : Bool × PS :=
  match findS n s.1 root vpn with
  | some v => (true, changeS n root vpn 0 s)
  | none => (false, s)
def protectS (n root : Nat) (vpn prot : Int) (s : PS) : Bool × PS :=
  if flagsN (lo3 prot) true = 0 then removeS n root vpn s else
  match findS n s.1 root vpn with
  | some v => (true, changeS n root vpn (encF (((flagsN (lo3 prot) true).toNat ||| (lo8 (flg v) &&& 192) : Nat) : Int) (ppn v)) s)
  | none => (false, s)
def clearS (n root : Nat) (vpn flags : Int) (s : PS) : Int × PS :=
  match findS n s.1 root vpn with
  | some v => ((hadN (lo8 (flg v)) flags : Nat), changeS n root vpn (encF ((lo8 (flg v) - hadN (lo8 (flg v)) flags : Nat) : Int) (ppn v)) s)
  | none => (0, s)

structure PW (h : H) (bm bf bp pf n : Nat) (ws ps : List Int) : Prop where
  mw : MW h bm bf n ws
  pm : PM h bp pf n 0 ps
  gf : GF ps n
  e1 : bm ≠ pf
  e2 : bp ≠ bf
  e3 : bf ≠ pf
structure XM (h : H) (bx bm bp : Nat) (asid root nt : Int) : Prop where
  cells : h[bx]? = some (.cells #[.pointer (some ⟨bm, 0, none⟩), .pointer (some ⟨bp, 0, none⟩), .int .i64 asid, .int .i64 root, .int .i64 nt] 195)
/-- A space in its memory. -/
structure W1 (h : H) (bm bf bp pf bx n : Nat) (asid : Int) (root : Nat) (s : PS) : Prop where
  pw : PW h bm bf bp pf n s.1 s.2.1
  xm : XM h bx bm bp asid root s.2.2
  x1 : bx ≠ bm
  x2 : bx ≠ bf
  x3 : bx ≠ bp
  x4 : bx ≠ pf
section
variable {h : H} {bm bf bp pf bx n root : Nat} {asid : Int} {s : PS}
theorem PW.kept {h' : H} {ws ps : List Int} (w : PW h bm bf bp pf n ws ps) (k : Kept h h') : PW h' bm bf bp pf n ws ps := ⟨w.mw.kept k, w.pm.kept k, w.gf, w.e1, w.e2, w.e3⟩
theorem W1.kept {h' : H} (w : W1 h bm bf bp pf bx n asid root s) (k : Kept h h') : W1 h' bm bf bp pf bx n asid root s :=
  ⟨w.pw.kept k, ⟨k.blk w.xm.cells⟩, w.x1, w.x2, w.x3, w.x4⟩
theorem W1.m (w : W1 h bm bf bp pf bx n asid root s) : hcell h ⟨bx, 0, none⟩ = some (.pointer (some ⟨bm, 0, none⟩)) := by rw [hcell_blk w.xm.cells]; rfl
theorem W1.p (w : W1 h bm bf bp pf bx n asid root s) : hcell h ⟨bx, 1, none⟩ = some (.pointer (some ⟨bp, 0, none⟩)) := by rw [hcell_blk w.xm.cells]; rfl
theorem W1.a (w : W1 h bm bf bp pf bx n asid root s) : hcell h ⟨bx, 2, none⟩ = some (.int .i64 asid) := by rw [hcell_blk w.xm.cells]; rfl
theorem W1.r (w : W1 h bm bf bp pf bx n asid root s) : hcell h ⟨bx, 3, none⟩ = some (.int .i64 (root : Int)) := by rw [hcell_blk w.xm.cells]; rfl
theorem W1.c (w : W1 h bm bf bp pf bx n asid root s) : hcell h ⟨bx, 4, none⟩ = some (.int .i64 s.2.2) := by rw [hcell_blk w.xm.cells]; rfl
theorem W1.lt (w : W1 h bm bf bp pf bx n asid root s) : bm < h.size ∧ bf < h.size ∧ bp < h.size ∧ pf < h.size ∧ bx < h.size :=
  ⟨w.pw.mw.lt.1, w.pw.mw.lt.2, (Array.getElem?_eq_some_iff.1 w.pw.pm.top).1, (Array.getElem?_eq_some_iff.1 (show h[pf]? = some _ from w.pw.pm.row)).1, (Array.getElem?_eq_some_iff.1 w.xm.cells).1⟩
/-- The memory changed. -/
theorem W1.mem {h' : H} {ws' : List Int} (w : W1 h bm bf bp pf bx n asid root s) (u : KB h bf h') (m : MW h' bm bf n ws') : W1 h' bm bf bp pf bx n asid root (ws', s.2.1, s.2.2) :=
  ⟨⟨m, w.pw.pm.kbo u w.pw.e2 (Ne.symm w.pw.e3), w.pw.gf, w.pw.e1, w.pw.e2, w.pw.e3⟩, ⟨u.blk w.xm.cells w.x2⟩, w.x1, w.x2, w.x3, w.x4⟩
/-- The pool changed. -/
theorem W1.pool {h' : H} {ps' : List Int} (w : W1 h bm bf bp pf bx n asid root s) (u : KB h pf h') (m : PM h' bp pf n 0 ps') (g : GF ps' n) : W1 h' bm bf bp pf bx n asid root (s.1, ps', s.2.2) :=
  ⟨⟨w.pw.mw.kl (L := [pf]) (u.kl (by simp)) (by simpa using w.pw.e1) (by simpa using w.pw.e3), m, g, w.pw.e1, w.pw.e2, w.pw.e3⟩, ⟨u.blk w.xm.cells w.x4⟩, w.x1, w.x2, w.x3, w.x4⟩
/-- The count changed. -/
theorem W1.St {nt : Int} {K : H → Prop} (w : W1 h bm bf bp pf bx n asid root s) (k : ∀ h', Upd h bx h' → W1 h' bm bf bp pf bx n asid root (s.1, s.2.1, nt) → K h') : St h ⟨bx, 4, none⟩ (.int .i64 nt) K := by
  refine St_intro w.xm.cells (by simp) fun h' u e => k h' u ⟨⟨w.pw.mw.kl (L := [bx]) (u.kl (by simp)) (by simpa using Ne.symm w.x1) (by simpa using Ne.symm w.x2), ?_, w.pw.gf, w.pw.e1, w.pw.e2, w.pw.e3⟩, ⟨e⟩, w.x1, w.x2, w.x3, w.x4⟩
  exact w.pw.pm.kbo u.kb (Ne.symm w.x3) (Ne.symm w.x4)
abbrev L3b (bf pf bx : Nat) : List Nat := [bf, pf, bx]
theorem P188 {Q : Bool → H → Prop} (w : W1 h bm bf bp pf bx n asid root s) (q : Q (decide (s.2.2 > 0)) h) : F188 (some ⟨bx, 0, none⟩) Q h := by
  rw [F188_eq]
  unfold B188
  simp only [Option.isNone_some, Bool.not_false, Br_true, NilP, add_mk, Nat.add_zero, Nat.zero_add]
  exact Ld_i w.c q
theorem P132 {Q : Int → H → Prop} (w : W1 h bm bf bp pf bx n asid root s) (hn : 0 < s.2.2) (q : Q s.2.2 h) : F132 (some ⟨bx, 0, none⟩) Q h := by
  rw [F132_eq]
  refine P188 w ?_
  rw [decide_eq_true (show s.2.2 > 0 from hn)]
  simp only [Bool.not_true, Br_false, NilP, add_mk, Nat.add_zero, Nat.zero_add]
  exact Ld_i w.c q
theorem P136 {Q : Int → H → Prop} (w : W1 h bm bf bp pf bx n asid root s) (hn : 0 < s.2.2) (q : Q (root : Int) h) : F136 (some ⟨bx, 0, none⟩) Q h := by
  rw [F136_eq]
  refine P188 w ?_
  rw [decide_eq_true (show s.2.2 > 0 from hn)]
  simp only [Bool.not_true, Br_false, NilP, add_mk, Nat.add_zero, Nat.zero_add]
  exact Ld_i w.r q
theorem P189 {f i : Nat} {Q : Int → Bool → H → Prop} (w : W1 h bm bf bp pf bx n asid root s) (hf : f < n) (hi : i < 512)
    (q : ∀ h', Kept h h' → Q (ppn (wat s.1 f i)) (lead n (wat s.1 f i)).isSome h') : F189 (some ⟨bx, 0, none⟩) f i Q h := by
  rw [F189_eq]
  unfold B189
  simp only [NilP, add_mk, Nat.add_zero, Nat.zero_add]
  refine Ld_p w.m (M83 w.pw.mw ?_)
  rw [wordF_in hf hi]
  simp only [LetI]
  refine C40 (w.pw.mw.ok.get _) fun h1 k1 => Nw_intro fun b h2 hb k2 e2 => ?_
  rw [zero25] at e2
  simp only [add_mk]
  refine put25 e2 fun h3 u3 e3 => ?_
  have e3 : IL h3 b 25 [flg (wat s.1 f i), ppn (wat s.1 f i)] := e3
  have k13 : Kept h1 h3 := u3.kept k2 (by omega)
  refine Ld_i (x := ppn (wat s.1 f i)) (by rw [hcell_blk e3]; rfl) (Ld_i (x := flg (wat s.1 f i)) (by rw [hcell_blk e3]; rfl) (Ld_i (x := ppn (wat s.1 f i)) (by rw [hcell_blk e3]; rfl) ?_))
  refine C53 fun h4 k4 => ⟨by rw [hcell_blk (k4.blk e3)]; rfl, ?_⟩
  have k := (k1.trans k13).trans k4
  have q := q h4 k
  unfold lead at q
  refine Br_beq_int (fun e => ?_) fun e => ?_
  · have w4 := w.kept k
    refine Ld_i (x := ppn (wat s.1 f i)) (by rw [hcell_blk (k4.blk e3)]; rfl) (Ld_p w4.m ⟨((n : Int), ()), M93 w4.pw.mw ⟨rfl, rfl⟩, ?_⟩)
    by_cases hh : ppn (wat s.1 f i) < (n : Int)
    · rw [if_pos ⟨e, hh⟩] at q
      simp only [decide_eq_true hh]; exact q
    · rw [if_neg (fun x => hh x.2)] at q
      simp only [decide_eq_false hh]; exact q
  · rw [if_neg (fun x => e x.1)] at q
    exact q
theorem sGive_gf {ps : List Int} (g : GF ps n) (hl : ps.length = 5 * n) (i : Int) : GF (sGive ps n i).2 n := (sGive_g g hl).1
theorem P191 {f i : Nat} {Q : H → Prop} (w : W1 h bm bf bp pf bx n asid root s) (hf : f < n) (hi : i < 512) (hb : -1000 ≤ s.2.2 ∧ s.2.2 ≤ 1000)
    (q : ∀ h', KL h (L3b bf pf bx) h' → W1 h' bm bf bp pf bx n asid root (giveS n f i s) → Q h') : F191 (some ⟨bx, 0, none⟩) f i Q h := by
  rw [F191_eq]
  refine P189 w hf hi fun h1 k1 => ?_
  have w1 := w.kept k1
  simp only [LetI, NilP, add_mk, Nat.add_zero, Nat.zero_add]
  refine Ld_p w1.p (X77 w1.pw.pm fun e ys h2 hs u2 m2 => ?_)
  have g2 : GF ys n := by have := sGive_gf w.pw.gf w.pw.pm.len (ppn (wat s.1 f i)); rw [hs] at this; exact this
  have w2 := w1.pool u2 m2 g2
  refine Ld_p w2.m (M82 w2.pw.mw (by omega) fun h3 u3 m3 => ?_)
  have es : setF n s.1 (f : Int) (i : Int) 0 = s.1.set (f * 512 + i) 0 := setF_in hf hi
  rw [es] at m3
  have w3 := w2.mem u3 m3
  refine Ld_i w3.c ?_
  rw [wrap_i64' _ (by simp only; omega) (by simp only; omega)]
  refine w3.St fun h4 u4 w4 => q h4 (((k1.kl.trans (u2.kl (by simp))).trans (u3.kl (by simp))).trans (u4.kl (by simp))) ?_
  have : giveS n f i s = (s.1.set (f * 512 + i) 0, ys, s.2.2 - 1) := by unfold giveS; rw [hs]
  rw [this]; exact w4
theorem P206 {f : Nat} {Q : Bool → H → Prop} (w : W1 h bm bf bp pf bx n asid root s) (hf : f < n) (q : Q (bareB s.1 f) h) : F206 (some ⟨bx, 0, none⟩) f Q h := by
  rw [F206_eq]
  unfold B206
  refine Loop_intro (σ := Int × Unit) (x := (0, ())) (fun c z h' => ∃ t : Nat, z.1 = (t : Int) ∧ c = 512 - t ∧ t ≤ 512 ∧ h = h' ∧ ∀ t', t' < t → wat s.1 f t' = 0) 512 ⟨0, rfl, rfl, by omega, rfl, fun t' ht' => by omega⟩ ?_
  rintro c ⟨zz, u⟩ h' ⟨t, ht, hc, ht5, rfl, hz⟩
  simp only at ht
  subst ht
  refine Br_dec (fun hlt => ?_) fun hge => ?_
  · have hlt : t < 512 := by simp only at hlt; omega
    simp only [LetI, NilP, add_mk, Nat.add_zero, Nat.zero_add]
    refine Ld_p w.m (M83 w.pw.mw ?_)
    rw [wordF_in hf hlt]
    simp only
    refine Br_bne_int (fun e => ?_) fun e => ?_
    · have : bareB s.1 f = false := by
        cases hb : bareB s.1 f
        · rfl
        · exact absurd (bareB_iff.1 hb t hlt) e
      rw [this] at q; exact q
    · refine ⟨512 - (t + 1), by omega, t + 1, by rw [wrap_i64' _ (by omega) (by omega)]; omega, rfl, by omega, by trivial, fun t' ht' => ?_⟩
      by_cases e2 : t' = t
      · subst e2; exact e
      · exact hz t' (by omega)
  · have : t = 512 := by simp only at hge; omega
    subst this
    rw [bareB_iff.2 hz] at q; exact q
theorem giveS_nt (f i : Nat) : (giveS n f i s).2.2 = s.2.2 - 1 := rfl
theorem P204 {vpn : Int} {Q : H → Prop} (w : W1 h bm bf bp pf bx n asid root s) (hr : root < n) (hb : -900 ≤ s.2.2 ∧ s.2.2 ≤ 900)
    (q : ∀ h', KL h (L3b bf pf bx) h' → W1 h' bm bf bp pf bx n asid root (tidyS n root vpn s) → Q h') : F204 (some ⟨bx, 0, none⟩) vpn Q h := by
  rw [F204_eq]
  unfold B204
  obtain ⟨x2, x1, x0⟩ := ix_eq vpn
  obtain ⟨l2, l1, l0⟩ := ix_lt vpn
  refine C44 (C44 ?_)
  rw [x2, x1]
  simp only [LetI, NilP, add_mk, Nat.add_zero, Nat.zero_add]
  refine Ld_i w.r (P189 w hr l2 fun h1 k1 => ?_)
  have w1 := w.kept k1
  cases hm : lead n (wat s.1 root (ix2 vpn)) with
  | none =>
    simp only [Option.isSome_none, Bool.not_false, Br_true]
    refine q h1 k1.kl ?_
    have : tidyS n root vpn s = s := by unfold tidyS; rw [hm]
    rw [this]; exact w1
  | some m =>
    obtain ⟨_, hp⟩ := lead_some hm
    have hmn := lead_lt hm
    simp only [Option.isSome_some, Bool.not_true, Br_false]
    rw [hp]
    have ht : tidyS n root vpn s = if bareB (tidy1 n m (ix1 vpn) s).1 m = true then giveS n root (ix2 vpn) (tidy1 n m (ix1 vpn) s) else tidy1 n m (ix1 vpn) s := by unfold tidyS; rw [hm]
    rw [ht] at q
    refine JoinI (fun _ h' => KL h (L3b bf pf bx) h' ∧ W1 h' bm bf bp pf bx n asid root (tidy1 n m (ix1 vpn) s) ∧ (-950 ≤ (tidy1 n m (ix1 vpn) s).2.2 ∧ (tidy1 n m (ix1 vpn) s).2.2 ≤ 950)) (fun J hJ => ?_) ?_
    · refine P189 w1 hmn l1 fun h2 k2 => ?_
      have w2 := w1.kept k2
      have k02 : KL h (L3b bf pf bx) h2 := (k1.trans k2).kl
      cases hl : lead n (wat s.1 m (ix1 vpn)) with
      | none =>
        simp only [Option.isSome_none, Br_false]
        have : tidy1 n m (ix1 vpn) s = s := by unfold tidy1; rw [hl]
        rw [this] at hJ
        exact hJ () h2 ⟨k02, w2, by omega⟩
      | some l =>
        obtain ⟨_, hpl⟩ := lead_some hl
        simp only [Option.isSome_some, Br_true]
        rw [hpl]
        refine P206 w2 (lead_lt hl) ?_
        have t1 : tidy1 n m (ix1 vpn) s = if bareB s.1 l = true then giveS n m (ix1 vpn) s else s := by unfold tidy1; rw [hl]
        rw [t1] at hJ
        cases hbb : bareB s.1 l
        · rw [hbb, if_neg (by simp)] at hJ
          exact hJ () h2 ⟨k02, w2, by omega⟩
        · rw [hbb, if_pos rfl] at hJ
          refine P191 w2 hmn l1 (by omega) fun h3 k3 w3 => hJ () h3 ⟨k02.trans k3, w3, ?_⟩
          rw [giveS_nt]; omega
    · rintro u h2 ⟨k2, w2, hb2⟩
      refine P206 w2 hmn ?_
      cases hbb : bareB (tidy1 n m (ix1 vpn) s).1 m
      · rw [hbb, if_neg (by simp)] at q
        exact q h2 k2 w2
      · rw [hbb, if_pos rfl] at q
        simp only [Br_true]
        exact Ld_i w2.r (P191 w2 hr l2 (by omega) fun h3 k3 w3 => q h3 (k2.trans k3) w3)
theorem tidy1_nt (m i1 : Nat) : (tidy1 n m i1 s).2.2 = s.2.2 ∨ (tidy1 n m i1 s).2.2 = s.2.2 - 1 := by
  unfold tidy1
  split
  · split
    · exact .inr rfl
    · exact .inl rfl
  · exact .inl rfl
theorem P131 {vpn : Int} {Q : Int → Int → Bool → H → Prop} (w : W1 h bm bf bp pf bx n asid root s) (hn : 0 < s.2.2)
    (q : ∀ h', Kept h h' → Q (flg ((findS n s.1 root vpn).getD 0)) (ppn ((findS n s.1 root vpn).getD 0)) (findS n s.1 root vpn).isSome h') : F131 (some ⟨bx, 0, none⟩) vpn Q h := by
  rw [F131_eq]
  unfold B131
  refine Nw_intro fun a1 h2 ha1 k2 e2 => ?_
  rw [zero25] at e2
  have w2 := w.kept k2
  refine P188 w2 ?_
  rw [decide_eq_true (show s.2.2 > 0 from hn)]
  simp only [Bool.not_true, Br_false, NilP, add_mk, Nat.add_zero, Nat.zero_add]
  refine Ld_p w2.m (Ld_i w2.r ?_)
  have hE : findS n s.1 root vpn = (entS n s.1 root vpn).bind fun v => if kindM (lo8 (flg v)) = 2 then some v else none := rfl
  have no : findS n s.1 root vpn = none → ∀ h' : H, Kept h h' → h'[a1]? = some (.cells #[.int .i64 0, .int .i64 0] 25) →
      St h' ⟨a1, 0, none⟩ (.int .i64 0) fun h21 => St h21 ⟨a1, 1, none⟩ (.int .i64 0) fun h22 => Ld (.i .i64) h22 ⟨a1, 0, none⟩ fun x23 => Ld (.i .i64) h22 ⟨a1, 1, none⟩ fun x24 => Q x23 x24 false h22 := by
    intro he h' k' e'
    have := put25 (a := 0) (b := 0) e' (K := fun h22 => Ld (.i .i64) h22 ⟨a1, 0, none⟩ fun x23 => Ld (.i .i64) h22 ⟨a1, 1, none⟩ fun x24 => Q x23 x24 false h22) (fun h3 u3 e3 => ?_)
    · exact this
    · have q := q h3 (u3.kept k' (by omega))
      rw [he] at q
      exact Ld_i (x := 0) (by rw [hcell_blk e3]; rfl) (Ld_i (x := 0) (by rw [hcell_blk e3]; rfl) q)
  have yes : ∀ (h16 : H) (a17 : Nat), Kept h h16 → a17 ≠ a1 → h.size ≤ a17 → h16[a1]? = some (.cells #[.int .i64 0, .int .i64 0] 25) → h16[a17]? = some (.cells #[.int .i64 0, .int .i64 0] 25) → 
      St h16 ⟨a17, 0, none⟩ (.int .i64 (flg ((entS n s.1 root vpn).getD 0))) fun h19 =>
      St h19 ⟨a17, 0 + 1, none⟩ (.int .i64 (ppn ((entS n s.1 root vpn).getD 0))) fun h20 =>
      Br (!(entS n s.1 root vpn).isSome)
      (St h20 ⟨a1, 0, none⟩ (.int .i64 0) fun h21 => St h21 ⟨a1, 1, none⟩ (.int .i64 0) fun h22 => Ld (.i .i64) h22 ⟨a1, 0, none⟩ fun x23 => Ld (.i .i64) h22 ⟨a1, 1, none⟩ fun x24 => Q x23 x24 false h22)
      (Ld (.i .i64) h20 ⟨a17, 0, none⟩ fun x25 =>
      Ld (.i .i64) h20 ⟨a17, 1, none⟩ fun x26 =>
      F53 x25 x26 (fun r27 h28 =>
      Br (r27 != 2)
      (St h28 ⟨a1, 0, none⟩ (.int .i64 0) fun h29 => St h29 ⟨a1, 1, none⟩ (.int .i64 0) fun h30 => Ld (.i .i64) h30 ⟨a1, 0, none⟩ fun x31 => Ld (.i .i64) h30 ⟨a1, 1, none⟩ fun x32 => Q x31 x32 false h30)
      (Ld (.i .i64) h28 ⟨a17, 0, none⟩ fun x33 =>
      Ld (.i .i64) h28 ⟨a17, 1, none⟩ fun x34 =>
      St h28 ⟨a1, 0, none⟩ (.int .i64 x33) fun h35 =>
      St h35 ⟨a1, 1, none⟩ (.int .i64 x34) fun h36 =>
      Ld (.i .i64) h36 ⟨a1, 0, none⟩ fun x37 =>
      Ld (.i .i64) h36 ⟨a1, 1, none⟩ fun x38 =>
      Q x37 x38 true h36)) h20) := by
    intro h16 a17 k16 hne hlo e1 e17
    refine put25 e17 fun h3 u3 e3 => ?_
    have e1' : h3[a1]? = some (.cells #[.int .i64 0, .int .i64 0] 25) := u3.blk e1 (Ne.symm hne)
    have K3 : Kept h h3 := u3.kept k16 hlo
    cases he : entS n s.1 root vpn with
    | none =>
      simp only [Option.isSome_none, Bool.not_false, Br_true]
      exact no (by rw [hE, he]; rfl) h3 K3 e1'
    | some v =>
      rw [he] at e3
      simp only [Option.getD_some] at e3
      simp only [Option.isSome_some, Bool.not_true, Br_false]
      refine Ld_i (x := flg v) (by rw [hcell_blk e3]; rfl) (Ld_i (x := ppn v) (by rw [hcell_blk e3]; rfl) (C53 fun h4 k4 => ?_))
      refine Br_bne_int (fun hk => no (by rw [hE, he]; exact if_neg hk) h4 (K3.trans k4) (k4.blk e1')) fun hk => ?_
      have hk : kindM (lo8 (flg v)) = 2 := hk
      have hf : findS n s.1 root vpn = some v := by rw [hE, he]; exact if_pos hk
      refine Ld_i (x := flg v) (by rw [hcell_blk (k4.blk e3)]; rfl) (Ld_i (x := ppn v) (by rw [hcell_blk (k4.blk e3)]; rfl) ?_)
      have := put25 (a := flg v) (b := ppn v) (k4.blk e1') (K := fun h36 => Ld (.i .i64) h36 ⟨a1, 0, none⟩ fun x37 => Ld (.i .i64) h36 ⟨a1, 1, none⟩ fun x38 => Q x37 x38 true h36) (fun h5 u5 e5 => ?_)
      · exact this
      · have q := q h5 (u5.kept (K3.trans k4) (by omega))
        rw [hf] at q
        exact Ld_i (x := flg v) (by rw [hcell_blk e5]; rfl) (Ld_i (x := ppn v) (by rw [hcell_blk e5]; rfl) q)
  have ha1lt : a1 < h2.size := (Array.getElem?_eq_some_iff.1 e2).1
  have hs2 := k2.1
  constructor
  · refine M122 w2.pw.mw fun h16 k16 => Nw_intro fun a17 h18 ha17 k18 e18 => ?_
    rw [zero25] at e18
    have hs16 := k16.1
    exact yes h18 a17 ((k2.trans k16).trans k18) (by omega) (by omega) (k18.blk (k16.blk e2)) e18
  · refine Nw_intro fun a39 h40 ha39 k40 e40 => ?_
    rw [zero25] at e40
    have w40 := w2.kept k40
    refine ⟨w40.r, w40.m, M122 w40.pw.mw fun h44 k44 => ?_⟩
    exact yes h44 a39 ((k2.trans k40).trans k44) (by omega) (by omega) (k44.blk (k40.blk e2)) (k44.blk e40)
end

theorem findS_some {n : Nat} {ws : List Int} {root vpn v : Int} (h : findS n ws root vpn = some v) : ∃ f i, placeS n ws root vpn = some (f, i) ∧ v = wat ws f i ∧ kindM (lo8 (flg v)) = 2 := by
  unfold findS entS at h
  cases hp : placeS n ws root vpn with
  | none => rw [hp] at h; simp at h
  | some p =>
    rw [hp] at h
    simp only [Option.map_some, Option.bind_some] at h
    split at h
    · rename_i hk
      simp only [Option.some.injEq] at h
      subst h
      exact ⟨p.1, p.2, rfl, rfl, hk⟩
    · cases h
theorem flg_lo8 (v : Int) : flg v = ((lo8 (flg v) : Nat) : Int) := by unfold lo8 flg; omega
theorem flags_range (p : Int) : 0 ≤ flagsN (lo3 p) true ∧ flagsN (lo3 p) true < 64 := by
  have : ∀ m, m < 8 → 0 ≤ flagsN m true ∧ flagsN m true < 64 := by decide
  exact this _ (lo3_lt p)
theorem bAnd_comm (a b : Int) : bAnd .i64 a b = bAnd .i64 b a := by rw [bAnd_s, bAnd_s, Nat.and_comm]
theorem lo8_nat {m : Nat} (h : m < 256) : lo8 (m : Int) = m := by unfold lo8; omega
theorem had_eq (v flags : Int) : bAnd .i64 (bAnd .i64 (flg v) flags) 192 = ((hadN (lo8 (flg v)) flags : Nat) : Int) := by
  have e := flg_lo8 v
  have hl := lo8_lt (flg v)
  generalize lo8 (flg v) = m at *
  rw [e, bAnd_comm (m : Int) flags, bA8 flags _ hl]
  have : lo8 flags &&& m < 256 := Nat.lt_of_le_of_lt Nat.and_le_left (lo8_lt _)
  have h2 := bA8 ((lo8 flags &&& m : Nat) : Int) 192 (by omega)
  rw [show ((192 : Nat) : Int) = 192 from rfl] at h2
  rw [h2, lo8_nat this]
  unfold hadN
  rw [Nat.and_comm (lo8 flags)]
theorem key_clr : ∀ fl : Nat, fl < 256 → ∀ y : Nat, y < 4 → bAndNot .i64 (fl : Int) ((fl &&& (y * 64) : Nat) : Int) = ((fl - (fl &&& (y * 64)) : Nat) : Int) := by decide +kernel
theorem key_192 : ∀ x : Nat, x < 256 → x &&& 192 = x / 64 * 64 := by decide +kernel
theorem hadN_eq (fl : Nat) (flags : Int) : hadN fl flags = fl &&& (lo8 flags / 64 * 64) := by
  unfold hadN
  rw [Nat.and_assoc, key_192 _ (lo8_lt _)]
theorem clr_eq (v flags : Int) : bAndNot .i64 (flg v) ((hadN (lo8 (flg v)) flags : Nat) : Int) = ((lo8 (flg v) - hadN (lo8 (flg v)) flags : Nat) : Int) := by
  have h1 := lo8_lt flags
  have := key_clr (lo8 (flg v)) (lo8_lt _) (lo8 flags / 64) (by omega)
  rw [← hadN_eq] at this
  rw [← flg_lo8] at this
  exact this
theorem pro_eq (v p : Int) : bOr .i64 (flagsN (lo3 p) true) (bAnd .i64 (flg v) 192) = (((flagsN (lo3 p) true).toNat ||| (lo8 (flg v) &&& 192) : Nat) : Int) := by
  have h1 := flags_range p
  have h2 := bA8 (flg v) 192 (by omega)
  rw [show ((192 : Nat) : Int) = 192 from rfl] at h2
  rw [h2]
  have h3 : lo8 (flg v) &&& 192 < 256 := Nat.lt_of_le_of_lt Nat.and_le_left (lo8_lt _)
  obtain ⟨x, hx⟩ := Int.eq_ofNat_of_zero_le h1.1
  rw [hx, Int.toNat_natCast]
  exact bOr_i x _ (by omega) h3
where bOr_i (a b : Nat) (ha : a < 256) (hb : b < 256) : bOr .i64 (a : Int) (b : Int) = ((a ||| b : Nat) : Int) := bOr_i64 a b (by omega) (by omega)

section
variable {h : H} {bm bf bp pf bx n root : Nat} {asid : Int} {s : PS}
/-- The tail of a change. -/
theorem chg {f i : Nat} {vpn v' : Int} {Q : Bool → H → Prop} (w : W1 h bm bf bp pf bx n asid root s) (hr : root < n) (hb : -900 ≤ s.2.2 ∧ s.2.2 ≤ 900) (hp : placeS n s.1 root vpn = some (f, i)) (hv : 0 ≤ v' ∧ v' < 18446744073709551616)
    (q : ∀ h', KL h (L3b bf pf bx) h' → W1 h' bm bf bp pf bx n asid root (changeS n root vpn v' s) → Q true h') :
    NilP (some (⟨bx, 0, none⟩ : Addr)) fun a27 => Ld .p h ((a27.add 0).add 0) fun x28 => F82 x28 f i v' (fun r29 h30 => Br (v' == 0) (F204 (some ⟨bx, 0, none⟩) vpn (fun h31 => Q true h31) h30) (Q true h30)) h := by
  have hlt := placeS_lt hp
  simp only [NilP, add_mk, Nat.add_zero, Nat.zero_add]
  refine Ld_p w.m (M82 w.pw.mw hv fun h1 u1 m1 => ?_)
  rw [setF_in hlt.1 hlt.2.1] at m1
  have w1 := w.mem u1 m1
  have k1 : KL h (L3b bf pf bx) h1 := u1.kl (by simp)
  unfold changeS at q
  rw [hp] at q
  refine Br_beq_int (fun e => ?_) fun e => ?_
  · simp only [if_pos e] at q
    exact P204 w1 hr hb fun h2 k2 w2 => q h2 (k1.trans k2) w2
  · simp only [if_neg e] at q
    exact q h1 k1 w1
theorem C193 {a b : Int} {Q : Int → Int → H → Prop} (q : ∀ h', Kept h h' → Q 0 0 h') : F193 a b Q h := by
  rw [F193_eq]
  refine Nw_intro fun a1 h1 ha1 k1 e1 => Nw_intro fun a2 h2 ha2 k2 e2 => ?_
  rw [zero25] at e2
  simp only [add_mk]
  have hk1 := k1.1
  refine put25 e2 fun h3 u3 e3 => ?_
  exact Ld_i (x := 0) (by rw [hcell_blk e3]; rfl) (Ld_i (x := 0) (by rw [hcell_blk e3]; rfl) (q h3 (u3.kept (k1.trans k2) (by omega))))
theorem P192r {vpn : Int} {Q : Bool → H → Prop} (w : W1 h bm bf bp pf bx n asid root s) (hn : 0 < s.2.2) (hr : root < n) (hb : s.2.2 ≤ 900)
    (q : ∀ h' r s', removeS n root vpn s = (r, s') → KL h (L3b bf pf bx) h' → W1 h' bm bf bp pf bx n asid root s' → Q r h') : F192Rem (some ⟨bx, 0, none⟩) vpn Q h := by
  rw [F192Rem_eq]
  refine P131 w hn fun h1 k1 => Nw_intro fun a5 h2 ha5 k2 e2 => ?_
  rw [zero25] at e2
  simp only [add_mk]
  refine put25 e2 fun h3 u3 e3 => ?_
  have k13 : Kept h1 h3 := u3.kept k2 (by omega)
  have k3 := k1.trans k13
  have w3 := w.kept k3
  unfold removeS at q
  cases hf : findS n s.1 root vpn with
  | none =>
    rw [hf] at q
    simp only [Option.isSome_none, Bool.not_false, Br_true]
    exact q h3 _ _ rfl k3.kl w3
  | some v =>
    rw [hf] at q e3
    obtain ⟨f, i, hp, hv, hk⟩ := findS_some hf
    simp only [Option.isSome_some, Bool.not_true, Br_false, NilP, add_mk, Nat.add_zero, Nat.zero_add]
    refine Ld_p w3.m (Ld_i w3.r (M120 w3.pw.mw fun h4 k4 => ?_))
    rw [hp]
    simp only [LetI, plF, plI]
    refine Ld_i (x := flg v) (by rw [hcell_blk (k4.blk e3)]; rfl) (Ld_i (x := ppn v) (by rw [hcell_blk (k4.blk e3)]; rfl) (C193 fun h5 k5 => C41 fun h6 k6 => ?_))
    have k36 := (k4.trans k5).trans k6
    have w6 := w3.kept k36
    have := chg (Q := Q) (vpn := vpn) (v' := encF 0 0) w6 hr (by omega) hp (by decide) (fun h7 k7 w7 => q h7 true _ rfl ((k3.trans k36).kl.trans k7) w7)
    simp only [NilP, add_mk, Nat.add_zero, Nat.zero_add] at this
    exact this
theorem P134 {vpn : Int} {Q : Bool → H → Prop} (w : W1 h bm bf bp pf bx n asid root s) (hn : 0 < s.2.2) (hr : root < n) (hb : s.2.2 ≤ 900)
    (q : ∀ h' r s', removeS n root vpn s = (r, s') → KL h (L3b bf pf bx) h' → W1 h' bm bf bp pf bx n asid root s' → Q r h') : F134 (some ⟨bx, 0, none⟩) vpn Q h := by
  rw [F134_eq]; exact P192r w hn hr hb q
theorem C194 {a b : Int} {p : Nat} {fl : Int} {Q : Int → Int → H → Prop} (e : hcell h ⟨p, 0, none⟩ = some (.int .i64 fl)) (q : ∀ h', Kept h h' → Q (bOr .i64 fl (bAnd .i64 a 192)) b h') : F194 a b ⟨p, 0, none⟩ Q h := by
  rw [F194_eq]
  refine Nw_intro fun a1 h1 ha1 k1 e1 => Nw_intro fun a2 h2 ha2 k2 e2 => ?_
  rw [zero25] at e2
  simp only [add_mk, Nat.add_zero]
  have hk1 := k1.1
  have k12 := k1.trans k2
  refine Ld_i (k12.cell e) (Ld_i (x := a) (by rw [hcell_blk (k2.blk e1)]; rfl) (Ld_i (x := b) (by rw [hcell_blk (k2.blk e1)]; rfl) ?_))
  refine put25 e2 fun h3 u3 e3 => ?_
  exact Ld_i (x := bOr .i64 fl (bAnd .i64 a 192)) (by rw [hcell_blk e3]; rfl) (Ld_i (x := b) (by rw [hcell_blk e3]; rfl) (q h3 (u3.kept k12 (by omega))))
theorem P137 {vpn prot : Int} {Q : Bool → H → Prop} (w : W1 h bm bf bp pf bx n asid root s) (hn : 0 < s.2.2) (hr : root < n) (hb : s.2.2 ≤ 900)
    (q : ∀ h' r s', protectS n root vpn prot s = (r, s') → KL h (L3b bf pf bx) h' → W1 h' bm bf bp pf bx n asid root s' → Q r h') : F137 (some ⟨bx, 0, none⟩) vpn prot Q h := by
  rw [F137_eq]
  refine C58 fun h1 k1 => Nw_intro fun a3 h2 ha3 k2 e2 => ?_
  have e2 : IL h2 a3 3 [0] := by
    have : zeroC Try.prog 3 = VI [0] := by kernel_rfl
    rw [this] at e2; exact e2
  simp only [add_mk]
  refine St_I e2 (by simp) fun h3 u3 e3 => ?_
  have e3 : IL h3 a3 3 [flagsN (lo3 prot) true] := e3
  have k13 : Kept h1 h3 := u3.kept k2 (by omega)
  have k3 := k1.trans k13
  have w3 := w.kept k3
  have c3 : hcell h3 ⟨a3, 0, none⟩ = some (.int .i64 (flagsN (lo3 prot) true)) := by rw [hcell_blk e3]; rfl
  unfold protectS at q
  refine Ld_i c3 (Br_beq_int (fun e => ?_) fun e => ?_)
  · rw [if_pos e] at q
    exact P134 w3 hn hr hb fun h4 r s' hs k4 w4 => q h4 r s' hs (k3.kl.trans k4) w4
  · rw [if_neg e] at q
    rw [F192Pro_eq]
    refine P131 w3 hn fun h4 k4 => Nw_intro fun a5 h5 ha5 k5 e5 => ?_
    rw [zero25] at e5
    simp only [add_mk]
    refine put25 e5 fun h6 u6 e6 => ?_
    have k46 : Kept h4 h6 := u6.kept k5 (by omega)
    have k36 := k4.trans k46
    have w6 := w3.kept k36
    cases hf : findS n s.1 root vpn with
    | none =>
      rw [hf] at q
      simp only [Option.isSome_none, Bool.not_false, Br_true]
      exact q h6 _ _ rfl (k3.trans k36).kl w6
    | some v =>
      rw [hf] at q e6
      obtain ⟨f, i, hp, hv, hk⟩ := findS_some hf
      simp only [Option.isSome_some, Bool.not_true, Br_false, NilP, add_mk, Nat.add_zero, Nat.zero_add]
      refine Ld_p w6.m (Ld_i w6.r (M120 w6.pw.mw fun h7 k7 => ?_))
      rw [hp]
      simp only [LetI, plF, plI]
      refine Ld_i (x := flg v) (by rw [hcell_blk (k7.blk e6)]; rfl) (Ld_i (x := ppn v) (by rw [hcell_blk (k7.blk e6)]; rfl) (C194 ((k36.trans k7).cell c3) fun h8 k8 => C41 fun h9 k9 => ?_))
      rw [pro_eq]
      have k69 := (k7.trans k8).trans k9
      have w9 := w6.kept k69
      have := chg (Q := Q) (vpn := vpn) w9 hr (by omega) hp (encF_range _ _) (fun h10 k10 w10 => q h10 true _ rfl (((k3.trans k36).trans k69).kl.trans k10) w10)
      simp only [NilP, add_mk, Nat.add_zero, Nat.zero_add] at this
      exact this
theorem P138 {vpn flags : Int} {Q : Int → H → Prop} (w : W1 h bm bf bp pf bx n asid root s) (hn : 0 < s.2.2) (hr : root < n) (hb : s.2.2 ≤ 900)
    (q : ∀ h' r s', clearS n root vpn flags s = (r, s') → KL h (L3b bf pf bx) h' → W1 h' bm bf bp pf bx n asid root s' → Q r h') : F138 (some ⟨bx, 0, none⟩) vpn flags Q h := by
  rw [F138_eq]
  have lt := w.lt
  refine Nw_intro fun a1 h1 ha1 k1 e1 => Nw_intro fun a3 h2 ha3 k2 e2 => ?_
  have ha1' := (Array.getElem?_eq_some_iff.1 e1).1
  have e1 : IL h1 a1 3 [flags] := e1
  have e2 : IL h2 a3 3 [0] := by
    have : zeroC Try.prog 3 = VI [0] := by kernel_rfl
    rw [this] at e2; exact e2
  have ha3' := (Array.getElem?_eq_some_iff.1 (show h2[a3]? = some _ from e2)).1
  simp only [add_mk]
  refine St_I e2 (by simp) fun h3 u3 e3 => ?_
  have e3 : IL h3 a3 3 [0] := e3
  have hk1 := k1.1
  have k3 : Kept h h3 := u3.kept (k1.trans k2) (by omega)
  have e1 : IL h3 a1 3 [flags] := u3.blk (k2.blk e1) (by omega)
  have w3 := w.kept k3
  have hk3 := k3.1
  rw [F192Clr_eq]
  refine P131 w3 hn fun h4 k4 => Nw_intro fun a5 h5 ha5 k5 e5 => ?_
  rw [zero25] at e5
  simp only [add_mk]
  refine put25 e5 fun h6 u6 e6 => ?_
  have k46 : Kept h4 h6 := u6.kept k5 (by omega)
  have k36 := k4.trans k46
  have w6 := w3.kept k36
  have E3 := k36.blk e3
  have E1 := k36.blk e1
  unfold clearS at q
  cases hf : findS n s.1 root vpn with
  | none =>
    rw [hf] at q
    simp only [Option.isSome_none, Bool.not_false, Br_true]
    refine Ld_i (x := 0) (by rw [hcell_blk E3]; rfl) (q h6 _ _ rfl (k3.trans k36).kl w6)
  | some v =>
    rw [hf] at q e6
    obtain ⟨f, i, hp, hv, hk⟩ := findS_some hf
    simp only [Option.isSome_some, Bool.not_true, Br_false, NilP, add_mk, Nat.add_zero, Nat.zero_add]
    refine Ld_p w6.m (Ld_i w6.r (M120 w6.pw.mw fun h7 k7 => ?_))
    rw [hp]
    simp only [LetI, plF, plI]
    refine Ld_i (x := flg v) (by rw [hcell_blk (k7.blk e6)]; rfl) (Ld_i (x := ppn v) (by rw [hcell_blk (k7.blk e6)]; rfl) ?_)
    rw [F195_eq]
    refine Nw_intro fun b1 h8 hb1 k8 f1 => Nw_intro fun b2 h9 hb2 k9 f2 => ?_
    have hb1' := (Array.getElem?_eq_some_iff.1 f1).1
    have f1 : IL h9 b1 25 [flg v, ppn v] := k9.blk f1
    have hb2' := (Array.getElem?_eq_some_iff.1 f2).1
    rw [zero25] at f2
    have hh3 := u3.1
    have hk7 := k7.1
    have hk8 := k8.1
    have hk36 := k36.1
    have k79 := k8.trans k9
    have k69 := k7.trans k79
    have E3 : IL h9 a3 3 [0] := k69.blk E3
    have E1 := k69.blk E1
    simp only [add_mk, Nat.add_zero, Nat.zero_add]
    refine Ld_i (x := flg v) (by rw [hcell_blk f1]; rfl) (Ld_i (x := flags) (by rw [hcell_blk E1]; rfl) ?_)
    rw [had_eq]
    refine St_I E3 (by simp) fun h10 u10 e10 => ?_
    have e10 : IL h10 a3 3 [((hadN (lo8 (flg v)) flags : Nat) : Int)] := e10
    have f1 : IL h10 b1 25 [flg v, ppn v] := u10.blk f1 (by omega)
    refine Ld_i (x := flg v) (by rw [hcell_blk f1]; rfl) (Ld_i (x := ((hadN (lo8 (flg v)) flags : Nat) : Int)) (by rw [hcell_blk e10]; rfl) ?_)
    rw [clr_eq]
    refine St_I f1 (by simp) fun h11 u11 f11 => ?_
    have f11 : IL h11 b1 25 [((lo8 (flg v) - hadN (lo8 (flg v)) flags : Nat) : Int), ppn v] := f11
    refine Ld_i (x := ((lo8 (flg v) - hadN (lo8 (flg v)) flags : Nat) : Int)) (by rw [hcell_blk f11]; rfl) (Ld_i (x := ppn v) (by rw [hcell_blk f11]; rfl) ?_)
    have P := put25 (a := ((lo8 (flg v) - hadN (lo8 (flg v)) flags : Nat) : Int)) (b := ppn v) (u11.blk (u10.blk f2 (by omega)) (by omega)) (K := fun h14 => Ld (.i .i64) h14 ⟨b2, 0, none⟩ fun x15 => Ld (.i .i64) h14 ⟨b2, 1, none⟩ fun x16 =>
      F41 x15 x16 (fun r24 h25 => NilP (some (⟨bx, 0, none⟩ : Addr)) fun a27 => Ld .p h25 ((a27.add 0).add 0) fun x28 => F82 x28 f i r24 (fun r29 h30 => Br (r24 == 0) (F204 (some ⟨bx, 0, none⟩) vpn (fun h31 => Ld (.i .i64) h31 ⟨a3, 0, none⟩ fun x8 => Q x8 h31) h30) (Ld (.i .i64) h30 ⟨a3, 0, none⟩ fun x8 => Q x8 h30)) h25) h14) fun h12 u12 e12 => ?_
    · simp only [NilP, add_mk, Nat.add_zero, Nat.zero_add] at P
      exact P
    · refine Ld_i (x := ((lo8 (flg v) - hadN (lo8 (flg v)) flags : Nat) : Int)) (by rw [hcell_blk e12]; rfl) (Ld_i (x := ppn v) (by rw [hcell_blk e12]; rfl) (C41 fun h13 k13 => ?_))
      have K12 : Kept h h12 := u12.kept (u11.kept (u10.kept ((k3.trans k36).trans k69) (by omega)) (by omega)) (by omega)
      have K13 := K12.trans k13
      have w13 := w.kept K13
      have e13 : IL h13 a3 3 [((hadN (lo8 (flg v)) flags : Nat) : Int)] := k13.blk (u12.blk (u11.blk e10 (by omega)) (by omega))
      refine chg (Q := fun _ h31 => Ld (.i .i64) h31 ⟨a3, 0, none⟩ fun x8 => Q x8 h31) (vpn := vpn) w13 hr (by omega) hp (encF_range _ _) (fun h14 k14 w14 => ?_)
      have e14 := k14.blk e13 (by simp; omega)
      exact Ld_i (x := ((hadN (lo8 (flg v)) flags : Nat) : Int)) (by rw [hcell_blk e14]; rfl) (q h14 _ _ rfl (K13.kl.trans k14) w14)
end

/-- A new table below an entry; none: no frame is left. -/
def growS (n : Nat) (asid : Int) (f i : Nat) (lv : Int) (s : PS) : Option (Nat × PS) :=
  if cnt s.2.1 0 n ≤ 0 then none else
  some (fst0 s.2.1 n, ((zeroW s.1 (fst0 s.2.1 n)).set (f * 512 + i) (encF 1 (fst0 s.2.1 n : Nat)), set5 s.2.1 (fst0 s.2.1 n) 1 asid lv 0 0, s.2.2 + 1))
def leafS (l : Nat) (vpn frame prot : Int) (s : PS) : PS := (s.1.set (l * 512 + ix0 vpn) (encF (flagsN (lo3 prot) true) frame), s.2.1, s.2.2)
def enter1 (n : Nat) (asid : Int) (m : Nat) (vpn frame prot : Int) (s : PS) : Int × PS :=
  match lead n (wat s.1 m (ix1 vpn)) with
  | some l => (0, leafS l vpn frame prot s)
  | none => match growS n asid m (ix1 vpn) 2 s with
    | some (l, s1) => (0, leafS l vpn frame prot s1)
    | none => (5, s)
def badE (n : Nat) (vpn frame prot : Int) : Prop := vpn < 0 ∨ vpn ≥ 67108864 ∨ prot < 1 ∨ prot > 7 ∨ frame < 0 ∨ frame ≥ n
instance (n : Nat) (vpn frame prot : Int) : Decidable (badE n vpn frame prot) := by unfold badE; infer_instance
def enterA (n root : Nat) (asid : Int) (vpn frame prot : Int) (s : PS) : Option (Nat × PS) → Int × PS
  | none => (5, s)
  | some (m, s1) => if (enter1 n asid m vpn frame prot s1).1 = 0 then enter1 n asid m vpn frame prot s1 else ((enter1 n asid m vpn frame prot s1).1, giveS n root (ix2 vpn) s1)
def enterB (n root : Nat) (asid : Int) (vpn frame prot : Int) (s : PS) : Option Nat → Int × PS
  | some m => enter1 n asid m vpn frame prot s
  | none => enterA n root asid vpn frame prot s (growS n asid root (ix2 vpn) 1 s)
def enterS (n root : Nat) (asid : Int) (vpn frame prot : Int) (s : PS) : Int × PS :=
  if badE n vpn frame prot then (2, s) else enterB n root asid vpn frame prot s (lead n (wat s.1 root (ix2 vpn)))
def newS (n : Nat) (asid : Int) (ws ps : List Int) : Option (Nat × PS) :=
  if cnt ps 0 n ≤ 0 then none else some (fst0 ps n, (zeroW ws (fst0 ps n), set5 ps (fst0 ps n) 1 asid 0 0 0, 1))

theorem fst0_lt {ps : List Int} {n : Nat} (g : GF ps n) (hc : ¬ cnt ps 0 n ≤ 0) : fst0 ps n < n ∧ z5 ps (fst0 ps n) = true := by
  have : ∃ j, j < n ∧ z5 ps j = true := by
    apply Classical.byContradiction
    intro hne
    have : cnt ps 0 n = 0 := cnt_pos g n (Nat.le_refl _) fun i hi => by
      cases hz : z5 ps i
      · rfl
      · exact absurd ⟨i, hi, hz⟩ hne
    omega
  obtain ⟨j, hj, hz⟩ := this
  unfold fst0
  cases hf : (List.range n).find? (fun j => z5 ps j) with
  | none =>
    have := List.find?_eq_none.1 hf j (by simpa using hj)
    rw [hz] at this; exact absurd rfl this
  | some i =>
    have h1 := List.mem_of_find?_eq_some hf
    have h2 := List.find?_some hf
    exact ⟨by simpa using h1, h2⟩
theorem sTake_one (ps : List Int) (n : Nat) (asid lv : Int) : sTake ps n 0 1 asid lv = if cnt ps 0 n ≤ 0 then (0, 5, ps) else (((fst0 ps n : Nat) : Int), 0, set5 ps (fst0 ps n) 1 asid lv 0 0) := by
  unfold sTake
  rw [if_neg (by omega), if_pos rfl]
section
variable {h : H} {bm bf bp pf bx n root : Nat} {asid : Int} {s : PS}
theorem X76t {lv : Int} {ws ps : List Int} {Q : Int → Int → H → Prop} (w : PW h bm bf bp pf n ws ps)
    (q5 : ∀ h', cnt ps 0 n ≤ 0 → KB h pf h' → PM h' bp pf n 0 ps → Q 0 5 h')
    (q : ∀ h', ¬ cnt ps 0 n ≤ 0 → fst0 ps n < n → z5 ps (fst0 ps n) = true → KB h pf h' → PM h' bp pf n 0 (set5 ps (fst0 ps n) 1 asid lv 0 0) → GF (set5 ps (fst0 ps n) 1 asid lv 0 0) n → Q (fst0 ps n : Nat) 0 h') :
    F76 (some ⟨bp, 0, none⟩) 1 asid lv Q h := by
  refine X76 w.pm w.gf fun r e ys h' hs u m => ?_
  rw [sTake_one] at hs
  by_cases hc : cnt ps 0 n ≤ 0
  · rw [if_pos hc] at hs
    simp only [Prod.mk.injEq] at hs
    obtain ⟨rfl, rfl, rfl⟩ := hs
    exact q5 h' hc u m
  · rw [if_neg hc] at hs
    simp only [Prod.mk.injEq] at hs
    obtain ⟨rfl, rfl, rfl⟩ := hs
    have hf := fst0_lt w.gf hc
    exact q h' hc hf.1 hf.2 u m (w.gf.set5 w.pm.len hf.1 (by omega) (fun e => by omega))
theorem P128 {ws ps : List Int} {Q : Option Addr → Int → H → Prop} (w : PW h bm bf bp pf n ws ps) (hn : 1 ≤ n)
    (q5 : ∀ h', newS n asid ws ps = none → KL h [bf, pf] h' → PW h' bm bf bp pf n ws ps → Q none 5 h')
    (q : ∀ bx h' r s, newS n asid ws ps = some (r, s) → r < n → h.size ≤ bx → KL h [bf, pf] h' → W1 h' bm bf bp pf bx n asid r s → Q (some ⟨bx, 0, none⟩) 0 h') : F128 (some ⟨bm, 0, none⟩) (some ⟨bp, 0, none⟩) asid Q h := by
  rw [F128_eq]
  unfold B128
  refine M93 w.mw (Br_beq_int (fun e => by omega) fun _ => ?_)
  refine X76t w (fun h1 hc u m => ?_) fun h1 hc hlt hz u m g => ?_
  · simp only [LetI, show ((5 : Int) != 0) = true by decide, Br_true]
    exact q5 h1 (by unfold newS; rw [if_pos hc]) (u.kl (by simp)) ⟨w.mw.kl (L := [pf]) (u.kl (by simp)) (by simpa using w.e1) (by simpa using w.e3), m, w.gf, w.e1, w.e2, w.e3⟩
  · simp only [LetI, bne_self_eq_false, Br_false]
    have mw1 : MW h1 bm bf n ws := w.mw.kl (L := [pf]) (u.kl (by simp)) (by simpa using w.e1) (by simpa using w.e3)
    refine M87 mw1 (fun j h2 hj hjn u2 m2 => ?_) fun hh => absurd ⟨by omega, by omega⟩ hh
    obtain rfl : j = fst0 ps n := by omega
    refine Nw_intro fun bx h3 hbx k3 e3 => ?_
    have lt := w.mw.lt
    have hp := (Array.getElem?_eq_some_iff.1 w.pm.top).1
    have hpf := (Array.getElem?_eq_some_iff.1 (show h[pf]? = some _ from w.pm.row)).1
    have hu := u.1
    have hu2 := u2.1
    refine q bx h3 _ _ (by unfold newS; rw [if_neg hc]) hlt (by omega) (((u.kl (by simp)).trans (u2.kl (by simp))).trans k3.kl) ⟨⟨m2.kept k3, (m.kbo u2 w.e2 (Ne.symm w.e3)).kept k3, g, w.e1, w.e2, w.e3⟩, ⟨e3⟩, by omega, by omega, by omega, by omega⟩
def clo (a1 a23 a25 : Nat) : Value := .func (.func 190) #[] #[.pointer (some ⟨a1, 0, none⟩), .pointer (some ⟨a23, 0, none⟩), .pointer (some ⟨a25, 0, none⟩)]
theorem zeros1 (k : Nat) : (zerosC Try.prog 1 k).size = k := by
  have : (zeroC Try.prog 1).size = 1 := by kernel_rfl
  unfold zerosC; rw [this]; simp
/-- A closure appended to none. -/
theorem App_first {a : Nat} {v : Value} {K : Sl → H → Prop} (hv : v.oneCell' = true) (e : h[a]? = some (.cells #[v] 1))
    (q : ∀ b cap h', Kept h h' → h.size ≤ b → hcell h' ⟨b, 0, none⟩ = some v → (∃ vs : Array Value, h'[b]? = some (.cells vs 1) ∧ vs.size = cap) → 1 ≤ cap → K ⟨some ⟨b, 0, none⟩, 1, cap⟩ h') : App Try.prog ⟨none, 1, 1, 8⟩ h ⟨none, 0, 0⟩ ⟨some ⟨a, 0, none⟩, 1, 1⟩ K := by
  refine ⟨[v], ⟨rfl, fun j x hx => ⟨_, rfl, ?_⟩, by simpa using hv⟩, .inr ⟨by simp, by simp, [], ⟨rfl, fun j x hx => by simp at hx, by simp⟩, fun cap hcap => ?_⟩⟩
  · have : j = 0 := by have := (List.getElem?_eq_some_iff.1 hx).1; simpa using this
    subst this
    simp only [List.getElem?_cons_zero, Option.some.injEq] at hx
    subst hx
    rw [add_mk, hcell_blk e]; rfl
  · obtain ⟨vs, hvs⟩ : ∃ vs : Array Value, vs = ([] : List Value).toArray ++ [v].toArray ++ zerosC Try.prog 1 (cap - (0 + 1)) := ⟨_, rfl⟩
    simp only at hcap ⊢
    rw [← hvs]
    refine q h.size cap _ (Kept.new h vs 1) (Nat.le_refl _) ?_ ⟨vs, new_blk h vs 1, ?_⟩ (by omega)
    · rw [hcell_blk (new_blk h vs 1), hvs]
      rw [Array.getElem?_append_left (by simp)]
      simp
    · rw [hvs]; simp [zeros1]; omega
/-- A closure appended to one. -/
theorem App_second {a b cap : Nat} {v v0 : Value} {K : Sl → H → Prop} (hv : v.oneCell' = true) (hv0 : v0.oneCell' = true) (e : h[a]? = some (.cells #[v] 1)) (e0 : hcell h ⟨b, 0, none⟩ = some v0) (eb : ∃ vs : Array Value, h[b]? = some (.cells vs 1) ∧ vs.size = cap) (hc1 : 1 ≤ cap)
    (q : ∀ s' h', KB h b h' → K s' h') : App Try.prog ⟨none, 1, 1, 8⟩ h ⟨some ⟨b, 0, none⟩, 1, cap⟩ ⟨some ⟨a, 0, none⟩, 1, 1⟩ K := by
  obtain ⟨vs, eb, hvs⟩ := eb
  refine ⟨[v], ⟨rfl, fun j x hx => ⟨_, rfl, ?_⟩, by simpa using hv⟩, ?_⟩
  · have : j = 0 := by have := (List.getElem?_eq_some_iff.1 hx).1; simpa using this
    subst this
    simp only [List.getElem?_cons_zero, Option.some.injEq] at hx
    subst hx
    rw [add_mk, hcell_blk e]; rfl
  · by_cases hc : 1 + 1 ≤ cap
    · refine .inl ⟨hc, ?_, ?_⟩
      · rintro ad had j hj
        simp only [Option.some.injEq] at had
        subst had
        have : j = 0 := by simp at hj; exact hj
        subst this
        simp only [add_mk, Nat.mul_one, Nat.zero_add, Nat.add_zero]
        exact ⟨⟨vs[1]'(by omega), by rw [hcell_blk eb]; exact Array.getElem?_eq_getElem (by omega)⟩, by simp [hfroz, eb]⟩
      · simp only [add_mk, Nat.mul_one, Nat.zero_add, Nat.add_zero, hsetL]
        exact q _ _ (hset_upd h b 1 v).kb
    · refine .inr ⟨by simp only; omega, by simp, [v0], ⟨rfl, fun j x hx => ⟨_, rfl, ?_⟩, by simpa using hv0⟩, fun cap' hcap => q _ _ (Kept.new h _ 1).kb⟩
      have : j = 0 := by have := (List.getElem?_eq_some_iff.1 hx).1; simpa using this
      subst this
      simp only [List.getElem?_cons_zero, Option.some.injEq] at hx
      subst hx
      rw [add_mk]; exact e0
/-- The call of a closure that takes a table back. -/
theorem call_clo {a1 a23 a25 : Nat} {K : Value → H → Prop} (q : F190 ⟨a1, 0, none⟩ ⟨a23, 0, none⟩ ⟨a25, 0, none⟩ (fun h' => K (.tuple #[]) h') h) :
    CallV [E188, E93, E44, E189, E76, E190, E87, E41, E82, E58] (clo a1 a23 a25) [] h K := by
  have : CallV [E188, E93, E44, E189, E76, E190, E87, E41, E82, E58] (clo a1 a23 a25) [] h K = F190 ⟨a1, 0, none⟩ ⟨a23, 0, none⟩ ⟨a25, 0, none⟩ (fun h' => K (.tuple #[]) h') h := by kernel_rfl
  rw [this]; exact q
theorem L3b_mono : ∀ b ∈ [bf, pf], b ∈ L3b bf pf bx := by simp
/-- One level of Enter. -/
theorem lvl {f i a1 a23 a25 : Nat} {lv : Int} {u : Sl} {FAIL : Int → H → Prop} {DONE : Int → Sl → H → Prop} {FOUND : Int → H → Prop} (w : W1 h bm bf bp pf bx n asid root s) (hf : f < n) (hi : i < 512) (hb : -1000 ≤ s.2.2 ∧ s.2.2 ≤ 900)
    (c1 : h[a1]? = some (.cells #[.pointer (some ⟨bx, 0, none⟩)] 167)) (c23 : IL h a23 3 [(f : Int)]) (c25 : IL h a25 3 [(i : Int)]) (d1 : a1 ∉ L3b bf pf bx) (d23 : a23 ∉ L3b bf pf bx) (d25 : a25 ∉ L3b bf pf bx)
    (qf : ∀ m h', lead n (wat s.1 f i) = some m → Kept h h' → FOUND (m : Int) h')
    (qe : ∀ h', lead n (wat s.1 f i) = none → growS n asid f i lv s = none → KL h (L3b bf pf bx) h' → W1 h' bm bf bp pf bx n asid root s → FAIL 5 h')
    (qd : ∀ r s1 h' a75, lead n (wat s.1 f i) = none → growS n asid f i lv s = some (r, s1) → r < n → KL h (L3b bf pf bx) h' → W1 h' bm bf bp pf bx n asid root s1 → h'[a75]? = some (.cells #[clo a1 a23 a25] 1) →
      App Try.prog ⟨none, 1, 1, 8⟩ h' u ⟨some ⟨a75, 0, none⟩, 1, 1⟩ fun s77 h78 => DONE (r : Int) s77 h78) :
  Ld .p h ⟨a1, 0, none⟩ fun x29 =>
  Ld (.i .i64) h ⟨a23, 0, none⟩ fun x30 =>
  Ld (.i .i64) h ⟨a25, 0, none⟩ fun x31 =>
  F189 x29 x30 x31 (fun r32 r33 h34 =>
  Br (!r33)
  (Ld .p h34 ⟨a1, 0, none⟩ fun x36 =>
  NilP x36 fun a37 =>
  Ld .p h34 ((a37.add 1).add 0) fun x38 =>
  Ld .p h34 ⟨a1, 0, none⟩ fun x39 =>
  NilP x39 fun a40 =>
  Ld (.i .i64) h34 ((a40.add 2).add 0) fun x41 =>
  F76 x38 1 x41 lv (fun r42 r43 h44 =>
  Br (r43 != 0)
  (FAIL r43 h44)
  (Ld .p h44 ⟨a1, 0, none⟩ fun x56 =>
  NilP x56 fun a57 =>
  Ld .p h44 ((a57.add 0).add 0) fun x58 =>
  F87 x58 r42 (fun r59 h60 =>
  Ld .p h60 ⟨a1, 0, none⟩ fun x61 =>
  NilP x61 fun a62 =>
  Ld .p h60 ((a62.add 0).add 0) fun x63 =>
  Ld (.i .i64) h60 ⟨a23, 0, none⟩ fun x64 =>
  Ld (.i .i64) h60 ⟨a25, 0, none⟩ fun x65 =>
  F41 1 r42 (fun r66 h67 =>
  (hcell h67 ⟨a25, 0, none⟩ = some (.int .i64 x65)) ∧
  (hcell h67 ⟨a23, 0, none⟩ = some (.int .i64 x64)) ∧
  (hcell h67 ((a62.add 0).add 0) = some (.pointer x63)) ∧
  (hcell h67 ⟨a1, 0, none⟩ = some (.pointer x61)) ∧
  F82 x63 x64 x65 r66 (fun r68 h69 =>
  Ld .p h69 ⟨a1, 0, none⟩ fun x70 =>
  NilP x70 fun a71 =>
  Ld (.i .i64) h69 ((a71.add 4).add 0) fun x72 =>
  NilP x70 fun a73 =>
  St h69 ((a73.add 4).add 0) (.int .i64 (IntKind.wrap .i64 (x72 + 1))) fun h74 =>
  Nw h74 #[(.func (.func 190) #[] #[(.pointer (some ⟨a1, 0, none⟩)), (.pointer (some ⟨a23, 0, none⟩)), (.pointer (some ⟨a25, 0, none⟩))])] 1 fun a75 h76 =>
  App Try.prog ⟨none, 1, 1, 8⟩ h76 u ⟨(some a75), 1, 1⟩ fun s77 h78 =>
  DONE r42 s77 h78) h67) h60) h44)) h34)
  (FOUND r32 h34)) h := by
  have p1 : ∀ h' : H, h'[a1]? = some (.cells #[.pointer (some ⟨bx, 0, none⟩)] 167) → hcell h' ⟨a1, 0, none⟩ = some (.pointer (some ⟨bx, 0, none⟩)) := fun h' e => by rw [hcell_blk e]; rfl
  refine Ld_p (p1 h c1) (Ld_i (x := (f : Int)) (by rw [hcell_blk c23]; rfl) (Ld_i (x := (i : Int)) (by rw [hcell_blk c25]; rfl) (P189 w hf hi fun h1 k1 => ?_)))
  have w1 := w.kept k1
  cases hl : lead n (wat s.1 f i) with
  | some m =>
    obtain ⟨_, hp⟩ := lead_some hl
    simp only [Option.isSome_some, Bool.not_true, Br_false]
    rw [hp]
    exact qf m h1 hl k1
  | none =>
    simp only [Option.isSome_none, Bool.not_false, Br_true, NilP, add_mk, Nat.add_zero, Nat.zero_add]
    have c1' := k1.blk c1
    refine Ld_p (p1 h1 c1') (Ld_p w1.p (Ld_p (p1 h1 c1') (Ld_i w1.a ?_)))
    refine X76t w1.pw (fun h2 hc u2 m2 => ?_) fun h2 hc hlt hz u2 m2 g2 => ?_
    · simp only [show ((5 : Int) != 0) = true by decide, Br_true]
      exact qe h2 hl (by unfold growS; rw [if_pos hc]) (k1.kl.trans (u2.kl (by simp))) (w1.pool u2 m2 w1.pw.gf)
    · have w2 := w1.pool u2 m2 g2
      have k2 : KL h (L3b bf pf bx) h2 := k1.kl.trans (u2.kl (by simp))
      simp only [bne_self_eq_false, Br_false]
      refine Ld_p (p1 h2 (k2.blk c1 d1)) (Ld_p w2.m (M87 w2.pw.mw (fun j h3 hj hjn u3 m3 => ?_) fun hh => absurd ⟨by omega, by omega⟩ hh))
      obtain rfl : j = fst0 s.2.1 n := by omega
      have w3 := w2.mem u3 m3
      have k3 := k2.trans (u3.kl (L := L3b bf pf bx) (by simp))
      refine Ld_p (p1 h3 (k3.blk c1 d1)) (Ld_p w3.m (Ld_i (x := (f : Int)) (by rw [hcell_blk (k3.blk c23 d23)]; rfl) (Ld_i (x := (i : Int)) (by rw [hcell_blk (k3.blk c25 d25)]; rfl) (C41 fun h4 k4 => ?_))))
      have k34 := k3.trans (k4.kl (L := L3b bf pf bx))
      have w4 := w3.kept k4
      refine ⟨by rw [hcell_blk (k34.blk c25 d25)]; rfl, by rw [hcell_blk (k34.blk c23 d23)]; rfl, w4.m, p1 h4 (k34.blk c1 d1), ?_⟩
      refine M82 w4.pw.mw (encF_range _ _) fun h5 u5 m5 => ?_
      rw [setF_in hf hi] at m5
      have w5 := w4.mem u5 m5
      have k5 := k34.trans (u5.kl (L := L3b bf pf bx) (by simp))
      refine Ld_p (p1 h5 (k5.blk c1 d1)) ?_
      simp only [add_mk, Nat.add_zero, Nat.zero_add]
      refine Ld_i w5.c ?_
      rw [wrap_i64' _ (by simp only; omega) (by simp only; omega)]
      refine w5.St fun h6 u6 w6 => Nw_intro fun a75 h7 h75 k7 e7 => ?_
      have k6 := k5.trans (u6.kl (L := L3b bf pf bx) (by simp))
      exact qd _ _ h7 a75 hl (by unfold growS; rw [if_neg hc]) hlt (k6.trans k7.kl) (w6.kept k7) e7
end

theorem zero3' : zeroC Try.prog 3 = #[.int .i64 0] := by kernel_rfl
section
variable {h : H} {bm bf bp pf bx n root : Nat} {asid : Int} {s : PS}
theorem oneCell_clo (a b c : Nat) : (clo a b c).oneCell' = true := rfl
theorem enter1_0 {m l : Nat} {vpn frame prot : Int} (h : lead n (wat s.1 m (ix1 vpn)) = some l) : enter1 n asid m vpn frame prot s = (0, leafS l vpn frame prot s) := by unfold enter1; rw [h]
theorem enter1_1 {m l : Nat} {vpn frame prot : Int} {s1 : PS} (h : lead n (wat s.1 m (ix1 vpn)) = none) (g : growS n asid m (ix1 vpn) 2 s = some (l, s1)) : enter1 n asid m vpn frame prot s = (0, leafS l vpn frame prot s1) := by unfold enter1; rw [h]; simp only; rw [g]
theorem enter1_5 {m : Nat} {vpn frame prot : Int} (h : lead n (wat s.1 m (ix1 vpn)) = none) (g : growS n asid m (ix1 vpn) 2 s = none) : enter1 n asid m vpn frame prot s = (5, s) := by unfold enter1; rw [h]; simp only; rw [g]
theorem growS_nt {f i r : Nat} {lv : Int} {s1 : PS} (g : growS n asid f i lv s = some (r, s1)) : s1.2.2 = s.2.2 + 1 := by
  unfold growS at g
  split at g
  · cases g
  · simp only [Option.some.injEq, Prod.mk.injEq] at g
    rw [← g.2]
/-- Where Enter's loop stands. -/
def IE (h0 : H) (bm bf bp pf bx n root a1 : Nat) (asid vpn frame prot : Int) (s : PS) (c : Nat) (z : Int × Sl × Int × Unit) (h' : H) : Prop :=
  KL h0 (L3b bf pf bx) h' ∧ h'[a1]? = some (.cells #[.pointer (some ⟨bx, 0, none⟩)] 167) ∧ z.2.2.1 = (c : Int) ∧
  ((c = 2 ∧ z.1 = (root : Int) ∧ z.2.1 = ⟨none, 0, 0⟩ ∧ W1 h' bm bf bp pf bx n asid root s) ∨
   (c = 1 ∧ ∃ m : Nat, z.1 = (m : Int) ∧ lead n (wat s.1 root (ix2 vpn)) = some m ∧ z.2.1 = ⟨none, 0, 0⟩ ∧ W1 h' bm bf bp pf bx n asid root s) ∨
   (c = 1 ∧ ∃ (m : Nat) (s1 : PS), z.1 = (m : Int) ∧ m < n ∧ lead n (wat s.1 root (ix2 vpn)) = none ∧ growS n asid root (ix2 vpn) 1 s = some (m, s1) ∧ W1 h' bm bf bp pf bx n asid root s1 ∧
      ∃ ub cap b23 b25, z.2.1 = ⟨some ⟨ub, 0, none⟩, 1, cap⟩ ∧ hcell h' ⟨ub, 0, none⟩ = some (clo a1 b23 b25) ∧ (∃ vs : Array Value, h'[ub]? = some (.cells vs 1) ∧ vs.size = cap) ∧ 1 ≤ cap ∧ ub ∉ L3b bf pf bx ∧ ub ≠ a1 ∧
        IL h' b23 3 [(root : Int)] ∧ IL h' b25 3 [(ix2 vpn : Int)] ∧ b23 ∉ L3b bf pf bx ∧ b25 ∉ L3b bf pf bx ∧ h0.size ≤ ub) ∨
   (c = 0 ∧ ∃ (l : Nat) (s2 : PS), z.1 = (l : Int) ∧ l < n ∧ enterS n root asid vpn frame prot s = (0, leafS l vpn frame prot s2) ∧ W1 h' bm bf bp pf bx n asid root s2))
theorem P130 {vpn frame prot : Int} {Q : Int → H → Prop} (w : W1 h bm bf bp pf bx n asid root s) (hn : 0 < s.2.2) (hr : root < n) (hb : s.2.2 ≤ 800)
    (q : ∀ h' e s', enterS n root asid vpn frame prot s = (e, s') → KL h (L3b bf pf bx) h' → W1 h' bm bf bp pf bx n asid root s' → Q e h') : F130 (some ⟨bx, 0, none⟩) vpn frame prot Q h := by
  rw [F130_eq]
  unfold B130
  have lt := w.lt
  obtain ⟨l2, l1, l0⟩ := ix_lt vpn
  obtain ⟨x2, x1, x0⟩ := ix_eq vpn
  refine Nw_intro fun a1 h2 ha1 k2 e2 => ?_
  have w2 := w.kept k2
  have hs2 := k2.1
  have p1 : ∀ h' : H, h'[a1]? = some (.cells #[.pointer (some ⟨bx, 0, none⟩)] 167) → hcell h' ⟨a1, 0, none⟩ = some (.pointer (some ⟨bx, 0, none⟩)) := fun h' e => by rw [hcell_blk e]; rfl
  have bad : badE n vpn frame prot → Q 2 h2 := fun hb => q h2 2 s (by unfold enterS; rw [if_pos hb]) k2.kl w2
  refine JoinI (fun _ h' => h' = h2 ∧ ¬ badE n vpn frame prot) (fun J hJ => ?_) ?_
  · simp only [add_mk]
    refine Ld_p (p1 h2 e2) (P188 w2 ?_)
    rw [decide_eq_true (show s.2.2 > 0 from hn)]
    simp only [Bool.not_true, Br_false]
    refine Br_dec (fun hh => bad (.inl hh)) fun b1 => Br_dec (fun hh => bad (.inr (.inl hh))) fun b2 => Br_dec (fun hh => bad (.inr (.inr (.inl hh)))) fun b3 => Br_dec (fun hh => bad (.inr (.inr (.inr (.inl hh))))) fun b4 => Br_dec (fun hh => bad (.inr (.inr (.inr (.inr (.inl hh)))))) fun b5 => ?_
    refine Ld_p (p1 h2 e2) ?_
    simp only [NilP, add_mk, Nat.add_zero, Nat.zero_add]
    refine Ld_p w2.m (M93 w2.pw.mw (Br_dec (fun hh => bad (.inr (.inr (.inr (.inr (.inr hh)))))) fun b6 => hJ () h2 ⟨rfl, ?_⟩))
    rintro (x | x | x | x | x | x)
    · exact b1 x
    · exact b2 x
    · exact b3 x
    · exact b4 x
    · exact b5 x
    · exact b6 x
  rintro u h2' ⟨rfl, hgood⟩
  have eS : enterS n root asid vpn frame prot s = enterB n root asid vpn frame prot s (lead n (wat s.1 root (ix2 vpn))) := by
    unfold enterS; rw [if_neg hgood]
  simp only [add_mk]
  refine Ld_p (p1 h2' e2) ?_
  simp only [NilP, add_mk, Nat.add_zero, Nat.zero_add, LetI]
  refine Ld_i w2.r ?_
  refine Loop_intro (I := IE h bm bf bp pf bx n root a1 asid vpn frame prot s) (k := 2) (by
    exact ⟨k2.kl, e2, rfl, .inl ⟨rfl, rfl, rfl, w2⟩⟩) ?_
  rintro c ⟨zf, zu, zl, zt⟩ h3 ⟨K3, c1, hzl, hc⟩
  simp only at hzl hc
  subst hzl
  have hs3 := K3.1
  have ha1n : a1 ∉ L3b bf pf bx := by simp; omega
  have ha13 : a1 < h3.size := (Array.getElem?_eq_some_iff.1 c1).1
  rcases hc with ⟨rfl, hz, hu, w3⟩ | ⟨rfl, m, hz, hm, hu, w3⟩ | ⟨rfl, m, s1, hz, hmn, hno, hg, w3, ub, cap, b23, b25, hu, hcl, hub, hcap, hubn, huba, e23, e25, n23, n25, hublo⟩ | ⟨rfl, l, s2, hz, hln, hE, w3⟩
  · -- the root
    subst hz hu
    refine Br_dec (fun _ => C44 ?_) fun hh => absurd hh (by simp)
    rw [show ((2 : Nat) : Int) = 2 from rfl, x2]
    refine Nw_intro fun a23 h9 h23 k9 e9 => Nw_intro fun a25 h10 h25 k10 e10 => ?_
    rw [zero3'] at e9 e10
    have e9' : IL h10 a23 3 [0] := k10.blk e9
    have h23' := (Array.getElem?_eq_some_iff.1 e9).1
    have hk9 := k9.1
    simp only [add_mk]
    refine St_I e9' (by simp) fun h11 u11 e11 => ?_
    have e10' : IL h11 a25 3 [0] := u11.blk e10 (by omega)
    refine St_I e10' (by simp) fun h4 u12 c25 => ?_
    have c25 : IL h4 a25 3 [(ix2 vpn : Int)] := c25
    have k4 : Kept h3 h4 := u12.kept (u11.kept (k9.trans k10) (by omega)) (by omega)
    have c23 : IL h4 a23 3 [(root : Int)] := u12.blk e11 (by omega)
    have c14 := k4.blk c1
    have n23 : a23 ∉ L3b bf pf bx := by simp; omega
    have n25 : a25 ∉ L3b bf pf bx := by simp; omega
    refine lvl (lv := IntKind.wrap .i64 (3 - 2)) (u := ⟨none, 0, 0⟩) (w3.kept k4) hr l2 (by omega) c14 c23 c25 ha1n n23 n25 (fun m h5 hl k5 => ?_) (fun h5 hl hg k5 w5 => ?_) fun r s1 h5 a75 hl hg hrn k5 w5 e75 => ?_
    · exact ⟨1, by omega, K3.trans (k4.trans k5).kl, k5.blk c14, by rfl, .inr (.inl ⟨rfl, m, rfl, hl, rfl, (w3.kept k4).kept k5⟩)⟩
    · -- no frame
      rw [show IntKind.wrap .i64 ((3 : Int) - 2) = 1 by decide] at hg
      refine Loop_intro (σ := Int × Unit) (x := (0, ())) (fun c z h' => h' = h5 ∧ z.1 = 0) 0 ⟨rfl, rfl⟩ ?_
      rintro c ⟨z, u⟩ h' ⟨rfl, hz⟩
      simp only at hz
      subst hz
      refine Br_dec (fun hh => absurd hh (by simp)) fun _ => ?_
      exact q h' 5 s (by rw [eS, hl]; show enterA _ _ _ _ _ _ _ _ = _; rw [hg]; rfl) ((K3.trans k4.kl).trans k5) w5
    · rw [show IntKind.wrap .i64 ((3 : Int) - 2) = 1 by decide] at hg
      refine App_first (oneCell_clo _ _ _) e75 fun b cap h6 k6 hb hcb hv hc1 => ?_
      have k36 : KL h3 (L3b bf pf bx) h6 := (k4.kl.trans k5).trans k6.kl
      have hk36 := k36.1
      have k56 := k5.trans (k6.kl (L := L3b bf pf bx))
      have hk5 := k5.1
      have hk4 := k4.1
      exact ⟨1, by omega, K3.trans k36, k36.blk c1 ha1n, by rfl, .inr (.inr (.inl ⟨rfl, r, s1, rfl, hrn, hl, hg, w5.kept k6, b, cap, a23, a25, rfl, hcb, hv, hc1, by simp; omega, by omega,
        k56.blk c23 n23, k56.blk c25 n25, n23, n25, by omega⟩))⟩
  · -- the table in the middle was there
    subst hz hu
    refine Br_dec (fun _ => C44 ?_) fun hh => absurd hh (by simp)
    rw [show ((1 : Nat) : Int) = 1 from rfl, x1]
    refine Nw_intro fun a23 h9 h23 k9 e9 => Nw_intro fun a25 h10 h25 k10 e10 => ?_
    rw [zero3'] at e9 e10
    have e9' : IL h10 a23 3 [0] := k10.blk e9
    have h23' := (Array.getElem?_eq_some_iff.1 e9).1
    have hk9 := k9.1
    simp only [add_mk]
    refine St_I e9' (by simp) fun h11 u11 e11 => ?_
    have e10' : IL h11 a25 3 [0] := u11.blk e10 (by omega)
    refine St_I e10' (by simp) fun h4 u12 c25 => ?_
    have c25 : IL h4 a25 3 [(ix1 vpn : Int)] := c25
    have k4 : Kept h3 h4 := u12.kept (u11.kept (k9.trans k10) (by omega)) (by omega)
    have c23 : IL h4 a23 3 [(m : Int)] := u12.blk e11 (by omega)
    have c14 := k4.blk c1
    have n23 : a23 ∉ L3b bf pf bx := by simp; omega
    have n25 : a25 ∉ L3b bf pf bx := by simp; omega
    refine lvl (lv := IntKind.wrap .i64 (3 - 1)) (u := ⟨none, 0, 0⟩) (w3.kept k4) (lead_lt hm) l1 (by omega) c14 c23 c25 ha1n n23 n25 (fun l h5 hl k5 => ?_) (fun h5 hl hg k5 w5 => ?_) fun r s1 h5 a75 hl hg hrn k5 w5 e75 => ?_
    · exact ⟨0, by omega, K3.trans (k4.trans k5).kl, k5.blk c14, by rfl, .inr (.inr (.inr ⟨rfl, l, s, rfl, lead_lt hl, by rw [eS, hm]; exact enter1_0 hl, (w3.kept k4).kept k5⟩))⟩
    · rw [show IntKind.wrap .i64 ((3 : Int) - 1) = 2 by decide] at hg
      refine Loop_intro (σ := Int × Unit) (x := (0, ())) (fun c z h' => h' = h5 ∧ z.1 = 0) 0 ⟨rfl, rfl⟩ ?_
      rintro c ⟨z, u⟩ h' ⟨rfl, hz⟩
      simp only at hz
      subst hz
      refine Br_dec (fun hh => absurd hh (by simp)) fun _ => ?_
      exact q h' 5 s (by rw [eS, hm]; exact enter1_5 hl hg) ((K3.trans k4.kl).trans k5) w5
    · rw [show IntKind.wrap .i64 ((3 : Int) - 1) = 2 by decide] at hg
      refine App_first (oneCell_clo _ _ _) e75 fun b cap h6 k6 hb hcb hv hc1 => ?_
      have k36 : KL h3 (L3b bf pf bx) h6 := (k4.kl.trans k5).trans k6.kl
      exact ⟨0, by omega, K3.trans k36, k36.blk c1 ha1n, by rfl, .inr (.inr (.inr ⟨rfl, r, s1, rfl, hrn, by rw [eS, hm]; exact enter1_1 hl hg, w5.kept k6⟩))⟩
  · -- the table in the middle is new
    subst hz hu
    have hnt := growS_nt hg
    refine Br_dec (fun _ => C44 ?_) fun hh => absurd hh (by simp)
    rw [show ((1 : Nat) : Int) = 1 from rfl, x1]
    refine Nw_intro fun a23 h9 h23 k9 e9 => Nw_intro fun a25 h10 h25 k10 e10 => ?_
    rw [zero3'] at e9 e10
    have e9' : IL h10 a23 3 [0] := k10.blk e9
    have h23' := (Array.getElem?_eq_some_iff.1 e9).1
    have hk9 := k9.1
    simp only [add_mk]
    refine St_I e9' (by simp) fun h11 u11 e11 => ?_
    have e10' : IL h11 a25 3 [0] := u11.blk e10 (by omega)
    refine St_I e10' (by simp) fun h4 u12 c25 => ?_
    have c25 : IL h4 a25 3 [(ix1 vpn : Int)] := c25
    have k4 : Kept h3 h4 := u12.kept (u11.kept (k9.trans k10) (by omega)) (by omega)
    have c23 : IL h4 a23 3 [(m : Int)] := u12.blk e11 (by omega)
    have c14 := k4.blk c1
    have m23 : a23 ∉ L3b bf pf bx := by simp; omega
    have m25 : a25 ∉ L3b bf pf bx := by simp; omega
    have eS1 : ∀ e s', enter1 n asid m vpn frame prot s1 = (e, s') → enterS n root asid vpn frame prot s = if e = 0 then (0, s') else (e, giveS n root (ix2 vpn) s1) := by
      intro e s' he
      rw [eS, hno]
      show enterA _ _ _ _ _ _ _ _ = _
      rw [hg]
      rw [show enterA n root asid vpn frame prot s (some (m, s1)) = if (enter1 n asid m vpn frame prot s1).1 = 0 then enter1 n asid m vpn frame prot s1 else ((enter1 n asid m vpn frame prot s1).1, giveS n root (ix2 vpn) s1) from rfl, he]
      simp only
      split
      · rename_i h0; rw [h0]
      · rfl
    refine lvl (lv := IntKind.wrap .i64 (3 - 1)) (u := ⟨some ⟨ub, 0, none⟩, 1, cap⟩) (w3.kept k4) hmn l1 (by omega) c14 c23 c25 ha1n m23 m25 (fun l h5 hl k5 => ?_) (fun h5 hl hg2 k5 w5 => ?_) fun r s2 h5 a75 hl hg2 hrn k5 w5 e75 => ?_
    · exact ⟨0, by omega, K3.trans (k4.trans k5).kl, k5.blk c14, by rfl, .inr (.inr (.inr ⟨rfl, l, s1, rfl, lead_lt hl, by rw [eS1 0 _ (enter1_0 hl)]; rfl, (w3.kept k4).kept k5⟩))⟩
    · -- no frame: the table in the middle goes
      rw [show IntKind.wrap .i64 ((3 : Int) - 1) = 2 by decide] at hg2
      have k35 : KL h3 (L3b bf pf bx) h5 := k4.kl.trans k5
      obtain ⟨vs, hvb, hvs⟩ := hub
      have hvb5 := k35.blk hvb hubn
      have hc5 : hcell h5 ⟨ub, 0, none⟩ = some (clo a1 b23 b25) := by rw [hcell_blk hvb5, ← hcl, hcell_blk hvb]
      refine Loop_intro (σ := Int × Unit) (x := (0, ())) (fun c z h' => (c = 1 ∧ h' = h5 ∧ z.1 = 0) ∨ (c = 0 ∧ z.1 = 1 ∧ KL h5 (L3b bf pf bx) h' ∧ W1 h' bm bf bp pf bx n asid root (giveS n root (ix2 vpn) s1))) 1 (.inl ⟨rfl, rfl, rfl⟩) ?_
      rintro c ⟨z, u⟩ h' (⟨rfl, rfl, hz⟩ | ⟨rfl, hz, k6, w6⟩)
      · simp only at hz
        subst hz
        refine Br_dec (fun _ => ?_) fun hh => absurd hh (by simp)
        refine ⟨⟨by simp, by simp⟩, ?_⟩
        simp only [add_mk]
        refine ⟨clo a1 b23 b25, hc5, call_clo ?_⟩
        rw [F190_eq]
        refine Ld_p (p1 h' (k35.blk c1 ha1n)) (Ld_i (x := (root : Int)) (by simp only [add_mk]; rw [hcell_blk (k35.blk e23 n23)]; rfl) (Ld_i (x := (ix2 vpn : Int)) (by simp only [add_mk]; rw [hcell_blk (k35.blk e25 n25)]; rfl) ?_))
        exact P191 w5 hr l2 (by omega) fun h6 k6 w6 => ⟨0, by omega, .inr ⟨rfl, by rfl, k6, w6⟩⟩
      · simp only at hz
        subst hz
        refine Br_dec (fun hh => absurd hh (by simp)) fun _ => ?_
        exact q h' 5 _ (by rw [eS1 5 _ (enter1_5 hl hg2)]; rfl) ((K3.trans k35).trans k6) w6
    · rw [show IntKind.wrap .i64 ((3 : Int) - 1) = 2 by decide] at hg2
      have k35 : KL h3 (L3b bf pf bx) h5 := k4.kl.trans k5
      obtain ⟨vs, hvb, hvs⟩ := hub
      have hvb5 := k35.blk hvb hubn
      have hc5 : hcell h5 ⟨ub, 0, none⟩ = some (clo a1 b23 b25) := by rw [hcell_blk hvb5, ← hcl, hcell_blk hvb]
      refine App_second (oneCell_clo _ _ _) (oneCell_clo _ _ _) e75 hc5 ⟨vs, hvb5, hvs⟩ hcap fun s' h6 k6 => ?_
      have hw5 := w5.lt
      have w6 : W1 h6 bm bf bp pf bx n asid root s2 := by
        have hub3 : ub ≠ bf ∧ ub ≠ pf ∧ ub ≠ bx := by simp at hubn; omega
        have hubm : ub ≠ bm ∧ ub ≠ bp := by omega
        exact ⟨⟨w5.pw.mw.kl (L := [ub]) (k6.kl (by simp)) (by simp; omega) (by simp; omega), w5.pw.pm.kbo k6 (by omega) (by omega), w5.pw.gf, w5.pw.e1, w5.pw.e2, w5.pw.e3⟩, ⟨k6.blk w5.xm.cells (by omega)⟩, w5.x1, w5.x2, w5.x3, w5.x4⟩
      have k06 : KL h (L3b bf pf bx) h6 := by
        have k05 := K3.trans k35
        refine ⟨Nat.le_trans k05.1 k6.1, fun t ht hn => ?_⟩
        rw [k6.2 t (Nat.lt_of_lt_of_le ht k05.1) (by omega), k05.2 t ht hn]
      exact ⟨0, by omega, k06, k6.blk (k35.blk c1 ha1n) (Ne.symm huba), by rfl, .inr (.inr (.inr ⟨rfl, r, s2, rfl, hrn, by rw [eS1 0 _ (enter1_1 hl hg2)]; rfl, w6⟩))⟩
  · -- the leaf
    subst hz
    refine Br_dec (fun hh => absurd hh (by simp)) fun _ => ?_
    refine Ld_p (p1 h3 c1) ?_
    simp only [add_mk, Nat.add_zero, Nat.zero_add]
    refine Ld_p w3.m ⟨((ix0 vpn : Nat), ()), C44 (by rw [x0]; exact ⟨rfl, rfl⟩), C58 fun h4 k4 => ⟨(w3.kept k4).m, p1 h4 (k4.blk c1), C41 fun h5 k5 => ⟨(w3.kept (k4.trans k5)).m, p1 h5 ((k4.trans k5).blk c1), ?_⟩⟩⟩
    have w5 := w3.kept (k4.trans k5)
    refine M82 w5.pw.mw (encF_range _ _) fun h6 u6 m6 => ?_
    rw [setF_in hln l0] at m6
    have w6 := w5.mem u6 m6
    exact q h6 0 _ hE ((K3.trans (k4.trans k5).kl).trans (u6.kl (by simp))) w6
end

end Go.Proofs.Ytfijchofplkcoaa
