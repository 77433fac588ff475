/-
  A space's tables (package pmap): what its functions come to on words, frames and a count; Find, tidy, Remove, Protect and Clear of the program. Remove, Protect, Clear, New and Enter of the program's spaces. New and Enter of the program's spaces. Enter of the program's spaces, whole.
  Tables of some spaces in one memory, in plain Lean: which frame is whose, and what attaching, detaching a table and setting a leaf leave. The world of some spaces in one memory: what Enter, Remove, Protect, Clear and New leave of it, page by page. What Remove, Protect, Clear and New leave; how many frames are tables.
  Some spaces in one memory, in the heap: each act's contract over the world. Statements about spaces: the document's examples, PmapFull.
-/
import Derived.Test.YtfijchofplkcoaaJc
import Derived.Test.YtfijchofplkcoaaIi
import Derived.Test.YtfijchofplkcoaaGk
set_option linter.unusedVariables false
set_option linter.unusedSimpArgs false
set_option maxRecDepth 100000
namespace Go.Proofs.Ytfijchofplkcoaa

/-- Words, frames, the count of tables. -/
abbrev PS := List Int × List Int × Int
def ix2 (v : Int) : Nat := (v / 262144 % 512).toNat
def ix1 (v : Int) : Nat := (v / 512 % 512).toNat
def ix0 (v : Int) : Nat := (v % 512).toNat
theorem ix_lt (v : Int) : ix2 v < 512 ∧ ix1 v < 512 ∧ ix0 v < 512 := by unfold ix2 ix1 ix0; omega
theorem ix_eq (v : Int) : idxF v 2 = (ix2 v : Int) ∧ idxF v 1 = (ix1 v : Int) ∧ idxF v 0 = (ix0 v : Int) := by
  rw [idx2, idx1, idx0]; unfold ix2 ix1 ix0; omega
def giveS (n f i : Nat) (s : PS) : PS := (s.1.set (f * 512 + i) 0, (sGive s.2.1 n (ppn (wat s.1 f i))).2, s.2.2 - 1)
def bareB (ws : List Int) (f : Nat) : Bool := (List.range 512).all fun t => wat ws f t == 0
theorem bareB_iff {ws : List Int} {f : Nat} : bareB ws f = true ↔ ∀ t, t < 512 → wat ws f t = 0 := by
  unfold bareB
  rw [List.all_eq_true]
  simp
/-- The first half of tidy: the lowest table. -/
def tidy1 (n m i1 : Nat) (s : PS) : PS :=
  match lead n (wat s.1 m i1) with
  | some l => if bareB s.1 l = true then giveS n m i1 s else s
  | none => s
def tidyS (n root : Nat) (vpn : Int) (s : PS) : PS :=
  match lead n (wat s.1 root (ix2 vpn)) with
  | none => s
  | some m => if bareB (tidy1 n m (ix1 vpn) s).1 m = true then giveS n root (ix2 vpn) (tidy1 n m (ix1 vpn) s) else tidy1 n m (ix1 vpn) s
def findS (n : Nat) (ws : List Int) (root vpn : Int) : Option Int := (entS n ws root vpn).bind fun v => if kindM (lo8 (flg v)) = 2 then some v else none
/-- An entry is another one; without one, tables go. -/
def changeS (n root : Nat) (vpn v' : Int) (s : PS) : PS :=
  match placeS n s.1 root vpn with
  | some (f, i) => if v' = 0 then tidyS n root vpn (s.1.set (f * 512 + i) v', s.2.1, s.2.2) else (s.1.set (f * 512 + i) v', s.2.1, s.2.2)
  | none => s
def hadN (fl : Nat) (flags : Int) : Nat := fl &&& lo8 flags &&& 192
def removeS (n root : Nat) (vpn : Int) (s : PS) : Bool × PS :=
  match findS n s.1 root vpn with
  | some v => (true, changeS n root vpn 0 s)
  | none => (false, s)
def protectS (n root : Nat) (vpn prot : Int) (s : PS) : Bool × PS :=
  if flagsN (lo3 prot) true = 0 then removeS n root vpn s else
  match findS n s.1 root vpn with
  | some v => (true, changeS n root vpn (encF (((flagsN (lo3 prot) true).toNat ||| (lo8 (flg v) &&& 192) : Nat) : Int) (ppn v)) s)
  | none => (false, s)
def clearS (n root : Nat) (vpn flags : Int) (s : PS) : Int × PS :=
  match findS n s.1 root vpn with
  | some v => ((hadN (lo8 (flg v)) flags : Nat), changeS n root vpn (encF ((lo8 (flg v) - hadN (lo8 (flg v)) flags : Nat) : Int) (ppn v)) s)
  | none => (0, s)

structure PW (h : H) (bm bf bp pf n : Nat) (ws ps : List Int) : Prop where
  mw : MW h bm bf n ws
  pm : PM h bp pf n 0 ps
  gf : GF ps n
  e1 : bm ≠ pf
  e2 : bp ≠ bf
  e3 : bf ≠ pf
structure XM (h : H) (bx bm bp : Nat) (asid root nt : Int) : Prop where
  cells : h[bx]? = some (.cells #[.pointer (some ⟨bm, 0, none⟩), .pointer (some ⟨bp, 0, none⟩), .int .i64 asid, .int .i64 root, .int .i64 nt] 195)
/-- A space in its memory. -/
structure W1 (h : H) (bm bf bp pf bx n : Nat) (asid : Int) (root : Nat) (s : PS) : Prop where
  pw : PW h bm bf bp pf n s.1 s.2.1
  xm : XM h bx bm bp asid root s.2.2
  x1 : bx ≠ bm
  x2 : bx ≠ bf
  x3 : bx ≠ bp
  x4 : bx ≠ pf
section
variable {h : H} {bm bf bp pf bx n root : Nat} {asid : Int} {s : PS}
theorem PW.kept {h' : H} {ws ps : List Int} (w : PW h bm bf bp pf n ws ps) (k : Kept h h') : PW h' bm bf bp pf n ws ps := ⟨w.mw.kept k, w.pm.kept k, w.gf, w.e1, w.e2, w.e3⟩
theorem W1.kept {h' : H} (w : W1 h bm bf bp pf bx n asid root s) (k : Kept h h') : W1 h' bm bf bp pf bx n asid root s :=
  ⟨w.pw.kept k, ⟨k.blk w.xm.cells⟩, w.x1, w.x2, w.x3, w.x4⟩
theorem W1.m (w : W1 h bm bf bp pf bx n asid root s) : hcell h ⟨bx, 0, none⟩ = some (.pointer (some ⟨bm, 0, none⟩)) := by rw [hcell_blk w.xm.cells]; rfl
theorem W1.p (w : W1 h bm bf bp pf bx n asid root s) : hcell h ⟨bx, 1, none⟩ = some (.pointer (some ⟨bp, 0, none⟩)) := by rw [hcell_blk w.xm.cells]; rfl
theorem W1.a (w : W1 h bm bf bp pf bx n asid root s) : hcell h ⟨bx, 2, none⟩ = some (.int .i64 asid) := by rw [hcell_blk w.xm.cells]; rfl
theorem W1.r (w : W1 h bm bf bp pf bx n asid root s) : hcell h ⟨bx, 3, none⟩ = some (.int .i64 (root : Int)) := by rw [hcell_blk w.xm.cells]; rfl
theorem W1.c (w : W1 h bm bf bp pf bx n asid root s) : hcell h ⟨bx, 4, none⟩ = some (.int .i64 s.2.2) := by rw [hcell_blk w.xm.cells]; rfl
theorem W1.lt (w : W1 h bm bf bp pf bx n asid root s) : bm < h.size ∧ bf < h.size ∧ bp < h.size ∧ pf < h.size ∧ bx < h.size :=
  ⟨w.pw.mw.lt.1, w.pw.mw.lt.2, (Array.getElem?_eq_some_iff.1 w.pw.pm.top).1, (Array.getElem?_eq_some_iff.1 (show h[pf]? = some _ from w.pw.pm.row)).1, (Array.getElem?_eq_some_iff.1 w.xm.cells).1⟩
/-- The memory changed. -/
theorem W1.mem {h' : H} {ws' : List Int} (w : W1 h bm bf bp pf bx n asid root s) (u : KB h bf h') (m : MW h' bm bf n ws') : W1 h' bm bf bp pf bx n asid root (ws', s.2.1, s.2.2) :=
  ⟨⟨m, w.pw.pm.kbo u w.pw.e2 (Ne.symm w.pw.e3), w.pw.gf, w.pw.e1, w.pw.e2, w.pw.e3⟩, ⟨u.blk w.xm.cells w.x2⟩, w.x1, w.x2, w.x3, w.x4⟩
/-- The pool changed. -/
theorem W1.pool {h' : H} {ps' : List Int} (w : W1 h bm bf bp pf bx n asid root s) (u : KB h pf h') (m : PM h' bp pf n 0 ps') (g : GF ps' n) : W1 h' bm bf bp pf bx n asid root (s.1, ps', s.2.2) :=
  ⟨⟨w.pw.mw.kl (L := [pf]) (u.kl (by simp)) (by simpa using w.pw.e1) (by simpa using w.pw.e3), m, g, w.pw.e1, w.pw.e2, w.pw.e3⟩, ⟨u.blk w.xm.cells w.x4⟩, w.x1, w.x2, w.x3, w.x4⟩
/-- The count changed. -/
theorem W1.St {nt : Int} {K : H → Prop} (w : W1 h bm bf bp pf bx n asid root s) (k : ∀ h', Upd h bx h' → W1 h' bm bf bp pf bx n asid root (s.1, s.2.1, nt) → K h') : St h ⟨bx, 4, none⟩ (.int .i64 nt) K := by
  refine St_intro w.xm.cells (by simp) fun h' u e => k h' u ⟨⟨w.pw.mw.kl (L := [bx]) (u.kl (by simp)) (by simpa using Ne.symm w.x1) (by simpa using Ne.symm w.x2), ?_, w.pw.gf, w.pw.e1, w.pw.e2, w.pw.e3⟩, ⟨e⟩, w.x1, w.x2, w.x3, w.x4⟩
  exact w.pw.pm.kbo u.kb (Ne.symm w.x3) (Ne.symm w.x4)
abbrev L3b (bf pf bx : Nat) : List Nat := [bf, pf, bx]
theorem P188 {Q : Bool → H → Prop} (w : W1 h bm bf bp pf bx n asid root s) (q : Q (decide (s.2.2 > 0)) h) : F188 (some ⟨bx, 0, none⟩) Q h := by
  rw [F188_eq]
  unfold B188
  simp only [Option.isNone_some, Bool.not_false, Br_true, NilP, add_mk, Nat.add_zero, Nat.zero_add]
  exact Ld_i w.c q
theorem P132 {Q : Int → H → Prop} (w : W1 h bm bf bp pf bx n asid root s) (hn : 0 < s.2.2) (q : Q s.2.2 h) : F132 (some ⟨bx, 0, none⟩) Q h := by
  rw [F132_eq]
  refine P188 w ?_
  rw [decide_eq_true (show s.2.2 > 0 from hn)]
  simp only [Bool.not_true, Br_false, NilP, add_mk, Nat.add_zero, Nat.zero_add]
  exact Ld_i w.c q
theorem P136 {Q : Int → H → Prop} (w : W1 h bm bf bp pf bx n asid root s) (hn : 0 < s.2.2) (q : Q (root : Int) h) : F136 (some ⟨bx, 0, none⟩) Q h := by
  rw [F136_eq]
  refine P188 w ?_
  rw [decide_eq_true (show s.2.2 > 0 from hn)]
  simp only [Bool.not_true, Br_false, NilP, add_mk, Nat.add_zero, Nat.zero_add]
  exact Ld_i w.r q
theorem P189 {f i : Nat} {Q : Int → Bool → H → Prop} (w : W1 h bm bf bp pf bx n asid root s) (hf : f < n) (hi : i < 512)
    (q : ∀ h', Kept h h' → Q (ppn (wat s.1 f i)) (lead n (wat s.1 f i)).isSome h') : F189 (some ⟨bx, 0, none⟩) f i Q h := by
  rw [F189_eq]
  unfold B189
  simp only [NilP, add_mk, Nat.add_zero, Nat.zero_add]
  refine Ld_p w.m (M83 w.pw.mw ?_)
  rw [wordF_in hf hi]
  simp only [LetI]
  refine C40 (w.pw.mw.ok.get _) fun h1 k1 => Nw_intro fun b h2 hb k2 e2 => ?_
  rw [zero25] at e2
  simp only [add_mk]
  refine put25 e2 fun h3 u3 e3 => ?_
  have e3 : IL h3 b 25 [flg (wat s.1 f i), ppn (wat s.1 f i)] := e3
  have k13 : Kept h1 h3 := u3.kept k2 (by omega)
  refine Ld_i (x := ppn (wat s.1 f i)) (by rw [hcell_blk e3]; rfl) (Ld_i (x := flg (wat s.1 f i)) (by rw [hcell_blk e3]; rfl) (Ld_i (x := ppn (wat s.1 f i)) (by rw [hcell_blk e3]; rfl) ?_))
  refine C53 fun h4 k4 => ⟨by rw [hcell_blk (k4.blk e3)]; rfl, ?_⟩
  have k := (k1.trans k13).trans k4
  have q := q h4 k
  unfold lead at q
  refine Br_beq_int (fun e => ?_) fun e => ?_
  · have w4 := w.kept k
    refine Ld_i (x := ppn (wat s.1 f i)) (by rw [hcell_blk (k4.blk e3)]; rfl) (Ld_p w4.m ⟨((n : Int), ()), M93 w4.pw.mw ⟨rfl, rfl⟩, ?_⟩)
    by_cases hh : ppn (wat s.1 f i) < (n : Int)
    · rw [if_pos ⟨e, hh⟩] at q
      simp only [decide_eq_true hh]; exact q
    · rw [if_neg (fun x => hh x.2)] at q
      simp only [decide_eq_false hh]; exact q
  · rw [if_neg (fun x => e x.1)] at q
    exact q
theorem sGive_gf {ps : List Int} (g : GF ps n) (hl : ps.length = 5 * n) (i : Int) : GF (sGive ps n i).2 n := (sGive_g g hl).1
theorem P191 {f i : Nat} {Q : H → Prop} (w : W1 h bm bf bp pf bx n asid root s) (hf : f < n) (hi : i < 512) (hb : -1000 ≤ s.2.2 ∧ s.2.2 ≤ 1000)
    (q : ∀ h', KL h (L3b bf pf bx) h' → W1 h' bm bf bp pf bx n asid root (giveS n f i s) → Q h') : F191 (some ⟨bx, 0, none⟩) f i Q h := by
  rw [F191_eq]
  refine P189 w hf hi fun h1 k1 => ?_
  have w1 := w.kept k1
  simp only [LetI, NilP, add_mk, Nat.add_zero, Nat.zero_add]
  refine Ld_p w1.p (X77 w1.pw.pm fun e ys h2 hs u2 m2 => ?_)
  have g2 : GF ys n := by have := sGive_gf w.pw.gf w.pw.pm.len (ppn (wat s.1 f i)); rw [hs] at this; exact this
  have w2 := w1.pool u2 m2 g2
  refine Ld_p w2.m (M82 w2.pw.mw (by omega) fun h3 u3 m3 => ?_)
  have es : setF n s.1 (f : Int) (i : Int) 0 = s.1.set (f * 512 + i) 0 := setF_in hf hi
  rw [es] at m3
  have w3 := w2.mem u3 m3
  refine Ld_i w3.c ?_
  rw [wrap_i64' _ (by simp only; omega) (by simp only; omega)]
  refine w3.St fun h4 u4 w4 => q h4 (((k1.kl.trans (u2.kl (by simp))).trans (u3.kl (by simp))).trans (u4.kl (by simp))) ?_
  have : giveS n f i s = (s.1.set (f * 512 + i) 0, ys, s.2.2 - 1) := by unfold giveS; rw [hs]
  rw [this]; exact w4
theorem P206 {f : Nat} {Q : Bool → H → Prop} (w : W1 h bm bf bp pf bx n asid root s) (hf : f < n) (q : Q (bareB s.1 f) h) : F206 (some ⟨bx, 0, none⟩) f Q h := by
  rw [F206_eq]
  unfold B206
  refine Loop_intro (σ := Int × Unit) (x := (0, ())) (fun c z h' => ∃ t : Nat, z.1 = (t : Int) ∧ c = 512 - t ∧ t ≤ 512 ∧ h = h' ∧ ∀ t', t' < t → wat s.1 f t' = 0) 512 ⟨0, rfl, rfl, by omega, rfl, fun t' ht' => by omega⟩ ?_
  rintro c ⟨zz, u⟩ h' ⟨t, ht, hc, ht5, rfl, hz⟩
  simp only at ht
  subst ht
  refine Br_dec (fun hlt => ?_) fun hge => ?_
  · have hlt : t < 512 := by simp only at hlt; omega
    simp only [LetI, NilP, add_mk, Nat.add_zero, Nat.zero_add]
    refine Ld_p w.m (M83 w.pw.mw ?_)
    rw [wordF_in hf hlt]
    simp only
    refine Br_bne_int (fun e => ?_) fun e => ?_
    · have : bareB s.1 f = false := by
        cases hb : bareB s.1 f
        · rfl
        · exact absurd (bareB_iff.1 hb t hlt) e
      rw [this] at q; exact q
    · refine ⟨512 - (t + 1), by omega, t + 1, by rw [wrap_i64' _ (by omega) (by omega)]; omega, rfl, by omega, by trivial, fun t' ht' => ?_⟩
      by_cases e2 : t' = t
      · subst e2; exact e
      · exact hz t' (by omega)
  · have : t = 512 := by simp only at hge; omega
    subst this
    rw [bareB_iff.2 hz] at q; exact q
theorem giveS_nt (f i : Nat) : (giveS n f i s).2.2 = s.2.2 - 1 := rfl
theorem P204 {vpn : Int} {Q : H → Prop} (w : W1 h bm bf bp pf bx n asid root s) (hr : root < n) (hb : -900 ≤ s.2.2 ∧ s.2.2 ≤ 900)
    (q : ∀ h', KL h (L3b bf pf bx) h' → W1 h' bm bf bp pf bx n asid root (tidyS n root vpn s) → Q h') : F204 (some ⟨bx, 0, none⟩) vpn Q h := by
  rw [F204_eq]
  unfold B204
  obtain ⟨x2, x1, x0⟩ := ix_eq vpn
  obtain ⟨l2, l1, l0⟩ := ix_lt vpn
  refine C44 (C44 ?_)
  rw [x2, x1]
  simp only [LetI, NilP, add_mk, Nat.add_zero, Nat.zero_add]
  refine Ld_i w.r (P189 w hr l2 fun h1 k1 => ?_)
  have w1 := w.kept k1
  cases hm : lead n (wat s.1 root (ix2 vpn)) with
  | none =>
    simp only [Option.isSome_none, Bool.not_false, Br_true]
    refine q h1 k1.kl ?_
    have : tidyS n root vpn s = s := by unfold tidyS; rw [hm]
    rw [this]; exact w1
  | some m =>
    obtain ⟨_, hp⟩ := lead_some hm
    have hmn := lead_lt hm
    simp only [Option.isSome_some, Bool.not_true, Br_false]
    rw [hp]
    have ht : tidyS n root vpn s = if bareB (tidy1 n m (ix1 vpn) s).1 m = true then giveS n root (ix2 vpn) (tidy1 n m (ix1 vpn) s) else tidy1 n m (ix1 vpn) s := by unfold tidyS; rw [hm]
    rw [ht] at q
    refine JoinI (fun _ h' => KL h (L3b bf pf bx) h' ∧ W1 h' bm bf bp pf bx n asid root (tidy1 n m (ix1 vpn) s) ∧ (-950 ≤ (tidy1 n m (ix1 vpn) s).2.2 ∧ (tidy1 n m (ix1 vpn) s).2.2 ≤ 950)) (fun J hJ => ?_) ?_
    · refine P189 w1 hmn l1 fun h2 k2 => ?_
      have w2 := w1.kept k2
      have k02 : KL h (L3b bf pf bx) h2 := (k1.trans k2).kl
      cases hl : lead n (wat s.1 m (ix1 vpn)) with
      | none =>
        simp only [Option.isSome_none, Br_false]
        have : tidy1 n m (ix1 vpn) s = s := by unfold tidy1; rw [hl]
        rw [this] at hJ
        exact hJ () h2 ⟨k02, w2, by omega⟩
      | some l =>
        obtain ⟨_, hpl⟩ := lead_some hl
        simp only [Option.isSome_some, Br_true]
        rw [hpl]
        refine P206 w2 (lead_lt hl) ?_
        have t1 : tidy1 n m (ix1 vpn) s = if bareB s.1 l = true then giveS n m (ix1 vpn) s else s := by unfold tidy1; rw [hl]
        rw [t1] at hJ
        cases hbb : bareB s.1 l
        · rw [hbb, if_neg (by simp)] at hJ
          exact hJ () h2 ⟨k02, w2, by omega⟩
        · rw [hbb, if_pos rfl] at hJ
          refine P191 w2 hmn l1 (by omega) fun h3 k3 w3 => hJ () h3 ⟨k02.trans k3, w3, ?_⟩
          rw [giveS_nt]; omega
    · rintro u h2 ⟨k2, w2, hb2⟩
      refine P206 w2 hmn ?_
      cases hbb : bareB (tidy1 n m (ix1 vpn) s).1 m
      · rw [hbb, if_neg (by simp)] at q
        exact q h2 k2 w2
      · rw [hbb, if_pos rfl] at q
        simp only [Br_true]
        exact Ld_i w2.r (P191 w2 hr l2 (by omega) fun h3 k3 w3 => q h3 (k2.trans k3) w3)
theorem tidy1_nt (m i1 : Nat) : (tidy1 n m i1 s).2.2 = s.2.2 ∨ (tidy1 n m i1 s).2.2 = s.2.2 - 1 := by
  unfold tidy1
  split
  · split
    · exact .inr rfl
    · exact .inl rfl
  · exact .inl rfl
theorem P131 {vpn : Int} {Q : Int → Int → Bool → H → Prop} (w : W1 h bm bf bp pf bx n asid root s) (hn : 0 < s.2.2)
    (q : ∀ h', Kept h h' → Q (flg ((findS n s.1 root vpn).getD 0)) (ppn ((findS n s.1 root vpn).getD 0)) (findS n s.1 root vpn).isSome h') : F131 (some ⟨bx, 0, none⟩) vpn Q h := by
  rw [F131_eq]
  unfold B131
  refine Nw_intro fun a1 h2 ha1 k2 e2 => ?_
  rw [zero25] at e2
  have w2 := w.kept k2
  refine P188 w2 ?_
  rw [decide_eq_true (show s.2.2 > 0 from hn)]
  simp only [Bool.not_true, Br_false, NilP, add_mk, Nat.add_zero, Nat.zero_add]
  refine Ld_p w2.m (Ld_i w2.r ?_)
  have hE : findS n s.1 root vpn = (entS n s.1 root vpn).bind fun v => if kindM (lo8 (flg v)) = 2 then some v else none := rfl
  have no : findS n s.1 root vpn = none → ∀ h' : H, Kept h h' → h'[a1]? = some (.cells #[.int .i64 0, .int .i64 0] 25) →
      St h' ⟨a1, 0, none⟩ (.int .i64 0) fun h21 => St h21 ⟨a1, 1, none⟩ (.int .i64 0) fun h22 => Ld (.i .i64) h22 ⟨a1, 0, none⟩ fun x23 => Ld (.i .i64) h22 ⟨a1, 1, none⟩ fun x24 => Q x23 x24 false h22 := by
    intro he h' k' e'
    have := put25 (a := 0) (b := 0) e' (K := fun h22 => Ld (.i .i64) h22 ⟨a1, 0, none⟩ fun x23 => Ld (.i .i64) h22 ⟨a1, 1, none⟩ fun x24 => Q x23 x24 false h22) (fun h3 u3 e3 => ?_)
    · exact this
    · have q := q h3 (u3.kept k' (by omega))
      rw [he] at q
      exact Ld_i (x := 0) (by rw [hcell_blk e3]; rfl) (Ld_i (x := 0) (by rw [hcell_blk e3]; rfl) q)
  have yes : ∀ (h16 : H) (a17 : Nat), Kept h h16 → a17 ≠ a1 → h.size ≤ a17 → h16[a1]? = some (.cells #[.int .i64 0, .int .i64 0] 25) → h16[a17]? = some (.cells #[.int .i64 0, .int .i64 0] 25) → 
      St h16 ⟨a17, 0, none⟩ (.int .i64 (flg ((entS n s.1 root vpn).getD 0))) fun h19 =>
      St h19 ⟨a17, 0 + 1, none⟩ (.int .i64 (ppn ((entS n s.1 root vpn).getD 0))) fun h20 =>
      Br (!(entS n s.1 root vpn).isSome)
      (St h20 ⟨a1, 0, none⟩ (.int .i64 0) fun h21 => St h21 ⟨a1, 1, none⟩ (.int .i64 0) fun h22 => Ld (.i .i64) h22 ⟨a1, 0, none⟩ fun x23 => Ld (.i .i64) h22 ⟨a1, 1, none⟩ fun x24 => Q x23 x24 false h22)
      (Ld (.i .i64) h20 ⟨a17, 0, none⟩ fun x25 =>
      Ld (.i .i64) h20 ⟨a17, 1, none⟩ fun x26 =>
      F53 x25 x26 (fun r27 h28 =>
      Br (r27 != 2)
      (St h28 ⟨a1, 0, none⟩ (.int .i64 0) fun h29 => St h29 ⟨a1, 1, none⟩ (.int .i64 0) fun h30 => Ld (.i .i64) h30 ⟨a1, 0, none⟩ fun x31 => Ld (.i .i64) h30 ⟨a1, 1, none⟩ fun x32 => Q x31 x32 false h30)
      (Ld (.i .i64) h28 ⟨a17, 0, none⟩ fun x33 =>
      Ld (.i .i64) h28 ⟨a17, 1, none⟩ fun x34 =>
      St h28 ⟨a1, 0, none⟩ (.int .i64 x33) fun h35 =>
      St h35 ⟨a1, 1, none⟩ (.int .i64 x34) fun h36 =>
      Ld (.i .i64) h36 ⟨a1, 0, none⟩ fun x37 =>
      Ld (.i .i64) h36 ⟨a1, 1, none⟩ fun x38 =>
      Q x37 x38 true h36)) h20) := by
    intro h16 a17 k16 hne hlo e1 e17
    refine put25 e17 fun h3 u3 e3 => ?_
    have e1' : h3[a1]? = some (.cells #[.int .i64 0, .int .i64 0] 25) := u3.blk e1 (Ne.symm hne)
    have K3 : Kept h h3 := u3.kept k16 hlo
    cases he : entS n s.1 root vpn with
    | none =>
      simp only [Option.isSome_none, Bool.not_false, Br_true]
      exact no (by rw [hE, he]; rfl) h3 K3 e1'
    | some v =>
      rw [he] at e3
      simp only [Option.getD_some] at e3
      simp only [Option.isSome_some, Bool.not_true, Br_false]
      refine Ld_i (x := flg v) (by rw [hcell_blk e3]; rfl) (Ld_i (x := ppn v) (by rw [hcell_blk e3]; rfl) (C53 fun h4 k4 => ?_))
      refine Br_bne_int (fun hk => no (by rw [hE, he]; exact if_neg hk) h4 (K3.trans k4) (k4.blk e1')) fun hk => ?_
      have hk : kindM (lo8 (flg v)) = 2 := hk
      have hf : findS n s.1 root vpn = some v := by rw [hE, he]; exact if_pos hk
      refine Ld_i (x := flg v) (by rw [hcell_blk (k4.blk e3)]; rfl) (Ld_i (x := ppn v) (by rw [hcell_blk (k4.blk e3)]; rfl) ?_)
      have := put25 (a := flg v) (b := ppn v) (k4.blk e1') (K := fun h36 => Ld (.i .i64) h36 ⟨a1, 0, none⟩ fun x37 => Ld (.i .i64) h36 ⟨a1, 1, none⟩ fun x38 => Q x37 x38 true h36) (fun h5 u5 e5 => ?_)
      · exact this
      · have q := q h5 (u5.kept (K3.trans k4) (by omega))
        rw [hf] at q
        exact Ld_i (x := flg v) (by rw [hcell_blk e5]; rfl) (Ld_i (x := ppn v) (by rw [hcell_blk e5]; rfl) q)
  have ha1lt : a1 < h2.size := (Array.getElem?_eq_some_iff.1 e2).1
  have hs2 := k2.1
  constructor
  · refine M122 w2.pw.mw fun h16 k16 => Nw_intro fun a17 h18 ha17 k18 e18 => ?_
    rw [zero25] at e18
    have hs16 := k16.1
    exact yes h18 a17 ((k2.trans k16).trans k18) (by omega) (by omega) (k18.blk (k16.blk e2)) e18
  · refine Nw_intro fun a39 h40 ha39 k40 e40 => ?_
    rw [zero25] at e40
    have w40 := w2.kept k40
    refine ⟨w40.r, w40.m, M122 w40.pw.mw fun h44 k44 => ?_⟩
    exact yes h44 a39 ((k2.trans k40).trans k44) (by omega) (by omega) (k44.blk (k40.blk e2)) (k44.blk e40)
end

theorem findS_some {n : Nat} {ws : List Int} {root vpn v : Int} (h : findS n ws root vpn = some v) : ∃ f i, placeS n ws root vpn = some (f, i) ∧ v = wat ws f i ∧ kindM (lo8 (flg v)) = 2 := by
  unfold findS entS at h
  cases hp : placeS n ws root vpn with
  | none => rw [hp] at h; simp at h
  | some p =>
    rw [hp] at h
    simp only [Option.map_some, Option.bind_some] at h
    split at h
    · rename_i hk
      simp only [Option.some.injEq] at h
      subst h
      exact ⟨p.1, p.2, rfl, rfl, hk⟩
    · cases h
theorem flg_lo8 (v : Int) : flg v = ((lo8 (flg v) : Nat) : Int) := by unfold lo8 flg; omega
theorem flags_range (p : Int) : 0 ≤ flagsN (lo3 p) true ∧ flagsN (lo3 p) true < 64 := by
  have : ∀ m, m < 8 → 0 ≤ flagsN m true ∧ flagsN m true < 64 := by decide
  exact this _ (lo3_lt p)
theorem bAnd_comm (a b : Int) : bAnd .i64 a b = bAnd .i64 b a := by rw [bAnd_s, bAnd_s, Nat.and_comm]
theorem lo8_nat {m : Nat} (h : m < 256) : lo8 (m : Int) = m := by unfold lo8; omega
theorem had_eq (v flags : Int) : bAnd .i64 (bAnd .i64 (flg v) flags) 192 = ((hadN (lo8 (flg v)) flags : Nat) : Int) := by
  have e := flg_lo8 v
  have hl := lo8_lt (flg v)
  generalize lo8 (flg v) = m at *
  rw [e, bAnd_comm (m : Int) flags, bA8 flags _ hl]
  have : lo8 flags &&& m < 256 := Nat.lt_of_le_of_lt Nat.and_le_left (lo8_lt _)
  have h2 := bA8 ((lo8 flags &&& m : Nat) : Int) 192 (by omega)
  rw [show ((192 : Nat) : Int) = 192 from rfl] at h2
  rw [h2, lo8_nat this]
  unfold hadN
  rw [Nat.and_comm (lo8 flags)]
theorem key_clr : ∀ fl : Nat, fl < 256 → ∀ y : Nat, y < 4 → bAndNot .i64 (fl : Int) ((fl &&& (y * 64) : Nat) : Int) = ((fl - (fl &&& (y * 64)) : Nat) : Int) := by decide +kernel
theorem key_192 : ∀ x : Nat, x < 256 → x &&& 192 = x / 64 * 64 := by decide +kernel
theorem hadN_eq (fl : Nat) (flags : Int) : hadN fl flags = fl &&& (lo8 flags / 64 * 64) := by
  unfold hadN
  rw [Nat.and_assoc, key_192 _ (lo8_lt _)]
theorem clr_eq (v flags : Int) : bAndNot .i64 (flg v) ((hadN (lo8 (flg v)) flags : Nat) : Int) = ((lo8 (flg v) - hadN (lo8 (flg v)) flags : Nat) : Int) := by
  have h1 := lo8_lt flags
  have := key_clr (lo8 (flg v)) (lo8_lt _) (lo8 flags / 64) (by omega)
  rw [← hadN_eq] at this
  rw [← flg_lo8] at this
  exact this
theorem pro_eq (v p : Int) : bOr .i64 (flagsN (lo3 p) true) (bAnd .i64 (flg v) 192) = (((flagsN (lo3 p) true).toNat ||| (lo8 (flg v) &&& 192) : Nat) : Int) := by
  have h1 := flags_range p
  have h2 := bA8 (flg v) 192 (by omega)
  rw [show ((192 : Nat) : Int) = 192 from rfl] at h2
  rw [h2]
  have h3 : lo8 (flg v) &&& 192 < 256 := Nat.lt_of_le_of_lt Nat.and_le_left (lo8_lt _)
  obtain ⟨x, hx⟩ := Int.eq_ofNat_of_zero_le h1.1
  rw [hx, Int.toNat_natCast]
  exact bOr_i x _ (by omega) h3
  where bOr_i (a b : Nat) (ha : a < 256) (hb : b < 256) : bOr .i64 (a : Int) (b : Int) = ((a ||| b : Nat) : Int) := bOr_i64 a b (by omega) (by omega)

section
variable {h : H} {bm bf bp pf bx n root : Nat} {asid : Int} {s : PS}
/-- The tail of a change. -/
theorem chg {f i : Nat} {vpn v' : Int} {Q : Bool → H → Prop} (w : W1 h bm bf bp pf bx n asid root s) (hr : root < n) (hb : -900 ≤ s.2.2 ∧ s.2.2 ≤ 900) (hp : placeS n s.1 root vpn = some (f, i)) (hv : 0 ≤ v' ∧ v' < 18446744073709551616)
    (q : ∀ h', KL h (L3b bf pf bx) h' → W1 h' bm bf bp pf bx n asid root (changeS n root vpn v' s) → Q true h') :
    NilP (some (⟨bx, 0, none⟩ : Addr)) fun a27 => Ld .p h ((a27.add 0).add 0) fun x28 => F82 x28 f i v' (fun r29 h30 => Br (v' == 0) (F204 (some ⟨bx, 0, none⟩) vpn (fun h31 => Q true h31) h30) (Q true h30)) h := by
  have hlt := placeS_lt hp
  simp only [NilP, add_mk, Nat.add_zero, Nat.zero_add]
  refine Ld_p w.m (M82 w.pw.mw hv fun h1 u1 m1 => ?_)
  rw [setF_in hlt.1 hlt.2.1] at m1
  have w1 := w.mem u1 m1
  have k1 : KL h (L3b bf pf bx) h1 := u1.kl (by simp)
  unfold changeS at q
  rw [hp] at q
  refine Br_beq_int (fun e => ?_) fun e => ?_
  · simp only [if_pos e] at q
    exact P204 w1 hr hb fun h2 k2 w2 => q h2 (k1.trans k2) w2
  · simp only [if_neg e] at q
    exact q h1 k1 w1
theorem C193 {a b : Int} {Q : Int → Int → H → Prop} (q : ∀ h', Kept h h' → Q 0 0 h') : F193 a b Q h := by
  rw [F193_eq]
  refine Nw_intro fun a1 h1 ha1 k1 e1 => Nw_intro fun a2 h2 ha2 k2 e2 => ?_
  rw [zero25] at e2
  simp only [add_mk]
  have hk1 := k1.1
  refine put25 e2 fun h3 u3 e3 => ?_
  exact Ld_i (x := 0) (by rw [hcell_blk e3]; rfl) (Ld_i (x := 0) (by rw [hcell_blk e3]; rfl) (q h3 (u3.kept (k1.trans k2) (by omega))))
theorem P192r {vpn : Int} {Q : Bool → H → Prop} (w : W1 h bm bf bp pf bx n asid root s) (hn : 0 < s.2.2) (hr : root < n) (hb : s.2.2 ≤ 900)
    (q : ∀ h' r s', removeS n root vpn s = (r, s') → KL h (L3b bf pf bx) h' → W1 h' bm bf bp pf bx n asid root s' → Q r h') : F192Rem (some ⟨bx, 0, none⟩) vpn Q h := by
  rw [F192Rem_eq]
  refine P131 w hn fun h1 k1 => Nw_intro fun a5 h2 ha5 k2 e2 => ?_
  rw [zero25] at e2
  simp only [add_mk]
  refine put25 e2 fun h3 u3 e3 => ?_
  have k13 : Kept h1 h3 := u3.kept k2 (by omega)
  have k3 := k1.trans k13
  have w3 := w.kept k3
  unfold removeS at q
  cases hf : findS n s.1 root vpn with
  | none =>
    rw [hf] at q
    simp only [Option.isSome_none, Bool.not_false, Br_true]
    exact q h3 _ _ rfl k3.kl w3
  | some v =>
    rw [hf] at q e3
    obtain ⟨f, i, hp, hv, hk⟩ := findS_some hf
    simp only [Option.isSome_some, Bool.not_true, Br_false, NilP, add_mk, Nat.add_zero, Nat.zero_add]
    refine Ld_p w3.m (Ld_i w3.r (M120 w3.pw.mw fun h4 k4 => ?_))
    rw [hp]
    simp only [LetI, plF, plI]
    refine Ld_i (x := flg v) (by rw [hcell_blk (k4.blk e3)]; rfl) (Ld_i (x := ppn v) (by rw [hcell_blk (k4.blk e3)]; rfl) (C193 fun h5 k5 => C41 fun h6 k6 => ?_))
    have k36 := (k4.trans k5).trans k6
    have w6 := w3.kept k36
    have := chg (Q := Q) (vpn := vpn) (v' := encF 0 0) w6 hr (by omega) hp (by decide) (fun h7 k7 w7 => q h7 true _ rfl ((k3.trans k36).kl.trans k7) w7)
    simp only [NilP, add_mk, Nat.add_zero, Nat.zero_add] at this
    exact this
theorem P134 {vpn : Int} {Q : Bool → H → Prop} (w : W1 h bm bf bp pf bx n asid root s) (hn : 0 < s.2.2) (hr : root < n) (hb : s.2.2 ≤ 900)
    (q : ∀ h' r s', removeS n root vpn s = (r, s') → KL h (L3b bf pf bx) h' → W1 h' bm bf bp pf bx n asid root s' → Q r h') : F134 (some ⟨bx, 0, none⟩) vpn Q h := by
  rw [F134_eq]; exact P192r w hn hr hb q
theorem C194 {a b : Int} {p : Nat} {fl : Int} {Q : Int → Int → H → Prop} (e : hcell h ⟨p, 0, none⟩ = some (.int .i64 fl)) (q : ∀ h', Kept h h' → Q (bOr .i64 fl (bAnd .i64 a 192)) b h') : F194 a b ⟨p, 0, none⟩ Q h := by
  rw [F194_eq]
  refine Nw_intro fun a1 h1 ha1 k1 e1 => Nw_intro fun a2 h2 ha2 k2 e2 => ?_
  rw [zero25] at e2
  simp only [add_mk, Nat.add_zero]
  have hk1 := k1.1
  have k12 := k1.trans k2
  refine Ld_i (k12.cell e) (Ld_i (x := a) (by rw [hcell_blk (k2.blk e1)]; rfl) (Ld_i (x := b) (by rw [hcell_blk (k2.blk e1)]; rfl) ?_))
  refine put25 e2 fun h3 u3 e3 => ?_
  exact Ld_i (x := bOr .i64 fl (bAnd .i64 a 192)) (by rw [hcell_blk e3]; rfl) (Ld_i (x := b) (by rw [hcell_blk e3]; rfl) (q h3 (u3.kept k12 (by omega))))
theorem P137 {vpn prot : Int} {Q : Bool → H → Prop} (w : W1 h bm bf bp pf bx n asid root s) (hn : 0 < s.2.2) (hr : root < n) (hb : s.2.2 ≤ 900)
    (q : ∀ h' r s', protectS n root vpn prot s = (r, s') → KL h (L3b bf pf bx) h' → W1 h' bm bf bp pf bx n asid root s' → Q r h') : F137 (some ⟨bx, 0, none⟩) vpn prot Q h := by
  rw [F137_eq]
  refine C58 fun h1 k1 => Nw_intro fun a3 h2 ha3 k2 e2 => ?_
  have e2 : IL h2 a3 3 [0] := by
    have : zeroC Try.prog 3 = VI [0] := by kernel_rfl
    rw [this] at e2; exact e2
  simp only [add_mk]
  refine St_I e2 (by simp) fun h3 u3 e3 => ?_
  have e3 : IL h3 a3 3 [flagsN (lo3 prot) true] := e3
  have k13 : Kept h1 h3 := u3.kept k2 (by omega)
  have k3 := k1.trans k13
  have w3 := w.kept k3
  have c3 : hcell h3 ⟨a3, 0, none⟩ = some (.int .i64 (flagsN (lo3 prot) true)) := by rw [hcell_blk e3]; rfl
  unfold protectS at q
  refine Ld_i c3 (Br_beq_int (fun e => ?_) fun e => ?_)
  · rw [if_pos e] at q
    exact P134 w3 hn hr hb fun h4 r s' hs k4 w4 => q h4 r s' hs (k3.kl.trans k4) w4
  · rw [if_neg e] at q
    rw [F192Pro_eq]
    refine P131 w3 hn fun h4 k4 => Nw_intro fun a5 h5 ha5 k5 e5 => ?_
    rw [zero25] at e5
    simp only [add_mk]
    refine put25 e5 fun h6 u6 e6 => ?_
    have k46 : Kept h4 h6 := u6.kept k5 (by omega)
    have k36 := k4.trans k46
    have w6 := w3.kept k36
    cases hf : findS n s.1 root vpn with
    | none =>
      rw [hf] at q
      simp only [Option.isSome_none, Bool.not_false, Br_true]
      exact q h6 _ _ rfl (k3.trans k36).kl w6
    | some v =>
      rw [hf] at q e6
      obtain ⟨f, i, hp, hv, hk⟩ := findS_some hf
      simp only [Option.isSome_some, Bool.not_true, Br_false, NilP, add_mk, Nat.add_zero, Nat.zero_add]
      refine Ld_p w6.m (Ld_i w6.r (M120 w6.pw.mw fun h7 k7 => ?_))
      rw [hp]
      simp only [LetI, plF, plI]
      refine Ld_i (x := flg v) (by rw [hcell_blk (k7.blk e6)]; rfl) (Ld_i (x := ppn v) (by rw [hcell_blk (k7.blk e6)]; rfl) (C194 ((k36.trans k7).cell c3) fun h8 k8 => C41 fun h9 k9 => ?_))
      rw [pro_eq]
      have k69 := (k7.trans k8).trans k9
      have w9 := w6.kept k69
      have := chg (Q := Q) (vpn := vpn) w9 hr (by omega) hp (encF_range _ _) (fun h10 k10 w10 => q h10 true _ rfl (((k3.trans k36).trans k69).kl.trans k10) w10)
      simp only [NilP, add_mk, Nat.add_zero, Nat.zero_add] at this
      exact this
theorem P138 {vpn flags : Int} {Q : Int → H → Prop} (w : W1 h bm bf bp pf bx n asid root s) (hn : 0 < s.2.2) (hr : root < n) (hb : s.2.2 ≤ 900)
    (q : ∀ h' r s', clearS n root vpn flags s = (r, s') → KL h (L3b bf pf bx) h' → W1 h' bm bf bp pf bx n asid root s' → Q r h') : F138 (some ⟨bx, 0, none⟩) vpn flags Q h := by
  rw [F138_eq]
  have lt := w.lt
  refine Nw_intro fun a1 h1 ha1 k1 e1 => Nw_intro fun a3 h2 ha3 k2 e2 => ?_
  have ha1' := (Array.getElem?_eq_some_iff.1 e1).1
  have e1 : IL h1 a1 3 [flags] := e1
  have e2 : IL h2 a3 3 [0] := by
    have : zeroC Try.prog 3 = VI [0] := by kernel_rfl
    rw [this] at e2; exact e2
  have ha3' := (Array.getElem?_eq_some_iff.1 (show h2[a3]? = some _ from e2)).1
  simp only [add_mk]
  refine St_I e2 (by simp) fun h3 u3 e3 => ?_
  have e3 : IL h3 a3 3 [0] := e3
  have hk1 := k1.1
  have k3 : Kept h h3 := u3.kept (k1.trans k2) (by omega)
  have e1 : IL h3 a1 3 [flags] := u3.blk (k2.blk e1) (by omega)
  have w3 := w.kept k3
  have hk3 := k3.1
  rw [F192Clr_eq]
  refine P131 w3 hn fun h4 k4 => Nw_intro fun a5 h5 ha5 k5 e5 => ?_
  rw [zero25] at e5
  simp only [add_mk]
  refine put25 e5 fun h6 u6 e6 => ?_
  have k46 : Kept h4 h6 := u6.kept k5 (by omega)
  have k36 := k4.trans k46
  have w6 := w3.kept k36
  have E3 := k36.blk e3
  have E1 := k36.blk e1
  unfold clearS at q
  cases hf : findS n s.1 root vpn with
  | none =>
    rw [hf] at q
    simp only [Option.isSome_none, Bool.not_false, Br_true]
    refine Ld_i (x := 0) (by rw [hcell_blk E3]; rfl) (q h6 _ _ rfl (k3.trans k36).kl w6)
  | some v =>
    rw [hf] at q e6
    obtain ⟨f, i, hp, hv, hk⟩ := findS_some hf
    simp only [Option.isSome_some, Bool.not_true, Br_false, NilP, add_mk, Nat.add_zero, Nat.zero_add]
    refine Ld_p w6.m (Ld_i w6.r (M120 w6.pw.mw fun h7 k7 => ?_))
    rw [hp]
    simp only [LetI, plF, plI]
    refine Ld_i (x := flg v) (by rw [hcell_blk (k7.blk e6)]; rfl) (Ld_i (x := ppn v) (by rw [hcell_blk (k7.blk e6)]; rfl) ?_)
    rw [F195_eq]
    refine Nw_intro fun b1 h8 hb1 k8 f1 => Nw_intro fun b2 h9 hb2 k9 f2 => ?_
    have hb1' := (Array.getElem?_eq_some_iff.1 f1).1
    have f1 : IL h9 b1 25 [flg v, ppn v] := k9.blk f1
    have hb2' := (Array.getElem?_eq_some_iff.1 f2).1
    rw [zero25] at f2
    have hh3 := u3.1
    have hk7 := k7.1
    have hk8 := k8.1
    have hk36 := k36.1
    have k79 := k8.trans k9
    have k69 := k7.trans k79
    have E3 : IL h9 a3 3 [0] := k69.blk E3
    have E1 := k69.blk E1
    simp only [add_mk, Nat.add_zero, Nat.zero_add]
    refine Ld_i (x := flg v) (by rw [hcell_blk f1]; rfl) (Ld_i (x := flags) (by rw [hcell_blk E1]; rfl) ?_)
    rw [had_eq]
    refine St_I E3 (by simp) fun h10 u10 e10 => ?_
    have e10 : IL h10 a3 3 [((hadN (lo8 (flg v)) flags : Nat) : Int)] := e10
    have f1 : IL h10 b1 25 [flg v, ppn v] := u10.blk f1 (by omega)
    refine Ld_i (x := flg v) (by rw [hcell_blk f1]; rfl) (Ld_i (x := ((hadN (lo8 (flg v)) flags : Nat) : Int)) (by rw [hcell_blk e10]; rfl) ?_)
    rw [clr_eq]
    refine St_I f1 (by simp) fun h11 u11 f11 => ?_
    have f11 : IL h11 b1 25 [((lo8 (flg v) - hadN (lo8 (flg v)) flags : Nat) : Int), ppn v] := f11
    refine Ld_i (x := ((lo8 (flg v) - hadN (lo8 (flg v)) flags : Nat) : Int)) (by rw [hcell_blk f11]; rfl) (Ld_i (x := ppn v) (by rw [hcell_blk f11]; rfl) ?_)
    have P := put25 (a := ((lo8 (flg v) - hadN (lo8 (flg v)) flags : Nat) : Int)) (b := ppn v) (u11.blk (u10.blk f2 (by omega)) (by omega)) (K := fun h14 => Ld (.i .i64) h14 ⟨b2, 0, none⟩ fun x15 => Ld (.i .i64) h14 ⟨b2, 1, none⟩ fun x16 =>
      F41 x15 x16 (fun r24 h25 => NilP (some (⟨bx, 0, none⟩ : Addr)) fun a27 => Ld .p h25 ((a27.add 0).add 0) fun x28 => F82 x28 f i r24 (fun r29 h30 => Br (r24 == 0) (F204 (some ⟨bx, 0, none⟩) vpn (fun h31 => Ld (.i .i64) h31 ⟨a3, 0, none⟩ fun x8 => Q x8 h31) h30) (Ld (.i .i64) h30 ⟨a3, 0, none⟩ fun x8 => Q x8 h30)) h25) h14) fun h12 u12 e12 => ?_
    · simp only [NilP, add_mk, Nat.add_zero, Nat.zero_add] at P
      exact P
    · refine Ld_i (x := ((lo8 (flg v) - hadN (lo8 (flg v)) flags : Nat) : Int)) (by rw [hcell_blk e12]; rfl) (Ld_i (x := ppn v) (by rw [hcell_blk e12]; rfl) (C41 fun h13 k13 => ?_))
      have K12 : Kept h h12 := u12.kept (u11.kept (u10.kept ((k3.trans k36).trans k69) (by omega)) (by omega)) (by omega)
      have K13 := K12.trans k13
      have w13 := w.kept K13
      have e13 : IL h13 a3 3 [((hadN (lo8 (flg v)) flags : Nat) : Int)] := k13.blk (u12.blk (u11.blk e10 (by omega)) (by omega))
      refine chg (Q := fun _ h31 => Ld (.i .i64) h31 ⟨a3, 0, none⟩ fun x8 => Q x8 h31) (vpn := vpn) w13 hr (by omega) hp (encF_range _ _) (fun h14 k14 w14 => ?_)
      have e14 := k14.blk e13 (by simp; omega)
      exact Ld_i (x := ((hadN (lo8 (flg v)) flags : Nat) : Int)) (by rw [hcell_blk e14]; rfl) (q h14 _ _ rfl (K13.kl.trans k14) w14)
end

/-- A new table below an entry; none: no frame is left. -/
def growS (n : Nat) (asid : Int) (f i : Nat) (lv : Int) (s : PS) : Option (Nat × PS) :=
  if cnt s.2.1 0 n ≤ 0 then none else
  some (fst0 s.2.1 n, ((zeroW s.1 (fst0 s.2.1 n)).set (f * 512 + i) (encF 1 (fst0 s.2.1 n : Nat)), set5 s.2.1 (fst0 s.2.1 n) 1 asid lv 0 0, s.2.2 + 1))
def leafS (l : Nat) (vpn frame prot : Int) (s : PS) : PS := (s.1.set (l * 512 + ix0 vpn) (encF (flagsN (lo3 prot) true) frame), s.2.1, s.2.2)
def enter1 (n : Nat) (asid : Int) (m : Nat) (vpn frame prot : Int) (s : PS) : Int × PS :=
  match lead n (wat s.1 m (ix1 vpn)) with
  | some l => (0, leafS l vpn frame prot s)
  | none => match growS n asid m (ix1 vpn) 2 s with
    | some (l, s1) => (0, leafS l vpn frame prot s1)
    | none => (5, s)
def badE (n : Nat) (vpn frame prot : Int) : Prop := vpn < 0 ∨ vpn ≥ 67108864 ∨ prot < 1 ∨ prot > 7 ∨ frame < 0 ∨ frame ≥ n
instance (n : Nat) (vpn frame prot : Int) : Decidable (badE n vpn frame prot) := by unfold badE; infer_instance
def enterA (n root : Nat) (asid : Int) (vpn frame prot : Int) (s : PS) : Option (Nat × PS) → Int × PS
  | none => (5, s)
  | some (m, s1) => if (enter1 n asid m vpn frame prot s1).1 = 0 then enter1 n asid m vpn frame prot s1 else ((enter1 n asid m vpn frame prot s1).1, giveS n root (ix2 vpn) s1)
def enterB (n root : Nat) (asid : Int) (vpn frame prot : Int) (s : PS) : Option Nat → Int × PS
  | some m => enter1 n asid m vpn frame prot s
  | none => enterA n root asid vpn frame prot s (growS n asid root (ix2 vpn) 1 s)
def enterS (n root : Nat) (asid : Int) (vpn frame prot : Int) (s : PS) : Int × PS :=
  if badE n vpn frame prot then (2, s) else enterB n root asid vpn frame prot s (lead n (wat s.1 root (ix2 vpn)))
def newS (n : Nat) (asid : Int) (ws ps : List Int) : Option (Nat × PS) :=
  if cnt ps 0 n ≤ 0 then none else some (fst0 ps n, (zeroW ws (fst0 ps n), set5 ps (fst0 ps n) 1 asid 0 0 0, 1))

theorem fst0_lt {ps : List Int} {n : Nat} (g : GF ps n) (hc : ¬ cnt ps 0 n ≤ 0) : fst0 ps n < n ∧ z5 ps (fst0 ps n) = true := by
  have : ∃ j, j < n ∧ z5 ps j = true := by
    apply Classical.byContradiction
    intro hne
    have : cnt ps 0 n = 0 := cnt_pos g n (Nat.le_refl _) fun i hi => by
      cases hz : z5 ps i
      · rfl
      · exact absurd ⟨i, hi, hz⟩ hne
    omega
  obtain ⟨j, hj, hz⟩ := this
  unfold fst0
  cases hf : (List.range n).find? (fun j => z5 ps j) with
  | none =>
    have := List.find?_eq_none.1 hf j (by simpa using hj)
    rw [hz] at this; exact absurd rfl this
  | some i =>
    have h1 := List.mem_of_find?_eq_some hf
    have h2 := List.find?_some hf
    exact ⟨by simpa using h1, h2⟩
theorem sTake_one (ps : List Int) (n : Nat) (asid lv : Int) : sTake ps n 0 1 asid lv = if cnt ps 0 n ≤ 0 then (0, 5, ps) else (((fst0 ps n : Nat) : Int), 0, set5 ps (fst0 ps n) 1 asid lv 0 0) := by
  unfold sTake
  rw [if_neg (by omega), if_pos rfl]
section
variable {h : H} {bm bf bp pf bx n root : Nat} {asid : Int} {s : PS}
theorem X76t {lv : Int} {ws ps : List Int} {Q : Int → Int → H → Prop} (w : PW h bm bf bp pf n ws ps)
    (q5 : ∀ h', cnt ps 0 n ≤ 0 → KB h pf h' → PM h' bp pf n 0 ps → Q 0 5 h')
    (q : ∀ h', ¬ cnt ps 0 n ≤ 0 → fst0 ps n < n → z5 ps (fst0 ps n) = true → KB h pf h' → PM h' bp pf n 0 (set5 ps (fst0 ps n) 1 asid lv 0 0) → GF (set5 ps (fst0 ps n) 1 asid lv 0 0) n → Q (fst0 ps n : Nat) 0 h') :
    F76 (some ⟨bp, 0, none⟩) 1 asid lv Q h := by
  refine X76 w.pm w.gf fun r e ys h' hs u m => ?_
  rw [sTake_one] at hs
  by_cases hc : cnt ps 0 n ≤ 0
  · rw [if_pos hc] at hs
    simp only [Prod.mk.injEq] at hs
    obtain ⟨rfl, rfl, rfl⟩ := hs
    exact q5 h' hc u m
  · rw [if_neg hc] at hs
    simp only [Prod.mk.injEq] at hs
    obtain ⟨rfl, rfl, rfl⟩ := hs
    have hf := fst0_lt w.gf hc
    exact q h' hc hf.1 hf.2 u m (w.gf.set5 w.pm.len hf.1 (by omega) (fun e => by omega))
theorem P128 {ws ps : List Int} {Q : Option Addr → Int → H → Prop} (w : PW h bm bf bp pf n ws ps) (hn : 1 ≤ n)
    (q5 : ∀ h', newS n asid ws ps = none → KL h [bf, pf] h' → PW h' bm bf bp pf n ws ps → Q none 5 h')
    (q : ∀ bx h' r s, newS n asid ws ps = some (r, s) → r < n → h.size ≤ bx → KL h [bf, pf] h' → W1 h' bm bf bp pf bx n asid r s → Q (some ⟨bx, 0, none⟩) 0 h') : F128 (some ⟨bm, 0, none⟩) (some ⟨bp, 0, none⟩) asid Q h := by
  rw [F128_eq]
  unfold B128
  refine M93 w.mw (Br_beq_int (fun e => by omega) fun _ => ?_)
  refine X76t w (fun h1 hc u m => ?_) fun h1 hc hlt hz u m g => ?_
  · simp only [LetI, show ((5 : Int) != 0) = true by decide, Br_true]
    exact q5 h1 (by unfold newS; rw [if_pos hc]) (u.kl (by simp)) ⟨w.mw.kl (L := [pf]) (u.kl (by simp)) (by simpa using w.e1) (by simpa using w.e3), m, w.gf, w.e1, w.e2, w.e3⟩
  · simp only [LetI, bne_self_eq_false, Br_false]
    have mw1 : MW h1 bm bf n ws := w.mw.kl (L := [pf]) (u.kl (by simp)) (by simpa using w.e1) (by simpa using w.e3)
    refine M87 mw1 (fun j h2 hj hjn u2 m2 => ?_) fun hh => absurd ⟨by omega, by omega⟩ hh
    obtain rfl : j = fst0 ps n := by omega
    refine Nw_intro fun bx h3 hbx k3 e3 => ?_
    have lt := w.mw.lt
    have hp := (Array.getElem?_eq_some_iff.1 w.pm.top).1
    have hpf := (Array.getElem?_eq_some_iff.1 (show h[pf]? = some _ from w.pm.row)).1
    have hu := u.1
    have hu2 := u2.1
    refine q bx h3 _ _ (by unfold newS; rw [if_neg hc]) hlt (by omega) (((u.kl (by simp)).trans (u2.kl (by simp))).trans k3.kl) ⟨⟨m2.kept k3, (m.kbo u2 w.e2 (Ne.symm w.e3)).kept k3, g, w.e1, w.e2, w.e3⟩, ⟨e3⟩, by omega, by omega, by omega, by omega⟩
def clo (a1 a23 a25 : Nat) : Value := .func (.func 190) #[] #[.pointer (some ⟨a1, 0, none⟩), .pointer (some ⟨a23, 0, none⟩), .pointer (some ⟨a25, 0, none⟩)]
theorem zeros1 (k : Nat) : (zerosC Try.prog 1 k).size = k := by
  have : (zeroC Try.prog 1).size = 1 := by kernel_rfl
  unfold zerosC; rw [this]; simp
/-- A closure appended to none. -/
theorem App_first {a : Nat} {v : Value} {K : Sl → H → Prop} (hv : v.oneCell' = true) (e : h[a]? = some (.cells #[v] 1))
    (q : ∀ b cap h', Kept h h' → h.size ≤ b → hcell h' ⟨b, 0, none⟩ = some v → (∃ vs : Array Value, h'[b]? = some (.cells vs 1) ∧ vs.size = cap) → 1 ≤ cap → K ⟨some ⟨b, 0, none⟩, 1, cap⟩ h') : App Try.prog ⟨none, 1, 1, 8⟩ h ⟨none, 0, 0⟩ ⟨some ⟨a, 0, none⟩, 1, 1⟩ K := by
  refine ⟨[v], ⟨rfl, fun j x hx => ⟨_, rfl, ?_⟩, by simpa using hv⟩, .inr ⟨by simp, by simp, [], ⟨rfl, fun j x hx => by simp at hx, by simp⟩, fun cap hcap => ?_⟩⟩
  · have : j = 0 := by have := (List.getElem?_eq_some_iff.1 hx).1; simpa using this
    subst this
    simp only [List.getElem?_cons_zero, Option.some.injEq] at hx
    subst hx
    rw [add_mk, hcell_blk e]; rfl
  · obtain ⟨vs, hvs⟩ : ∃ vs : Array Value, vs = ([] : List Value).toArray ++ [v].toArray ++ zerosC Try.prog 1 (cap - (0 + 1)) := ⟨_, rfl⟩
    simp only at hcap ⊢
    rw [← hvs]
    refine q h.size cap _ (Kept.new h vs 1) (Nat.le_refl _) ?_ ⟨vs, new_blk h vs 1, ?_⟩ (by omega)
    · rw [hcell_blk (new_blk h vs 1), hvs]
      rw [Array.getElem?_append_left (by simp)]
      simp
    · rw [hvs]; simp [zeros1]; omega
/-- A closure appended to one. -/
theorem App_second {a b cap : Nat} {v v0 : Value} {K : Sl → H → Prop} (hv : v.oneCell' = true) (hv0 : v0.oneCell' = true) (e : h[a]? = some (.cells #[v] 1)) (e0 : hcell h ⟨b, 0, none⟩ = some v0) (eb : ∃ vs : Array Value, h[b]? = some (.cells vs 1) ∧ vs.size = cap) (hc1 : 1 ≤ cap)
    (q : ∀ s' h', KB h b h' → K s' h') : App Try.prog ⟨none, 1, 1, 8⟩ h ⟨some ⟨b, 0, none⟩, 1, cap⟩ ⟨some ⟨a, 0, none⟩, 1, 1⟩ K := by
  obtain ⟨vs, eb, hvs⟩ := eb
  refine ⟨[v], ⟨rfl, fun j x hx => ⟨_, rfl, ?_⟩, by simpa using hv⟩, ?_⟩
  · have : j = 0 := by have := (List.getElem?_eq_some_iff.1 hx).1; simpa using this
    subst this
    simp only [List.getElem?_cons_zero, Option.some.injEq] at hx
    subst hx
    rw [add_mk, hcell_blk e]; rfl
  · by_cases hc : 1 + 1 ≤ cap
    · refine .inl ⟨hc, ?_, ?_⟩
      · rintro ad had j hj
        simp only [Option.some.injEq] at had
        subst had
        have : j = 0 := by simp at hj; exact hj
        subst this
        simp only [add_mk, Nat.mul_one, Nat.zero_add, Nat.add_zero]
        exact ⟨⟨vs[1]'(by omega), by rw [hcell_blk eb]; exact Array.getElem?_eq_getElem (by omega)⟩, by simp [hfroz, eb]⟩
      · simp only [add_mk, Nat.mul_one, Nat.zero_add, Nat.add_zero, hsetL]
        exact q _ _ (hset_upd h b 1 v).kb
    · refine .inr ⟨by simp only; omega, by simp, [v0], ⟨rfl, fun j x hx => ⟨_, rfl, ?_⟩, by simpa using hv0⟩, fun cap' hcap => q _ _ (Kept.new h _ 1).kb⟩
      have : j = 0 := by have := (List.getElem?_eq_some_iff.1 hx).1; simpa using this
      subst this
      simp only [List.getElem?_cons_zero, Option.some.injEq] at hx
      subst hx
      rw [add_mk]; exact e0
/-- The call of a closure that takes a table back. -/
theorem call_clo {a1 a23 a25 : Nat} {K : Value → H → Prop} (q : F190 ⟨a1, 0, none⟩ ⟨a23, 0, none⟩ ⟨a25, 0, none⟩ (fun h' => K (.tuple #[]) h') h) :
    CallV [E188, E93, E44, E189, E76, E190, E87, E41, E82, E58] (clo a1 a23 a25) [] h K := by
  have : CallV [E188, E93, E44, E189, E76, E190, E87, E41, E82, E58] (clo a1 a23 a25) [] h K = F190 ⟨a1, 0, none⟩ ⟨a23, 0, none⟩ ⟨a25, 0, none⟩ (fun h' => K (.tuple #[]) h') h := by kernel_rfl
  rw [this]; exact q
theorem L3b_mono : ∀ b ∈ [bf, pf], b ∈ L3b bf pf bx := by simp
/-- One level of Enter. -/
theorem lvl {f i a1 a23 a25 : Nat} {lv : Int} {u : Sl} {FAIL : Int → H → Prop} {DONE : Int → Sl → H → Prop} {FOUND : Int → H → Prop} (w : W1 h bm bf bp pf bx n asid root s) (hf : f < n) (hi : i < 512) (hb : -1000 ≤ s.2.2 ∧ s.2.2 ≤ 900)
    (c1 : h[a1]? = some (.cells #[.pointer (some ⟨bx, 0, none⟩)] 167)) (c23 : IL h a23 3 [(f : Int)]) (c25 : IL h a25 3 [(i : Int)]) (d1 : a1 ∉ L3b bf pf bx) (d23 : a23 ∉ L3b bf pf bx) (d25 : a25 ∉ L3b bf pf bx)
    (qf : ∀ m h', lead n (wat s.1 f i) = some m → Kept h h' → FOUND (m : Int) h')
    (qe : ∀ h', lead n (wat s.1 f i) = none → growS n asid f i lv s = none → KL h (L3b bf pf bx) h' → W1 h' bm bf bp pf bx n asid root s → FAIL 5 h')
    (qd : ∀ r s1 h' a75, lead n (wat s.1 f i) = none → growS n asid f i lv s = some (r, s1) → r < n → KL h (L3b bf pf bx) h' → W1 h' bm bf bp pf bx n asid root s1 → h'[a75]? = some (.cells #[clo a1 a23 a25] 1) →
      App Try.prog ⟨none, 1, 1, 8⟩ h' u ⟨some ⟨a75, 0, none⟩, 1, 1⟩ fun s77 h78 => DONE (r : Int) s77 h78) :
  Ld .p h ⟨a1, 0, none⟩ fun x29 =>
  Ld (.i .i64) h ⟨a23, 0, none⟩ fun x30 =>
  Ld (.i .i64) h ⟨a25, 0, none⟩ fun x31 =>
  F189 x29 x30 x31 (fun r32 r33 h34 =>
  Br (!r33)
  (Ld .p h34 ⟨a1, 0, none⟩ fun x36 =>
  NilP x36 fun a37 =>
  Ld .p h34 ((a37.add 1).add 0) fun x38 =>
  Ld .p h34 ⟨a1, 0, none⟩ fun x39 =>
  NilP x39 fun a40 =>
  Ld (.i .i64) h34 ((a40.add 2).add 0) fun x41 =>
  F76 x38 1 x41 lv (fun r42 r43 h44 =>
  Br (r43 != 0)
  (FAIL r43 h44)
  (Ld .p h44 ⟨a1, 0, none⟩ fun x56 =>
  NilP x56 fun a57 =>
  Ld .p h44 ((a57.add 0).add 0) fun x58 =>
  F87 x58 r42 (fun r59 h60 =>
  Ld .p h60 ⟨a1, 0, none⟩ fun x61 =>
  NilP x61 fun a62 =>
  Ld .p h60 ((a62.add 0).add 0) fun x63 =>
  Ld (.i .i64) h60 ⟨a23, 0, none⟩ fun x64 =>
  Ld (.i .i64) h60 ⟨a25, 0, none⟩ fun x65 =>
  F41 1 r42 (fun r66 h67 =>
  (hcell h67 ⟨a25, 0, none⟩ = some (.int .i64 x65)) ∧
  (hcell h67 ⟨a23, 0, none⟩ = some (.int .i64 x64)) ∧
  (hcell h67 ((a62.add 0).add 0) = some (.pointer x63)) ∧
  (hcell h67 ⟨a1, 0, none⟩ = some (.pointer x61)) ∧
  F82 x63 x64 x65 r66 (fun r68 h69 =>
  Ld .p h69 ⟨a1, 0, none⟩ fun x70 =>
  NilP x70 fun a71 =>
  Ld (.i .i64) h69 ((a71.add 4).add 0) fun x72 =>
  NilP x70 fun a73 =>
  St h69 ((a73.add 4).add 0) (.int .i64 (IntKind.wrap .i64 (x72 + 1))) fun h74 =>
  Nw h74 #[(.func (.func 190) #[] #[(.pointer (some ⟨a1, 0, none⟩)), (.pointer (some ⟨a23, 0, none⟩)), (.pointer (some ⟨a25, 0, none⟩))])] 1 fun a75 h76 =>
  App Try.prog ⟨none, 1, 1, 8⟩ h76 u ⟨(some a75), 1, 1⟩ fun s77 h78 =>
  DONE r42 s77 h78) h67) h60) h44)) h34)
  (FOUND r32 h34)) h := by
  have p1 : ∀ h' : H, h'[a1]? = some (.cells #[.pointer (some ⟨bx, 0, none⟩)] 167) → hcell h' ⟨a1, 0, none⟩ = some (.pointer (some ⟨bx, 0, none⟩)) := fun h' e => by rw [hcell_blk e]; rfl
  refine Ld_p (p1 h c1) (Ld_i (x := (f : Int)) (by rw [hcell_blk c23]; rfl) (Ld_i (x := (i : Int)) (by rw [hcell_blk c25]; rfl) (P189 w hf hi fun h1 k1 => ?_)))
  have w1 := w.kept k1
  cases hl : lead n (wat s.1 f i) with
  | some m =>
    obtain ⟨_, hp⟩ := lead_some hl
    simp only [Option.isSome_some, Bool.not_true, Br_false]
    rw [hp]
    exact qf m h1 hl k1
  | none =>
    simp only [Option.isSome_none, Bool.not_false, Br_true, NilP, add_mk, Nat.add_zero, Nat.zero_add]
    have c1' := k1.blk c1
    refine Ld_p (p1 h1 c1') (Ld_p w1.p (Ld_p (p1 h1 c1') (Ld_i w1.a ?_)))
    refine X76t w1.pw (fun h2 hc u2 m2 => ?_) fun h2 hc hlt hz u2 m2 g2 => ?_
    · simp only [show ((5 : Int) != 0) = true by decide, Br_true]
      exact qe h2 hl (by unfold growS; rw [if_pos hc]) (k1.kl.trans (u2.kl (by simp))) (w1.pool u2 m2 w1.pw.gf)
    · have w2 := w1.pool u2 m2 g2
      have k2 : KL h (L3b bf pf bx) h2 := k1.kl.trans (u2.kl (by simp))
      simp only [bne_self_eq_false, Br_false]
      refine Ld_p (p1 h2 (k2.blk c1 d1)) (Ld_p w2.m (M87 w2.pw.mw (fun j h3 hj hjn u3 m3 => ?_) fun hh => absurd ⟨by omega, by omega⟩ hh))
      obtain rfl : j = fst0 s.2.1 n := by omega
      have w3 := w2.mem u3 m3
      have k3 := k2.trans (u3.kl (L := L3b bf pf bx) (by simp))
      refine Ld_p (p1 h3 (k3.blk c1 d1)) (Ld_p w3.m (Ld_i (x := (f : Int)) (by rw [hcell_blk (k3.blk c23 d23)]; rfl) (Ld_i (x := (i : Int)) (by rw [hcell_blk (k3.blk c25 d25)]; rfl) (C41 fun h4 k4 => ?_))))
      have k34 := k3.trans (k4.kl (L := L3b bf pf bx))
      have w4 := w3.kept k4
      refine ⟨by rw [hcell_blk (k34.blk c25 d25)]; rfl, by rw [hcell_blk (k34.blk c23 d23)]; rfl, w4.m, p1 h4 (k34.blk c1 d1), ?_⟩
      refine M82 w4.pw.mw (encF_range _ _) fun h5 u5 m5 => ?_
      rw [setF_in hf hi] at m5
      have w5 := w4.mem u5 m5
      have k5 := k34.trans (u5.kl (L := L3b bf pf bx) (by simp))
      refine Ld_p (p1 h5 (k5.blk c1 d1)) ?_
      simp only [add_mk, Nat.add_zero, Nat.zero_add]
      refine Ld_i w5.c ?_
      rw [wrap_i64' _ (by simp only; omega) (by simp only; omega)]
      refine w5.St fun h6 u6 w6 => Nw_intro fun a75 h7 h75 k7 e7 => ?_
      have k6 := k5.trans (u6.kl (L := L3b bf pf bx) (by simp))
      exact qd _ _ h7 a75 hl (by unfold growS; rw [if_neg hc]) hlt (k6.trans k7.kl) (w6.kept k7) e7
end

theorem zero3' : zeroC Try.prog 3 = #[.int .i64 0] := by kernel_rfl
section
variable {h : H} {bm bf bp pf bx n root : Nat} {asid : Int} {s : PS}
theorem oneCell_clo (a b c : Nat) : (clo a b c).oneCell' = true := rfl
theorem enter1_0 {m l : Nat} {vpn frame prot : Int} (h : lead n (wat s.1 m (ix1 vpn)) = some l) : enter1 n asid m vpn frame prot s = (0, leafS l vpn frame prot s) := by unfold enter1; rw [h]
theorem enter1_1 {m l : Nat} {vpn frame prot : Int} {s1 : PS} (h : lead n (wat s.1 m (ix1 vpn)) = none) (g : growS n asid m (ix1 vpn) 2 s = some (l, s1)) : enter1 n asid m vpn frame prot s = (0, leafS l vpn frame prot s1) := by unfold enter1; rw [h]; simp only; rw [g]
theorem enter1_5 {m : Nat} {vpn frame prot : Int} (h : lead n (wat s.1 m (ix1 vpn)) = none) (g : growS n asid m (ix1 vpn) 2 s = none) : enter1 n asid m vpn frame prot s = (5, s) := by unfold enter1; rw [h]; simp only; rw [g]
theorem growS_nt {f i r : Nat} {lv : Int} {s1 : PS} (g : growS n asid f i lv s = some (r, s1)) : s1.2.2 = s.2.2 + 1 := by
  unfold growS at g
  split at g
  · cases g
  · simp only [Option.some.injEq, Prod.mk.injEq] at g
    rw [← g.2]
/-- Where Enter's loop stands. -/
def IE (h0 : H) (bm bf bp pf bx n root a1 : Nat) (asid vpn frame prot : Int) (s : PS) (c : Nat) (z : Int × Sl × Int × Unit) (h' : H) : Prop :=
  KL h0 (L3b bf pf bx) h' ∧ h'[a1]? = some (.cells #[.pointer (some ⟨bx, 0, none⟩)] 167) ∧ z.2.2.1 = (c : Int) ∧
  ((c = 2 ∧ z.1 = (root : Int) ∧ z.2.1 = ⟨none, 0, 0⟩ ∧ W1 h' bm bf bp pf bx n asid root s) ∨
   (c = 1 ∧ ∃ m : Nat, z.1 = (m : Int) ∧ lead n (wat s.1 root (ix2 vpn)) = some m ∧ z.2.1 = ⟨none, 0, 0⟩ ∧ W1 h' bm bf bp pf bx n asid root s) ∨
   (c = 1 ∧ ∃ (m : Nat) (s1 : PS), z.1 = (m : Int) ∧ m < n ∧ lead n (wat s.1 root (ix2 vpn)) = none ∧ growS n asid root (ix2 vpn) 1 s = some (m, s1) ∧ W1 h' bm bf bp pf bx n asid root s1 ∧
      ∃ ub cap b23 b25, z.2.1 = ⟨some ⟨ub, 0, none⟩, 1, cap⟩ ∧ hcell h' ⟨ub, 0, none⟩ = some (clo a1 b23 b25) ∧ (∃ vs : Array Value, h'[ub]? = some (.cells vs 1) ∧ vs.size = cap) ∧ 1 ≤ cap ∧ ub ∉ L3b bf pf bx ∧ ub ≠ a1 ∧
        IL h' b23 3 [(root : Int)] ∧ IL h' b25 3 [(ix2 vpn : Int)] ∧ b23 ∉ L3b bf pf bx ∧ b25 ∉ L3b bf pf bx ∧ h0.size ≤ ub) ∨
   (c = 0 ∧ ∃ (l : Nat) (s2 : PS), z.1 = (l : Int) ∧ l < n ∧ enterS n root asid vpn frame prot s = (0, leafS l vpn frame prot s2) ∧ W1 h' bm bf bp pf bx n asid root s2))
theorem P130 {vpn frame prot : Int} {Q : Int → H → Prop} (w : W1 h bm bf bp pf bx n asid root s) (hn : 0 < s.2.2) (hr : root < n) (hb : s.2.2 ≤ 800)
    (q : ∀ h' e s', enterS n root asid vpn frame prot s = (e, s') → KL h (L3b bf pf bx) h' → W1 h' bm bf bp pf bx n asid root s' → Q e h') : F130 (some ⟨bx, 0, none⟩) vpn frame prot Q h := by
  rw [F130_eq]
  unfold B130
  have lt := w.lt
  obtain ⟨l2, l1, l0⟩ := ix_lt vpn
  obtain ⟨x2, x1, x0⟩ := ix_eq vpn
  refine Nw_intro fun a1 h2 ha1 k2 e2 => ?_
  have w2 := w.kept k2
  have hs2 := k2.1
  have p1 : ∀ h' : H, h'[a1]? = some (.cells #[.pointer (some ⟨bx, 0, none⟩)] 167) → hcell h' ⟨a1, 0, none⟩ = some (.pointer (some ⟨bx, 0, none⟩)) := fun h' e => by rw [hcell_blk e]; rfl
  have bad : badE n vpn frame prot → Q 2 h2 := fun hb => q h2 2 s (by unfold enterS; rw [if_pos hb]) k2.kl w2
  refine JoinI (fun _ h' => h' = h2 ∧ ¬ badE n vpn frame prot) (fun J hJ => ?_) ?_
  · simp only [add_mk]
    refine Ld_p (p1 h2 e2) (P188 w2 ?_)
    rw [decide_eq_true (show s.2.2 > 0 from hn)]
    simp only [Bool.not_true, Br_false]
    refine Br_dec (fun hh => bad (.inl hh)) fun b1 => Br_dec (fun hh => bad (.inr (.inl hh))) fun b2 => Br_dec (fun hh => bad (.inr (.inr (.inl hh)))) fun b3 => Br_dec (fun hh => bad (.inr (.inr (.inr (.inl hh))))) fun b4 => Br_dec (fun hh => bad (.inr (.inr (.inr (.inr (.inl hh)))))) fun b5 => ?_
    refine Ld_p (p1 h2 e2) ?_
    simp only [NilP, add_mk, Nat.add_zero, Nat.zero_add]
    refine Ld_p w2.m (M93 w2.pw.mw (Br_dec (fun hh => bad (.inr (.inr (.inr (.inr (.inr hh)))))) fun b6 => hJ () h2 ⟨rfl, ?_⟩))
    rintro (x | x | x | x | x | x)
    · exact b1 x
    · exact b2 x
    · exact b3 x
    · exact b4 x
    · exact b5 x
    · exact b6 x
  rintro u h2' ⟨rfl, hgood⟩
  have eS : enterS n root asid vpn frame prot s = enterB n root asid vpn frame prot s (lead n (wat s.1 root (ix2 vpn))) := by
    unfold enterS; rw [if_neg hgood]
  simp only [add_mk]
  refine Ld_p (p1 h2' e2) ?_
  simp only [NilP, add_mk, Nat.add_zero, Nat.zero_add, LetI]
  refine Ld_i w2.r ?_
  refine Loop_intro (I := IE h bm bf bp pf bx n root a1 asid vpn frame prot s) (k := 2) (by
    exact ⟨k2.kl, e2, rfl, .inl ⟨rfl, rfl, rfl, w2⟩⟩) ?_
  rintro c ⟨zf, zu, zl, zt⟩ h3 ⟨K3, c1, hzl, hc⟩
  simp only at hzl hc
  subst hzl
  have hs3 := K3.1
  have ha1n : a1 ∉ L3b bf pf bx := by simp; omega
  have ha13 : a1 < h3.size := (Array.getElem?_eq_some_iff.1 c1).1
  rcases hc with ⟨rfl, hz, hu, w3⟩ | ⟨rfl, m, hz, hm, hu, w3⟩ | ⟨rfl, m, s1, hz, hmn, hno, hg, w3, ub, cap, b23, b25, hu, hcl, hub, hcap, hubn, huba, e23, e25, n23, n25, hublo⟩ | ⟨rfl, l, s2, hz, hln, hE, w3⟩
  · -- the root
    subst hz hu
    refine Br_dec (fun _ => C44 ?_) fun hh => absurd hh (by simp)
    rw [show ((2 : Nat) : Int) = 2 from rfl, x2]
    refine Nw_intro fun a23 h9 h23 k9 e9 => Nw_intro fun a25 h10 h25 k10 e10 => ?_
    rw [zero3'] at e9 e10
    have e9' : IL h10 a23 3 [0] := k10.blk e9
    have h23' := (Array.getElem?_eq_some_iff.1 e9).1
    have hk9 := k9.1
    simp only [add_mk]
    refine St_I e9' (by simp) fun h11 u11 e11 => ?_
    have e10' : IL h11 a25 3 [0] := u11.blk e10 (by omega)
    refine St_I e10' (by simp) fun h4 u12 c25 => ?_
    have c25 : IL h4 a25 3 [(ix2 vpn : Int)] := c25
    have k4 : Kept h3 h4 := u12.kept (u11.kept (k9.trans k10) (by omega)) (by omega)
    have c23 : IL h4 a23 3 [(root : Int)] := u12.blk e11 (by omega)
    have c14 := k4.blk c1
    have n23 : a23 ∉ L3b bf pf bx := by simp; omega
    have n25 : a25 ∉ L3b bf pf bx := by simp; omega
    refine lvl (lv := IntKind.wrap .i64 (3 - 2)) (u := ⟨none, 0, 0⟩) (w3.kept k4) hr l2 (by omega) c14 c23 c25 ha1n n23 n25 (fun m h5 hl k5 => ?_) (fun h5 hl hg k5 w5 => ?_) fun r s1 h5 a75 hl hg hrn k5 w5 e75 => ?_
    · exact ⟨1, by omega, K3.trans (k4.trans k5).kl, k5.blk c14, by rfl, .inr (.inl ⟨rfl, m, rfl, hl, rfl, (w3.kept k4).kept k5⟩)⟩
    · -- no frame
      rw [show IntKind.wrap .i64 ((3 : Int) - 2) = 1 by decide] at hg
      refine Loop_intro (σ := Int × Unit) (x := (0, ())) (fun c z h' => h' = h5 ∧ z.1 = 0) 0 ⟨rfl, rfl⟩ ?_
      rintro c ⟨z, u⟩ h' ⟨rfl, hz⟩
      simp only at hz
      subst hz
      refine Br_dec (fun hh => absurd hh (by simp)) fun _ => ?_
      exact q h' 5 s (by rw [eS, hl]; show enterA _ _ _ _ _ _ _ _ = _; rw [hg]; rfl) ((K3.trans k4.kl).trans k5) w5
    · rw [show IntKind.wrap .i64 ((3 : Int) - 2) = 1 by decide] at hg
      refine App_first (oneCell_clo _ _ _) e75 fun b cap h6 k6 hb hcb hv hc1 => ?_
      have k36 : KL h3 (L3b bf pf bx) h6 := (k4.kl.trans k5).trans k6.kl
      have hk36 := k36.1
      have k56 := k5.trans (k6.kl (L := L3b bf pf bx))
      have hk5 := k5.1
      have hk4 := k4.1
      exact ⟨1, by omega, K3.trans k36, k36.blk c1 ha1n, by rfl, .inr (.inr (.inl ⟨rfl, r, s1, rfl, hrn, hl, hg, w5.kept k6, b, cap, a23, a25, rfl, hcb, hv, hc1, by simp; omega, by omega,
        k56.blk c23 n23, k56.blk c25 n25, n23, n25, by omega⟩))⟩
  · -- the table in the middle was there
    subst hz hu
    refine Br_dec (fun _ => C44 ?_) fun hh => absurd hh (by simp)
    rw [show ((1 : Nat) : Int) = 1 from rfl, x1]
    refine Nw_intro fun a23 h9 h23 k9 e9 => Nw_intro fun a25 h10 h25 k10 e10 => ?_
    rw [zero3'] at e9 e10
    have e9' : IL h10 a23 3 [0] := k10.blk e9
    have h23' := (Array.getElem?_eq_some_iff.1 e9).1
    have hk9 := k9.1
    simp only [add_mk]
    refine St_I e9' (by simp) fun h11 u11 e11 => ?_
    have e10' : IL h11 a25 3 [0] := u11.blk e10 (by omega)
    refine St_I e10' (by simp) fun h4 u12 c25 => ?_
    have c25 : IL h4 a25 3 [(ix1 vpn : Int)] := c25
    have k4 : Kept h3 h4 := u12.kept (u11.kept (k9.trans k10) (by omega)) (by omega)
    have c23 : IL h4 a23 3 [(m : Int)] := u12.blk e11 (by omega)
    have c14 := k4.blk c1
    have n23 : a23 ∉ L3b bf pf bx := by simp; omega
    have n25 : a25 ∉ L3b bf pf bx := by simp; omega
    refine lvl (lv := IntKind.wrap .i64 (3 - 1)) (u := ⟨none, 0, 0⟩) (w3.kept k4) (lead_lt hm) l1 (by omega) c14 c23 c25 ha1n n23 n25 (fun l h5 hl k5 => ?_) (fun h5 hl hg k5 w5 => ?_) fun r s1 h5 a75 hl hg hrn k5 w5 e75 => ?_
    · exact ⟨0, by omega, K3.trans (k4.trans k5).kl, k5.blk c14, by rfl, .inr (.inr (.inr ⟨rfl, l, s, rfl, lead_lt hl, by rw [eS, hm]; exact enter1_0 hl, (w3.kept k4).kept k5⟩))⟩
    · rw [show IntKind.wrap .i64 ((3 : Int) - 1) = 2 by decide] at hg
      refine Loop_intro (σ := Int × Unit) (x := (0, ())) (fun c z h' => h' = h5 ∧ z.1 = 0) 0 ⟨rfl, rfl⟩ ?_
      rintro c ⟨z, u⟩ h' ⟨rfl, hz⟩
      simp only at hz
      subst hz
      refine Br_dec (fun hh => absurd hh (by simp)) fun _ => ?_
      exact q h' 5 s (by rw [eS, hm]; exact enter1_5 hl hg) ((K3.trans k4.kl).trans k5) w5
    · rw [show IntKind.wrap .i64 ((3 : Int) - 1) = 2 by decide] at hg
      refine App_first (oneCell_clo _ _ _) e75 fun b cap h6 k6 hb hcb hv hc1 => ?_
      have k36 : KL h3 (L3b bf pf bx) h6 := (k4.kl.trans k5).trans k6.kl
      exact ⟨0, by omega, K3.trans k36, k36.blk c1 ha1n, by rfl, .inr (.inr (.inr ⟨rfl, r, s1, rfl, hrn, by rw [eS, hm]; exact enter1_1 hl hg, w5.kept k6⟩))⟩
  · -- the table in the middle is new
    subst hz hu
    have hnt := growS_nt hg
    refine Br_dec (fun _ => C44 ?_) fun hh => absurd hh (by simp)
    rw [show ((1 : Nat) : Int) = 1 from rfl, x1]
    refine Nw_intro fun a23 h9 h23 k9 e9 => Nw_intro fun a25 h10 h25 k10 e10 => ?_
    rw [zero3'] at e9 e10
    have e9' : IL h10 a23 3 [0] := k10.blk e9
    have h23' := (Array.getElem?_eq_some_iff.1 e9).1
    have hk9 := k9.1
    simp only [add_mk]
    refine St_I e9' (by simp) fun h11 u11 e11 => ?_
    have e10' : IL h11 a25 3 [0] := u11.blk e10 (by omega)
    refine St_I e10' (by simp) fun h4 u12 c25 => ?_
    have c25 : IL h4 a25 3 [(ix1 vpn : Int)] := c25
    have k4 : Kept h3 h4 := u12.kept (u11.kept (k9.trans k10) (by omega)) (by omega)
    have c23 : IL h4 a23 3 [(m : Int)] := u12.blk e11 (by omega)
    have c14 := k4.blk c1
    have m23 : a23 ∉ L3b bf pf bx := by simp; omega
    have m25 : a25 ∉ L3b bf pf bx := by simp; omega
    have eS1 : ∀ e s', enter1 n asid m vpn frame prot s1 = (e, s') → enterS n root asid vpn frame prot s = if e = 0 then (0, s') else (e, giveS n root (ix2 vpn) s1) := by
      intro e s' he
      rw [eS, hno]
      show enterA _ _ _ _ _ _ _ _ = _
      rw [hg]
      rw [show enterA n root asid vpn frame prot s (some (m, s1)) = if (enter1 n asid m vpn frame prot s1).1 = 0 then enter1 n asid m vpn frame prot s1 else ((enter1 n asid m vpn frame prot s1).1, giveS n root (ix2 vpn) s1) from rfl, he]
      simp only
      split
      · rename_i h0; rw [h0]
      · rfl
    refine lvl (lv := IntKind.wrap .i64 (3 - 1)) (u := ⟨some ⟨ub, 0, none⟩, 1, cap⟩) (w3.kept k4) hmn l1 (by omega) c14 c23 c25 ha1n m23 m25 (fun l h5 hl k5 => ?_) (fun h5 hl hg2 k5 w5 => ?_) fun r s2 h5 a75 hl hg2 hrn k5 w5 e75 => ?_
    · exact ⟨0, by omega, K3.trans (k4.trans k5).kl, k5.blk c14, by rfl, .inr (.inr (.inr ⟨rfl, l, s1, rfl, lead_lt hl, by rw [eS1 0 _ (enter1_0 hl)]; rfl, (w3.kept k4).kept k5⟩))⟩
    · -- no frame: the table in the middle goes
      rw [show IntKind.wrap .i64 ((3 : Int) - 1) = 2 by decide] at hg2
      have k35 : KL h3 (L3b bf pf bx) h5 := k4.kl.trans k5
      obtain ⟨vs, hvb, hvs⟩ := hub
      have hvb5 := k35.blk hvb hubn
      have hc5 : hcell h5 ⟨ub, 0, none⟩ = some (clo a1 b23 b25) := by rw [hcell_blk hvb5, ← hcl, hcell_blk hvb]
      refine Loop_intro (σ := Int × Unit) (x := (0, ())) (fun c z h' => (c = 1 ∧ h' = h5 ∧ z.1 = 0) ∨ (c = 0 ∧ z.1 = 1 ∧ KL h5 (L3b bf pf bx) h' ∧ W1 h' bm bf bp pf bx n asid root (giveS n root (ix2 vpn) s1))) 1 (.inl ⟨rfl, rfl, rfl⟩) ?_
      rintro c ⟨z, u⟩ h' (⟨rfl, rfl, hz⟩ | ⟨rfl, hz, k6, w6⟩)
      · simp only at hz
        subst hz
        refine Br_dec (fun _ => ?_) fun hh => absurd hh (by simp)
        refine ⟨⟨by simp, by simp⟩, ?_⟩
        simp only [add_mk]
        refine ⟨clo a1 b23 b25, hc5, call_clo ?_⟩
        rw [F190_eq]
        refine Ld_p (p1 h' (k35.blk c1 ha1n)) (Ld_i (x := (root : Int)) (by simp only [add_mk]; rw [hcell_blk (k35.blk e23 n23)]; rfl) (Ld_i (x := (ix2 vpn : Int)) (by simp only [add_mk]; rw [hcell_blk (k35.blk e25 n25)]; rfl) ?_))
        exact P191 w5 hr l2 (by omega) fun h6 k6 w6 => ⟨0, by omega, .inr ⟨rfl, by rfl, k6, w6⟩⟩
      · simp only at hz
        subst hz
        refine Br_dec (fun hh => absurd hh (by simp)) fun _ => ?_
        exact q h' 5 _ (by rw [eS1 5 _ (enter1_5 hl hg2)]; rfl) ((K3.trans k35).trans k6) w6
    · rw [show IntKind.wrap .i64 ((3 : Int) - 1) = 2 by decide] at hg2
      have k35 : KL h3 (L3b bf pf bx) h5 := k4.kl.trans k5
      obtain ⟨vs, hvb, hvs⟩ := hub
      have hvb5 := k35.blk hvb hubn
      have hc5 : hcell h5 ⟨ub, 0, none⟩ = some (clo a1 b23 b25) := by rw [hcell_blk hvb5, ← hcl, hcell_blk hvb]
      refine App_second (oneCell_clo _ _ _) (oneCell_clo _ _ _) e75 hc5 ⟨vs, hvb5, hvs⟩ hcap fun s' h6 k6 => ?_
      have hw5 := w5.lt
      have w6 : W1 h6 bm bf bp pf bx n asid root s2 := by
        have hub3 : ub ≠ bf ∧ ub ≠ pf ∧ ub ≠ bx := by simp at hubn; omega
        have hubm : ub ≠ bm ∧ ub ≠ bp := by omega
        exact ⟨⟨w5.pw.mw.kl (L := [ub]) (k6.kl (by simp)) (by simp; omega) (by simp; omega), w5.pw.pm.kbo k6 (by omega) (by omega), w5.pw.gf, w5.pw.e1, w5.pw.e2, w5.pw.e3⟩, ⟨k6.blk w5.xm.cells (by omega)⟩, w5.x1, w5.x2, w5.x3, w5.x4⟩
      have k06 : KL h (L3b bf pf bx) h6 := by
        have k05 := K3.trans k35
        refine ⟨Nat.le_trans k05.1 k6.1, fun t ht hn => ?_⟩
        rw [k6.2 t (Nat.lt_of_lt_of_le ht k05.1) (by omega), k05.2 t ht hn]
      exact ⟨0, by omega, k06, k6.blk (k35.blk c1 ha1n) (Ne.symm huba), by rfl, .inr (.inr (.inr ⟨rfl, r, s2, rfl, hrn, by rw [eS1 0 _ (enter1_1 hl hg2)]; rfl, w6⟩))⟩
  · -- the leaf
    subst hz
    refine Br_dec (fun hh => absurd hh (by simp)) fun _ => ?_
    refine Ld_p (p1 h3 c1) ?_
    simp only [add_mk, Nat.add_zero, Nat.zero_add]
    refine Ld_p w3.m ⟨((ix0 vpn : Nat), ()), C44 (by rw [x0]; exact ⟨rfl, rfl⟩), C58 fun h4 k4 => ⟨(w3.kept k4).m, p1 h4 (k4.blk c1), C41 fun h5 k5 => ⟨(w3.kept (k4.trans k5)).m, p1 h5 ((k4.trans k5).blk c1), ?_⟩⟩⟩
    have w5 := w3.kept (k4.trans k5)
    refine M82 w5.pw.mw (encF_range _ _) fun h6 u6 m6 => ?_
    rw [setF_in hln l0] at m6
    have w6 := w5.mem u6 m6
    exact q h6 0 _ hE ((K3.trans (k4.trans k5).kl).trans (u6.kl (by simp))) w6
end

/-- What a frame is: 0 free; 1 the root of a space; 2 a table in the middle; 3 a lowest one. -/
abbrev Role := Nat × Nat × Nat × Nat
structure Inv0 (n : Nat) (L : Nat → Bool) (rt : Nat → Nat) (ro : Nat → Role) (ws ps : List Int) : Prop where
  ok : OkW n ws
  gf : GF ps n
  len : ps.length = 5 * n
  fr : ∀ j, j < n → (ro j).1 = 0 → z5 ps j = true
  tb : ∀ j, j < n → (ro j).1 ≠ 0 → ps.getD (5 * j) 0 = 1 ∧ ps.getD (5 * j + 3) 0 = 0 ∧ ps.getD (5 * j + 4) 0 = 0
  out : ∀ j, n ≤ j → (ro j).1 = 0
  rt1 : ∀ s, L s = true → ro (rt s) = (1, s, 0, 0)
  rt2 : ∀ j s i k, ro j = (1, s, i, k) → L s = true ∧ rt s = j ∧ i = 0 ∧ k = 0
  md1 : ∀ s i j, L s = true → i < 512 → lead n (wat ws (rt s) i) = some j → ro j = (2, s, i, 0)
  md2 : ∀ j s i k, ro j = (2, s, i, k) → L s = true ∧ i < 512 ∧ k = 0 ∧ lead n (wat ws (rt s) i) = some j
  ls1 : ∀ m s i k j, ro m = (2, s, i, 0) → k < 512 → lead n (wat ws m k) = some j → ro j = (3, s, i, k)
  ls2 : ∀ j s i k, ro j = (3, s, i, k) → k < 512 ∧ ∃ m, ro m = (2, s, i, 0) ∧ lead n (wat ws m k) = some j
  z2 : ∀ s i, L s = true → i < 512 → lead n (wat ws (rt s) i) = none → wat ws (rt s) i = 0
  z1 : ∀ m s i k, ro m = (2, s, i, 0) → k < 512 → lead n (wat ws m k) = none → wat ws m k = 0
  lf : ∀ l s i k t, ro l = (3, s, i, k) → t < 512 → wat ws l t ≠ 0 → kindM (lo8 (flg (wat ws l t))) = 2
  kd : ∀ j, (ro j).1 ≤ 3
/-- No table is bare but for some. -/
def NB (ro : Nat → Role) (ws : List Int) (ex : Nat → Prop) : Prop := ∀ m, ((ro m).1 = 2 ∨ (ro m).1 = 3) → ¬ ex m → ∃ t, t < 512 ∧ wat ws m t ≠ 0
def cntR (ro : Nat → Role) (s : Nat) : Nat → Int
  | 0 => 0
  | k + 1 => cntR ro s k + if (ro k).1 ≠ 0 ∧ (ro k).2.1 = s then 1 else 0
theorem cntR_range (ro : Nat → Role) (s k : Nat) : 0 ≤ cntR ro s k ∧ cntR ro s k ≤ k := by
  induction k with
  | zero => simp [cntR]
  | succ k ih =>
    simp only [cntR]
    by_cases h : (ro k).1 ≠ 0 ∧ (ro k).2.1 = s
    · rw [if_pos h]; omega
    · rw [if_neg h]; omega
def setR (ro : Nat → Role) (r : Nat) (x : Role) : Nat → Role := fun j => if j = r then x else ro j
theorem cntR_set (ro : Nat → Role) (s r : Nat) (x : Role) : ∀ k, cntR (setR ro r x) s k = cntR ro s k + (if r < k then (if x.1 ≠ 0 ∧ x.2.1 = s then 1 else 0) - (if (ro r).1 ≠ 0 ∧ (ro r).2.1 = s then 1 else 0) else 0) := by
  intro k
  induction k with
  | zero => simp [cntR]
  | succ k ih =>
    simp only [cntR]
    rw [ih]
    unfold setR
    by_cases e : k = r
    · subst e
      rw [if_pos rfl, if_neg (show ¬ k < k from Nat.lt_irrefl k), if_pos (show k < k + 1 from Nat.lt_succ_self k)]
      generalize (if x.1 ≠ 0 ∧ x.2.1 = s then (1 : Int) else 0) = A
      generalize (if (ro k).1 ≠ 0 ∧ (ro k).2.1 = s then (1 : Int) else 0) = B
      omega
    · rw [if_neg e]
      generalize (if x.1 ≠ 0 ∧ x.2.1 = s then (1 : Int) else 0) = A
      generalize (if (ro k).1 ≠ 0 ∧ (ro k).2.1 = s then (1 : Int) else 0) = B
      by_cases h : r < k
      · rw [if_pos h, if_pos (show r < k + 1 by omega)]; omega
      · rw [if_neg h, if_neg (show ¬ r < k + 1 by omega)]; omega
/-- The entry of a page, or 0. -/
def pgW (n : Nat) (ws : List Int) (r a b c : Nat) : Int :=
  match lead n (wat ws r a) with
  | none => 0
  | some m => match lead n (wat ws m b) with
    | none => 0
    | some l => wat ws l c
theorem lead0 (n : Nat) : lead n 0 = none := by
  unfold lead
  rw [if_neg]
  intro h
  exact absurd h.1 (by decide)
theorem lead_tab {n r : Nat} (hr : r < n) (hn : n ≤ 256) : lead n (encF 1 (r : Int)) = some r := by
  have e : encF 1 (r : Int) = ((r * 1024 + 1 : Nat) : Int) := by unfold encF; omega
  have f : flg (encF 1 (r : Int)) = 1 := by rw [e]; unfold flg; omega
  have p : ppn (encF 1 (r : Int)) = (r : Int) := by rw [e]; unfold ppn; omega
  unfold lead
  rw [f, p, if_pos ⟨by decide, by omega⟩]; rfl
theorem encT_ne (r : Nat) : encF 1 (r : Int) ≠ 0 := by unfold encF; omega
section
variable {n : Nat} {L : Nat → Bool} {rt : Nat → Nat} {ro : Nat → Role} {ws ps : List Int}
theorem Inv0.lt (v : Inv0 n L rt ro ws ps) {j : Nat} (h : (ro j).1 ≠ 0) : j < n := by
  by_cases e : j < n
  · exact e
  · exact absurd (v.out j (by omega)) h
theorem Inv0.rlt (v : Inv0 n L rt ro ws ps) {s : Nat} (h : L s = true) : rt s < n := v.lt (by rw [v.rt1 s h]; simp)
/-- A page of a space as its lookup tells. -/
theorem Inv0.find (v : Inv0 n L rt ro ws ps) {s : Nat} (hs : L s = true) {vpn : Int} (hv : 0 ≤ vpn ∧ vpn < 134217728) :
    findS n ws (rt s) vpn = if pgW n ws (rt s) (ix2 vpn) (ix1 vpn) (ix0 vpn) = 0 then none else some (pgW n ws (rt s) (ix2 vpn) (ix1 vpn) (ix0 vpn)) := by
  obtain ⟨l2, l1, l0⟩ := ix_lt vpn
  have hr := v.rlt hs
  have pl : placeS n ws (rt s) vpn = (lead n (wat ws (rt s) (ix2 vpn))).bind fun m => (lead n (wat ws m (ix1 vpn))).map fun l => (l, ix0 vpn) := by
    unfold placeS; rw [if_pos (by omega)]; rfl
  unfold findS entS pgW
  rw [pl]
  cases hm : lead n (wat ws (rt s) (ix2 vpn)) with
  | none => simp
  | some m =>
    have rm := v.md1 _ _ _ hs l2 hm
    simp only [Option.bind_some]
    cases hl : lead n (wat ws m (ix1 vpn)) with
    | none => simp
    | some l =>
      have rl := v.ls1 _ _ _ _ _ rm l1 hl
      simp only [Option.map_some, Option.bind_some]
      by_cases hz : wat ws l (ix0 vpn) = 0
      · rw [if_pos hz, if_neg]
        rw [hz]; decide
      · rw [if_neg hz, if_pos (v.lf l _ _ _ _ rl l0 hz)]
/-- A table attached. -/
theorem Inv0.attach (v : Inv0 n L rt ro ws ps) {r p i s : Nat} {new : Role} {asid lv : Int} (hs : L s = true) (hr : r < n) (hfr : (ro r).1 = 0) (hi : i < 512) (hl : lead n (wat ws p i) = none)
    (hpar : (p = rt s ∧ new = (2, s, i, 0)) ∨ ∃ i2, ro p = (2, s, i2, 0) ∧ new = (3, s, i2, i)) :
    Inv0 n L rt (setR ro r new) ((zeroW ws r).set (p * 512 + i) (encF 1 r)) (set5 ps r 1 asid lv 0 0) ∧
    (∀ j t, t < 512 → wat ((zeroW ws r).set (p * 512 + i) (encF 1 r)) j t = if j = p ∧ t = i then encF 1 r else if j = r then 0 else wat ws j t) ∧
    (∀ s' a b c, L s' = true → a < 512 → b < 512 → c < 512 → pgW n ((zeroW ws r).set (p * 512 + i) (encF 1 r)) (rt s') a b c = pgW n ws (rt s') a b c) := by
  have hpk : (ro p).1 = 1 ∨ (ro p).1 = 2 := by
    rcases hpar with ⟨rfl, _⟩ | ⟨i2, h, _⟩
    · left; rw [v.rt1 s hs]
    · right; rw [h]
  have hp : p < n := v.lt (by omega)
  have hpr : p ≠ r := by intro e; subst e; omega
  have hn := v.ok.le
  have hnew : new.1 ≠ 0 ∧ (new.1 = 2 ∨ new.1 = 3) := by
    rcases hpar with ⟨_, rfl⟩ | ⟨i2, _, rfl⟩ <;> simp
  have o1 := v.ok.zero hr
  have er := encF_range 1 (r : Int)
  have W : ∀ j t, t < 512 → wat ((zeroW ws r).set (p * 512 + i) (encF 1 r)) j t = if j = p ∧ t = i then encF 1 r else if j = r then 0 else wat ws j t := by
    intro j t ht
    rw [wat_set o1 hp hi ht]
    by_cases e : p = j ∧ i = t
    · rw [if_pos e, if_pos ⟨e.1.symm, e.2.symm⟩]
    · rw [if_neg e, if_neg (fun x => e ⟨x.1.symm, x.2.symm⟩), wat_zero v.ok hr ht]
      by_cases e2 : r = j
      · rw [if_pos e2, if_pos e2.symm]
      · rw [if_neg e2, if_neg (fun x => e2 x.symm)]
  have hb5 : 5 * r + 5 ≤ ps.length := by rw [v.len]; omega
  have LT := lead_tab hr hn
  have rtr : ∀ s', L s' = true → rt s' ≠ r := fun s' h e => by have := v.rt1 s' h; rw [e] at this; rw [this] at hfr; simp at hfr
  have S0 : setR ro r new r = new := by unfold setR; rw [if_pos rfl]
  have S1 : ∀ j, j ≠ r → setR ro r new j = ro j := fun j h => by unfold setR; rw [if_neg h]
  refine ⟨⟨o1.set _ er, v.gf.set5 v.len hr (by omega) (fun e => by omega), by rw [set5_len]; exact v.len, ?_, ?_, ?_, ?_, ?_, ?_, ?_, ?_, ?_, ?_, ?_, ?_, ?_⟩, W, ?_⟩
  · intro j hj h0
    by_cases e : j = r
    · subst e; rw [S0] at h0; exact absurd h0 hnew.1
    · rw [S1 j e] at h0
      rw [set5_z5 _ _ _ _ _ _ _ _ hb5, if_neg e]; exact v.fr j hj h0
  · intro j hj h0
    have g0 : ∀ t, t < 5 → (set5 ps r 1 asid lv 0 0).getD (5 * j + t) 0 = if j = r then [1, asid, lv, 0, 0].getD t 0 else ps.getD (5 * j + t) 0 := fun t ht => set5_get ps r j t 1 asid lv 0 0 hb5 ht
    have g00 := g0 0 (by omega)
    rw [Nat.add_zero] at g00
    rw [g00, g0 3 (by omega), g0 4 (by omega)]
    by_cases e : j = r
    · rw [if_pos e, if_pos e, if_pos e]; simp
    · rw [S1 j e] at h0
      rw [if_neg e, if_neg e, if_neg e]; exact v.tb j hj h0
  · intro j hj
    rw [S1 j (by omega)]; exact v.out j hj
  · intro s' h
    rw [S1 _ (rtr s' h)]; exact v.rt1 s' h
  · intro j s' i' k h
    by_cases e : j = r
    · subst e; rw [S0] at h; rw [h] at hnew; simp at hnew
    · rw [S1 j e] at h; exact v.rt2 j s' i' k h
  · intro s' i' j h hi' hl'
    rw [W _ _ hi'] at hl'
    by_cases e : rt s' = p ∧ i' = i
    · rw [if_pos e, LT] at hl'
      simp only [Option.some.injEq] at hl'
      subst hl'
      rw [S0]
      have h1 := v.rt1 s' h
      rcases hpar with ⟨hp', rfl⟩ | ⟨i2, h2, _⟩
      · rw [e.1, hp', v.rt1 s hs] at h1
        simp only [Prod.mk.injEq, and_true, true_and] at h1
        rw [h1, e.2]
      · rw [e.1, h2] at h1; simp at h1
    · rw [if_neg e, if_neg (rtr s' h)] at hl'
      have := v.md1 s' i' j h hi' hl'
      rw [S1 j (fun e => by subst e; rw [this] at hfr; simp at hfr)]; exact this
  · intro j s' i' k h
    by_cases e : j = r
    · subst e
      rw [S0] at h
      rcases hpar with ⟨hp', rfl⟩ | ⟨i2, h2, rfl⟩
      · simp only [Prod.mk.injEq, true_and] at h
        obtain ⟨rfl, rfl, rfl⟩ := h
        exact ⟨hs, hi, rfl, by rw [W _ _ hi, if_pos ⟨hp'.symm, rfl⟩, LT]⟩
      · simp at h
    · rw [S1 j e] at h
      obtain ⟨h1, h2, h3, h4⟩ := v.md2 j s' i' k h
      refine ⟨h1, h2, h3, ?_⟩
      rw [W _ _ h2, if_neg (fun x => by rw [x.1, x.2, hl] at h4; cases h4), if_neg (rtr s' h1)]; exact h4
  · intro m s' i' k j h hk hl'
    by_cases e : m = r
    · subst e
      rw [W _ _ hk, if_neg (fun x => hpr x.1.symm), if_pos rfl, lead0] at hl'
      cases hl'
    · rw [S1 m e] at h
      rw [W _ _ hk] at hl'
      by_cases e2 : m = p ∧ k = i
      · rw [if_pos e2, LT] at hl'
        simp only [Option.some.injEq] at hl'
        subst hl'
        rw [S0]
        rcases hpar with ⟨hp', rfl⟩ | ⟨i2, h2, rfl⟩
        · rw [e2.1, hp', v.rt1 s hs] at h; simp at h
        · rw [e2.1, h2] at h
          simp only [Prod.mk.injEq, true_and, and_true] at h
          rw [h.1, h.2, e2.2]
      · rw [if_neg e2, if_neg e] at hl'
        have := v.ls1 m s' i' k j h hk hl'
        rw [S1 j (fun e => by subst e; rw [this] at hfr; simp at hfr)]; exact this
  · intro j s' i' k h
    by_cases e : j = r
    · subst e
      rw [S0] at h
      rcases hpar with ⟨hp', rfl⟩ | ⟨i2, h2, rfl⟩
      · simp at h
      · simp only [Prod.mk.injEq, true_and] at h
        obtain ⟨rfl, rfl, rfl⟩ := h
        exact ⟨hi, p, by rw [S1 p hpr]; exact h2, by rw [W _ _ hi, if_pos ⟨rfl, rfl⟩, LT]⟩
    · rw [S1 j e] at h
      obtain ⟨h1, m, h2, h3⟩ := v.ls2 j s' i' k h
      have hmr : m ≠ r := fun e => by subst e; rw [h2] at hfr; simp at hfr
      refine ⟨h1, m, by rw [S1 m hmr]; exact h2, ?_⟩
      rw [W _ _ h1, if_neg (fun x => by rw [x.1, x.2, hl] at h3; cases h3), if_neg hmr]; exact h3
  · intro s' i' h hi' hl'
    rw [W _ _ hi'] at hl' ⊢
    by_cases e : rt s' = p ∧ i' = i
    · rw [if_pos e, LT] at hl'; cases hl'
    · rw [if_neg e, if_neg (rtr s' h)] at hl' ⊢
      exact v.z2 s' i' h hi' hl'
  · intro m s' i' k h hk hl'
    rw [W _ _ hk] at hl' ⊢
    by_cases e2 : m = p ∧ k = i
    · rw [if_pos e2, LT] at hl'; cases hl'
    · rw [if_neg e2] at hl' ⊢
      by_cases e : m = r
      · rw [if_pos e]
      · rw [if_neg e] at hl' ⊢
        rw [S1 m e] at h
        exact v.z1 m s' i' k h hk hl'
  · intro l s' i' k t h ht hne
    rw [W _ _ ht] at hne ⊢
    by_cases e2 : l = p ∧ t = i
    · have hlr : l ≠ r := fun x => hpr (e2.1.symm.trans x)
      rw [S1 l hlr, e2.1] at h
      rw [h] at hpk; simp at hpk
    · rw [if_neg e2] at hne ⊢
      by_cases e : l = r
      · rw [if_pos e] at hne; exact absurd rfl hne
      · rw [if_neg e] at hne ⊢
        rw [S1 l e] at h
        exact v.lf l s' i' k t h ht hne
  · intro j
    by_cases e : j = r
    · subst e; rw [S0]; rcases hnew.2 with h | h <;> omega
    · rw [S1 j e]; exact v.kd j
  · intro s' a b c h ha hb hc
    unfold pgW
    rw [W _ _ ha]
    by_cases e : rt s' = p ∧ a = i
    · rw [if_pos e, LT]
      rw [e.1, e.2, hl]
      simp only
      rw [W _ _ hb, if_neg (fun x => hpr x.1.symm), if_pos rfl, lead0]
    · rw [if_neg e, if_neg (rtr s' h)]
      cases hm : lead n (wat ws (rt s') a) with
      | none => rfl
      | some m =>
        have rm := v.md1 _ _ _ h ha hm
        have hmr : m ≠ r := fun e => by subst e; rw [rm] at hfr; simp at hfr
        simp only
        rw [W _ _ hb]
        by_cases e2 : m = p ∧ b = i
        · rw [if_pos e2, LT]
          rw [e2.1, e2.2, hl]
          simp only
          rw [W _ _ hc, if_neg (fun x => hpr x.1.symm), if_pos rfl]
        · rw [if_neg e2, if_neg hmr]
          cases hl2 : lead n (wat ws m b) with
          | none => rfl
          | some l =>
            have rl := v.ls1 _ _ _ _ _ rm hb hl2
            have hlr : l ≠ r := fun e => by subst e; rw [rl] at hfr; simp at hfr
            simp only
            rw [W _ _ hc, if_neg (fun x => by rw [x.1] at rl; rw [rl] at hpk; simp at hpk), if_neg hlr]
/-- A table detached. -/
theorem Inv0.detach (v : Inv0 n L rt ro ws ps) {r p i s : Nat} (hs : L s = true) (hi : i < 512) (hl : lead n (wat ws p i) = some r)
    (hpar : (p = rt s ∧ ∀ t, t < 512 → wat ws r t = 0) ∨ ((∃ i2, ro p = (2, s, i2, 0)) ∧ ∀ t, t < 512 → wat ws r t = 0) ) :
    Inv0 n L rt (setR ro r (0, 0, 0, 0)) (ws.set (p * 512 + i) 0) (set5 ps r 0 0 0 0 0) ∧ (ro r).1 ≠ 0 ∧ (ro r).2.1 = s ∧ r < n ∧ p ≠ r ∧
    (∀ j t, t < 512 → wat (ws.set (p * 512 + i) 0) j t = if j = p ∧ t = i then 0 else wat ws j t) ∧
    (∀ s' a b c, L s' = true → a < 512 → b < 512 → c < 512 → pgW n (ws.set (p * 512 + i) 0) (rt s') a b c = pgW n ws (rt s') a b c) := by
  have hbare : ∀ t, t < 512 → wat ws r t = 0 := by rcases hpar with h | h <;> exact h.2
  have hpk : (ro p).1 = 1 ∨ (ro p).1 = 2 := by
    rcases hpar with ⟨rfl, _⟩ | ⟨⟨i2, h⟩, _⟩
    · left; rw [v.rt1 s hs]
    · right; rw [h]
  have hrr : ((p = rt s ∧ ro r = (2, s, i, 0)) ∨ ∃ i2, ro p = (2, s, i2, 0) ∧ ro r = (3, s, i2, i)) := by
    rcases hpar with ⟨rfl, _⟩ | ⟨⟨i2, h⟩, _⟩
    · exact .inl ⟨rfl, v.md1 s i r hs hi hl⟩
    · exact .inr ⟨i2, h, v.ls1 p s i2 i r h hi hl⟩
  have hrk : ((ro r).1 = 2 ∨ (ro r).1 = 3) ∧ (ro r).2.1 = s := by
    rcases hrr with ⟨_, h⟩ | ⟨i2, _, h⟩ <;> rw [h] <;> simp
  have hp : p < n := v.lt (by omega)
  have hr : r < n := v.lt (by omega)
  have hpr : p ≠ r := by
    intro e
    rcases hrr with ⟨h1, h2⟩ | ⟨i2, h1, h2⟩
    · rw [← e, h1, v.rt1 s hs] at h2; simp at h2
    · rw [← e, h1] at h2; simp at h2
  have W : ∀ j t, t < 512 → wat (ws.set (p * 512 + i) 0) j t = if j = p ∧ t = i then 0 else wat ws j t := by
    intro j t ht
    rw [wat_set v.ok hp hi ht]
    by_cases e : p = j ∧ i = t
    · rw [if_pos e, if_pos ⟨e.1.symm, e.2.symm⟩]
    · rw [if_neg e, if_neg (fun x => e ⟨x.1.symm, x.2.symm⟩)]
  have hb5 : 5 * r + 5 ≤ ps.length := by rw [v.len]; omega
  have rtr : ∀ s', L s' = true → rt s' ≠ r := fun s' h e => by have := v.rt1 s' h; rw [e] at this; rw [this] at hrk; simp at hrk
  have S0 : setR ro r (0, 0, 0, 0) r = (0, 0, 0, 0) := by unfold setR; rw [if_pos rfl]
  have S1 : ∀ j, j ≠ r → setR ro r (0, 0, 0, 0) j = ro j := fun j h => by unfold setR; rw [if_neg h]
  refine ⟨⟨v.ok.set _ (by omega), v.gf.set5 v.len hr (by omega) (fun _ => ⟨rfl, rfl⟩), by rw [set5_len]; exact v.len, ?_, ?_, ?_, ?_, ?_, ?_, ?_, ?_, ?_, ?_, ?_, ?_, ?_⟩, by omega, hrk.2, hr, hpr, W, ?_⟩
  · intro j hj h0
    rw [set5_z5 _ _ _ _ _ _ _ _ hb5]
    by_cases e : j = r
    · rw [if_pos e]; rfl
    · rw [S1 j e] at h0
      rw [if_neg e]; exact v.fr j hj h0
  · intro j hj h0
    by_cases e : j = r
    · subst e; rw [S0] at h0; exact absurd rfl h0
    · rw [S1 j e] at h0
      have g0 : ∀ t, t < 5 → (set5 ps r 0 0 0 0 0).getD (5 * j + t) 0 = ps.getD (5 * j + t) 0 := fun t ht => by rw [set5_get ps r j t 0 0 0 0 0 hb5 ht, if_neg e]
      have g00 := g0 0 (by omega)
      rw [Nat.add_zero] at g00
      rw [g00, g0 3 (by omega), g0 4 (by omega)]; exact v.tb j hj h0
  · intro j hj
    rw [S1 j (by omega)]; exact v.out j hj
  · intro s' h
    rw [S1 _ (rtr s' h)]; exact v.rt1 s' h
  · intro j s' i' k h
    by_cases e : j = r
    · subst e; rw [S0] at h; simp at h
    · rw [S1 j e] at h; exact v.rt2 j s' i' k h
  · intro s' i' j h hi' hl'
    rw [W _ _ hi'] at hl'
    by_cases e : rt s' = p ∧ i' = i
    · rw [if_pos e, lead0] at hl'; cases hl'
    · rw [if_neg e] at hl'
      have h3 := v.md1 s' i' j h hi' hl'
      have hjr : j ≠ r := by
        intro ej
        subst ej
        rcases hrr with ⟨h1, h2⟩ | ⟨i2, h1, h2⟩
        · rw [h2] at h3
          simp only [Prod.mk.injEq, true_and, and_true] at h3
          exact e ⟨by rw [← h3.1, h1], h3.2.symm⟩
        · rw [h2] at h3; simp at h3
      rw [S1 j hjr]; exact h3
  · intro j s' i' k h
    by_cases e : j = r
    · subst e; rw [S0] at h; simp at h
    · rw [S1 j e] at h
      obtain ⟨h1, h2, h3, h4⟩ := v.md2 j s' i' k h
      refine ⟨h1, h2, h3, ?_⟩
      rw [W _ _ h2, if_neg (fun x => by rw [x.1, x.2, hl] at h4; simp only [Option.some.injEq] at h4; exact e h4.symm)]; exact h4
  · intro m s' i' k j h hk hl'
    by_cases e : m = r
    · subst e; rw [S0] at h; simp at h
    · rw [S1 m e] at h
      rw [W _ _ hk] at hl'
      by_cases e2 : m = p ∧ k = i
      · rw [if_pos e2, lead0] at hl'; cases hl'
      · rw [if_neg e2] at hl'
        have h3 := v.ls1 m s' i' k j h hk hl'
        have hjr : j ≠ r := by
          intro ej
          subst ej
          rcases hrr with ⟨h1, h2⟩ | ⟨i2, h1, h2⟩
          · rw [h2] at h3; simp at h3
          · rw [h2] at h3
            simp only [Prod.mk.injEq, true_and] at h3
            obtain ⟨rfl, rfl, rfl⟩ := h3
            -- the same table in the middle
            obtain ⟨_, _, _, q1⟩ := v.md2 p _ _ _ h1
            obtain ⟨_, _, _, q2⟩ := v.md2 m _ _ _ h
            rw [q1] at q2
            simp only [Option.some.injEq] at q2
            exact e2 ⟨q2.symm, rfl⟩
        rw [S1 j hjr]; exact h3
  · intro j s' i' k h
    by_cases e : j = r
    · subst e; rw [S0] at h; simp at h
    · rw [S1 j e] at h
      obtain ⟨h1, m, h2, h3⟩ := v.ls2 j s' i' k h
      have hmr : m ≠ r := by
        intro em
        subst em
        have := hbare k h1
        rw [this, lead0] at h3; cases h3
      refine ⟨h1, m, by rw [S1 m hmr]; exact h2, ?_⟩
      rw [W _ _ h1, if_neg (fun x => by rw [x.1, x.2, hl] at h3; simp only [Option.some.injEq] at h3; exact e h3.symm)]; exact h3
  · intro s' i' h hi' hl'
    rw [W _ _ hi'] at hl' ⊢
    by_cases e : rt s' = p ∧ i' = i
    · rw [if_pos e]
    · rw [if_neg e] at hl' ⊢
      exact v.z2 s' i' h hi' hl'
  · intro m s' i' k h hk hl'
    rw [W _ _ hk] at hl' ⊢
    by_cases e2 : m = p ∧ k = i
    · rw [if_pos e2]
    · rw [if_neg e2] at hl' ⊢
      by_cases e : m = r
      · subst e; rw [S0] at h; simp at h
      · rw [S1 m e] at h
        exact v.z1 m s' i' k h hk hl'
  · intro l s' i' k t h ht hne
    by_cases e : l = r
    · subst e; rw [S0] at h; simp at h
    · rw [S1 l e] at h
      rw [W _ _ ht] at hne ⊢
      by_cases e2 : l = p ∧ t = i
      · rw [if_pos e2] at hne; exact absurd rfl hne
      · rw [if_neg e2] at hne ⊢
        exact v.lf l s' i' k t h ht hne
  · intro j
    by_cases e : j = r
    · subst e; rw [S0]; simp
    · rw [S1 j e]; exact v.kd j
  · intro s' a b c h ha hb hc
    unfold pgW
    rw [W _ _ ha]
    by_cases e : rt s' = p ∧ a = i
    · rw [if_pos e, lead0, e.1, e.2, hl]
      simp only
      rw [hbare b hb, lead0]
    · rw [if_neg e]
      cases hm : lead n (wat ws (rt s') a) with
      | none => rfl
      | some m =>
        have rm := v.md1 _ _ _ h ha hm
        simp only
        rw [W _ _ hb]
        by_cases e2 : m = p ∧ b = i
        · rw [if_pos e2, lead0, e2.1, e2.2, hl]
          simp only
          rw [hbare c hc]
        · rw [if_neg e2]
          cases hl2 : lead n (wat ws m b) with
          | none => rfl
          | some l =>
            have rl := v.ls1 _ _ _ _ _ rm hb hl2
            simp only
            rw [W _ _ hc, if_neg (fun x => by rw [x.1] at rl; rw [rl] at hpk; simp at hpk)]
/-- A leaf set. -/
theorem Inv0.leaf (v : Inv0 n L rt ro ws ps) {l s i k t : Nat} {x : Int} (hl : ro l = (3, s, i, k)) (ht : t < 512) (hx : 0 ≤ x ∧ x < 18446744073709551616) (hk : x ≠ 0 → kindM (lo8 (flg x)) = 2) :
    Inv0 n L rt ro (ws.set (l * 512 + t) x) ps ∧ (∀ j u, u < 512 → wat (ws.set (l * 512 + t) x) j u = if j = l ∧ u = t then x else wat ws j u) ∧
    (∀ s' a b c, L s' = true → a < 512 → b < 512 → c < 512 → pgW n (ws.set (l * 512 + t) x) (rt s') a b c = if s' = s ∧ a = i ∧ b = k ∧ c = t then x else pgW n ws (rt s') a b c) := by
  have hln : l < n := v.lt (by rw [hl]; simp)
  have W : ∀ j u, u < 512 → wat (ws.set (l * 512 + t) x) j u = if j = l ∧ u = t then x else wat ws j u := by
    intro j u hu
    rw [wat_set v.ok hln ht hu]
    by_cases e : l = j ∧ t = u
    · rw [if_pos e, if_pos ⟨e.1.symm, e.2.symm⟩]
    · rw [if_neg e, if_neg (fun x => e ⟨x.1.symm, x.2.symm⟩)]
  have nl : ∀ j u, u < 512 → (ro j).1 ≠ 3 → wat (ws.set (l * 512 + t) x) j u = wat ws j u := by
    intro j u hu h
    rw [W j u hu, if_neg (fun e => h (by rw [e.1, hl]))]
  refine ⟨⟨v.ok.set _ hx, v.gf, v.len, v.fr, v.tb, v.out, v.rt1, v.rt2, ?_, ?_, ?_, ?_, ?_, ?_, ?_, v.kd⟩, W, ?_⟩
  · intro s' i' j h hi' hl'
    rw [nl _ _ hi' (by rw [v.rt1 s' h]; simp)] at hl'
    exact v.md1 s' i' j h hi' hl'
  · intro j s' i' k' h
    obtain ⟨h1, h2, h3, h4⟩ := v.md2 j s' i' k' h
    exact ⟨h1, h2, h3, by rw [nl _ _ h2 (by rw [v.rt1 s' h1]; simp)]; exact h4⟩
  · intro m s' i' k' j h hk' hl'
    rw [nl _ _ hk' (by rw [h]; simp)] at hl'
    exact v.ls1 m s' i' k' j h hk' hl'
  · intro j s' i' k' h
    obtain ⟨h1, m, h2, h3⟩ := v.ls2 j s' i' k' h
    exact ⟨h1, m, h2, by rw [nl _ _ h1 (by rw [h2]; simp)]; exact h3⟩
  · intro s' i' h hi' hl'
    rw [nl _ _ hi' (by rw [v.rt1 s' h]; simp)] at hl' ⊢
    exact v.z2 s' i' h hi' hl'
  · intro m s' i' k' h hk' hl'
    rw [nl _ _ hk' (by rw [h]; simp)] at hl' ⊢
    exact v.z1 m s' i' k' h hk' hl'
  · intro l' s' i' k' u h hu hne
    rw [W _ _ hu] at hne ⊢
    by_cases e : l' = l ∧ u = t
    · rw [if_pos e] at hne ⊢; exact hk hne
    · rw [if_neg e] at hne ⊢; exact v.lf l' s' i' k' u h hu hne
  · intro s' a b c h ha hb hc
    unfold pgW
    rw [nl _ _ ha (by rw [v.rt1 s' h]; simp)]
    obtain ⟨hk1, m0, hm0, hl0⟩ := v.ls2 l s i k hl
    obtain ⟨hs0, hi0, _, hm1⟩ := v.md2 m0 s i 0 hm0
    cases hm : lead n (wat ws (rt s') a) with
    | none =>
      simp only
      rw [if_neg]
      rintro ⟨rfl, rfl, _⟩
      rw [hm] at hm1; cases hm1
    | some m =>
      have rm := v.md1 _ _ _ h ha hm
      simp only
      rw [nl _ _ hb (by rw [rm]; simp)]
      cases hl2 : lead n (wat ws m b) with
      | none =>
        simp only
        rw [if_neg]
        rintro ⟨rfl, rfl, rfl, _⟩
        rw [hm] at hm1
        simp only [Option.some.injEq] at hm1
        subst hm1
        rw [hl2] at hl0; cases hl0
      | some l2 =>
        have rl := v.ls1 _ _ _ _ _ rm hb hl2
        simp only
        rw [W _ _ hc]
        by_cases e : l2 = l ∧ c = t
        · rw [if_pos e]
          rw [e.1, hl] at rl
          simp only [Prod.mk.injEq, true_and] at rl
          rw [if_pos ⟨rl.1.symm, rl.2.1.symm, rl.2.2.symm, e.2⟩]
        · rw [if_neg e, if_neg]
          rintro ⟨rfl, rfl, rfl, rfl⟩
          rw [hm] at hm1
          simp only [Option.some.injEq] at hm1
          subst hm1
          rw [hl2] at hl0
          simp only [Option.some.injEq] at hl0
          exact e ⟨hl0, rfl⟩
end

def setN (nt : Nat → Int) (s : Nat) (x : Int) : Nat → Int := fun j => if j = s then x else nt j
/-- Roles, words, frames and counts agree; but for some tables none is bare. -/
structure Wz (n : Nat) (L : Nat → Bool) (rt : Nat → Nat) (nt : Nat → Int) (ro : Nat → Role) (ex : Nat → Prop) (ws ps : List Int) : Prop where
  iv : Inv0 n L rt ro ws ps
  nb : NB ro ws ex
  ct : ∀ s, L s = true → nt s = cntR ro s n
/-- The same, whatever the roles. -/
def Wd (n : Nat) (L : Nat → Bool) (rt : Nat → Nat) (nt : Nat → Int) (ws ps : List Int) : Prop := ∃ ro, Wz n L rt nt ro (fun _ => False) ws ps
def noEx : Nat → Prop := fun _ => False
theorem flagsK : ∀ m, m < 8 → 1 ≤ m → kindM (flagsN m true).toNat = 2 ∧ (flagsN m true).toNat < 64 ∧ flagsN m true = ((flagsN m true).toNat : Int) := by decide
theorem lo8_of {m : Nat} (h : m < 256) (p : Int) : lo8 (flg (encF (m : Int) p)) = m := by unfold lo8 flg encF; omega
theorem flg_of {m : Nat} (h : m < 256) (p : Int) : flg (encF (m : Int) p) = m := by unfold flg encF; omega
theorem ppn_of (m : Int) (p : Int) : ppn (encF m p) = p % 17592186044416 := by unfold ppn encF; omega
theorem kind2_ne {m : Nat} (h : kindM m = 2) : m ≠ 0 := by intro e; subst e; revert h; decide
theorem enc_ne {m : Nat} (h : m < 256) (h0 : m ≠ 0) (p : Int) : encF (m : Int) p ≠ 0 := by unfold encF; omega
/-- A change of frames counted. -/
theorem cnt_set5 {ps : List Int} {n r : Nat} (hl : ps.length = 5 * n) (hr : r < n) (a b c d e x : Int) : ∀ k, k ≤ n → cnt (set5 ps r a b c d e) x k = cnt ps x k + (if r < k then (if a = x then 1 else 0) - (if ps.getD (5 * r) 0 = x then 1 else 0) else 0) := by
  intro k
  induction k with
  | zero => intro _; simp [cnt]
  | succ k ih =>
    intro hk
    simp only [cnt]
    rw [ih (by omega)]
    have g := set5_get ps r k 0 a b c d e (by omega) (by omega)
    rw [Nat.add_zero] at g
    rw [g]
    by_cases h : k = r
    · subst h
      rw [if_pos rfl, if_neg (show ¬ k < k from Nat.lt_irrefl k), if_pos (show k < k + 1 from Nat.lt_succ_self k)]
      simp only [List.getD_cons_zero]
      generalize (if a = x then (1 : Int) else 0) = A
      generalize (if ps.getD (5 * k) 0 = x then (1 : Int) else 0) = B
      omega
    · rw [if_neg h]
      generalize (if a = x then (1 : Int) else 0) = A
      generalize (if ps.getD (5 * r) 0 = x then (1 : Int) else 0) = B
      by_cases h2 : r < k
      · rw [if_pos h2, if_pos (show r < k + 1 by omega)]; omega
      · rw [if_neg h2, if_neg (show ¬ r < k + 1 by omega)]; omega
section
variable {n : Nat} {L : Nat → Bool} {rt : Nat → Nat} {nt : Nat → Int} {ro : Nat → Role} {ex : Nat → Prop} {ws ps : List Int}
theorem Inv0.cls (v : Inv0 n L rt ro ws ps) {j : Nat} (hj : j < n) : ps.getD (5 * j) 0 = if (ro j).1 = 0 then 0 else 1 := by
  by_cases h : (ro j).1 = 0
  · rw [if_pos h]
    have := v.fr j hj h
    unfold z5 at this
    simp only [Bool.and_eq_true, beq_iff_eq] at this
    exact this.1
  · rw [if_neg h]; exact (v.tb j hj h).1
theorem Inv0.z5 (v : Inv0 n L rt ro ws ps) {j : Nat} (hj : j < n) (h : Go.Proofs.Ytfijchofplkcoaa.z5 ps j = true) : (ro j).1 = 0 := by
  by_cases e : (ro j).1 = 0
  · exact e
  · have := (v.tb j hj e).1
    unfold Go.Proofs.Ytfijchofplkcoaa.z5 at h
    simp only [Bool.and_eq_true, beq_iff_eq] at h
    omega
/-- A table more. -/
theorem Wz.grow (v : Wz n L rt nt ro ex ws ps) {p i s : Nat} {asid lv : Int} (new : Nat → Role) (hs : L s = true) (hc : ¬ cnt ps 0 n ≤ 0) (hi : i < 512) (hl : lead n (wat ws p i) = none)
    (hex : ∀ j, ex j → j = p) (hpar : (p = rt s ∧ new = fun _ => (2, s, i, 0)) ∨ ∃ i2, ro p = (2, s, i2, 0) ∧ new = fun _ => (3, s, i2, i)) :
    ∃ (r : Nat) (ws' ps' : List Int), growS n asid p i lv (ws, ps, nt s) = some (r, (ws', ps', nt s + 1)) ∧ r < n ∧ p ≠ r ∧ lead n (wat ws' p i) = some r ∧ (∀ t, t < 512 → wat ws' r t = 0) ∧ (∀ t, t < 512 → t ≠ i → wat ws' p t = wat ws p t) ∧
      Wz n L rt (setN nt s (nt s + 1)) (setR ro r (new 0)) (fun j => j = r) ws' ps' ∧ cnt ps' 0 n = cnt ps 0 n - 1 ∧ cnt ps' 1 n = cnt ps 1 n + 1 ∧
      (∀ s' a b c, L s' = true → a < 512 → b < 512 → c < 512 → pgW n ws' (rt s') a b c = pgW n ws (rt s') a b c) := by
  have hf := fst0_lt v.iv.gf hc
  have h0 := v.iv.z5 hf.1 hf.2
  have hpar' : (p = rt s ∧ new 0 = (2, s, i, 0)) ∨ ∃ i2, ro p = (2, s, i2, 0) ∧ new 0 = (3, s, i2, i) := by
    rcases hpar with ⟨h1, h2⟩ | ⟨i2, h1, h2⟩
    · exact .inl ⟨h1, by rw [h2]⟩
    · exact .inr ⟨i2, h1, by rw [h2]⟩
  have hown : (new 0).1 ≠ 0 ∧ (new 0).2.1 = s := by
    rcases hpar' with ⟨_, h2⟩ | ⟨i2, _, h2⟩ <;> rw [h2] <;> simp
  obtain ⟨iv, W, P⟩ := v.iv.attach (asid := asid) (lv := lv) hs hf.1 h0 hi hl hpar'
  have hpk : (ro p).1 ≠ 0 := by
    rcases hpar' with ⟨h1, _⟩ | ⟨i2, h1, _⟩
    · rw [h1, v.iv.rt1 s hs]; simp
    · rw [h1]; simp
  have hpr : p ≠ fst0 ps n := by intro e; rw [← e] at h0; exact hpk h0
  refine ⟨fst0 ps n, _, _, by unfold growS; rw [if_neg hc], hf.1, hpr, ?_, ?_, ?_, ⟨iv, ?_, ?_⟩, ?_, ?_, P⟩
  · rw [W _ _ hi, if_pos ⟨rfl, rfl⟩]; exact lead_tab hf.1 v.iv.ok.le
  · intro t ht
    rw [W _ _ ht, if_neg (fun x => hpr x.1.symm), if_pos rfl]
  · intro t ht hti
    rw [W _ _ ht, if_neg (fun x => hti x.2), if_neg hpr]
  · intro j hj hne
    unfold setR at hj
    rw [if_neg hne] at hj
    by_cases hp : j = p
    · subst hp
      exact ⟨i, hi, by rw [W _ _ hi, if_pos ⟨rfl, rfl⟩]; exact encT_ne _⟩
    · obtain ⟨t, ht, hw⟩ := v.nb j hj (fun e => hp (hex j e))
      exact ⟨t, ht, by rw [W _ _ ht, if_neg (fun x => hp x.1), if_neg hne]; exact hw⟩
  · intro s' hs'
    rw [cntR_set, if_pos hf.1]
    unfold setN
    by_cases e : s' = s
    · subst e
      rw [if_pos rfl, if_pos hown, if_neg (fun x => x.1 h0), v.ct _ hs]
      omega
    · rw [if_neg e, if_neg (fun x => e (x.2.symm.trans hown.2)), if_neg (fun x => x.1 h0), v.ct _ hs']
      omega
  · have c0 := v.iv.cls hf.1
    rw [if_pos h0] at c0
    rw [cnt_set5 v.iv.len hf.1 _ _ _ _ _ _ n (Nat.le_refl n), if_pos hf.1, c0]
    simp; omega
  · have c0 := v.iv.cls hf.1
    rw [if_pos h0] at c0
    rw [cnt_set5 v.iv.len hf.1 _ _ _ _ _ _ n (Nat.le_refl n), if_pos hf.1, c0]
    simp
/-- A table less. -/
theorem Wz.give (v : Wz n L rt nt ro ex ws ps) {p i r s : Nat} (hs : L s = true) (hi : i < 512) (hl : lead n (wat ws p i) = some r) (hz : ∀ t, t < 512 → wat ws r t = 0)
    (hex : ∀ j, ex j → j = r) (hpar : p = rt s ∨ ∃ i2, ro p = (2, s, i2, 0)) :
    ∃ (ws' ps' : List Int), giveS n p i (ws, ps, nt s) = (ws', ps', nt s - 1) ∧ p ≠ r ∧ (∀ j t, t < 512 → wat ws' j t = if j = p ∧ t = i then 0 else wat ws j t) ∧
      Wz n L rt (setN nt s (nt s - 1)) (setR ro r (0, 0, 0, 0)) (fun j => j = p) ws' ps' ∧ cnt ps' 0 n = cnt ps 0 n + 1 ∧ cnt ps' 1 n = cnt ps 1 n - 1 ∧
      (∀ s' a b c, L s' = true → a < 512 → b < 512 → c < 512 → pgW n ws' (rt s') a b c = pgW n ws (rt s') a b c) := by
  obtain ⟨iv, h0, h1, hr, hpr, W, P⟩ := v.iv.detach hs hi hl (by
    rcases hpar with h | h
    · exact .inl ⟨h, hz⟩
    · exact .inr ⟨h, hz⟩)
  have hpp := (lead_some hl).2
  have tb := v.iv.tb r hr h0
  have hg : sGive ps n (ppn (wat ws p i)) = (0, set5 ps r 0 0 0 0 0) := by
    unfold sGive
    rw [hpp, if_neg (fun h => h ⟨by omega, by omega⟩), Int.toNat_natCast, if_neg (by rw [tb.1]; decide), if_neg (fun h => h tb.2)]
  refine ⟨ws.set (p * 512 + i) 0, set5 ps r 0 0 0 0 0, by unfold giveS; rw [hg], hpr, W, ⟨iv, ?_, ?_⟩, ?_, ?_, P⟩
  · intro j hj hne
    unfold setR at hj
    by_cases e : j = r
    · rw [if_pos e] at hj; simp at hj
    · rw [if_neg e] at hj
      obtain ⟨t, ht, hw⟩ := v.nb j hj (fun x => e (hex j x))
      exact ⟨t, ht, by rw [W _ _ ht, if_neg (fun x => hne x.1)]; exact hw⟩
  · intro s' hs'
    rw [cntR_set, if_pos hr, if_neg (fun x => x.1 rfl)]
    unfold setN
    by_cases e : s' = s
    · subst e
      rw [if_pos rfl, if_pos ⟨h0, h1⟩, v.ct _ hs]
      omega
    · rw [if_neg e, if_neg (fun x => e (x.2.symm.trans h1)), v.ct _ hs']
      omega
  · have c0 := v.iv.cls hr
    rw [if_neg h0] at c0
    rw [cnt_set5 v.iv.len hr _ _ _ _ _ _ n (Nat.le_refl n), if_pos hr, c0]
    simp
  · have c0 := v.iv.cls hr
    rw [if_neg h0] at c0
    rw [cnt_set5 v.iv.len hr _ _ _ _ _ _ n (Nat.le_refl n), if_pos hr, c0]
    simp; omega
/-- An entry of a page. -/
theorem Wz.leaf (v : Wz n L rt nt ro ex ws ps) {l s i k t : Nat} {x : Int} (hl : ro l = (3, s, i, k)) (ht : t < 512) (hx : 0 ≤ x ∧ x < 18446744073709551616) (hk : x ≠ 0 → kindM (lo8 (flg x)) = 2)
    (hex : ∀ j, ex j → j = l) {ex' : Nat → Prop} (he' : ex' l ∨ x ≠ 0) :
    Wz n L rt nt ro ex' (ws.set (l * 512 + t) x) ps ∧ (∀ j u, u < 512 → wat (ws.set (l * 512 + t) x) j u = if j = l ∧ u = t then x else wat ws j u) ∧
    (∀ s' a b c, L s' = true → a < 512 → b < 512 → c < 512 → pgW n (ws.set (l * 512 + t) x) (rt s') a b c = if s' = s ∧ a = i ∧ b = k ∧ c = t then x else pgW n ws (rt s') a b c) := by
  obtain ⟨iv, W, P⟩ := v.iv.leaf hl ht hx hk
  refine ⟨⟨iv, ?_, v.ct⟩, W, P⟩
  intro j hj hne
  by_cases e : j = l
  · subst e
    rcases he' with h | h
    · exact absurd h hne
    · exact ⟨t, ht, by rw [W _ _ ht, if_pos ⟨rfl, rfl⟩]; exact h⟩
  · obtain ⟨u, hu, hw⟩ := v.nb j hj (fun x => e (hex j x))
    exact ⟨u, hu, by rw [W _ _ hu, if_neg (fun x => e x.1)]; exact hw⟩
theorem Wz.ex' (v : Wz n L rt nt ro ex ws ps) {ex' : Nat → Prop} (h : ∀ m, ((ro m).1 = 2 ∨ (ro m).1 = 3) → ex m → ¬ ex' m → ∃ t, t < 512 ∧ wat ws m t ≠ 0) : Wz n L rt nt ro ex' ws ps :=
  ⟨v.iv, fun m hm hne => by
    by_cases e : ex m
    · exact h m hm e hne
    · exact v.nb m hm e, v.ct⟩
/-- There is a page below. -/
def hasT (pg : Nat → Nat → Nat → Int) (a : Nat) : Prop := ∃ b c, b < 512 ∧ c < 512 ∧ pg a b c ≠ 0
def hasM (pg : Nat → Nat → Nat → Int) (a b : Nat) : Prop := ∃ c, c < 512 ∧ pg a b c ≠ 0
theorem Wz.hasM (v : Wz n L rt nt ro noEx ws ps) {s m l a b : Nat} (hs : L s = true) (ha : a < 512) (hb : b < 512) (hm : lead n (wat ws (rt s) a) = some m) (hl : lead n (wat ws m b) = some l) : Go.Proofs.Ytfijchofplkcoaa.hasM (pgW n ws (rt s)) a b := by
  have rm := v.iv.md1 _ _ _ hs ha hm
  have rl := v.iv.ls1 _ _ _ _ _ rm hb hl
  obtain ⟨t, ht, hw⟩ := v.nb l (.inr (by rw [rl])) (fun x => x)
  exact ⟨t, ht, by unfold pgW; rw [hm]; simp only; rw [hl]; exact hw⟩
theorem Wz.hasT (v : Wz n L rt nt ro noEx ws ps) {s m a : Nat} (hs : L s = true) (ha : a < 512) (hm : lead n (wat ws (rt s) a) = some m) : Go.Proofs.Ytfijchofplkcoaa.hasT (pgW n ws (rt s)) a := by
  have rm := v.iv.md1 _ _ _ hs ha hm
  obtain ⟨t, ht, hw⟩ := v.nb m (.inl (by rw [rm])) (fun x => x)
  cases hl : lead n (wat ws m t) with
  | none => exact absurd (v.iv.z1 m _ _ _ rm ht hl) hw
  | some l =>
    obtain ⟨c, hc, h⟩ := v.hasM hs ha ht hm hl
    exact ⟨t, c, ht, hc, h⟩
theorem hasT_some {r a : Nat} (h : Go.Proofs.Ytfijchofplkcoaa.hasT (pgW n ws r) a) : ∃ m, lead n (wat ws r a) = some m := by
  obtain ⟨b, c, hb, hc, h⟩ := h
  unfold pgW at h
  cases hm : lead n (wat ws r a) with
  | none => rw [hm] at h; exact absurd rfl h
  | some m => exact ⟨m, rfl⟩
theorem hasM_some {r a b m : Nat} (hm : lead n (wat ws r a) = some m) (h : Go.Proofs.Ytfijchofplkcoaa.hasM (pgW n ws r) a b) : ∃ l, lead n (wat ws m b) = some l := by
  obtain ⟨c, hc, h⟩ := h
  unfold pgW at h
  rw [hm] at h
  simp only at h
  cases hl : lead n (wat ws m b) with
  | none => rw [hl] at h; exact absurd rfl h
  | some l => exact ⟨l, rfl⟩
theorem hasM_T {pg : Nat → Nat → Nat → Int} {a b : Nat} (hb : b < 512) (h : Go.Proofs.Ytfijchofplkcoaa.hasM pg a b) : Go.Proofs.Ytfijchofplkcoaa.hasT pg a := by
  obtain ⟨c, hc, h⟩ := h; exact ⟨b, c, hb, hc, h⟩
end
/-- What Enter leaves. -/
structure EnterOK (n : Nat) (L : Nat → Bool) (rt : Nat → Nat) (nt : Nat → Int) (ws ps : List Int) (s : Nat) (vpn x : Int) (nd : Int) (s' : PS) : Prop where
  wd : Wd n L rt (setN nt s s'.2.2) s'.1 s'.2.1
  nt : s'.2.2 = nt s + nd
  c0 : cnt s'.2.1 0 n = cnt ps 0 n - nd
  c1 : cnt s'.2.1 1 n = cnt ps 1 n + nd
  pg : ∀ s1 a b c, L s1 = true → a < 512 → b < 512 → c < 512 → pgW n s'.1 (rt s1) a b c = if s1 = s ∧ a = ix2 vpn ∧ b = ix1 vpn ∧ c = ix0 vpn then x else pgW n ws (rt s1) a b c
section
variable {n : Nat} {L : Nat → Bool} {rt : Nat → Nat} {nt : Nat → Int} {ro : Nat → Role} {ex : Nat → Prop} {ws ps : List Int}
theorem setN_self (nt : Nat → Int) (s : Nat) : setN nt s (nt s) = nt := by
  funext j; unfold setN; by_cases e : j = s
  · rw [if_pos e, e]
  · rw [if_neg e]
theorem setN_setN (nt : Nat → Int) (s : Nat) (x y : Int) : setN (setN nt s x) s y = setN nt s y := by
  funext j; unfold setN; by_cases e : j = s
  · rw [if_pos e, if_pos e]
  · rw [if_neg e, if_neg e, if_neg e]
theorem setN_at (nt : Nat → Int) (s : Nat) (x : Int) : setN nt s x s = x := by unfold setN; rw [if_pos rfl]
/-- The last step of Enter. -/
theorem enter1_ok (v : Wz n L rt nt ro ex ws ps) {s m : Nat} {vpn frame prot asid : Int} (hs : L s = true) (hg : 1 ≤ prot ∧ prot ≤ 7) (rm : ro m = (2, s, ix2 vpn, 0)) (hex : ∀ j, ex j → j = m)
    (hx : ex m → lead n (wat ws m (ix1 vpn)) = none) :
    (∃ l, lead n (wat ws m (ix1 vpn)) = some l ∧ ∃ s', enter1 n asid m vpn frame prot (ws, ps, nt s) = (0, s') ∧ EnterOK n L rt nt ws ps s vpn (encF (flagsN (lo3 prot) true) frame) 0 s') ∨
    (lead n (wat ws m (ix1 vpn)) = none ∧ ¬ cnt ps 0 n ≤ 0 ∧ ∃ s', enter1 n asid m vpn frame prot (ws, ps, nt s) = (0, s') ∧ EnterOK n L rt nt ws ps s vpn (encF (flagsN (lo3 prot) true) frame) 1 s') ∨
    (lead n (wat ws m (ix1 vpn)) = none ∧ cnt ps 0 n ≤ 0 ∧ enter1 n asid m vpn frame prot (ws, ps, nt s) = (5, (ws, ps, nt s))) := by
  obtain ⟨l2, l1, l0⟩ := ix_lt vpn
  have hlo : 1 ≤ lo3 prot ∧ lo3 prot < 8 := by have := lo3_lt prot; refine ⟨?_, this⟩; unfold lo3; omega
  obtain ⟨f1, f2, f3⟩ := flagsK (lo3 prot) hlo.2 hlo.1
  have hkx : kindM (lo8 (flg (encF (flagsN (lo3 prot) true) frame))) = 2 := by rw [f3, lo8_of (by omega)]; exact f1
  have hxn : encF (flagsN (lo3 prot) true) frame ≠ 0 := by rw [f3]; exact enc_ne (by omega) (kind2_ne f1) _
  cases hl : lead n (wat ws m (ix1 vpn)) with
  | some l =>
    refine .inl ⟨l, rfl, _, enter1_0 (s := (ws, ps, nt s)) hl, ?_⟩
    have rl := v.iv.ls1 _ _ _ _ _ rm l1 hl
    obtain ⟨v2, W, P⟩ := v.leaf (x := encF (flagsN (lo3 prot) true) frame) (ex' := noEx) rl l0 (encF_range _ _) (fun _ => hkx) (fun j hj => by
      have := hex j hj; subst this; rw [hx hj] at hl; cases hl) (.inr hxn)
    exact ⟨⟨ro, by rw [show (leafS l vpn frame prot (ws, ps, nt s)).2.2 = nt s from rfl, setN_self]; exact v2⟩, by simp only [leafS]; omega, by simp only [leafS]; omega, by simp only [leafS]; omega, P⟩
  | none =>
    by_cases hc : cnt ps 0 n ≤ 0
    · refine .inr (.inr ⟨rfl, hc, enter1_5 (s := (ws, ps, nt s)) hl ?_⟩)
      unfold growS
      rw [if_pos hc]
    · refine .inr (.inl ⟨rfl, hc, ?_⟩)
      obtain ⟨r, ws', ps', hgr, hr, hpr, hlr, hzr, hsm, vr, c0, c1, P0⟩ := v.grow (asid := asid) (lv := 2) (fun _ => (3, s, ix2 vpn, ix1 vpn)) hs hc l1 hl hex (.inr ⟨_, rm, rfl⟩)
      have rl : setR ro r (3, s, ix2 vpn, ix1 vpn) r = (3, s, ix2 vpn, ix1 vpn) := by unfold setR; rw [if_pos rfl]
      obtain ⟨v2, W, P⟩ := vr.leaf (x := encF (flagsN (lo3 prot) true) frame) (ex' := noEx) rl l0 (encF_range _ _) (fun _ => hkx) (fun j hj => hj) (.inr hxn)
      refine ⟨_, enter1_1 (s := (ws, ps, nt s)) hl hgr, ⟨⟨_, v2⟩, rfl, c0, c1, fun s1 a b c h1 ha hb hc => ?_⟩⟩
      have := P s1 a b c h1 ha hb hc
      rw [P0 s1 a b c h1 ha hb hc] at this
      exact this
/-- Enter: how many tables it needs, and what it leaves. -/
theorem Wd.enter (v : Wd n L rt nt ws ps) {s : Nat} {vpn frame prot asid : Int} (hs : L s = true) (hb : ¬ badE n vpn frame prot) :
    ∃ nd : Int, ((¬ hasT (pgW n ws (rt s)) (ix2 vpn) ∧ nd = 2) ∨ (hasT (pgW n ws (rt s)) (ix2 vpn) ∧ ¬ hasM (pgW n ws (rt s)) (ix2 vpn) (ix1 vpn) ∧ nd = 1) ∨ (hasM (pgW n ws (rt s)) (ix2 vpn) (ix1 vpn) ∧ nd = 0)) ∧
    ((nd ≤ cnt ps 0 n ∧ ∃ s', enterS n (rt s) asid vpn frame prot (ws, ps, nt s) = (0, s') ∧ EnterOK n L rt nt ws ps s vpn (encF (flagsN (lo3 prot) true) frame) nd s') ∨
     (cnt ps 0 n < nd ∧ ∃ ws' ps', enterS n (rt s) asid vpn frame prot (ws, ps, nt s) = (5, (ws', ps', nt s)) ∧ Wd n L rt nt ws' ps' ∧ cnt ps' 0 n = cnt ps 0 n ∧ cnt ps' 1 n = cnt ps 1 n ∧
       (∀ s1 a b c, L s1 = true → a < 512 → b < 512 → c < 512 → pgW n ws' (rt s1) a b c = pgW n ws (rt s1) a b c))) := by
  obtain ⟨ro, v⟩ := v
  have hcr := (cnt_le ps 0 n).1
  obtain ⟨l2, l1, l0⟩ := ix_lt vpn
  have hg : 1 ≤ prot ∧ prot ≤ 7 := by unfold badE at hb; omega
  have eS : enterS n (rt s) asid vpn frame prot (ws, ps, nt s) = enterB n (rt s) asid vpn frame prot (ws, ps, nt s) (lead n (wat ws (rt s) (ix2 vpn))) := by unfold enterS; rw [if_neg hb]
  cases hm : lead n (wat ws (rt s) (ix2 vpn)) with
  | some m =>
    have rm := v.iv.md1 _ _ _ hs l2 hm
    have hT := v.hasT hs l2 hm
    rw [hm] at eS
    rcases enter1_ok v (asid := asid) (frame := frame) hs hg rm (fun j hj => False.elim hj) (fun h => False.elim h) with ⟨l, hl, s', he, ok⟩ | ⟨hl, hc, s', he, ok⟩ | ⟨hl, hc, he⟩
    · exact ⟨0, .inr (.inr ⟨v.hasM hs l2 l1 hm hl, rfl⟩), .inl ⟨by omega, s', eS.trans he, ok⟩⟩
    · exact ⟨1, .inr (.inl ⟨hT, (fun h => by obtain ⟨l, h⟩ := hasM_some hm h; rw [hl] at h; cases h), rfl⟩), .inl ⟨by omega, s', eS.trans he, ok⟩⟩
    · exact ⟨1, .inr (.inl ⟨hT, (fun h => by obtain ⟨l, h⟩ := hasM_some hm h; rw [hl] at h; cases h), rfl⟩), .inr ⟨by omega, ws, ps, eS.trans he, ⟨ro, v⟩, rfl, rfl, fun _ _ _ _ _ _ _ _ => rfl⟩⟩
  | none =>
    rw [hm] at eS
    have hT : ¬ hasT (pgW n ws (rt s)) (ix2 vpn) := fun h => by obtain ⟨m, h⟩ := hasT_some h; rw [hm] at h; cases h
    refine ⟨2, .inl ⟨hT, rfl⟩, ?_⟩
    by_cases hc : cnt ps 0 n ≤ 0
    · refine .inr ⟨by omega, ws, ps, ?_, ⟨ro, v⟩, rfl, rfl, fun _ _ _ _ _ _ _ _ => rfl⟩
      rw [eS]
      show enterA _ _ _ _ _ _ _ (growS _ _ _ _ _ _) = _
      unfold growS
      rw [if_pos hc]
      rfl
    · obtain ⟨m, ws1, ps1, hgr, hr, hpr, hlr, hzr, hsm, vr, c0, c1, P0⟩ := v.grow (asid := asid) (lv := 1) (fun _ => (2, s, ix2 vpn, 0)) hs hc l2 hm (fun j hj => False.elim hj) (.inl ⟨rfl, rfl⟩)
      have rm : setR ro m (2, s, ix2 vpn, 0) m = (2, s, ix2 vpn, 0) := by unfold setR; rw [if_pos rfl]
      have e1 : enterS n (rt s) asid vpn frame prot (ws, ps, nt s) = if (enter1 n asid m vpn frame prot (ws1, ps1, nt s + 1)).1 = 0 then enter1 n asid m vpn frame prot (ws1, ps1, nt s + 1) else ((enter1 n asid m vpn frame prot (ws1, ps1, nt s + 1)).1, giveS n (rt s) (ix2 vpn) (ws1, ps1, nt s + 1)) := by
        rw [eS]
        show enterA _ _ _ _ _ _ _ (growS _ _ _ _ _ _) = _
        rw [hgr]
        rfl
      have hz : lead n (wat ws1 m (ix1 vpn)) = none := by rw [hzr _ l1]; exact lead0 n
      have h1 := enter1_ok vr (asid := asid) (frame := frame) hs hg rm (fun j hj => hj) (fun _ => hz)
      rw [setN_at] at h1
      rcases h1 with ⟨l, hl, _⟩ | ⟨hl, hc1, s', he, ok⟩ | ⟨hl, hc1, he⟩
      · rw [hz] at hl; cases hl
      · refine .inl ⟨by omega, s', by rw [e1, he, if_pos rfl], ⟨?_, ?_, ?_, ?_, ?_⟩⟩
        · have := ok.wd
          rw [setN_setN] at this
          exact this
        · have := ok.nt
          rw [setN_at] at this
          omega
        · have := ok.c0; omega
        · have := ok.c1; omega
        · intro s1 a b c h1 ha hb hc
          rw [ok.pg s1 a b c h1 ha hb hc, P0 s1 a b c h1 ha hb hc]
      · obtain ⟨ws2, ps2, hgv, _, W2, v2, c02, c12, P2⟩ := vr.give hs l2 hlr hzr (fun j hj => hj) (.inl rfl)
        rw [setN_at, setN_setN] at v2
        rw [setN_at] at hgv
        rw [show nt s + 1 - 1 = nt s by omega] at v2 hgv
        rw [setN_self] at v2
        refine .inr ⟨by omega, ws2, ps2, by rw [e1, he, if_neg (by simp), hgv], ⟨_, v2.ex' (ex' := fun _ => False) fun m' hm' he _ => ?_⟩, by omega, by omega, fun s1 a b c h1 ha hb hc => by rw [P2 s1 a b c h1 ha hb hc, P0 s1 a b c h1 ha hb hc]⟩
        have he : m' = rt s := he
        have := v2.iv.rt1 s hs
        rw [he, this] at hm'
        simp at hm'
end

section
variable {n : Nat} {L : Nat → Bool} {rt : Nat → Nat} {nt : Nat → Int} {ro : Nat → Role} {ex : Nat → Prop} {ws ps : List Int}
theorem findS_at (v : Inv0 n L rt ro ws ps) {s : Nat} {vpn x : Int} (hs : L s = true) (h : findS n ws (rt s) vpn = some x) :
    ∃ m l, lead n (wat ws (rt s) (ix2 vpn)) = some m ∧ lead n (wat ws m (ix1 vpn)) = some l ∧ placeS n ws (rt s) vpn = some (l, ix0 vpn) ∧ x = wat ws l (ix0 vpn) ∧ kindM (lo8 (flg x)) = 2 ∧
      ro m = (2, s, ix2 vpn, 0) ∧ ro l = (3, s, ix2 vpn, ix1 vpn) := by
  obtain ⟨f, i, hp, hv, hk⟩ := findS_some h
  obtain ⟨l2, l1, l0⟩ := ix_lt vpn
  have hp' := hp
  unfold placeS at hp'
  split at hp'
  · simp only [Option.bind_eq_some_iff, Option.map_eq_some_iff] at hp'
    obtain ⟨m, hm, l, hl, e⟩ := hp'
    simp only [Prod.mk.injEq] at e
    obtain ⟨rfl, rfl⟩ := e
    rw [Int.toNat_natCast] at hm
    have rm := v.md1 _ _ _ hs l2 hm
    have rl := v.ls1 _ _ _ _ _ rm l1 hl
    exact ⟨m, l, hm, hl, hp, hv, hk, rm, rl⟩
  · cases hp'
/-- Bare tables go. -/
theorem Wz.tidy (v : Wz n L rt nt ro ex ws ps) {s m l : Nat} {vpn : Int} (hs : L s = true) (hm : lead n (wat ws (rt s) (ix2 vpn)) = some m) (hl : lead n (wat ws m (ix1 vpn)) = some l)
    (hex : ∀ j, ex j → j = l) : ∃ s', tidyS n (rt s) vpn (ws, ps, nt s) = s' ∧ Wd n L rt (setN nt s s'.2.2) s'.1 s'.2.1 ∧
      (∀ s1 a b c, L s1 = true → a < 512 → b < 512 → c < 512 → pgW n s'.1 (rt s1) a b c = pgW n ws (rt s1) a b c) := by
  refine ⟨_, rfl, ?_⟩
  obtain ⟨l2, l1, l0⟩ := ix_lt vpn
  have rm := v.iv.md1 _ _ _ hs l2 hm
  have rl := v.iv.ls1 _ _ _ _ _ rm l1 hl
  unfold tidyS
  simp only
  rw [hm]
  simp only
  have t1 : tidy1 n m (ix1 vpn) (ws, ps, nt s) = if bareB ws l = true then giveS n m (ix1 vpn) (ws, ps, nt s) else (ws, ps, nt s) := by unfold tidy1; simp only; rw [hl]
  have key : ∃ (ws1 ps1 : List Int) (nt1 : Int) (ro1 : Nat → Role), tidy1 n m (ix1 vpn) (ws, ps, nt s) = (ws1, ps1, nt1) ∧ Wz n L rt (setN nt s nt1) ro1 (fun j => j = m) ws1 ps1 ∧
      lead n (wat ws1 (rt s) (ix2 vpn)) = some m ∧ (∀ s1 a b c, L s1 = true → a < 512 → b < 512 → c < 512 → pgW n ws1 (rt s1) a b c = pgW n ws (rt s1) a b c) := by
    rw [t1]
    cases hb : bareB ws l
    · rw [if_neg (by simp)]
      refine ⟨ws, ps, nt s, ro, rfl, ?_, hm, fun _ _ _ _ _ _ _ _ => rfl⟩
      rw [setN_self]
      refine v.ex' fun j _ hj _ => ?_
      have := hex j hj
      subst this
      apply Classical.byContradiction
      intro hne
      have : bareB ws j = true := bareB_iff.2 fun t ht => Classical.byContradiction fun h => hne ⟨t, ht, h⟩
      rw [this] at hb; cases hb
    · rw [if_pos rfl]
      obtain ⟨ws1, ps1, hg, hpr, W, v1, _, _, P⟩ := v.give hs l1 hl (bareB_iff.1 hb) hex (.inr ⟨_, rm⟩)
      refine ⟨ws1, ps1, nt s - 1, _, hg, v1, ?_, P⟩
      rw [W _ _ l2, if_neg]
      · exact hm
      · intro e
        have := v.iv.rt1 s hs
        rw [e.1, rm] at this
        simp at this
  obtain ⟨ws1, ps1, nt1, ro1, e1, v1, hm1, P1⟩ := key
  rw [e1]
  simp only
  cases hb : bareB ws1 m
  · rw [if_neg (by simp)]
    refine ⟨⟨ro1, v1.ex' fun j _ hj _ => ?_⟩, P1⟩
    have hj : j = m := hj
    subst hj
    apply Classical.byContradiction
    intro hne
    have : bareB ws1 j = true := bareB_iff.2 fun t ht => Classical.byContradiction fun h => hne ⟨t, ht, h⟩
    rw [this] at hb; cases hb
  · rw [if_pos rfl]
    obtain ⟨ws2, ps2, hg, hpr, W, v2, _, _, P⟩ := v1.give hs l2 hm1 (bareB_iff.1 hb) (fun j hj => hj) (.inl rfl)
    rw [setN_at] at hg v2
    rw [hg]
    refine ⟨⟨setR ro1 m (0, 0, 0, 0), ?_⟩, fun s1 a b c h1 ha hb hc => by rw [P s1 a b c h1 ha hb hc, P1 s1 a b c h1 ha hb hc]⟩
    have := v2.ex' (ex' := fun _ => False) fun j hj he _ => by
      have he : j = rt s := he
      have := v2.iv.rt1 s hs
      rw [he, this] at hj
      simp at hj
    rw [setN_setN] at this
    exact this
structure ChangeOK (n : Nat) (L : Nat → Bool) (rt : Nat → Nat) (nt : Nat → Int) (ws : List Int) (s : Nat) (vpn x : Int) (s' : PS) : Prop where
  wd : Wd n L rt (setN nt s s'.2.2) s'.1 s'.2.1
  pg : ∀ s1 a b c, L s1 = true → a < 512 → b < 512 → c < 512 → pgW n s'.1 (rt s1) a b c = if s1 = s ∧ a = ix2 vpn ∧ b = ix1 vpn ∧ c = ix0 vpn then x else pgW n ws (rt s1) a b c
/-- The entry of a page that is found becomes another one. -/
theorem Wd.change (v : Wd n L rt nt ws ps) {s : Nat} {vpn x x' : Int} (hs : L s = true) (hf : findS n ws (rt s) vpn = some x) (hr : 0 ≤ x' ∧ x' < 18446744073709551616) (hk : x' ≠ 0 → kindM (lo8 (flg x')) = 2) :
    ChangeOK n L rt nt ws s vpn x' (changeS n (rt s) vpn x' (ws, ps, nt s)) := by
  obtain ⟨ro, v⟩ := v
  obtain ⟨l2, l1, l0⟩ := ix_lt vpn
  obtain ⟨m, l, hm, hl, hp, hx, hkx, rm, rl⟩ := findS_at v.iv hs hf
  unfold changeS
  simp only
  rw [hp]
  simp only
  by_cases h0 : x' = 0
  · rw [if_pos h0]
    obtain ⟨v1, W, P⟩ := v.leaf (ex' := fun j => j = l) rl l0 hr hk (fun j hj => False.elim hj) (.inl rfl)
    have ml : m ≠ l := fun e => by rw [e, rl] at rm; simp at rm
    have rl' : rt s ≠ l := fun e => by have := v.iv.rt1 s hs; rw [e, rl] at this; simp at this
    obtain ⟨s', hs', wd, P1⟩ := v1.tidy (vpn := vpn) hs (by rw [W _ _ l2, if_neg (fun e => rl' e.1)]; exact hm) (by rw [W _ _ l1, if_neg (fun e => ml e.1)]; exact hl) (fun j hj => hj)
    rw [hs']
    exact ⟨wd, fun s1 a b c h1 ha hb hc => by rw [P1 s1 a b c h1 ha hb hc, P s1 a b c h1 ha hb hc]⟩
  · rw [if_neg h0]
    obtain ⟨v1, W, P⟩ := v.leaf (ex' := fun _ => False) rl l0 hr hk (fun j hj => False.elim hj) (.inr h0)
    exact ⟨⟨ro, by simp only; rw [setN_self]; exact v1⟩, P⟩
theorem placeS_range {n : Nat} {ws : List Int} {root vpn : Int} {p : Nat × Nat} (h : placeS n ws root vpn = some p) : 0 ≤ vpn ∧ vpn < 134217728 := by
  unfold placeS at h
  split at h
  · rename_i hh; exact hh.2.2
  · cases h
/-- A page's entry, or 0. -/
def pgv (n : Nat) (ws : List Int) (r : Nat) (vpn : Int) : Int := if 0 ≤ vpn ∧ vpn < 134217728 then pgW n ws r (ix2 vpn) (ix1 vpn) (ix0 vpn) else 0
theorem Wd.find (v : Wd n L rt nt ws ps) {s : Nat} (hs : L s = true) (vpn : Int) : findS n ws (rt s) vpn = if pgv n ws (rt s) vpn = 0 then none else some (pgv n ws (rt s) vpn) := by
  obtain ⟨ro, v⟩ := v
  unfold pgv
  by_cases h : 0 ≤ vpn ∧ vpn < 134217728
  · rw [if_pos h]; exact v.iv.find hs h
  · rw [if_neg h, if_pos rfl]
    cases hf : findS n ws (rt s) vpn with
    | none => rfl
    | some x =>
      obtain ⟨f, i, hp, _⟩ := findS_some hf
      exact absurd (placeS_range hp) h
theorem ix_inj {a b : Int} (ha : 0 ≤ a ∧ a < 134217728) (hb : 0 ≤ b ∧ b < 134217728) (h : ix2 a = ix2 b ∧ ix1 a = ix1 b ∧ ix0 a = ix0 b) : a = b := by
  unfold ix2 ix1 ix0 at h; omega
/-- Pages by their numbers. -/
theorem pgv_of {n : Nat} {ws ws' : List Int} {rt : Nat → Nat} {L : Nat → Bool} {s : Nat} {vpn x : Int} (hv : 0 ≤ vpn ∧ vpn < 134217728)
    (h : ∀ s1 a b c, L s1 = true → a < 512 → b < 512 → c < 512 → pgW n ws' (rt s1) a b c = if s1 = s ∧ a = ix2 vpn ∧ b = ix1 vpn ∧ c = ix0 vpn then x else pgW n ws (rt s1) a b c) :
    ∀ s1 u, L s1 = true → pgv n ws' (rt s1) u = if s1 = s ∧ u = vpn then x else pgv n ws (rt s1) u := by
  intro s1 u h1
  unfold pgv
  obtain ⟨l2, l1, l0⟩ := ix_lt u
  by_cases hu : 0 ≤ u ∧ u < 134217728
  · rw [if_pos hu, if_pos hu, h s1 _ _ _ h1 l2 l1 l0]
    by_cases e : s1 = s ∧ u = vpn
    · rw [if_pos e, if_pos ⟨e.1, by rw [e.2], by rw [e.2], by rw [e.2]⟩]
    · rw [if_neg e, if_neg (fun x => e ⟨x.1, ix_inj hu hv x.2⟩)]
  · rw [if_neg hu, if_neg hu, if_neg]
    rintro ⟨_, rfl⟩; exact hu hv
theorem pgv_same {n : Nat} {ws ws' : List Int} {rt : Nat → Nat} {L : Nat → Bool} (h : ∀ s1 a b c, L s1 = true → a < 512 → b < 512 → c < 512 → pgW n ws' (rt s1) a b c = pgW n ws (rt s1) a b c) :
    ∀ s1 u, L s1 = true → pgv n ws' (rt s1) u = pgv n ws (rt s1) u := by
  intro s1 u h1
  unfold pgv
  obtain ⟨l2, l1, l0⟩ := ix_lt u
  rw [h s1 _ _ _ h1 l2 l1 l0]
/-- What an act on one page leaves. -/
structure ActOK (n : Nat) (L : Nat → Bool) (rt : Nat → Nat) (nt : Nat → Int) (ws : List Int) (s : Nat) (vpn x : Int) (s' : PS) : Prop where
  wd : Wd n L rt (setN nt s s'.2.2) s'.1 s'.2.1
  pg : ∀ s1 u, L s1 = true → pgv n s'.1 (rt s1) u = if s1 = s ∧ u = vpn then x else pgv n ws (rt s1) u
theorem ActOK.nop (v : Wd n L rt nt ws ps) {s : Nat} {vpn x : Int} (hx : pgv n ws (rt s) vpn = x) : ActOK n L rt nt ws s vpn x (ws, ps, nt s) :=
  ⟨by simp only; rw [setN_self]; exact v, fun s1 u h1 => by
    by_cases e : s1 = s ∧ u = vpn
    · rw [if_pos e, e.1, e.2]; exact hx
    · rw [if_neg e]⟩
theorem pgv_ne {n : Nat} {ws : List Int} {r : Nat} {vpn : Int} (h : pgv n ws r vpn ≠ 0) : 0 ≤ vpn ∧ vpn < 134217728 := by
  unfold pgv at h
  split at h
  · assumption
  · exact absurd rfl h
theorem Wd.kind (v : Wd n L rt nt ws ps) {s : Nat} {vpn : Int} (hs : L s = true) (h : pgv n ws (rt s) vpn ≠ 0) : kindM (lo8 (flg (pgv n ws (rt s) vpn))) = 2 := by
  have := v.find hs vpn
  rw [if_neg h] at this
  obtain ⟨f, i, _, _, hk⟩ := findS_some this
  exact hk
theorem Wd.chg (v : Wd n L rt nt ws ps) {s : Nat} {vpn x' : Int} (hs : L s = true) (hne : pgv n ws (rt s) vpn ≠ 0) (hr : 0 ≤ x' ∧ x' < 18446744073709551616) (hk : x' ≠ 0 → kindM (lo8 (flg x')) = 2) :
    ActOK n L rt nt ws s vpn x' (changeS n (rt s) vpn x' (ws, ps, nt s)) := by
  have hf := v.find hs vpn
  rw [if_neg hne] at hf
  have c := v.change hs hf hr hk
  exact ⟨c.wd, pgv_of (pgv_ne hne) c.pg⟩
/-- Remove. -/
theorem Wd.remove (v : Wd n L rt nt ws ps) {s : Nat} (hs : L s = true) (vpn : Int) :
    ∃ s', removeS n (rt s) vpn (ws, ps, nt s) = (decide (pgv n ws (rt s) vpn ≠ 0), s') ∧ ActOK n L rt nt ws s vpn 0 s' := by
  unfold removeS
  simp only
  rw [v.find hs vpn]
  by_cases h : pgv n ws (rt s) vpn = 0
  · rw [if_pos h]
    exact ⟨_, by rw [decide_eq_false (fun x => x h)], ActOK.nop v h⟩
  · rw [if_neg h]
    exact ⟨_, by rw [decide_eq_true h], v.chg hs h (by omega) (fun x => absurd rfl x)⟩
/-- Its entry under other rights. -/
def proV (prot v : Int) : Int := if v = 0 then 0 else if flagsN (lo3 prot) true = 0 then 0 else encF (((flagsN (lo3 prot) true).toNat ||| (lo8 (flg v) &&& 192) : Nat) : Int) (ppn v)
theorem key_pro : ∀ m, m < 8 → ∀ y : Nat, y < 4 → flagsN m true ≠ 0 → kindM ((flagsN m true).toNat ||| (y * 64)) = 2 ∧ ((flagsN m true).toNat ||| (y * 64)) < 256 := by decide +kernel
theorem Wd.protect (v : Wd n L rt nt ws ps) {s : Nat} (hs : L s = true) (vpn prot : Int) :
    ∃ s', protectS n (rt s) vpn prot (ws, ps, nt s) = (decide (pgv n ws (rt s) vpn ≠ 0), s') ∧ ActOK n L rt nt ws s vpn (proV prot (pgv n ws (rt s) vpn)) s' := by
  unfold protectS proV
  by_cases hp : flagsN (lo3 prot) true = 0
  · rw [if_pos hp, if_pos hp]
    obtain ⟨s', h1, h2⟩ := v.remove hs vpn
    refine ⟨s', h1, ?_⟩
    split <;> exact h2
  · rw [if_neg hp, if_neg hp]
    simp only
    rw [v.find hs vpn]
    by_cases h : pgv n ws (rt s) vpn = 0
    · rw [if_pos h, if_pos h]
      exact ⟨_, by rw [decide_eq_false (fun x => x h)], ActOK.nop v h⟩
    · rw [if_neg h, if_neg h]
      refine ⟨_, by rw [decide_eq_true h], v.chg hs h (encF_range _ _) (fun _ => ?_)⟩
      rw [key_192 _ (lo8_lt _)]
      have h8 := lo8_lt (flg (pgv n ws (rt s) vpn))
      have := key_pro _ (lo3_lt prot) (lo8 (flg (pgv n ws (rt s) vpn)) / 64) (by omega) hp
      rw [lo8_of this.2]
      exact this.1
/-- Its entry without some flags. -/
def clrV (flags v : Int) : Int := if v = 0 then 0 else encF ((lo8 (flg v) - hadN (lo8 (flg v)) flags : Nat) : Int) (ppn v)
def hadV (flags v : Int) : Int := if v = 0 then 0 else (hadN (lo8 (flg v)) flags : Nat)
theorem key_clr2 : ∀ fl : Nat, fl < 256 → ∀ y : Nat, y < 4 → kindM fl = 2 → kindM (fl - (fl &&& (y * 64))) = 2 := by decide +kernel
theorem Wd.clear (v : Wd n L rt nt ws ps) {s : Nat} (hs : L s = true) (vpn flags : Int) :
    ∃ s', clearS n (rt s) vpn flags (ws, ps, nt s) = (hadV flags (pgv n ws (rt s) vpn), s') ∧ ActOK n L rt nt ws s vpn (clrV flags (pgv n ws (rt s) vpn)) s' := by
  unfold clearS clrV hadV
  simp only
  rw [v.find hs vpn]
  by_cases h : pgv n ws (rt s) vpn = 0
  · rw [if_pos h, if_pos h, if_pos h]
    exact ⟨_, rfl, ActOK.nop v h⟩
  · rw [if_neg h, if_neg h, if_neg h]
    refine ⟨_, rfl, v.chg hs h (encF_range _ _) (fun _ => ?_)⟩
    have hk := v.kind hs h
    have h8 := lo8_lt (flg (pgv n ws (rt s) vpn))
    have h1 := lo8_lt flags
    have := key_clr2 _ h8 (lo8 flags / 64) (by omega) hk
    rw [← hadN_eq] at this
    rw [lo8_of (by omega)]
    exact this
/-- Enter by page numbers. -/
theorem Wd.enter' (v : Wd n L rt nt ws ps) {s : Nat} {vpn frame prot asid : Int} (hs : L s = true) (hb : ¬ badE n vpn frame prot) :
    ∃ nd : Int, (0 ≤ nd ∧ nd ≤ 2) ∧ ((¬ hasT (pgW n ws (rt s)) (ix2 vpn) ∧ nd = 2) ∨ (hasT (pgW n ws (rt s)) (ix2 vpn) ∧ ¬ hasM (pgW n ws (rt s)) (ix2 vpn) (ix1 vpn) ∧ nd = 1) ∨ (hasM (pgW n ws (rt s)) (ix2 vpn) (ix1 vpn) ∧ nd = 0)) ∧
    ((nd ≤ cnt ps 0 n ∧ ∃ s', enterS n (rt s) asid vpn frame prot (ws, ps, nt s) = (0, s') ∧ ActOK n L rt nt ws s vpn (encF (flagsN (lo3 prot) true) frame) s' ∧ s'.2.2 = nt s + nd ∧
        (∀ s1 a b c, L s1 = true → a < 512 → b < 512 → c < 512 → pgW n s'.1 (rt s1) a b c = if s1 = s ∧ a = ix2 vpn ∧ b = ix1 vpn ∧ c = ix0 vpn then encF (flagsN (lo3 prot) true) frame else pgW n ws (rt s1) a b c)) ∨
     (cnt ps 0 n < nd ∧ ∃ ws' ps', enterS n (rt s) asid vpn frame prot (ws, ps, nt s) = (5, (ws', ps', nt s)) ∧ Wd n L rt nt ws' ps' ∧ cnt ps' 0 n = cnt ps 0 n ∧ cnt ps' 1 n = cnt ps 1 n ∧
       (∀ s1 u, L s1 = true → pgv n ws' (rt s1) u = pgv n ws (rt s1) u))) := by
  have hv : 0 ≤ vpn ∧ vpn < 134217728 := by unfold badE at hb; omega
  obtain ⟨nd, h1, h2⟩ := v.enter (asid := asid) hs hb
  refine ⟨nd, by rcases h1 with ⟨_, h⟩ | ⟨_, _, h⟩ | ⟨_, h⟩ <;> omega, h1, ?_⟩
  rcases h2 with ⟨hc, s', he, ok⟩ | ⟨hc, ws', ps', he, wd, c0, c1, P⟩
  · exact .inl ⟨hc, s', he, ⟨ok.wd, pgv_of hv ok.pg⟩, ok.nt, ok.pg⟩
  · exact .inr ⟨hc, ws', ps', he, wd, c0, c1, pgv_same P⟩
/-- All tables of all spaces. -/
def cntN (ro : Nat → Role) : Nat → Int
  | 0 => 0
  | k + 1 => cntN ro k + if (ro k).1 ≠ 0 then 1 else 0
theorem Inv0.c1 (v : Inv0 n L rt ro ws ps) : ∀ k, k ≤ n → cnt ps 1 k = cntN ro k ∧ cnt ps 0 k = k - cntN ro k := by
  intro k
  induction k with
  | zero => intro _; simp [cnt, cntN]
  | succ k ih =>
    intro hk
    obtain ⟨h1, h0⟩ := ih (by omega)
    simp only [cnt, cntN]
    rw [v.cls (show k < n by omega), h1, h0]
    by_cases e : (ro k).1 = 0
    · rw [if_pos e, if_neg (show ¬ (0 : Int) = 1 by decide), if_pos rfl, if_neg (fun x => x e)]; omega
    · rw [if_neg e, if_pos rfl, if_neg (show ¬ (1 : Int) = 0 by decide), if_pos e]; omega
theorem Inv0.own (v : Inv0 n L rt ro ws ps) {j : Nat} (h : (ro j).1 ≠ 0) : L (ro j).2.1 = true := by
  have h3 := v.kd j
  obtain ⟨⟨k, s, i, t⟩, he⟩ : ∃ x, ro j = x := ⟨_, rfl⟩
  rw [he] at h h3 ⊢
  simp only at h h3 ⊢
  have : k = 1 ∨ k = 2 ∨ k = 3 := by omega
  rcases this with rfl | rfl | rfl
  · exact (v.rt2 _ _ _ _ he).1
  · exact (v.md2 _ _ _ _ he).1
  · obtain ⟨_, m, hm, _⟩ := v.ls2 _ _ _ _ he
    exact (v.md2 _ _ _ _ hm).1
/-- One space: its tables are all. -/
theorem Wd.one (v : Wd n L rt nt ws ps) (h : ∀ s, L s = true ↔ s = 0) : cnt ps 1 n = nt 0 ∧ cnt ps 0 n = n - nt 0 := by
  obtain ⟨ro, v⟩ := v
  have : ∀ k, cntN ro k = cntR ro 0 k := by
    intro k
    induction k with
    | zero => rfl
    | succ k ih =>
      simp only [cntN, cntR]
      rw [ih]
      by_cases e : (ro k).1 = 0
      · rw [if_neg (fun x => x e), if_neg (fun x => x.1 e)]
      · rw [if_pos e, if_pos ⟨e, (h _).1 (v.iv.own e)⟩]
  have c := v.iv.c1 n (Nat.le_refl n)
  rw [this n, ← v.ct 0 ((h 0).2 rfl)] at c
  exact c
/-- Two spaces. -/
theorem Wd.two (v : Wd n L rt nt ws ps) (h : ∀ s, L s = true ↔ s = 0 ∨ s = 1) : cnt ps 1 n = nt 0 + nt 1 ∧ cnt ps 0 n = n - (nt 0 + nt 1) := by
  obtain ⟨ro, v⟩ := v
  have : ∀ k, cntN ro k = cntR ro 0 k + cntR ro 1 k := by
    intro k
    induction k with
    | zero => rfl
    | succ k ih =>
      simp only [cntN, cntR]
      rw [ih]
      by_cases e : (ro k).1 = 0
      · rw [if_neg (fun x => x e), if_neg (fun x => x.1 e), if_neg (fun x => x.1 e)]; omega
      · rw [if_pos e]
        rcases (h _).1 (v.iv.own e) with o | o
        · rw [if_pos ⟨e, o⟩, if_neg (fun x => by rw [o] at x; exact absurd x.2 (by decide))]; omega
        · rw [if_neg (fun x => by rw [o] at x; exact absurd x.2 (by decide)), if_pos ⟨e, o⟩]; omega
  have c := v.iv.c1 n (Nat.le_refl n)
  rw [this n, ← v.ct 0 ((h 0).2 (.inl rfl)), ← v.ct 1 ((h 1).2 (.inr rfl))] at c
  exact c
/-- No space. -/
theorem Wd.none' (v : Wd n L rt nt ws ps) (h : ∀ s, L s = false) : cnt ps 0 n = n := by
  obtain ⟨ro, v⟩ := v
  have : ∀ k, cntN ro k = 0 := by
    intro k
    induction k with
    | zero => rfl
    | succ k ih =>
      simp only [cntN]
      rw [ih]
      by_cases e : (ro k).1 = 0
      · rw [if_neg (fun x => x e)]; rfl
      · have := v.iv.own e
        rw [h] at this; cases this
  have c := (v.iv.c1 n (Nat.le_refl n)).2
  rw [this n] at c
  omega
/-- A space's count: at least the root, at most all. -/
theorem Wd.cntS (v : Wd n L rt nt ws ps) {s : Nat} (hs : L s = true) : 1 ≤ nt s ∧ nt s ≤ n := by
  obtain ⟨ro, v⟩ := v
  rw [v.ct s hs]
  refine ⟨?_, (cntR_range ro s n).2⟩
  have : ∀ k, rt s < k → 1 ≤ cntR ro s k := by
    intro k
    induction k with
    | zero => intro h; omega
    | succ k ih =>
      intro h
      simp only [cntR]
      by_cases e : rt s = k
      · have hc := (cntR_range ro s k).1
        rw [if_pos (by rw [← e, v.iv.rt1 s hs]; simp)]; omega
      · have := ih (by omega)
        by_cases e2 : (ro k).1 ≠ 0 ∧ (ro k).2.1 = s
        · rw [if_pos e2]; omega
        · rw [if_neg e2]; omega
  exact this n (v.iv.rlt hs)
/-- Without pages there is but the root. -/
theorem Wd.bare (v : Wd n L rt nt ws ps) {s : Nat} (hs : L s = true) (h : ∀ a b c, a < 512 → b < 512 → c < 512 → pgW n ws (rt s) a b c = 0) : nt s = 1 := by
  obtain ⟨ro, v⟩ := v
  have nt3 : ∀ j, (ro j).1 ≠ 0 → (ro j).2.1 = s → j = rt s := by
    intro j h0 hj
    have h3 := v.iv.kd j
    obtain ⟨⟨k, s', i, t⟩, he⟩ : ∃ x, ro j = x := ⟨_, rfl⟩
    rw [he] at h0 h3 hj
    simp only at h0 h3 hj
    subst hj
    have : k = 1 ∨ k = 2 ∨ k = 3 := by omega
    rcases this with rfl | rfl | rfl
    · exact (v.iv.rt2 _ _ _ _ he).2.1.symm
    · obtain ⟨_, hi, _, hl⟩ := v.iv.md2 _ _ _ _ he
      obtain ⟨b, c, hb, hc, hne⟩ := v.hasT hs hi hl
      exact absurd (h _ _ _ hi hb hc) hne
    · obtain ⟨ht, m, hm, hl2⟩ := v.iv.ls2 _ _ _ _ he
      obtain ⟨_, hi, _, hl⟩ := v.iv.md2 _ _ _ _ hm
      obtain ⟨c, hc, hne⟩ := v.hasM hs hi ht hl hl2
      exact absurd (h _ _ _ hi ht hc) hne
  have : ∀ k, cntR ro s k = if rt s < k then 1 else 0 := by
    intro k
    induction k with
    | zero => simp [cntR]
    | succ k ih =>
      simp only [cntR]
      rw [ih]
      by_cases e : k = rt s
      · subst e
        rw [if_neg (Nat.lt_irrefl _), if_pos (Nat.lt_succ_self _), if_pos (by rw [v.iv.rt1 s hs]; simp)]; rfl
      · rw [if_neg (show ¬ ((ro k).1 ≠ 0 ∧ (ro k).2.1 = s) from fun x => e (nt3 k x.1 x.2))]
        by_cases h2 : rt s < k
        · rw [if_pos h2, if_pos (show rt s < k + 1 by omega)]; rfl
        · rw [if_neg h2, if_neg (show ¬ rt s < k + 1 by omega)]; rfl
  rw [v.ct s hs, this n, if_pos (v.iv.rlt hs)]
end

/-- Where a world lies. -/
structure WK where
  bm : Nat
  bf : Nat
  bp : Nat
  pf : Nat
  n : Nat
  L : Nat → Bool
  rt : Nat → Nat
  bx : Nat → Nat
  ai : Nat → Int
structure WH (K : WK) (h0 h : H) (nt : Nat → Int) (ws ps : List Int) : Prop where
  pw : PW h K.bm K.bf K.bp K.pf K.n ws ps
  wd : Wd K.n K.L K.rt nt ws ps
  xm : ∀ s, K.L s = true → XM h (K.bx s) K.bm K.bp (K.ai s) (K.rt s) (nt s)
  nx : ∀ s, K.L s = true → K.bx s ≠ K.bm ∧ K.bx s ≠ K.bf ∧ K.bx s ≠ K.bp ∧ K.bx s ≠ K.pf
  ij : ∀ s t, K.L s = true → K.L t = true → K.bx s = K.bx t → s = t
  kp : Kept h0 h
  lo : h0.size ≤ K.bm ∧ h0.size ≤ K.bf ∧ h0.size ≤ K.bp ∧ h0.size ≤ K.pf
  lx : ∀ s, K.L s = true → h0.size ≤ K.bx s
/-- All spaces' pages but one are the same. -/
def PgSet (K : WK) (ws ws' : List Int) (s : Nat) (vpn x : Int) : Prop := ∀ s1 u, K.L s1 = true → pgv K.n ws' (K.rt s1) u = if s1 = s ∧ u = vpn then x else pgv K.n ws (K.rt s1) u
def PgSame (K : WK) (ws ws' : List Int) : Prop := ∀ s1 u, K.L s1 = true → pgv K.n ws' (K.rt s1) u = pgv K.n ws (K.rt s1) u
theorem zGF (n : Nat) : GF (List.replicate (5 * n) 0) n := by
  have z : ∀ k, (List.replicate (5 * n) (0 : Int)).getD k 0 = 0 := by
    intro k
    rw [List.getD_eq_getElem?_getD, List.getElem?_replicate]
    split <;> rfl
  refine ⟨fun j _ => by rw [z]; omega, fun j _ _ => ?_, fun j _ => by rw [z]; omega, fun j _ => by rw [z]; omega⟩
  unfold z5
  rw [z, z, z, z, z]; rfl
/-- No space yet. -/
theorem Wd.zero {n : Nat} {ws : List Int} (o : OkW n ws) (L : Nat → Bool) (hL : ∀ s, L s = false) (rt : Nat → Nat) (nt : Nat → Int) : Wd n L rt nt ws (List.replicate (5 * n) 0) := by
  have z : ∀ k, (List.replicate (5 * n) (0 : Int)).getD k 0 = 0 := by
    intro k
    rw [List.getD_eq_getElem?_getD, List.getElem?_replicate]
    split <;> rfl
  refine ⟨fun _ => (0, 0, 0, 0), ⟨o, zGF n, by simp, ?_, ?_, ?_, ?_, ?_, ?_, ?_, ?_, ?_, ?_, ?_, ?_, ?_⟩, ?_, ?_⟩
  · intro j _ _; unfold z5; rw [z, z, z, z, z]; rfl
  · intro j _ h; exact absurd rfl h
  · intro j _; rfl
  · intro s h; rw [hL] at h; cases h
  · intro j s i k h; simp at h
  · intro s i j h; rw [hL] at h; cases h
  · intro j s i k h; simp at h
  · intro m s i k j h; simp at h
  · intro j s i k h; simp at h
  · intro s i h; rw [hL] at h; cases h
  · intro m s i k h; simp at h
  · intro l s i k t h; simp at h
  · intro j; simp
  · intro m h; simp at h
  · intro s h; rw [hL] at h; cases h
def addL (L : Nat → Bool) (s : Nat) : Nat → Bool := fun j => if j = s then true else L j
def setA (f : Nat → Nat) (s x : Nat) : Nat → Nat := fun j => if j = s then x else f j
section
variable {n : Nat} {L : Nat → Bool} {rt : Nat → Nat} {nt : Nat → Int} {ro : Nat → Role} {ex : Nat → Prop} {ws ps : List Int}
/-- A space more. -/
theorem Wd.new (v : Wd n L rt nt ws ps) {s r : Nat} {asid : Int} {x : PS} (h0 : L s = false) (h : newS n asid ws ps = some (r, x)) :
    Wd n (addL L s) (setA rt s r) (setN nt s 1) x.1 x.2.1 ∧ x.2.2 = 1 ∧ cnt x.2.1 0 n = cnt ps 0 n - 1 ∧ cnt x.2.1 1 n = cnt ps 1 n + 1 ∧ (∀ s1 u, L s1 = true → pgv n x.1 (rt s1) u = pgv n ws (rt s1) u) ∧ (∀ u, pgv n x.1 r u = 0) ∧
      (∀ a b c, a < 512 → b < 512 → c < 512 → pgW n x.1 r a b c = 0) := by
  obtain ⟨ro, v⟩ := v
  unfold newS at h
  split at h
  · cases h
  rename_i hc
  simp only [Option.some.injEq, Prod.mk.injEq] at h
  obtain ⟨rfl, rfl⟩ := h
  have hf := fst0_lt v.iv.gf hc
  have hfr := v.iv.z5 hf.1 hf.2
  have V := v.iv
  generalize fst0 ps n = r at *
  have hr := hf.1
  have hb5 : 5 * r + 5 ≤ ps.length := by rw [V.len]; omega
  have W : ∀ j t, t < 512 → wat (zeroW ws r) j t = if j = r then 0 else wat ws j t := by
    intro j t ht
    rw [wat_zero V.ok hr ht]
    by_cases e : r = j
    · rw [if_pos e, if_pos e.symm]
    · rw [if_neg e, if_neg (fun x => e x.symm)]
  have S0 : setR ro r (1, s, 0, 0) r = (1, s, 0, 0) := by unfold setR; rw [if_pos rfl]
  have S1 : ∀ j, j ≠ r → setR ro r (1, s, 0, 0) j = ro j := fun j h => by unfold setR; rw [if_neg h]
  have R0 : setA rt s r s = r := by unfold setA; rw [if_pos rfl]
  have R1 : ∀ t, t ≠ s → setA rt s r t = rt t := fun t h => by unfold setA; rw [if_neg h]
  have L0 : addL L s s = true := by unfold addL; rw [if_pos rfl]
  have L1 : ∀ t, t ≠ s → addL L s t = L t := fun t h => by unfold addL; rw [if_neg h]
  have LL : ∀ t, L t = true → t ≠ s := fun t h e => by rw [e, h0] at h; cases h
  have own : ∀ j, (ro j).1 ≠ 0 → (ro j).2.1 ≠ s := fun j h => LL _ (V.own h)
  have rtr : ∀ t, L t = true → rt t ≠ r := fun t h e => by have := V.rt1 t h; rw [e] at this; rw [this] at hfr; simp at hfr
  have nr : ∀ j x, ro j = x → x.1 ≠ 0 → j ≠ r := fun j x h hx e => by rw [e] at h; rw [h] at hfr; exact hx hfr
  refine ⟨⟨setR ro r (1, s, 0, 0), ⟨V.ok.zero hr, V.gf.set5 V.len hr (by omega) (fun e => by omega), by rw [set5_len]; exact V.len, ?_, ?_, ?_, ?_, ?_, ?_, ?_, ?_, ?_, ?_, ?_, ?_, ?_⟩, ?_, ?_⟩, rfl, ?_, ?_, ?_, ?_, ?_⟩
  · intro j hj h
    by_cases e : j = r
    · subst e; rw [S0] at h; simp at h
    · rw [S1 j e] at h
      simp only
      rw [set5_z5 _ _ _ _ _ _ _ _ hb5, if_neg e]; exact V.fr j hj h
  · intro j hj h
    have g0 : ∀ t, t < 5 → (set5 ps r 1 asid 0 0 0).getD (5 * j + t) 0 = if j = r then [1, asid, 0, 0, 0].getD t 0 else ps.getD (5 * j + t) 0 := fun t ht => set5_get ps r j t 1 asid 0 0 0 hb5 ht
    have g00 := g0 0 (by omega)
    rw [Nat.add_zero] at g00
    simp only
    rw [g00, g0 3 (by omega), g0 4 (by omega)]
    by_cases e : j = r
    · rw [if_pos e, if_pos e, if_pos e]; simp
    · rw [S1 j e] at h
      rw [if_neg e, if_neg e, if_neg e]; exact V.tb j hj h
  · intro j hj
    rw [S1 j (by omega)]; exact V.out j hj
  · intro t h
    by_cases e : t = s
    · subst e; rw [R0, S0]
    · rw [L1 t e] at h
      rw [R1 t e, S1 _ (rtr t h)]; exact V.rt1 t h
  · intro j t i k h
    by_cases e : j = r
    · subst e
      rw [S0] at h
      simp only [Prod.mk.injEq, true_and] at h
      obtain ⟨rfl, rfl, rfl⟩ := h
      exact ⟨L0, R0, rfl, rfl⟩
    · rw [S1 j e] at h
      obtain ⟨h1, h2, h3⟩ := V.rt2 j t i k h
      exact ⟨by rw [L1 t (LL t h1)]; exact h1, by rw [R1 t (LL t h1)]; exact h2, h3⟩
  · intro t i j h hi hl
    simp only at hl
    rw [W _ _ hi] at hl
    by_cases e : t = s
    · subst e; rw [R0, if_pos rfl, lead0] at hl; cases hl
    · rw [L1 t e] at h
      rw [R1 t e, if_neg (rtr t h)] at hl
      have := V.md1 t i j h hi hl
      rw [S1 j (nr j _ this (by simp))]; exact this
  · intro j t i k h
    by_cases e : j = r
    · subst e; rw [S0] at h; simp at h
    · rw [S1 j e] at h
      obtain ⟨h1, h2, h3, h4⟩ := V.md2 j t i k h
      exact ⟨by rw [L1 t (LL t h1)]; exact h1, h2, h3, by simp only; rw [W _ _ h2, R1 t (LL t h1), if_neg (rtr t h1)]; exact h4⟩
  · intro m t i k j h hk hl
    simp only at hl
    rw [W _ _ hk] at hl
    by_cases e : m = r
    · rw [if_pos e, lead0] at hl; cases hl
    · rw [if_neg e] at hl
      rw [S1 m e] at h
      have := V.ls1 m t i k j h hk hl
      rw [S1 j (nr j _ this (by simp))]; exact this
  · intro j t i k h
    by_cases e : j = r
    · subst e; rw [S0] at h; simp at h
    · rw [S1 j e] at h
      obtain ⟨h1, m, h2, h3⟩ := V.ls2 j t i k h
      have hm := nr m _ h2 (by simp)
      exact ⟨h1, m, by rw [S1 m hm]; exact h2, by simp only; rw [W _ _ h1, if_neg hm]; exact h3⟩
  · intro t i h hi hl
    simp only at hl ⊢
    rw [W _ _ hi] at hl ⊢
    by_cases e : t = s
    · subst e; rw [R0, if_pos rfl]
    · rw [L1 t e] at h
      rw [R1 t e, if_neg (rtr t h)] at hl ⊢
      exact V.z2 t i h hi hl
  · intro m t i k h hk hl
    simp only at hl ⊢
    rw [W _ _ hk] at hl ⊢
    by_cases e : m = r
    · rw [if_pos e]
    · rw [if_neg e] at hl ⊢
      rw [S1 m e] at h
      exact V.z1 m t i k h hk hl
  · intro l t i k u h hu hne
    simp only at hne ⊢
    rw [W _ _ hu] at hne ⊢
    by_cases e : l = r
    · rw [if_pos e] at hne; exact absurd rfl hne
    · rw [if_neg e] at hne ⊢
      rw [S1 l e] at h
      exact V.lf l t i k u h hu hne
  · intro j
    by_cases e : j = r
    · subst e; rw [S0]; simp
    · rw [S1 j e]; exact V.kd j
  · intro m h _
    by_cases e : m = r
    · subst e; rw [S0] at h; simp at h
    · rw [S1 m e] at h
      obtain ⟨t, ht, hw⟩ := v.nb m h (fun x => x)
      exact ⟨t, ht, by simp only; rw [W _ _ ht, if_neg e]; exact hw⟩
  · intro t h
    rw [cntR_set, if_pos hr]
    unfold setN
    by_cases e : t = s
    · subst e
      have : cntR ro t n = 0 := by
        have : ∀ k, cntR ro t k = 0 := by
          intro k
          induction k with
          | zero => rfl
          | succ k ih =>
            simp only [cntR]
            rw [ih, if_neg (fun x => own k x.1 x.2)]; rfl
        exact this n
      rw [if_pos rfl, this, if_pos ⟨by simp, rfl⟩, if_neg (fun x => x.1 hfr)]; rfl
    · rw [L1 t e] at h
      rw [if_neg e, if_neg (fun x => e x.2.symm), if_neg (fun x => x.1 hfr), v.ct t h]; omega
  · have c0 := V.cls hr
    rw [if_pos hfr] at c0
    simp only
    rw [cnt_set5 V.len hr _ _ _ _ _ _ n (Nat.le_refl n), if_pos hr, c0]
    simp; omega
  · have c0 := V.cls hr
    rw [if_pos hfr] at c0
    simp only
    rw [cnt_set5 V.len hr _ _ _ _ _ _ n (Nat.le_refl n), if_pos hr, c0]
    simp
  · intro t u h
    unfold pgv pgW
    obtain ⟨l2, l1, l0⟩ := ix_lt u
    simp only
    rw [W _ _ l2, if_neg (rtr t h)]
    cases hm : lead n (wat ws (rt t) (ix2 u)) with
    | none => rfl
    | some m =>
      have rm := V.md1 _ _ _ h l2 hm
      simp only
      rw [W _ _ l1, if_neg (nr m _ rm (by simp))]
      cases hl : lead n (wat ws m (ix1 u)) with
      | none => rfl
      | some l =>
        have rl := V.ls1 _ _ _ _ _ rm l1 hl
        simp only
        rw [W _ _ l0, if_neg (nr l _ rl (by simp))]
  · intro u
    unfold pgv pgW
    obtain ⟨l2, l1, l0⟩ := ix_lt u
    simp only
    rw [W _ _ l2, if_pos rfl, lead0]
    simp
  · intro a b c ha hb hc
    unfold pgW
    simp only
    rw [W _ _ ha, if_pos rfl, lead0]
end
section
variable {K : WK} {h0 h : H} {nt : Nat → Int} {ws ps : List Int}
theorem WH.kept {h' : H} (w : WH K h0 h nt ws ps) (k : Kept h h') : WH K h0 h' nt ws ps := ⟨w.pw.kept k, w.wd, fun s hs => ⟨k.blk (w.xm s hs).cells⟩, w.nx, w.ij, w.kp.trans k, w.lo, w.lx⟩
theorem WH.w1 (w : WH K h0 h nt ws ps) {s : Nat} (hs : K.L s = true) : W1 h K.bm K.bf K.bp K.pf (K.bx s) K.n (K.ai s) (K.rt s) (ws, ps, nt s) :=
  ⟨w.pw, w.xm s hs, (w.nx s hs).1, (w.nx s hs).2.1, (w.nx s hs).2.2.1, (w.nx s hs).2.2.2⟩
theorem WH.nle (w : WH K h0 h nt ws ps) : K.n ≤ 256 := w.pw.mw.ok.le
theorem WH.cnt (w : WH K h0 h nt ws ps) {s : Nat} (hs : K.L s = true) : 0 < nt s ∧ nt s ≤ 256 := by
  have := w.wd.cntS hs; have := w.nle; omega
theorem WH.rlt (w : WH K h0 h nt ws ps) {s : Nat} (hs : K.L s = true) : K.rt s < K.n := by
  obtain ⟨ro, v⟩ := w.wd; exact v.iv.rlt hs
theorem WH.upd {h' : H} {s' : PS} (w : WH K h0 h nt ws ps) {s : Nat} (hs : K.L s = true) (k : KL h (L3b K.bf K.pf (K.bx s)) h') (w1 : W1 h' K.bm K.bf K.bp K.pf (K.bx s) K.n (K.ai s) (K.rt s) s')
    (wd : Wd K.n K.L K.rt (setN nt s s'.2.2) s'.1 s'.2.1) : WH K h0 h' (setN nt s s'.2.2) s'.1 s'.2.1 := by
  refine ⟨w1.pw, wd, fun t ht => ?_, w.nx, w.ij, k.kept w.kp ?_, w.lo, w.lx⟩
  · by_cases e : t = s
    · subst e; rw [setN_at]; exact w1.xm
    · have hn := w.nx t ht
      have : setN nt s s'.2.2 t = nt t := by unfold setN; rw [if_neg e]
      rw [this]
      refine ⟨k.blk (w.xm t ht).cells ?_⟩
      simp only [L3b, List.mem_cons, List.not_mem_nil, or_false, not_or]
      exact ⟨hn.2.1, hn.2.2.2, fun x => e (w.ij t s ht hs x)⟩
  · intro b hb
    simp only [L3b, List.mem_cons, List.not_mem_nil, or_false] at hb
    have := w.lo
    have := w.lx s hs
    rcases hb with rfl | rfl | rfl <;> omega
theorem Q132 {s : Nat} {Q : Int → H → Prop} (w : WH K h0 h nt ws ps) (hs : K.L s = true) (q : Q (nt s) h) : F132 (some ⟨K.bx s, 0, none⟩) Q h := P132 (w.w1 hs) (w.cnt hs).1 q
theorem Q136 {s : Nat} {Q : Int → H → Prop} (w : WH K h0 h nt ws ps) (hs : K.L s = true) (q : Q (K.rt s : Int) h) : F136 (some ⟨K.bx s, 0, none⟩) Q h := P136 (w.w1 hs) (w.cnt hs).1 q
theorem Q131 {s : Nat} {vpn : Int} {Q : Int → Int → Bool → H → Prop} (w : WH K h0 h nt ws ps) (hs : K.L s = true)
    (q : ∀ h', WH K h0 h' nt ws ps → Kept h h' → Q (flg (pgv K.n ws (K.rt s) vpn)) (ppn (pgv K.n ws (K.rt s) vpn)) (decide (pgv K.n ws (K.rt s) vpn ≠ 0)) h') : F131 (some ⟨K.bx s, 0, none⟩) vpn Q h := by
  refine P131 (w.w1 hs) (w.cnt hs).1 fun h' k => ?_
  simp only
  rw [w.wd.find hs vpn]
  have q := q h' (w.kept k) k
  by_cases e : pgv K.n ws (K.rt s) vpn = 0
  · rw [decide_eq_false (fun x => x e), e] at q
    rw [if_pos e]; exact q
  · rw [decide_eq_true e] at q
    rw [if_neg e]; exact q
theorem Q134 {s : Nat} {vpn : Int} {Q : Bool → H → Prop} (w : WH K h0 h nt ws ps) (hs : K.L s = true)
    (q : ∀ h' nt' ws' ps', WH K h0 h' (setN nt s nt') ws' ps' → PgSet K ws ws' s vpn 0 → KL h (L3b K.bf K.pf (K.bx s)) h' → Q (decide (pgv K.n ws (K.rt s) vpn ≠ 0)) h') : F134 (some ⟨K.bx s, 0, none⟩) vpn Q h := by
  refine P134 (w.w1 hs) (w.cnt hs).1 (w.rlt hs) (by have := w.cnt hs; simp only; omega) fun h' r s' e k w1 => ?_
  obtain ⟨s2, e2, ok⟩ := w.wd.remove hs vpn
  rw [e2] at e
  simp only [Prod.mk.injEq] at e
  obtain ⟨rfl, rfl⟩ := e
  exact q h' _ _ _ (w.upd hs k w1 ok.wd) ok.pg k
theorem Q137 {s : Nat} {vpn prot : Int} {Q : Bool → H → Prop} (w : WH K h0 h nt ws ps) (hs : K.L s = true)
    (q : ∀ h' nt' ws' ps', WH K h0 h' (setN nt s nt') ws' ps' → PgSet K ws ws' s vpn (proV prot (pgv K.n ws (K.rt s) vpn)) → KL h (L3b K.bf K.pf (K.bx s)) h' → Q (decide (pgv K.n ws (K.rt s) vpn ≠ 0)) h') : F137 (some ⟨K.bx s, 0, none⟩) vpn prot Q h := by
  refine P137 (w.w1 hs) (w.cnt hs).1 (w.rlt hs) (by have := w.cnt hs; simp only; omega) fun h' r s' e k w1 => ?_
  obtain ⟨s2, e2, ok⟩ := w.wd.protect hs vpn prot
  rw [e2] at e
  simp only [Prod.mk.injEq] at e
  obtain ⟨rfl, rfl⟩ := e
  exact q h' _ _ _ (w.upd hs k w1 ok.wd) ok.pg k
theorem Q138 {s : Nat} {vpn flags : Int} {Q : Int → H → Prop} (w : WH K h0 h nt ws ps) (hs : K.L s = true)
    (q : ∀ h' nt' ws' ps', WH K h0 h' (setN nt s nt') ws' ps' → PgSet K ws ws' s vpn (clrV flags (pgv K.n ws (K.rt s) vpn)) → KL h (L3b K.bf K.pf (K.bx s)) h' → Q (hadV flags (pgv K.n ws (K.rt s) vpn)) h') : F138 (some ⟨K.bx s, 0, none⟩) vpn flags Q h := by
  refine P138 (w.w1 hs) (w.cnt hs).1 (w.rlt hs) (by have := w.cnt hs; simp only; omega) fun h' r s' e k w1 => ?_
  obtain ⟨s2, e2, ok⟩ := w.wd.clear hs vpn flags
  rw [e2] at e
  simp only [Prod.mk.injEq] at e
  obtain ⟨rfl, rfl⟩ := e
  exact q h' _ _ _ (w.upd hs k w1 ok.wd) ok.pg k
/-- How many tables an Enter needs. -/
def Need (K : WK) (ws : List Int) (s : Nat) (vpn nd : Int) : Prop :=
  (¬ hasT (pgW K.n ws (K.rt s)) (ix2 vpn) ∧ nd = 2) ∨ (hasT (pgW K.n ws (K.rt s)) (ix2 vpn) ∧ ¬ hasM (pgW K.n ws (K.rt s)) (ix2 vpn) (ix1 vpn) ∧ nd = 1) ∨ (hasM (pgW K.n ws (K.rt s)) (ix2 vpn) (ix1 vpn) ∧ nd = 0)
def leafV (prot frame : Int) : Int := encF (flagsN (lo3 prot) true) frame
theorem leafV_ne {prot : Int} (h : 1 ≤ prot ∧ prot ≤ 7) (frame : Int) : leafV prot frame ≠ 0 := by
  have hlo : 1 ≤ lo3 prot ∧ lo3 prot < 8 := by have := lo3_lt prot; refine ⟨?_, this⟩; unfold lo3; omega
  obtain ⟨f1, f2, f3⟩ := flagsK (lo3 prot) hlo.2 hlo.1
  unfold leafV
  rw [f3]; exact enc_ne (by omega) (kind2_ne f1) _
theorem Q130 {s : Nat} {vpn frame prot : Int} {Q : Int → H → Prop} (w : WH K h0 h nt ws ps) (hs : K.L s = true)
    (q2 : ∀ h', badE K.n vpn frame prot → WH K h0 h' nt ws ps → KL h (L3b K.bf K.pf (K.bx s)) h' → Q 2 h')
    (q0 : ∀ h' nd ws' ps', ¬ badE K.n vpn frame prot → 0 ≤ nd ∧ nd ≤ 2 → Need K ws s vpn nd → nd ≤ cnt ps 0 K.n → WH K h0 h' (setN nt s (nt s + nd)) ws' ps' → PgSet K ws ws' s vpn (leafV prot frame) →
       (∀ s1 a b c, K.L s1 = true → a < 512 → b < 512 → c < 512 → pgW K.n ws' (K.rt s1) a b c = if s1 = s ∧ a = ix2 vpn ∧ b = ix1 vpn ∧ c = ix0 vpn then leafV prot frame else pgW K.n ws (K.rt s1) a b c) → KL h (L3b K.bf K.pf (K.bx s)) h' → Q 0 h')
    (q5 : ∀ h' nd ws' ps', ¬ badE K.n vpn frame prot → 0 ≤ nd ∧ nd ≤ 2 → Need K ws s vpn nd → cnt ps 0 K.n < nd → WH K h0 h' nt ws' ps' → cnt ps' 0 K.n = cnt ps 0 K.n → PgSame K ws ws' → KL h (L3b K.bf K.pf (K.bx s)) h' → Q 5 h') :
    F130 (some ⟨K.bx s, 0, none⟩) vpn frame prot Q h := by
  refine P130 (w.w1 hs) (w.cnt hs).1 (w.rlt hs) (by have := w.cnt hs; simp only; omega) fun h' e s' he k w1 => ?_
  by_cases hb : badE K.n vpn frame prot
  · unfold enterS at he
    rw [if_pos hb] at he
    simp only [Prod.mk.injEq] at he
    obtain ⟨rfl, rfl⟩ := he
    have := w.upd hs k w1 (by simp only; rw [setN_self]; exact w.wd)
    simp only at this
    rw [setN_self] at this
    exact q2 h' hb this k
  · obtain ⟨nd, h2, hn, hh⟩ := w.wd.enter' (asid := K.ai s) (frame := frame) (prot := prot) hs hb
    rcases hh with ⟨hc, s2, e2, ok, hnt, hpg⟩ | ⟨hc, ws', ps', e2, wd, c0, c1, P⟩
    · rw [e2] at he
      simp only [Prod.mk.injEq] at he
      obtain ⟨rfl, rfl⟩ := he
      have := w.upd hs k w1 ok.wd
      rw [hnt] at this
      exact q0 h' nd _ _ hb h2 hn hc this ok.pg hpg k
    · rw [e2] at he
      simp only [Prod.mk.injEq] at he
      obtain ⟨rfl, rfl⟩ := he
      have := w.upd hs k w1 (by simp only; rw [setN_self]; exact wd)
      simp only at this
      rw [setN_self] at this
      exact q5 h' nd _ _ hb h2 hn hc this c0 P k
/-- The world with one space more. -/
def WK.add (K : WK) (s r b : Nat) (a : Int) : WK := { K with L := addL K.L s, rt := setA K.rt s r, bx := setA K.bx s b, ai := setN K.ai s a }
theorem Q128x {s : Nat} {asid : Int} {Q : Option Addr → Int → H → Prop} (w : WH K h0 h nt ws ps) (h1 : 1 ≤ K.n) (hs : K.L s = false)
    (q5 : ∀ h', cnt ps 0 K.n ≤ 0 → WH K h0 h' nt ws ps → KL h [K.bf, K.pf] h' → newS K.n asid ws ps = none → Q none 5 h')
    (q0 : ∀ b r h' ws' ps', 0 < cnt ps 0 K.n → h.size ≤ b → WH (K.add s r b asid) h0 h' (setN nt s 1) ws' ps' → cnt ps' 0 K.n = cnt ps 0 K.n - 1 → cnt ps' 1 K.n = cnt ps 1 K.n + 1 → PgSame K ws ws' → (∀ u, pgv K.n ws' r u = 0) →
      (∀ a b c, a < 512 → b < 512 → c < 512 → pgW K.n ws' r a b c = 0) → KL h [K.bf, K.pf] h' → newS K.n asid ws ps = some (r, (ws', ps', 1)) → Q (some ⟨b, 0, none⟩) 0 h') :
    F128 (some ⟨K.bm, 0, none⟩) (some ⟨K.bp, 0, none⟩) asid Q h := by
  have lo2 : ∀ b ∈ [K.bf, K.pf], h0.size ≤ b := by
    intro b hb
    simp only [List.mem_cons, List.not_mem_nil, or_false] at hb
    have := w.lo
    rcases hb with rfl | rfl <;> omega
  have xk : ∀ h', KL h [K.bf, K.pf] h' → ∀ t, K.L t = true → XM h' (K.bx t) K.bm K.bp (K.ai t) (K.rt t) (nt t) := fun h' k t ht => by
    have hn := w.nx t ht
    refine ⟨k.blk (w.xm t ht).cells ?_⟩
    simp only [List.mem_cons, List.not_mem_nil, or_false, not_or]
    exact ⟨hn.2.1, hn.2.2.2⟩
  refine P128 w.pw h1 (fun h' hn k pw => ?_) fun bx h' r s1 hn hr hb k w1 => ?_
  · refine q5 h' ?_ ⟨pw, w.wd, xk h' k, w.nx, w.ij, k.kept w.kp lo2, w.lo, w.lx⟩ k hn
    unfold newS at hn
    split at hn
    · assumption
    · cases hn
  · obtain ⟨wd, hnt, c0, c1, P, P0, P00⟩ := w.wd.new hs hn
    have hc : 0 < cnt ps 0 K.n := by
      unfold newS at hn
      split at hn
      · cases hn
      · omega
    have old : ∀ t, K.L t = true → K.bx t < h.size := fun t ht => (Array.getElem?_eq_some_iff.1 (w.xm t ht).cells).1
    have ne : ∀ t, K.L t = true → t ≠ s := fun t ht e => by rw [e, hs] at ht; cases ht
    have LA : ∀ t, (K.add s r bx asid).L t = true → t = s ∨ (t ≠ s ∧ K.L t = true) := fun t ht => by
      by_cases e : t = s
      · exact .inl e
      · refine .inr ⟨e, ?_⟩
        have : (K.add s r bx asid).L t = K.L t := by show addL K.L s t = _; unfold addL; rw [if_neg e]
        rw [this] at ht; exact ht
    have b0 : (K.add s r bx asid).bx s = bx := by show setA _ _ _ _ = _; unfold setA; rw [if_pos rfl]
    have b1 : ∀ t, t ≠ s → (K.add s r bx asid).bx t = K.bx t := fun t e => by show setA _ _ _ _ = _; unfold setA; rw [if_neg e]
    refine q0 bx r h' s1.1 s1.2.1 hc hb ⟨w1.pw, wd, ?_, ?_, ?_, k.kept w.kp lo2, w.lo, ?_⟩ c0 c1 P P0 P00 k (by rw [hn]; obtain ⟨_, _, _⟩ := s1; simp only at hnt; rw [hnt])
    · intro t ht
      rcases LA t ht with rfl | ⟨e, ht⟩
      · rw [b0]
        have := w1.xm
        rw [hnt] at this
        rw [show (K.add t r bx asid).ai t = asid by show setN _ _ _ _ = _; unfold setN; rw [if_pos rfl], show (K.add t r bx asid).rt t = r by show setA _ _ _ _ = _; unfold setA; rw [if_pos rfl], setN_at]
        exact this
      · rw [b1 t e, show (K.add s r bx asid).ai t = K.ai t by show setN _ _ _ _ = _; unfold setN; rw [if_neg e], show (K.add s r bx asid).rt t = K.rt t by show setA _ _ _ _ = _; unfold setA; rw [if_neg e], show setN nt s 1 t = nt t by unfold setN; rw [if_neg e]]
        exact xk h' k t ht
    · intro t ht
      rcases LA t ht with rfl | ⟨e, ht⟩
      · rw [b0]; exact ⟨w1.x1, w1.x2, w1.x3, w1.x4⟩
      · rw [b1 t e]; exact w.nx t ht
    · intro t u ht hu hh
      rcases LA t ht with rfl | ⟨e, ht'⟩
      · rcases LA u hu with rfl | ⟨e2, hu'⟩
        · rfl
        · rw [b0, b1 u e2] at hh
          have := old u hu'
          omega
      · rcases LA u hu with rfl | ⟨e2, hu'⟩
        · rw [b0, b1 t e] at hh
          have := old t ht'
          omega
        · rw [b1 t e, b1 u e2] at hh
          exact w.ij t u ht' hu' hh
    · intro t ht
      have := w.kp.1
      rcases LA t ht with rfl | ⟨e, ht⟩
      · rw [b0]; omega
      · rw [b1 t e]; exact w.lx t ht
theorem Q128 {s : Nat} {asid : Int} {Q : Option Addr → Int → H → Prop} (w : WH K h0 h nt ws ps) (h1 : 1 ≤ K.n) (hs : K.L s = false)
    (q5 : ∀ h', cnt ps 0 K.n ≤ 0 → WH K h0 h' nt ws ps → KL h [K.bf, K.pf] h' → Q none 5 h')
    (q0 : ∀ b r h' ws' ps', 0 < cnt ps 0 K.n → h.size ≤ b → WH (K.add s r b asid) h0 h' (setN nt s 1) ws' ps' → cnt ps' 0 K.n = cnt ps 0 K.n - 1 → cnt ps' 1 K.n = cnt ps 1 K.n + 1 → PgSame K ws ws' → (∀ u, pgv K.n ws' r u = 0) →
      (∀ a b c, a < 512 → b < 512 → c < 512 → pgW K.n ws' r a b c = 0) → KL h [K.bf, K.pf] h' → Q (some ⟨b, 0, none⟩) 0 h') :
    F128 (some ⟨K.bm, 0, none⟩) (some ⟨K.bp, 0, none⟩) asid Q h :=
  Q128x w h1 hs (fun h' a b c _ => q5 h' a b c) (fun b r h' ws' ps' a1 a2 a3 a4 a5 a6 a7 a8 a9 _ => q0 b r h' ws' ps' a1 a2 a3 a4 a5 a6 a7 a8 a9)
end
/-- A memory and a pool, new. -/
theorem Q0 {n : Nat} {h0 h : H} {J : Option Addr → Option Addr → H → Prop} (k0 : Kept h0 h) (h1 : 1 ≤ n) (h2 : n ≤ 256)
    (q : ∀ (K : WK) h', K.n = n → (∀ s, K.L s = false) → WH K h0 h' (fun _ => 0) (List.replicate (n * 512) 0) (List.replicate (5 * n) 0) → J (some ⟨K.bm, 0, none⟩) (some ⟨K.bp, 0, none⟩) h') :
    F61 n (fun r1 h2 => F75 n 0 (fun r3 h4 => J r1 r3 h4) h2) h := by
  refine M61 h1 h2 fun bm bf h3 k3 hbm hbf m3 => C75 (by omega) (by omega) fun bp pf h4 k4 hbp hpf m4 => ?_
  have lt := m3.lt
  have hk3 := k3.1
  have hk0 := k0.1
  rw [show ((n : Int).toNat) = n from rfl] at m4
  have hne := m3.mem.ne
  refine q ⟨bm, bf, bp, pf, n, fun _ => false, fun _ => 0, fun _ => 0, fun _ => 0⟩ h4 rfl (fun _ => rfl) ⟨⟨m3.kept k4, m4, zGF n, by simp only; omega, by simp only; omega, by simp only; omega⟩, Wd.zero m3.ok _ (fun _ => rfl) _ _, ?_, ?_, ?_, (k0.trans k3).trans k4, ?_, ?_⟩
  · intro s hs; cases hs
  · intro s hs; cases hs
  · intro s t hs; cases hs
  · simp only; omega
  · intro s hs; cases hs

section
variable {n : Nat} {L : Nat → Bool} {rt : Nat → Nat} {nt : Nat → Int} {ro : Nat → Role} {ex : Nat → Prop} {ws ps : List Int}
theorem ix_join {a b c : Nat} (ha : a < 512) (hb : b < 512) (hc : c < 512) : ∃ u : Int, 0 ≤ u ∧ u < 134217728 ∧ ix2 u = a ∧ ix1 u = b ∧ ix0 u = c := by
  refine ⟨(a * 262144 + b * 512 + c : Nat), ?_⟩
  unfold ix2 ix1 ix0; omega
theorem pgv_in {r : Nat} {u : Int} (h : 0 ≤ u ∧ u < 134217728) : pgv n ws r u = pgW n ws r (ix2 u) (ix1 u) (ix0 u) := by unfold pgv; rw [if_pos h]
theorem hasT_iff {r a : Nat} (ha : a < 512) : hasT (pgW n ws r) a ↔ ∃ u, pgv n ws r u ≠ 0 ∧ ix2 u = a := by
  constructor
  · rintro ⟨b, c, hb, hc, h⟩
    obtain ⟨u, h0, h1, rfl, rfl, rfl⟩ := ix_join ha hb hc
    exact ⟨u, by rw [pgv_in ⟨h0, h1⟩]; exact h, rfl⟩
  · rintro ⟨u, h, rfl⟩
    rw [pgv_in (pgv_ne h)] at h
    exact ⟨_, _, (ix_lt u).2.1, (ix_lt u).2.2, h⟩
theorem hasM_iff {r a b : Nat} (ha : a < 512) (hb : b < 512) : hasM (pgW n ws r) a b ↔ ∃ u, pgv n ws r u ≠ 0 ∧ ix2 u = a ∧ ix1 u = b := by
  constructor
  · rintro ⟨c, hc, h⟩
    obtain ⟨u, h0, h1, rfl, rfl, rfl⟩ := ix_join ha hb hc
    exact ⟨u, by rw [pgv_in ⟨h0, h1⟩]; exact h, rfl, rfl⟩
  · rintro ⟨u, h, rfl, rfl⟩
    rw [pgv_in (pgv_ne h)] at h
    exact ⟨_, (ix_lt u).2.2, h⟩
theorem Wd.bare' (v : Wd n L rt nt ws ps) {s : Nat} (hs : L s = true) (h : ∀ u, pgv n ws (rt s) u = 0) : nt s = 1 := by
  refine v.bare hs fun a b c ha hb hc => ?_
  obtain ⟨u, h0, h1, rfl, rfl, rfl⟩ := ix_join ha hb hc
  rw [← pgv_in ⟨h0, h1⟩]; exact h u
end
theorem need2 {K : WK} {ws : List Int} {s : Nat} {vpn nd : Int} (h : ∀ u, pgv K.n ws (K.rt s) u = 0) (hn : Need K ws s vpn nd) : nd = 2 := by
  obtain ⟨l2, l1, l0⟩ := ix_lt vpn
  rcases hn with ⟨_, h⟩ | ⟨h1, _⟩ | ⟨h1, _⟩
  · exact h
  · obtain ⟨u, hu, _⟩ := (hasT_iff l2).1 h1; exact absurd (h u) hu
  · obtain ⟨u, hu, _⟩ := (hasM_iff l2 l1).1 h1; exact absurd (h u) hu
theorem need0 {K : WK} {ws : List Int} {s : Nat} {vpn nd : Int} {u : Int} (h : pgv K.n ws (K.rt s) u ≠ 0) (e2 : ix2 u = ix2 vpn) (e1 : ix1 u = ix1 vpn) (hn : Need K ws s vpn nd) : nd = 0 := by
  obtain ⟨l2, l1, l0⟩ := ix_lt vpn
  have hm := (hasM_iff l2 l1).2 ⟨u, h, e2, e1⟩
  rcases hn with ⟨h1, h⟩ | ⟨_, h1, _⟩ | ⟨_, h1⟩
  · exact absurd (hasM_T l1 hm) h1
  · exact absurd hm h1
  · exact h1
theorem Q25 {h : H} {x y : Int} {C : Addr → H → Prop} (q : ∀ a h', Kept h h' → h.size ≤ a → IL h' a 25 [x, y] → C ⟨a, 0, none⟩ h') :
    Nw h (zeroC Try.prog 25) 25 fun a32 h33 => St h33 (a32.add 0) (.int .i64 x) fun h34 => St h34 (a32.add 1) (.int .i64 y) fun h35 => C a32 h35 := by
  refine Nw_intro fun a h1 ha k1 e1 => ?_
  rw [zero25] at e1
  simp only [add_mk]
  have := put25 (a := x) (b := y) e1 (K := fun h35 => C ⟨a, 0, none⟩ h35) fun h3 u3 e3 => q a h3 (u3.kept k1 (by omega)) (by omega) e3
  exact this
section
variable {K : WK} {h0 h : H} {nt : Nat → Int} {ws ps : List Int}
theorem Q98 {Q : Int → H → Prop} (w : WH K h0 h nt ws ps) (q : ∀ h', WH K h0 h' nt ws ps → Kept h h' → Q (cnt ps 0 K.n) h') : F98 (some ⟨K.bp, 0, none⟩) Q h := by
  rw [F98_eq]; exact C100 w.pw.pm fun h' k => q h' (w.kept k) k
theorem Q100 {c : Int} {Q : Int → H → Prop} (w : WH K h0 h nt ws ps) (q : ∀ h', WH K h0 h' nt ws ps → Kept h h' → Q (cnt ps c K.n) h') : F100 (some ⟨K.bp, 0, none⟩) c Q h := C100 w.pw.pm fun h' k => q h' (w.kept k) k
end
theorem WK.bx0 (K : WK) (s r b : Nat) (a : Int) : (K.add s r b a).bx s = b := by show setA K.bx s b s = b; unfold setA; rw [if_pos rfl]
theorem WK.rt0 (K : WK) (s r b : Nat) (a : Int) : (K.add s r b a).rt s = r := by show setA K.rt s r s = r; unfold setA; rw [if_pos rfl]
theorem WK.L0 (K : WK) (s r b : Nat) (a : Int) : (K.add s r b a).L s = true := by show addL K.L s s = true; unfold addL; rw [if_pos rfl]
theorem WK.bx1 (K : WK) (s r b : Nat) (a : Int) {t : Nat} (h : t ≠ s) : (K.add s r b a).bx t = K.bx t := by show setA K.bx s b t = K.bx t; unfold setA; rw [if_neg h]
theorem WK.rt1 (K : WK) (s r b : Nat) (a : Int) {t : Nat} (h : t ≠ s) : (K.add s r b a).rt t = K.rt t := by show setA K.rt s r t = K.rt t; unfold setA; rw [if_neg h]
theorem WK.L1 (K : WK) (s r b : Nat) (a : Int) {t : Nat} (h : t ≠ s) : (K.add s r b a).L t = K.L t := by show addL K.L s t = K.L t; unfold addL; rw [if_neg h]
/-- One space alone in a new memory. -/
structure One (K : WK) : Prop where
  l0 : K.L 0 = true
  l1 : ∀ s, K.L s = true ↔ s = 0
/-- A new memory, a pool and one space. -/
theorem QN {n : Nat} {h0 h : H} {J : Option Addr → Option Addr → Option Addr → Int → H → Prop} (k0 : Kept h0 h) (h1 : 1 ≤ n) (h2 : n ≤ 256) (asid : Int)
    (q : ∀ (K : WK) h' ws ps, K.n = n → One K → WH K h0 h' (setN (fun _ => 0) 0 1) ws ps → (∀ u, pgv K.n ws (K.rt 0) u = 0) → J (some ⟨K.bm, 0, none⟩) (some ⟨K.bp, 0, none⟩) (some ⟨K.bx 0, 0, none⟩) 0 h') :
    F61 n (fun r1 h2 => F75 n 0 (fun r3 h4 => F128 r1 r3 asid (fun r5 r6 h7 => J r1 r3 r5 r6 h7) h4) h2) h := by
  refine Q0 (J := fun r1 r3 h4 => F128 r1 r3 asid (fun r5 r6 h7 => J r1 r3 r5 r6 h7) h4) k0 h1 h2 fun K h3 hn hL w => ?_
  have hc := w.wd.none' hL
  refine Q128 (s := 0) w (by omega) (hL 0) (fun h' hh _ _ => by rw [hn] at hc hh; omega) fun b r h' ws' ps' hc' hb w' c0 c1 P P0 P00 k => ?_
  have e0 : (K.add 0 r b asid).bx 0 = b := K.bx0 0 r b asid
  have e1 : (K.add 0 r b asid).rt 0 = r := K.rt0 0 r b asid
  have := q (K.add 0 r b asid) h' ws' ps' hn ⟨K.L0 0 r b asid, fun s => by
    by_cases e : s = 0
    · subst e; rw [K.L0 0 r b asid]; simp
    · rw [K.L1 0 r b asid e, hL]; simp [e]⟩ w' (fun u => by rw [e1]; exact P0 u)
  rw [e0] at this
  exact this
theorem okE {n : Nat} {vpn frame prot : Int} (h1 : 0 ≤ vpn ∧ vpn < 67108864) (h2 : 1 ≤ prot ∧ prot ≤ 7) (h3 : 0 ≤ frame ∧ frame < n) : ¬ badE n vpn frame prot := by unfold badE; omega
theorem C129 {Q : Bool → H → Prop} {h : H} (q : ∀ h', Kept h h' → Q true h') : F129 Q h := by
  rw [F129_eq]
  unfold B129
  simp only [JoinM]
  refine QN (n := 12) (h0 := h) (Kept.refl h) (by omega) (by omega) 1 fun K h1 ws ps hn one w z => ?_
  simp only [LetI, bne_self_eq_false, Br_false]
  have c1 := w.wd.one one.l1
  refine Q132 w one.l0 ?_
  rw [setN_at]
  simp only [bne_self_eq_false, Br_false]
  refine Q130 w one.l0 (fun h2 hb _ _ => absurd hb (okE (by omega) (by omega) (by omega))) (fun h2 nd ws2 ps2 _ hnd hN hc w2 p2 _ _ => ?_) (fun h2 nd ws2 ps2 _ hnd hN hc _ _ _ _ => by rw [hn, setN_at] at c1; rw [hn] at hc; omega)
  have e2 := need2 z hN
  subst e2
  simp only [bne_self_eq_false, Br_false]
  refine Q132 w2 one.l0 ?_
  rw [setN_at, setN_at, show (1 : Int) + 2 = 3 by decide] at *
  simp only [bne_self_eq_false, Br_false]
  have c2 := w2.wd.one one.l1
  rw [hn, setN_at] at c2
  refine Q130 w2 one.l0 (fun h3 hb _ _ => absurd hb (okE (by omega) (by omega) (by omega))) (fun h3 nd ws3 ps3 _ hnd hN3 hc3 w3 p3 _ _ => ?_) (fun h3 nd ws3 ps3 _ hnd hN3 hc3 _ _ _ _ => by rw [hn] at hc3; omega)
  have p5 : pgv K.n ws2 (K.rt 0) 5 ≠ 0 := by rw [p2 0 5 one.l0, if_pos ⟨rfl, rfl⟩]; exact leafV_ne (by omega) _
  have e3 := need0 p5 (by decide) (by decide) hN3
  subst e3
  simp only [bne_self_eq_false, Br_false]
  refine Q132 w3 one.l0 ?_
  rw [setN_at, setN_at]
  simp only [show ((3 : Int) + 0 != 3) = false by decide, Br_false]
  refine Q134 w3 one.l0 fun h4 nt4 ws4 ps4 w4 p4 _ => ?_
  have g5 : pgv K.n ws3 (K.rt 0) 5 ≠ 0 := by rw [p3 0 5 one.l0, if_neg (by decide)]; exact p5
  rw [decide_eq_true g5]
  simp only [Br_true]
  refine Q134 w4 one.l0 fun h5 nt5 ws5 ps5 w5 p5' _ => ?_
  have g6 : pgv K.n ws4 (K.rt 0) 6 ≠ 0 := by rw [p4 0 6 one.l0, if_neg (by decide), p3 0 6 one.l0, if_pos ⟨rfl, rfl⟩]; exact leafV_ne (by omega) _
  rw [decide_eq_true g6]
  simp only [Br_true]
  refine Q132 w5 one.l0 ?_
  rw [w5.wd.bare' one.l0 fun u => ?_]
  · exact q h5 w5.kp
  · rw [p5' 0 u one.l0]
    by_cases e6 : u = 6
    · rw [if_pos ⟨rfl, e6⟩]
    · rw [if_neg (fun x => e6 x.2), p4 0 u one.l0]
      by_cases e5 : u = 5
      · rw [if_pos ⟨rfl, e5⟩]
      · rw [if_neg (fun x => e5 x.2), p3 0 u one.l0, if_neg (fun x => e6 x.2), p2 0 u one.l0, if_neg (fun x => e5 x.2)]; exact z u
theorem L33 {p0 p1 p2 p3 : Int} {Q : Bool → H → Prop} {h : H} (hp0 : 0 ≤ p0 ∧ p0 < 18446744073709551616) (hp2 : 0 ≤ p2 ∧ p2 < 18446744073709551616) (hp3 : 0 ≤ p3 ∧ p3 < 18446744073709551616)
    (q : ∀ h', Kept h h' → Q true h') : F33 p0 p1 p2 p3 Q h := by
  have liv : ∀ h', Kept h h' → F129 (fun r6 h7 => Q r6 h7) h' := fun h' k => C129 fun h9 k9 => q h9 (k.trans k9)
  rw [F33_eq]
  unfold B33
  simp only [JoinM]
  refine Nw_intro fun a1 h1 ha1 k1 e1 => ⟨by omega, ?_⟩
  simp only [add_mk]
  refine ⟨by omega, Ld_i (x := p2) (by rw [hcell_blk e1]; rfl) ⟨by omega, Ld_i (x := p3) (by rw [hcell_blk e1]; rfl) ?_⟩⟩
  obtain ⟨k, hk⟩ : ∃ k : Nat, p0 % 3 + 1 = (k : Int) := ⟨(p0 % 3 + 1).toNat, by omega⟩
  have e5 : IntKind.wrap .i64 (1 + IntKind.wrap .i64 (Int.tmod p0 3)) = (k : Int) := by rw [Int.tmod_eq_emod_of_nonneg hp0.1, wrap_i64' (p0 % 3) (by omega) (by omega), wrap_i64'] <;> omega
  rw [e5]
  simp only [LetI]
  refine QN (n := k) (h0 := h) k1 (by omega) (by omega) 1 fun K h2 ws ps hn one w z => ?_
  simp only [bne_self_eq_false, Br_false, beq_self_eq_true, Br_true]
  refine Br_dec (fun _ => liv h2 w.kp) fun hv0 => Br_dec (fun _ => liv h2 w.kp) fun hv1 => ?_
  have eu : IntKind.wrap .u64 (k : Int) = (k : Int) := by rw [wrap_u64]; omega
  rw [eu]
  have ef : IntKind.wrap .i64 (Int.tmod p2 (k : Int)) = p2 % k := by
    have h1 : 0 ≤ p2 % (k : Int) := Int.emod_nonneg _ (by omega)
    have h2 : p2 % (k : Int) < k := Int.emod_lt_of_pos _ (by omega)
    rw [Int.tmod_eq_emod_of_nonneg hp2.1, wrap_i64'] <;> omega
  have ep : IntKind.wrap .i64 (1 + IntKind.wrap .i64 (Int.tmod p3 7)) = p3 % 7 + 1 := by rw [Int.tmod_eq_emod_of_nonneg hp3.1, wrap_i64' (p3 % 7) (by omega) (by omega), wrap_i64'] <;> omega
  rw [ef, ep]
  have c1 := w.wd.one one.l1
  rw [hn, setN_at] at c1
  have hf1 : 0 ≤ p2 % (k : Int) := Int.emod_nonneg _ (by omega)
  have hf2 : p2 % (k : Int) < k := Int.emod_lt_of_pos _ (by omega)
  refine ⟨by omega, by omega, Q130 w one.l0 (fun h3 hb _ _ => absurd hb (okE (by omega) (by omega) (by rw [hn]; omega))) (fun h3 nd ws3 ps3 _ hnd hN hc w3 pg3 _ _ => ?_) fun h3 nd ws3 ps3 _ hnd hN hc w3 c0 pg3 _ => ?_⟩
  · obtain rfl := need2 z hN
    rw [hn] at hc
    obtain rfl : k = 3 := by omega
    refine Q131 w3 one.l0 fun h4 w4 k4 => Q25 fun a h5 k5 ha e5 => ?_
    have w5 := w4.kept k5
    have p5 : pgv K.n ws3 (K.rt 0) p1 ≠ 0 := by rw [pg3 0 p1 one.l0, if_pos ⟨rfl, rfl⟩]; exact leafV_ne (by omega) _
    rw [decide_eq_true p5]
    simp only [show (((3 : Nat) : Int) == 3) = true by decide, beq_self_eq_true, Br_true]
    refine Q132 w5 one.l0 ?_
    rw [setN_at, setN_at]
    simp only [show ((1 : Int) + 2 == 3) = true by decide, Br_true]
    have c5 := w5.wd.one one.l1
    rw [hn, setN_at, setN_at] at c5
    refine Q98 w5 fun h6 w6 k6 => ?_
    rw [hn, c5.2]
    simp only [show (((3 : Nat) : Int) - (1 + 2) == 0) = true by decide, Br_true]
    exact liv h6 w6.kp
  · obtain rfl := need2 z hN
    rw [hn] at hc
    have hk3 : ((k : Int) == 3) = false := by
      rw [beq_eq_false_iff_ne]; omega
    refine Q131 w3 one.l0 fun h4 w4 k4 => Q25 fun a h5 k5 ha e5 => ?_
    have w5 := w4.kept k5
    have p5 : pgv K.n ws3 (K.rt 0) p1 = 0 := by rw [pg3 0 p1 one.l0]; exact z p1
    rw [hk3, decide_eq_false (fun x => x p5)]
    simp only [Br_false, beq_self_eq_true, Br_true, Bool.not_false]
    refine Q132 w5 one.l0 ?_
    rw [setN_at]
    simp only [beq_self_eq_true, Br_true]
    refine Q98 w5 fun h6 w6 k6 => ?_
    rw [c0, hn, c1.2, wrap_i64' _ (by omega) (by omega)]
    simp only [beq_self_eq_true, Br_true]
    exact liv h6 w6.kp

end Go.Proofs.Ytfijchofplkcoaa
