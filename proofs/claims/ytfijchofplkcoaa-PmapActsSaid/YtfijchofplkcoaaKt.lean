/-
  The document's spaces (pantryref07): they come to the same as the program's.
  The document's New and Close; two memories compared; slices of pointers.
  The document's New; memories compared; slices of pointers; the document's world.
  The document's world beside the program's.
  PmapActs.
  PmapActs, whole.
-/
import Derived.Test.YtfijchofplkcoaaKm
set_option linter.unusedVariables false
set_option linter.unusedSimpArgs false
set_option maxRecDepth 100000
namespace Go.Proofs.Ytfijchofplkcoaa

/-- Where the document's memory and pool lie. -/
structure RK where
  rm : Nat
  rt : Nat
  rp : Nat
  cs : List Nat
  ex : List Nat
  n : Nat
structure V1 (R : RK) (h : H) (rx : Nat) (asid : Int) (root : Nat) (s : PS) : Prop where
  mw : RW h R.rm R.rt R.cs R.n s.1
  pm : RM h R.rp R.ex R.n 0 s.2.1
  gf : GF s.2.1 R.n
  xm : h[rx]? = some (.cells #[.pointer (some ⟨R.rm, 0, none⟩), .pointer (some ⟨R.rp, 0, none⟩), .int .i64 asid, .int .i64 (root : Int), .int .i64 s.2.2] 189)
  g : ∀ c ∈ R.cs, c ∈ R.ex
  x0 : rx ∈ R.ex
  ex : ∀ b ∈ R.ex, b < h.size
  x1 : rx ∉ R.cs
  x2 : rx ≠ R.rm
  x3 : rx ≠ R.rt
  x4 : rx ≠ R.rp
  p1 : R.rp ∉ R.cs
  p2 : R.rp ≠ R.rm
  p3 : R.rp ≠ R.rt
abbrev Lr (rx : Nat) (R : RK) : List Nat := rx :: R.rp :: R.cs
theorem RM.kl {h h' : H} {rp n : Nat} {ex L : List Nat} {res : Int} {xs : List Int} (m : RM h rp ex n res xs) (k : KL h L h') (hn : rp ∉ L) (hL : ∀ b ∈ L, b ∈ ex) : RM h' rp ex n res xs := by
  obtain ⟨rf, cap, zs, m, e, n1⟩ := m
  exact ⟨rf, cap, zs, ⟨k.blk m.top hn, k.blk m.row (fun e => n1 (hL _ e)), m.len, m.ne⟩, e, n1⟩
section
variable {R : RK} {h : H} {rx root : Nat} {asid : Int} {s : PS}
theorem V1.kept {h' : H} (w : V1 R h rx asid root s) (k : Kept h h') : V1 R h' rx asid root s :=
  ⟨w.mw.kept k, w.pm.kept k, w.gf, k.blk w.xm, w.g, w.x0, fun b hb => Nat.lt_of_lt_of_le (w.ex b hb) k.1, w.x1, w.x2, w.x3, w.x4, w.p1, w.p2, w.p3⟩
theorem V1.mem {h' : H} {ws' : List Int} (w : V1 R h rx asid root s) (u : KL h R.cs h') (m : RW h' R.rm R.rt R.cs R.n ws') : V1 R h' rx asid root (ws', s.2.1, s.2.2) :=
  ⟨m, w.pm.kl u w.p1 w.g, w.gf, u.blk w.xm w.x1, w.g, w.x0, fun b hb => Nat.lt_of_lt_of_le (w.ex b hb) u.1, w.x1, w.x2, w.x3, w.x4, w.p1, w.p2, w.p3⟩
theorem V1.pool {h' : H} {ps' : List Int} (w : V1 R h rx asid root s) (u : KB h R.rp h') (m : RM h' R.rp R.ex R.n 0 ps') (g : GF ps' R.n) : V1 R h' rx asid root (s.1, ps', s.2.2) :=
  ⟨w.mw.kl (L := [R.rp]) (u.kl (by simp)) (by simpa using Ne.symm w.p2) (by simpa using Ne.symm w.p3) (fun c hc => by simp; intro e; exact w.p1 (e ▸ hc)), m, g, u.blk w.xm w.x4, w.g, w.x0, fun b hb => Nat.lt_of_lt_of_le (w.ex b hb) u.1, w.x1, w.x2, w.x3, w.x4, w.p1, w.p2, w.p3⟩
theorem V1.St {nt : Int} {J : H → Prop} (w : V1 R h rx asid root s) (k : ∀ h', Upd h rx h' → V1 R h' rx asid root (s.1, s.2.1, nt) → J h') : St h ⟨rx, 4, none⟩ (.int .i64 nt) J := by
  refine St_intro w.xm (by simp) fun h' u e => k h' u ⟨w.mw.kl (L := [rx]) (u.kl (by simp)) (by simpa using Ne.symm w.x2) (by simpa using Ne.symm w.x3) (fun c hc => by simp; intro e; exact w.x1 (e ▸ hc)), ?_, w.gf, e, w.g, w.x0, fun b hb => by rw [u.1]; exact w.ex b hb, w.x1, w.x2, w.x3, w.x4, w.p1, w.p2, w.p3⟩
  exact w.pm.kb u.kb (Ne.symm w.x4) w.x0
theorem V1.m (w : V1 R h rx asid root s) : hcell h ⟨rx, 0, none⟩ = some (.pointer (some ⟨R.rm, 0, none⟩)) := by rw [hcell_blk w.xm]; rfl
theorem V1.p (w : V1 R h rx asid root s) : hcell h ⟨rx, 1, none⟩ = some (.pointer (some ⟨R.rp, 0, none⟩)) := by rw [hcell_blk w.xm]; rfl
theorem V1.a (w : V1 R h rx asid root s) : hcell h ⟨rx, 2, none⟩ = some (.int .i64 asid) := by rw [hcell_blk w.xm]; rfl
theorem V1.r (w : V1 R h rx asid root s) : hcell h ⟨rx, 3, none⟩ = some (.int .i64 (root : Int)) := by rw [hcell_blk w.xm]; rfl
theorem V1.c (w : V1 R h rx asid root s) : hcell h ⟨rx, 4, none⟩ = some (.int .i64 s.2.2) := by rw [hcell_blk w.xm]; rfl
theorem V1.le (w : V1 R h rx asid root s) : R.n ≤ 256 := w.mw.ok.le
/-- The table below an entry, as the document tells it. -/
def nxI (o : Option Nat) : Int := match o with | some m => (m : Int) | none => -1
theorem nxI_some (m : Nat) : nxI (some m) = (m : Int) := rfl
theorem nxI_none : nxI none = -1 := rfl
theorem N196 {f i : Nat} {Q : Int → H → Prop} (w : V1 R h rx asid root s) (hf : f < R.n) (hi : i < 512) (q : ∀ h', Kept h h' → Q (nxI (lead R.n (wat s.1 f i))) h') : F196 (some ⟨rx, 0, none⟩) f i Q h := by
  rw [F196_eq]
  unfold B196
  simp only [NilP, add_mk, Nat.add_zero, Nat.zero_add]
  refine Ld_p w.m (R91 w.mw ?_)
  rw [wordF_in hf hi]
  simp only [LetI]
  refine C52 (w.mw.ok.get _) fun h1 k1 => Nw_intro fun b h2 hb k2 e2 => ?_
  rw [zero25] at e2
  simp only [add_mk]
  refine put25 e2 fun h3 u3 e3 => ?_
  have e3 : IL h3 b 25 [flg (wat s.1 f i), ppn (wat s.1 f i)] := e3
  have k13 : Kept h1 h3 := u3.kept k2 (by omega)
  refine Ld_i (x := flg (wat s.1 f i)) (by rw [hcell_blk e3]; rfl) (Ld_i (x := ppn (wat s.1 f i)) (by rw [hcell_blk e3]; rfl) (C54 fun h4 k4 => ?_))
  have k := (k1.trans k13).trans k4
  have q := q h4 k
  unfold lead at q
  refine Br_bne_int (fun e => ?_) fun e => ?_
  · rw [if_neg (fun x => e x.1)] at q; exact q
  · have w4 := w.kept k
    refine Ld_p w4.m (Ld_i (x := ppn (wat s.1 f i)) (by rw [hcell_blk (k4.blk e3)]; rfl) ⟨(decide (0 ≤ ppn (wat s.1 f i) ∧ ppn (wat s.1 f i) < R.n), ()), R170 w4.mw ⟨rfl, rfl⟩, ?_⟩)
    have hp := ppn_nn (wat s.1 f i)
    by_cases hh : ppn (wat s.1 f i) < (R.n : Int)
    · rw [if_pos ⟨e, hh⟩] at q
      simp only [decide_eq_true (show 0 ≤ ppn (wat s.1 f i) ∧ ppn (wat s.1 f i) < R.n from ⟨hp.1, hh⟩), Bool.not_true, Br_false]
      refine Ld_i (x := ppn (wat s.1 f i)) (by rw [hcell_blk (k4.blk e3)]; rfl) ?_
      simp only [nxI] at q
      rw [Int.toNat_of_nonneg hp.1] at q
      exact q
    · rw [if_neg (fun x => hh x.2)] at q
      simp only [decide_eq_false (show ¬ (0 ≤ ppn (wat s.1 f i) ∧ ppn (wat s.1 f i) < R.n) from fun x => hh x.2), Bool.not_false, Br_true]
      exact q
theorem N197 {f i : Nat} {lv : Int} {Q : Int → Int → H → Prop} (w : V1 R h rx asid root s) (hf : f < R.n) (hi : i < 512) (hb : -1000 ≤ s.2.2 ∧ s.2.2 ≤ 1000)
    (q5 : ∀ h', growS R.n asid f i lv s = none → KL h (Lr rx R) h' → V1 R h' rx asid root s → Q 0 5 h')
    (q : ∀ r s1 h', growS R.n asid f i lv s = some (r, s1) → r < R.n → KL h (Lr rx R) h' → V1 R h' rx asid root s1 → Q (r : Nat) 0 h') : F197 (some ⟨rx, 0, none⟩) f i lv Q h := by
  rw [F197_eq]
  unfold B197
  simp only [NilP, add_mk, Nat.add_zero, Nat.zero_add]
  refine Ld_p w.p (Ld_i w.a (Y171 w.pm w.gf (by omega) w.le w.ex fun r e ys h1 hs u1 m1 => ?_))
  rw [sTake_one] at hs
  have k1 : KL h (Lr rx R) h1 := u1.kl (by simp)
  by_cases hc : cnt s.2.1 0 R.n ≤ 0
  · rw [if_pos hc] at hs
    simp only [Prod.mk.injEq] at hs
    obtain ⟨rfl, rfl, rfl⟩ := hs
    simp only [LetI, show ((5 : Int) != 0) = true by decide, Br_true]
    exact q5 h1 (by unfold growS; rw [if_pos hc]) k1 (w.pool u1 m1 w.gf)
  · rw [if_neg hc] at hs
    simp only [Prod.mk.injEq] at hs
    obtain ⟨rfl, rfl, rfl⟩ := hs
    have hfr := fst0_lt w.gf hc
    have g1 := w.gf.set5 w.pm.len hfr.1 (c := 1) (o := asid) (x := lv) (by omega) (fun e => by omega)
    have w1 := w.pool u1 m1 g1
    simp only [LetI, bne_self_eq_false, Br_false]
    refine Ld_p w1.m (R167 w1.mw (fun j h2 hj hjn u2 m2 => ?_) fun hh => absurd ⟨by omega, by omega⟩ hh)
    obtain rfl : j = fst0 s.2.1 R.n := by omega
    have w2 := w1.mem u2 m2
    refine Ld_p w2.m (C51 fun h3 k3 => ⟨(w2.kept k3).m, ?_⟩)
    have w3 := w2.kept k3
    refine R166 w3.mw (encF_range _ _) fun h4 u4 m4 => ?_
    rw [setF_in hf hi] at m4
    have w4 := w3.mem u4 m4
    refine Ld_i w4.c ?_
    rw [wrap_i64' _ (by simp only; omega) (by simp only; omega)]
    refine w4.St fun h5 u5 w5 => ?_
    exact q (fst0 s.2.1 R.n) _ h5 (by unfold growS; rw [if_neg hc]) hfr.1 ((((k1.trans (u2.mono (by simp; intro a ha; exact .inr (.inr ha)))).trans k3.kl).trans (u4.mono (by simp; intro a ha; exact .inr (.inr ha)))).trans (u5.kl (by simp))) w5
/-- A bare table below an entry goes. -/
def shrS (n f i : Nat) (s : PS) : PS := match lead n (wat s.1 f i) with | none => s | some m => if bareB s.1 m = true then giveS n f i s else s
theorem N205 {f i : Nat} {Q : H → Prop} (w : V1 R h rx asid root s) (hf : f < R.n) (hi : i < 512) (hb : -1000 ≤ s.2.2 ∧ s.2.2 ≤ 1000)
    (q : ∀ h', KL h (Lr rx R) h' → V1 R h' rx asid root (shrS R.n f i s) → Q h') : F205 (some ⟨rx, 0, none⟩) f i Q h := by
  rw [F205_eq]
  refine N196 w hf hi fun h1 k1 => ?_
  have w1 := w.kept k1
  unfold shrS at q
  cases hm : lead R.n (wat s.1 f i) with
  | none =>
    rw [hm] at q
    rw [nxI_none]
    simp only [LetI, show decide ((-1 : Int) < 0) = true by decide, Br_true]
    exact q h1 k1.kl w1
  | some m =>
    rw [hm] at q
    simp only at q
    have hmn := lead_lt hm
    have hmp := (lead_some hm).2
    simp only [LetI]
    rw [nxI_some, decide_eq_false (show ¬ ((m : Int) < 0) by omega)]
    simp only [Br_false]
    refine Loop_intro (σ := Int × Unit) (x := (0, ())) (fun c z h' => ∃ t : Nat, z.1 = (t : Int) ∧ c = 512 - t ∧ t ≤ 512 ∧ h' = h1 ∧ ∀ t', t' < t → wat s.1 m t' = 0) 512 ⟨0, rfl, rfl, by omega, rfl, fun t' ht' => by omega⟩ ?_
    rintro c ⟨zz, u⟩ h' ⟨t, ht, hc, ht5, rfl, hz⟩
    simp only at ht
    subst ht
    refine Br_dec (fun hlt => ?_) fun hge => ?_
    · have hlt : t < 512 := by simp only at hlt; omega
      simp only [NilP, add_mk, Nat.add_zero, Nat.zero_add]
      refine Ld_p w1.m (R91 w1.mw ?_)
      rw [wordF_in hmn hlt]
      simp only
      refine Br_bne_int (fun e => ?_) fun e => ?_
      · have : bareB s.1 m = false := by
          cases hb : bareB s.1 m
          · rfl
          · exact absurd (bareB_iff.1 hb t hlt) e
        rw [this, if_neg (by simp)] at q
        exact q h' k1.kl w1
      · refine ⟨512 - (t + 1), by omega, t + 1, by rw [wrap_i64' _ (by omega) (by omega)]; omega, rfl, by omega, by trivial, fun t' ht' => ?_⟩
        by_cases e2 : t' = t
        · subst e2; exact e
        · exact hz t' (by omega)
    · have : t = 512 := by simp only at hge; omega
      subst this
      rw [bareB_iff.2 hz, if_pos rfl] at q
      simp only [NilP, add_mk, Nat.add_zero, Nat.zero_add]
      refine Ld_p w1.p (Y172 w1.pm w1.le w1.ex fun e ys h2 hs u2 m2 => ?_)
      have g2 : GF ys R.n := by have := sGive_gf w.gf w.pm.len (m : Int); rw [hs] at this; exact this
      have w2 := w1.pool u2 m2 g2
      refine Ld_p w2.m (R166 w2.mw (by omega) fun h3 u3 m3 => ?_)
      rw [setF_in hf hi] at m3
      have w3 := w2.mem u3 m3
      refine Ld_i w3.c ?_
      rw [wrap_i64' _ (by simp only; omega) (by simp only; omega)]
      refine w3.St fun h4 u4 w4 => q h4 (((k1.kl.trans (u2.kl (by simp))).trans (u3.mono (by simp; intro a ha; exact .inr (.inr ha)))).trans (u4.kl (by simp))) ?_
      have : giveS R.n f i s = (s.1.set (f * 512 + i) 0, ys, s.2.2 - 1) := by unfold giveS; rw [hmp, hs]
      rw [this]; exact w4
theorem shrS_nt (n f i : Nat) : (shrS n f i s).2.2 = s.2.2 ∨ (shrS n f i s).2.2 = s.2.2 - 1 := by
  unfold shrS
  split
  · exact .inl rfl
  · split
    · exact .inr rfl
    · exact .inl rfl
/-- What the document's tidy leaves. -/
def tidyR (n root : Nat) (vpn : Int) (s : PS) : PS :=
  match lead n (wat s.1 root (ix2 vpn)) with
  | none => s
  | some m => shrS n root (ix2 vpn) (shrS n m (ix1 vpn) s)
theorem N198 {vpn : Int} {Q : H → Prop} (w : V1 R h rx asid root s) (hr : root < R.n) (hb : -900 ≤ s.2.2 ∧ s.2.2 ≤ 900)
    (q : ∀ h', KL h (Lr rx R) h' → V1 R h' rx asid root (tidyR R.n root vpn s) → Q h') : F198 (some ⟨rx, 0, none⟩) vpn Q h := by
  rw [F198_eq]
  unfold B198
  obtain ⟨x2, x1, x0⟩ := ix_eq vpn
  obtain ⟨l2, l1, l0⟩ := ix_lt vpn
  refine C46 (C46 ?_)
  rw [x2, x1]
  simp only [LetI, NilP, add_mk, Nat.add_zero, Nat.zero_add]
  refine Ld_i w.r (N196 w hr l2 fun h1 k1 => ?_)
  have w1 := w.kept k1
  unfold tidyR at q
  cases hm : lead R.n (wat s.1 root (ix2 vpn)) with
  | none =>
    rw [hm] at q
    rw [nxI_none]
    simp only [show decide ((-1 : Int) ≥ 0) = false by decide, Br_false]
    exact q h1 k1.kl w1
  | some m =>
    rw [hm] at q
    simp only at q
    have hmn := lead_lt hm
    rw [nxI_some, decide_eq_true (show (m : Int) ≥ 0 by omega)]
    simp only [Br_true]
    refine N205 w1 hmn l1 (by omega) fun h2 k2 w2 => ?_
    have hn := shrS_nt (s := s) R.n m (ix1 vpn)
    exact Ld_i w2.r (N205 w2 hr l2 (by omega) fun h3 k3 w3 => q h3 ((k1.kl.trans k2).trans k3) w3)
/-- With another root the two are alike. -/
theorem tidyR_eq {n : Nat} {vpn : Int} (hm : ∀ m, lead n (wat s.1 root (ix2 vpn)) = some m → m ≠ root ∧ OkW n s.1 ∧ m < n ∧ root < n) : tidyR n root vpn s = tidyS n root vpn s := by
  obtain ⟨l2, l1, l0⟩ := ix_lt vpn
  unfold tidyR tidyS
  cases h : lead n (wat s.1 root (ix2 vpn)) with
  | none => rfl
  | some m =>
    obtain ⟨hne, ok, hmn, hrn⟩ := hm m h
    have e : shrS n m (ix1 vpn) s = tidy1 n m (ix1 vpn) s := by unfold shrS tidy1; cases lead n (wat s.1 m (ix1 vpn)) <;> rfl
    simp only
    rw [e]
    have h2 : lead n (wat (tidy1 n m (ix1 vpn) s).1 root (ix2 vpn)) = some m := by
      unfold tidy1
      split
      · split
        · show lead n (wat (s.1.set (m * 512 + ix1 vpn) 0) root (ix2 vpn)) = some m
          rw [wat_set ok hmn l1 l2, if_neg (fun x => hne x.1)]; exact h
        · exact h
      · exact h
    unfold shrS
    rw [h2]
theorem N145 {vpn : Int} {Q : Int → Int → Bool → H → Prop} (w : V1 R h rx asid root s)
    (q : ∀ h', Kept h h' → Q (flg ((findS R.n s.1 root vpn).getD 0)) (ppn ((findS R.n s.1 root vpn).getD 0)) (findS R.n s.1 root vpn).isSome h') : F145 (some ⟨rx, 0, none⟩) vpn Q h := by
  rw [F145_eq]
  unfold B145
  refine Nw_intro fun a1 h2 ha1 k2 e2 => ?_
  rw [zero25] at e2
  have w2 := w.kept k2
  simp only [NilP, add_mk, Nat.add_zero, Nat.zero_add]
  refine Ld_p w2.m (Ld_i w2.r ?_)
  have hE : findS R.n s.1 root vpn = (entS R.n s.1 root vpn).bind fun v => if kindM (lo8 (flg v)) = 2 then some v else none := rfl
  have no : findS R.n s.1 root vpn = none → ∀ h' : H, Kept h h' → h'[a1]? = some (.cells #[.int .i64 0, .int .i64 0] 25) →
      St h' ⟨a1, 0, none⟩ (.int .i64 0) fun h21 => St h21 ⟨a1, 1, none⟩ (.int .i64 0) fun h22 => Ld (.i .i64) h22 ⟨a1, 0, none⟩ fun x23 => Ld (.i .i64) h22 ⟨a1, 1, none⟩ fun x24 => Q x23 x24 false h22 := by
    intro he h' k' e'
    have := put25 (a := 0) (b := 0) e' (K := fun h22 => Ld (.i .i64) h22 ⟨a1, 0, none⟩ fun x23 => Ld (.i .i64) h22 ⟨a1, 1, none⟩ fun x24 => Q x23 x24 false h22) (fun h3 u3 e3 => ?_)
    · exact this
    · have q := q h3 (u3.kept k' (by omega))
      rw [he] at q
      exact Ld_i (x := 0) (by rw [hcell_blk e3]; rfl) (Ld_i (x := 0) (by rw [hcell_blk e3]; rfl) q)
  have yes : ∀ (h16 : H) (a17 : Nat), Kept h h16 → a17 ≠ a1 → h.size ≤ a17 → h16[a1]? = some (.cells #[.int .i64 0, .int .i64 0] 25) → h16[a17]? = some (.cells #[.int .i64 0, .int .i64 0] 25) → 
      St h16 ⟨a17, 0, none⟩ (.int .i64 (flg ((entS R.n s.1 root vpn).getD 0))) fun h19 =>
      St h19 ⟨a17, 0 + 1, none⟩ (.int .i64 (ppn ((entS R.n s.1 root vpn).getD 0))) fun h20 =>
      Br (!(entS R.n s.1 root vpn).isSome)
      (St h20 ⟨a1, 0, none⟩ (.int .i64 0) fun h21 => St h21 ⟨a1, 1, none⟩ (.int .i64 0) fun h22 => Ld (.i .i64) h22 ⟨a1, 0, none⟩ fun x23 => Ld (.i .i64) h22 ⟨a1, 1, none⟩ fun x24 => Q x23 x24 false h22)
      (Ld (.i .i64) h20 ⟨a17, 0, none⟩ fun x25 =>
      Ld (.i .i64) h20 ⟨a17, 1, none⟩ fun x26 =>
      F54 x25 x26 (fun r27 h28 =>
      Br (r27 != 2)
      (St h28 ⟨a1, 0, none⟩ (.int .i64 0) fun h29 => St h29 ⟨a1, 1, none⟩ (.int .i64 0) fun h30 => Ld (.i .i64) h30 ⟨a1, 0, none⟩ fun x31 => Ld (.i .i64) h30 ⟨a1, 1, none⟩ fun x32 => Q x31 x32 false h30)
      (Ld (.i .i64) h28 ⟨a17, 0, none⟩ fun x33 =>
      Ld (.i .i64) h28 ⟨a17, 1, none⟩ fun x34 =>
      St h28 ⟨a1, 0, none⟩ (.int .i64 x33) fun h35 =>
      St h35 ⟨a1, 1, none⟩ (.int .i64 x34) fun h36 =>
      Ld (.i .i64) h36 ⟨a1, 0, none⟩ fun x37 =>
      Ld (.i .i64) h36 ⟨a1, 1, none⟩ fun x38 =>
      Q x37 x38 true h36)) h20) := by
    intro h16 a17 k16 hne hlo e1 e17
    refine put25 e17 fun h3 u3 e3 => ?_
    have e1' : h3[a1]? = some (.cells #[.int .i64 0, .int .i64 0] 25) := u3.blk e1 (Ne.symm hne)
    have K3 : Kept h h3 := u3.kept k16 hlo
    cases he : entS R.n s.1 root vpn with
    | none =>
      simp only [Option.isSome_none, Bool.not_false, Br_true]
      exact no (by rw [hE, he]; rfl) h3 K3 e1'
    | some v =>
      rw [he] at e3
      simp only [Option.getD_some] at e3
      simp only [Option.isSome_some, Bool.not_true, Br_false]
      refine Ld_i (x := flg v) (by rw [hcell_blk e3]; rfl) (Ld_i (x := ppn v) (by rw [hcell_blk e3]; rfl) (C54 fun h4 k4 => ?_))
      refine Br_bne_int (fun hk => no (by rw [hE, he]; exact if_neg hk) h4 (K3.trans k4) (k4.blk e1')) fun hk => ?_
      have hk : kindM (lo8 (flg v)) = 2 := hk
      have hf : findS R.n s.1 root vpn = some v := by rw [hE, he]; exact if_pos hk
      refine Ld_i (x := flg v) (by rw [hcell_blk (k4.blk e3)]; rfl) (Ld_i (x := ppn v) (by rw [hcell_blk (k4.blk e3)]; rfl) ?_)
      have := put25 (a := flg v) (b := ppn v) (k4.blk e1') (K := fun h36 => Ld (.i .i64) h36 ⟨a1, 0, none⟩ fun x37 => Ld (.i .i64) h36 ⟨a1, 1, none⟩ fun x38 => Q x37 x38 true h36) (fun h5 u5 e5 => ?_)
      · exact this
      · have q := q h5 (u5.kept (K3.trans k4) (by omega))
        rw [hf] at q
        exact Ld_i (x := flg v) (by rw [hcell_blk e5]; rfl) (Ld_i (x := ppn v) (by rw [hcell_blk e5]; rfl) q)
  have ha1lt : a1 < h2.size := (Array.getElem?_eq_some_iff.1 e2).1
  have hs2 := k2.1
  constructor
  · refine R123 w2.mw fun h16 k16 => Nw_intro fun a17 h18 ha17 k18 e18 => ?_
    rw [zero25] at e18
    have hs16 := k16.1
    exact yes h18 a17 ((k2.trans k16).trans k18) (by omega) (by omega) (k18.blk (k16.blk e2)) e18
  · refine Nw_intro fun a39 h40 ha39 k40 e40 => ?_
    rw [zero25] at e40
    have w40 := w2.kept k40
    refine ⟨w40.r, w40.m, R123 w40.mw fun h44 k44 => ?_⟩
    exact yes h44 a39 ((k2.trans k40).trans k44) (by omega) (by omega) (k44.blk (k40.blk e2)) (k44.blk e40)
theorem N199 {f i : Nat} {vpn v : Int} {Q : H → Prop} (w : V1 R h rx asid root s) (hp : placeS R.n s.1 root vpn = some (f, i)) (hv : 0 ≤ v ∧ v < 18446744073709551616)
    (q : ∀ h', KL h (Lr rx R) h' → V1 R h' rx asid root (s.1.set (f * 512 + i) v, s.2.1, s.2.2) → Q h') : F199 (some ⟨rx, 0, none⟩) vpn v Q h := by
  rw [F199_eq]
  unfold B199
  have hlt := placeS_lt hp
  simp only [NilP, add_mk, Nat.add_zero, Nat.zero_add]
  refine Ld_p w.m (Ld_i w.r (R121 w.mw fun h1 k1 => ?_))
  rw [hp]
  simp only [LetI, plF, plI]
  have w1 := w.kept k1
  refine Ld_p w1.m (R166 w1.mw hv fun h2 u2 m2 => ?_)
  rw [setF_in hlt.1 hlt.2.1] at m2
  exact q h2 (k1.kl.trans (u2.mono (by simp; intro a ha; exact .inr (.inr ha)))) (w1.mem u2 m2)
/-- What the world tells of the way to a page. -/
structure Way (n root : Nat) (vpn : Int) (s : PS) : Prop where
  ok : OkW n s.1
  rt : root < n
  ne : ∀ m i, i < 512 → lead n (wat s.1 root i) = some m → m ≠ root
  nb : ∀ m i, i < 512 → lead n (wat s.1 root i) = some m → bareB s.1 m = false
  nf : ∀ {r : Nat} {s1 : PS} (asid : Int), growS n asid root (ix2 vpn) 1 s = some (r, s1) → r ≠ root
theorem N142 {vpn : Int} {Q : Bool → H → Prop} (w : V1 R h rx asid root s) (y : Way R.n root vpn s) (hb : 0 ≤ s.2.2 ∧ s.2.2 ≤ 800)
    (q : ∀ h' r s', removeS R.n root vpn s = (r, s') → KL h (Lr rx R) h' → V1 R h' rx asid root s' → Q r h') : F142 (some ⟨rx, 0, none⟩) vpn Q h := by
  rw [F142_eq]
  obtain ⟨l2, l1, l0⟩ := ix_lt vpn
  refine N145 w fun h1 k1 => Q25 fun a5 h2 k2 ha e2 => ?_
  have k12 := k1.trans k2
  have w2 := w.kept k12
  unfold removeS at q
  cases hf : findS R.n s.1 root vpn with
  | none =>
    rw [hf] at q
    simp only [Option.isSome_none, Bool.not_false, Br_true]
    exact q h2 _ _ rfl k12.kl w2
  | some v =>
    rw [hf] at q
    obtain ⟨f, i, hp, hv, hk⟩ := findS_some hf
    have hlt := placeS_lt hp
    simp only [Option.isSome_some, Bool.not_true, Br_false]
    refine N199 w2 hp (by omega) fun h3 k3 w3 => N198 w3 y.rt (by simp only; omega) fun h4 k4 w4 => q h4 true _ rfl ((k12.kl.trans k3).trans k4) ?_
    have hch : changeS R.n root vpn 0 s = tidyS R.n root vpn (s.1.set (f * 512 + i) 0, s.2.1, s.2.2) := by
      unfold changeS
      rw [hp]
      simp only [if_pos]
    rw [hch, ← tidyR_eq]
    · exact w4
    · intro m hm
      simp only at hm ⊢
      refine ⟨?_, y.ok.set _ (by omega), lead_lt hm, y.rt⟩
      rw [wat_set y.ok hlt.1 hlt.2.1 l2] at hm
      split at hm
      · rw [lead0] at hm; cases hm
      · exact y.ne m _ l2 hm
theorem pro_add (p : Int) (v : Int) : flagsN (lo3 p) true + bAnd .i64 (flg v) 192 = (((flagsN (lo3 p) true).toNat ||| (lo8 (flg v) &&& 192) : Nat) : Int) := by
  have h1 := flags_range p
  have h2 := bA8 (flg v) 192 (by omega)
  rw [show ((192 : Nat) : Int) = 192 from rfl] at h2
  rw [h2, key_192 _ (lo8_lt _)]
  have hl := lo8_lt (flg v)
  have key : ∀ m, m < 8 → ∀ y : Nat, y < 4 → flagsN m true + ((y * 64 : Nat) : Int) = (((flagsN m true).toNat ||| (y * 64) : Nat) : Int) := by decide +kernel
  exact key _ (lo3_lt p) (lo8 (flg v) / 64) (by omega)
theorem proc_lt (p v : Int) : 0 ≤ flagsN (lo3 p) true + bAnd .i64 (flg v) 192 ∧ flagsN (lo3 p) true + bAnd .i64 (flg v) 192 < 512 := by
  have h1 := flags_range p
  have h2 := bA8 (flg v) 192 (by omega)
  rw [show ((192 : Nat) : Int) = 192 from rfl] at h2
  have h3 : lo8 (flg v) &&& 192 < 256 := Nat.lt_of_le_of_lt Nat.and_le_left (lo8_lt _)
  rw [h2]; omega
theorem N143 {vpn prot : Int} {Q : Bool → H → Prop} (w : V1 R h rx asid root s) (y : Way R.n root vpn s) (hb : 0 ≤ s.2.2 ∧ s.2.2 ≤ 800)
    (q : ∀ h' r s', protectS R.n root vpn prot s = (r, s') → KL h (Lr rx R) h' → V1 R h' rx asid root s' → Q r h') : F143 (some ⟨rx, 0, none⟩) vpn prot Q h := by
  rw [F143_eq]
  unfold B143
  refine N145 w fun h1 k1 => Q25 fun a5 h2 k2 ha e2 => ?_
  have k12 := k1.trans k2
  have w2 := w.kept k12
  unfold protectS at q
  cases hf : findS R.n s.1 root vpn with
  | none =>
    have hrm : removeS R.n root vpn s = (false, s) := by unfold removeS; rw [hf]
    rw [hrm, hf] at q
    simp only [Option.isSome_none, Bool.not_false, Br_true]
    exact q h2 false s (by simp) k12.kl w2
  | some v =>
    rw [hf] at e2
    simp only [Option.isSome_some, Bool.not_true, Br_false]
    refine C59 ?_
    simp only [LetI]
    refine Br_beq_int (fun e => ?_) fun e => ?_
    · rw [if_pos e] at q
      exact N142 w2 y hb fun h3 r s' hs k3 w3 => q h3 r s' hs (k12.kl.trans k3) w3
    · rw [if_neg e, hf] at q
      obtain ⟨f, i, hp, hv, hk⟩ := findS_some hf
      simp only [Option.getD_some] at e2
      simp only [add_mk, Nat.add_zero, Nat.zero_add]
      have hrg := proc_lt prot v
      refine Ld_i (x := flg v) (by rw [hcell_blk e2]; rfl) ?_
      rw [wrap_i64' _ (by omega) (by omega)]
      refine St_I e2 (by simp) fun h3 u3 e3 => ?_
      have e3 : IL h3 a5 25 [flagsN (lo3 prot) true + bAnd .i64 (flg v) 192, ppn v] := e3
      refine Ld_i (x := flagsN (lo3 prot) true + bAnd .i64 (flg v) 192) (by rw [hcell_blk e3]; rfl) (Ld_i (x := ppn v) (by rw [hcell_blk e3]; rfl) (C51 fun h4 k4 => ?_))
      rw [pro_add]
      have hk1 := k1.1
      have k4' : Kept h h4 := (u3.kept k12 (by omega)).trans k4
      have w4 := w.kept k4'
      refine N199 w4 hp (encF_range _ _) fun h5 k5 w5 => q h5 true _ rfl (k4'.kl.trans k5) ?_
      have hch : changeS R.n root vpn (encF (((flagsN (lo3 prot) true).toNat ||| (lo8 (flg v) &&& 192) : Nat) : Int) (ppn v)) s = (s.1.set (f * 512 + i) (encF (((flagsN (lo3 prot) true).toNat ||| (lo8 (flg v) &&& 192) : Nat) : Int) (ppn v)), s.2.1, s.2.2) := by
        unfold changeS
        rw [hp]
        simp only
        rw [if_neg]
        have hl := lo8_lt (flg v)
        have kp := key_pro _ (lo3_lt prot) (lo8 (flg v) / 64) (by omega) e
        rw [key_192 _ (lo8_lt _)]
        exact enc_ne kp.2 (kind2_ne kp.1) _
      rw [hch]; exact w5
theorem N144 {vpn flags : Int} {Q : Int → H → Prop} (w : V1 R h rx asid root s) (y : Way R.n root vpn s) (hb : 0 ≤ s.2.2 ∧ s.2.2 ≤ 800)
    (q : ∀ h' r s', clearS R.n root vpn flags s = (r, s') → KL h (Lr rx R) h' → V1 R h' rx asid root s' → Q r h') : F144 (some ⟨rx, 0, none⟩) vpn flags Q h := by
  rw [F144_eq]
  unfold B144
  refine N145 w fun h1 k1 => Q25 fun a5 h2 k2 ha e2 => ?_
  have k12 := k1.trans k2
  have w2 := w.kept k12
  unfold clearS at q
  cases hf : findS R.n s.1 root vpn with
  | none =>
    rw [hf] at q
    simp only [Option.isSome_none, Bool.not_false, Br_true]
    exact q h2 _ _ rfl k12.kl w2
  | some v =>
    rw [hf] at q e2
    obtain ⟨f, i, hp, hv, hk⟩ := findS_some hf
    simp only [Option.getD_some] at e2
    simp only [Option.isSome_some, Bool.not_true, Br_false, add_mk, Nat.add_zero, Nat.zero_add, LetI]
    refine Ld_i (x := flg v) (by rw [hcell_blk e2]; rfl) (Ld_i (x := flg v) (by rw [hcell_blk e2]; rfl) ?_)
    rw [had_eq]
    have hl8 := lo8_lt (flg v)
    have hle : hadN (lo8 (flg v)) flags ≤ lo8 (flg v) := by unfold hadN; exact Nat.le_trans Nat.and_le_left Nat.and_le_left
    have hsub : flg v - ((hadN (lo8 (flg v)) flags : Nat) : Int) = ((lo8 (flg v) - hadN (lo8 (flg v)) flags : Nat) : Int) := by
      have := flg_lo8 v; omega
    rw [hsub, wrap_i64' _ (by omega) (by omega)]
    refine St_I e2 (by simp) fun h3 u3 e3 => ?_
    have e3 : IL h3 a5 25 [((lo8 (flg v) - hadN (lo8 (flg v)) flags : Nat) : Int), ppn v] := e3
    refine Ld_i (x := ((lo8 (flg v) - hadN (lo8 (flg v)) flags : Nat) : Int)) (by rw [hcell_blk e3]; rfl) (Ld_i (x := ppn v) (by rw [hcell_blk e3]; rfl) (C51 fun h4 k4 => ?_))
    have hk1 := k1.1
    have k4' : Kept h h4 := (u3.kept k12 (by omega)).trans k4
    have w4 := w.kept k4'
    refine N199 w4 hp (encF_range _ _) fun h5 k5 w5 => q h5 _ _ rfl (k4'.kl.trans k5) ?_
    have hch : changeS R.n root vpn (encF ((lo8 (flg v) - hadN (lo8 (flg v)) flags : Nat) : Int) (ppn v)) s = (s.1.set (f * 512 + i) (encF ((lo8 (flg v) - hadN (lo8 (flg v)) flags : Nat) : Int) (ppn v)), s.2.1, s.2.2) := by
      unfold changeS
      rw [hp]
      simp only
      rw [if_neg]
      have h1 := lo8_lt flags
      have kk := key_clr2 _ hl8 (lo8 flags / 64) (by omega) hk
      rw [← hadN_eq] at kk
      exact enc_ne (by omega) (kind2_ne kk) _
    rw [hch]; exact w5
/-- Enter. -/
theorem N141 {vpn frame prot : Int} {Q : Int → H → Prop} (w : V1 R h rx asid root s) (y : Way R.n root vpn s) (hb : 0 ≤ s.2.2 ∧ s.2.2 ≤ 800)
    (q : ∀ h' e s', enterS R.n root asid vpn frame prot s = (e, s') → KL h (Lr rx R) h' → V1 R h' rx asid root s' → Q e h') : F141 (some ⟨rx, 0, none⟩) vpn frame prot Q h := by
  rw [F141_eq]
  unfold B141
  obtain ⟨l2, l1, l0⟩ := ix_lt vpn
  obtain ⟨x2, x1, x0⟩ := ix_eq vpn
  have bad : badE R.n vpn frame prot → Q 2 h := fun hb => q h 2 s (by unfold enterS; rw [if_pos hb]) (KL.refl _ _) w
  refine JoinI (fun _ h' => h' = h ∧ ¬ badE R.n vpn frame prot) (fun J hJ => ?_) ?_
  · refine Br_dec (fun hh => bad (.inl hh)) fun b1 => Br_dec (fun hh => bad (.inr (.inl hh))) fun b2 => Br_dec (fun hh => bad (.inr (.inr (.inl hh)))) fun b3 => Br_dec (fun hh => bad (.inr (.inr (.inr (.inl hh))))) fun b4 => ?_
    simp only [NilP, add_mk, Nat.add_zero, Nat.zero_add]
    refine Ld_p w.m (R170 w.mw ?_)
    by_cases hh : 0 ≤ frame ∧ frame < (R.n : Int)
    · rw [decide_eq_true hh]
      simp only [Bool.not_true, Br_false]
      exact hJ () h ⟨rfl, by unfold badE; omega⟩
    · rw [decide_eq_false hh]
      simp only [Bool.not_false, Br_true]
      exact bad (by unfold badE; omega)
  rintro _ h' ⟨rfl, hgood⟩
  have eS : enterS R.n root asid vpn frame prot s = enterB R.n root asid vpn frame prot s (lead R.n (wat s.1 root (ix2 vpn))) := by
    unfold enterS; rw [if_neg hgood]
  refine C46 (C46 (C46 ?_))
  rw [x2, x1, x0]
  simp only [LetI, NilP, add_mk, Nat.add_zero, Nat.zero_add]
  refine Ld_i w.r (N196 w y.rt l2 fun h1 k1 => ?_)
  have w1 := w.kept k1
  -- the lowest table and the entry, whatever was before
  have low : ∀ (m : Nat) (s1 : PS) (h2 : H), m < R.n → KL h' (Lr rx R) h2 → V1 R h2 rx asid root s1 → s1.2.2 ≤ 900 ∧ 0 ≤ s1.2.2 →
      (enter1 R.n asid m vpn frame prot s1 = (5, s1) → enterS R.n root asid vpn frame prot s = (5, tidyR R.n root vpn s1)) →
      (∀ s', enter1 R.n asid m vpn frame prot s1 = (0, s') → enterS R.n root asid vpn frame prot s = (0, s')) →
      F196 (some ⟨rx, 0, none⟩) (m : Int) (ix1 vpn : Nat) (fun r34 h35 =>
      LetI r34 fun n36 =>
      JoinM (σ := Int × Unit) (fun J37 =>
      Br (decide (n36 < 0))
      (F197 (some ⟨rx, 0, none⟩) (m : Int) (ix1 vpn : Nat) 2 (fun r40 r41 h42 =>
      LetI r40 fun n43 =>
      LetI r41 fun n44 =>
      Br (n44 != 0)
      (F198 (some ⟨rx, 0, none⟩) vpn (fun  h45 =>
      LetI n44 fun n46 =>
      Q n46 h45) h42)
      (LetI n43 fun n47 =>
      J37 (n47, ()) h42)) h35)
      (J37 (n36, ()) h35))
      (fun y38 h39 =>
      Ld .p h39 ⟨rx, 0, none⟩ fun x49 =>
      QC [.one (.i .i64)] h39 (fun K' h' => F59 prot true (fun r51 h'' => K' (.int .i64 r51) h'') h') fun x50 =>
      F51 x50.1 frame (fun r52 h53 =>
      (hcell h53 ⟨rx, 0, none⟩ = some (.pointer x49)) ∧
      F166 x49 y38.1 (ix0 vpn : Nat) r52 (fun r54 h55 =>
      Q 0 h55) h53) h39)) h2 := by
    intro m s1 h2 hmn k2 w2 hb1 h5 h0
    refine N196 w2 hmn l1 fun h3 k3 => ?_
    have w3 := w2.kept k3
    simp only [LetI]
    refine JoinI (fun z h' => ∃ (l : Nat) (s2 : PS), z.1 = (l : Int) ∧ l < R.n ∧ KL h2 (Lr rx R) h' ∧ V1 R h' rx asid root s2 ∧ enter1 R.n asid m vpn frame prot s1 = (0, leafS l vpn frame prot s2)) (fun J hJ => ?_) ?_
    · cases hl : lead R.n (wat s1.1 m (ix1 vpn)) with
      | some l =>
        rw [nxI_some, decide_eq_false (show ¬ ((l : Int) < 0) by omega)]
        simp only [Br_false]
        exact hJ _ h3 ⟨l, s1, rfl, lead_lt hl, k3.kl, w3, enter1_0 hl⟩
      | none =>
        rw [nxI_none]
        simp only [show decide ((-1 : Int) < 0) = true by decide, Br_true]
        refine N197 w3 hmn l1 (by omega) (fun h4 hg k4 w4 => ?_) fun r s2 h4 hg hr k4 w4 => ?_
        · simp only [show ((5 : Int) != 0) = true by decide, Br_true]
          exact N198 w4 y.rt (by omega) fun h5' k5 w5 => q h5' 5 _ (h5 (enter1_5 hl hg)) (((k2.trans k3.kl).trans k4).trans k5) w5
        · simp only [bne_self_eq_false, Br_false]
          exact hJ _ h4 ⟨r, s2, rfl, hr, k3.kl.trans k4, w4, enter1_1 hl hg⟩
    rintro ⟨zl, u⟩ h4 ⟨l, s2, hz, hln, k4, w4, he⟩
    simp only at hz
    subst hz
    refine Ld_p w4.m ⟨(flagsN (lo3 prot) true, ()), C59 ⟨rfl, rfl⟩, C51 fun h5' k5 => ⟨(w4.kept k5).m, ?_⟩⟩
    have w5 := w4.kept k5
    refine R166 w5.mw (encF_range _ _) fun h6 u6 m6 => ?_
    rw [setF_in hln l0] at m6
    exact q h6 0 _ (h0 _ he) (((k2.trans k4).trans k5.kl).trans (u6.mono (by simp; intro a ha; exact .inr (.inr ha)))) (w5.mem u6 m6)
  refine JoinI (fun z h2 => ∃ (m : Nat) (s1 : PS), z.1 = (m : Int) ∧ m < R.n ∧ KL h' (Lr rx R) h2 ∧ V1 R h2 rx asid root s1 ∧ (s1.2.2 ≤ 900 ∧ 0 ≤ s1.2.2) ∧
      (enter1 R.n asid m vpn frame prot s1 = (5, s1) → enterS R.n root asid vpn frame prot s = (5, tidyR R.n root vpn s1)) ∧
      (∀ s', enter1 R.n asid m vpn frame prot s1 = (0, s') → enterS R.n root asid vpn frame prot s = (0, s'))) (fun J hJ => ?_) ?_
  · cases hm : lead R.n (wat s.1 root (ix2 vpn)) with
    | some m =>
      rw [hm] at eS
      rw [nxI_some, decide_eq_false (show ¬ ((m : Int) < 0) by omega)]
      simp only [Br_false]
      refine hJ _ h1 ⟨m, s, rfl, lead_lt hm, k1.kl, w1, by omega, fun h5 => ?_, fun s' h0 => eS.trans h0⟩
      rw [eS]
      show enter1 R.n asid m vpn frame prot s = _
      rw [h5]
      -- nothing to tidy
      have hl : lead R.n (wat s.1 m (ix1 vpn)) = none := by
        unfold enter1 at h5
        cases hl : lead R.n (wat s.1 m (ix1 vpn)) with
        | none => rfl
        | some l => rw [hl] at h5; simp at h5
      have hnb := y.nb m _ l2 hm
      have : tidyR R.n root vpn s = s := by
        unfold tidyR
        rw [hm]
        have e1 : shrS R.n m (ix1 vpn) s = s := by unfold shrS; rw [hl]
        simp only
        rw [e1]
        unfold shrS
        rw [hm]
        simp only
        rw [if_neg (by rw [hnb]; simp)]
      rw [this]
    | none =>
      rw [hm] at eS
      rw [nxI_none]
      simp only [show decide ((-1 : Int) < 0) = true by decide, Br_true]
      refine Ld_i w1.r (N197 w1 y.rt l2 (by omega) (fun h2 hg k2 w2 => ?_) fun r s1 h2 hg hr k2 w2 => ?_)
      · simp only [show ((5 : Int) != 0) = true by decide, Br_true]
        exact q h2 5 s (by rw [eS]; show enterA _ _ _ _ _ _ _ _ = _; rw [hg]; rfl) (k1.kl.trans k2) w2
      · simp only [bne_self_eq_false, Br_false]
        have hnt := growS_nt hg
        have eA : enterS R.n root asid vpn frame prot s = if (enter1 R.n asid r vpn frame prot s1).1 = 0 then enter1 R.n asid r vpn frame prot s1 else ((enter1 R.n asid r vpn frame prot s1).1, giveS R.n root (ix2 vpn) s1) := by
          rw [eS]; show enterA _ _ _ _ _ _ _ _ = _; rw [hg]; rfl
        refine hJ _ h2 ⟨r, s1, rfl, hr, k1.kl.trans k2, w2, by omega, fun h5 => ?_, fun s' h0 => by rw [eA, h0, if_pos rfl]⟩
        rw [eA, h5, if_neg (by simp)]
        congr 1
        -- the new table is bare
        have hc : ¬ cnt s.2.1 0 R.n ≤ 0 := by
          intro hc; unfold growS at hg; rw [if_pos hc] at hg; cases hg
        have hz5 := (fst0_lt w.gf hc).1
        have hg' := hg
        unfold growS at hg'
        rw [if_neg hc] at hg'
        simp only [Option.some.injEq, Prod.mk.injEq] at hg'
        obtain ⟨hr0, hs1⟩ := hg'
        subst hr0
        have hroot : fst0 s.2.1 R.n ≠ root := y.nf asid hg
        have okz := y.ok.zero hz5
        have w1s : s1.1 = (zeroW s.1 (fst0 s.2.1 R.n)).set (root * 512 + ix2 vpn) (encF 1 (fst0 s.2.1 R.n : Nat)) := by rw [← hs1]
        have hle : lead R.n (wat s1.1 root (ix2 vpn)) = some (fst0 s.2.1 R.n) := by
          rw [w1s, wat_set okz y.rt l2 l2, if_pos ⟨rfl, rfl⟩]; exact lead_tab hz5 y.ok.le
        have hz : ∀ t, t < 512 → wat s1.1 (fst0 s.2.1 R.n) t = 0 := fun t ht => by
          rw [w1s, wat_set okz y.rt l2 ht, if_neg (fun x => hroot x.1.symm), wat_zero y.ok hz5 ht, if_pos rfl]
        unfold tidyR
        rw [hle]
        have e1 : shrS R.n (fst0 s.2.1 R.n) (ix1 vpn) s1 = s1 := by unfold shrS; rw [hz _ l1, lead0]
        simp only
        rw [e1]
        unfold shrS
        rw [hle]
        simp only
        rw [if_pos (bareB_iff.2 hz)]
  rintro ⟨zm, u⟩ h2 ⟨m, s1, hz, hmn, k2, w2, hb1, h5, h0⟩
  simp only at hz
  subst hz
  exact low m s1 h2 hmn k2 w2 hb1 h5 h0
end

def delR (ro : Nat → Role) (s : Nat) : Nat → Role := fun j => if (ro j).1 ≠ 0 ∧ (ro j).2.1 = s then (0, 0, 0, 0) else ro j
section
variable {n : Nat} {L : Nat → Bool} {rt : Nat → Nat} {nt nt' : Nat → Int} {ro : Nat → Role} {ws ps : List Int}
/-- A space's frames given back, whatever becomes of their words. -/
theorem Wz.free (v : Wz n L rt nt ro noEx ws ps) {s : Nat} {ws' ps' : List Int} (pf : PF n ps (ownB ro s) ps') (ok : OkW n ws')
    (hw : ∀ j t, t < 512 → (ro j).1 ≠ 0 → (ro j).2.1 ≠ s → wat ws' j t = wat ws j t) (hn : ∀ t, t ≠ s → nt' t = nt t) : Wz n (delL L s) rt nt' (delR ro s) noEx ws' ps' := by
  have V := v.iv
  have LD : ∀ t, delL L s t = true → t ≠ s ∧ L t = true := fun t h => by
    unfold delL at h
    by_cases e : t = s
    · rw [if_pos e] at h; cases h
    · rw [if_neg e] at h; exact ⟨e, h⟩
  have L1 : ∀ t, t ≠ s → L t = true → delL L s t = true := fun t e h => by unfold delL; rw [if_neg e]; exact h
  have D1 : ∀ j, (ro j).2.1 ≠ s → delR ro s j = ro j := fun j h => by unfold delR; rw [if_neg (fun x => h x.2)]
  have D2 : ∀ j, (delR ro s j).1 ≠ 0 → delR ro s j = ro j ∧ (ro j).1 ≠ 0 ∧ (ro j).2.1 ≠ s := fun j h => by
    unfold delR at h ⊢
    by_cases e : (ro j).1 ≠ 0 ∧ (ro j).2.1 = s
    · rw [if_pos e] at h; exact absurd rfl h
    · rw [if_neg e] at h ⊢; exact ⟨rfl, h, fun x => e ⟨h, x⟩⟩
  have D3 : ∀ j k t i u, delR ro s j = (k, t, i, u) → k ≠ 0 → ro j = (k, t, i, u) ∧ t ≠ s := fun j k t i u h hk => by
    have h0 := D2 j (by rw [h]; exact hk)
    rw [h0.1] at h
    exact ⟨h, by have := h0.2.2; rw [h] at this; exact this⟩
  have D4 : ∀ j k t i u, ro j = (k, t, i, u) → t ≠ s → delR ro s j = (k, t, i, u) := fun j k t i u h ht => by rw [D1 j (by rw [h]; exact ht)]; exact h
  have P0 : ∀ j t, j < n → t < 5 → ps'.getD (5 * j + t) 0 = if ownB ro s j = true then 0 else ps.getD (5 * j + t) 0 := pf.2
  have P00 : ∀ j, j < n → ps'.getD (5 * j) 0 = if ownB ro s j = true then 0 else ps.getD (5 * j) 0 := fun j hj => P0 j 0 hj (by omega)
  have Z : ∀ j, j < n → (ownB ro s j = true ∨ z5 ps j = true) → z5 ps' j = true := fun j hj h => by
    have a : ∀ t, t < 5 → ps'.getD (5 * j + t) 0 = 0 := fun t ht => by
      rw [P0 j t hj ht]
      rcases h with h | h
      · rw [if_pos h]
      · split
        · rfl
        · exact z5_all h t ht
    have a0 := a 0 (by omega)
    rw [Nat.add_zero] at a0
    unfold z5
    rw [a0, a 1 (by omega), a 2 (by omega), a 3 (by omega), a 4 (by omega)]; rfl
  have own1 : ∀ j, ownB ro s j = true ↔ (ro j).1 ≠ 0 ∧ (ro j).2.1 = s := fun j => by unfold ownB; exact decide_eq_true_iff
  refine ⟨⟨ok, ⟨?_, ?_, ?_, ?_⟩, pf.1.trans V.len, ?_, ?_, ?_, ?_, ?_, ?_, ?_, ?_, ?_, ?_, ?_, ?_, ?_⟩, ?_, ?_⟩
  · intro j hj; rw [P00 j hj]; split
    · omega
    · exact V.gf.cls j hj
  · intro j hj h
    rw [P00 j hj] at h
    by_cases e : ownB ro s j = true
    · exact Z j hj (.inl e)
    · rw [if_neg e] at h; exact Z j hj (.inr (V.gf.emp j hj h))
  · intro j hj; rw [P0 j 3 hj (by omega)]; split
    · omega
    · exact V.gf.wir j hj
  · intro j hj; rw [P0 j 4 hj (by omega)]; split
    · omega
    · exact V.gf.lon j hj
  · intro j hj h
    by_cases e : ownB ro s j = true
    · exact Z j hj (.inl e)
    · have : delR ro s j = ro j := by unfold delR; rw [if_neg (fun x => e ((own1 j).2 x))]
      rw [this] at h
      exact Z j hj (.inr (V.fr j hj h))
  · intro j hj h
    obtain ⟨h1, h2, h3⟩ := D2 j h
    have e : ¬ ownB ro s j = true := fun x => h3 ((own1 j).1 x).2
    rw [P00 j hj, P0 j 3 hj (by omega), P0 j 4 hj (by omega), if_neg e, if_neg e, if_neg e]
    exact V.tb j hj h2
  · intro j hj
    unfold delR
    split
    · rfl
    · exact V.out j hj
  · intro t h
    obtain ⟨e, h⟩ := LD t h
    exact D4 _ _ _ _ _ (V.rt1 t h) e
  · intro j t i k h
    obtain ⟨h, e⟩ := D3 _ _ _ _ _ h (by omega)
    obtain ⟨h1, h2⟩ := V.rt2 j t i k h
    exact ⟨L1 t e h1, h2⟩
  · intro t i j h hi hl
    obtain ⟨e, h⟩ := LD t h
    have r1 := V.rt1 t h
    rw [hw _ _ hi (by rw [r1]; simp) (by rw [r1]; exact e)] at hl
    exact D4 _ _ _ _ _ (V.md1 t i j h hi hl) e
  · intro j t i k h
    obtain ⟨h, e⟩ := D3 _ _ _ _ _ h (by omega)
    obtain ⟨h1, h2, h3, h4⟩ := V.md2 j t i k h
    have r1 := V.rt1 t h1
    exact ⟨L1 t e h1, h2, h3, by rw [hw _ _ h2 (by rw [r1]; simp) (by rw [r1]; exact e)]; exact h4⟩
  · intro m t i k j h hk hl
    obtain ⟨h, e⟩ := D3 _ _ _ _ _ h (by omega)
    rw [hw _ _ hk (by rw [h]; simp) (by rw [h]; exact e)] at hl
    exact D4 _ _ _ _ _ (V.ls1 m t i k j h hk hl) e
  · intro j t i k h
    obtain ⟨h, e⟩ := D3 _ _ _ _ _ h (by omega)
    obtain ⟨h1, m, h2, h3⟩ := V.ls2 j t i k h
    exact ⟨h1, m, D4 _ _ _ _ _ h2 e, by rw [hw _ _ h1 (by rw [h2]; simp) (by rw [h2]; exact e)]; exact h3⟩
  · intro t i h hi hl
    obtain ⟨e, h⟩ := LD t h
    have r1 := V.rt1 t h
    rw [hw _ _ hi (by rw [r1]; simp) (by rw [r1]; exact e)] at hl ⊢
    exact V.z2 t i h hi hl
  · intro m t i k h hk hl
    obtain ⟨h, e⟩ := D3 _ _ _ _ _ h (by omega)
    rw [hw _ _ hk (by rw [h]; simp) (by rw [h]; exact e)] at hl ⊢
    exact V.z1 m t i k h hk hl
  · intro l t i k u h hu hne
    obtain ⟨h, e⟩ := D3 _ _ _ _ _ h (by omega)
    rw [hw _ _ hu (by rw [h]; simp) (by rw [h]; exact e)] at hne ⊢
    exact V.lf l t i k u h hu hne
  · intro j
    unfold delR
    split
    · simp
    · exact V.kd j
  · intro m h _
    have h0 := D2 m (by omega)
    rw [h0.1] at h
    obtain ⟨t, ht, hh⟩ := v.nb m h (fun x => x)
    exact ⟨t, ht, by rw [hw _ _ ht h0.2.1 h0.2.2]; exact hh⟩
  · intro t h
    obtain ⟨e, h⟩ := LD t h
    rw [hn t e, v.ct t h]
    have : ∀ k, cntR ro t k = cntR (delR ro s) t k := by
      intro k
      induction k with
      | zero => rfl
      | succ k ih =>
        simp only [cntR]
        rw [ih]
        congr 1
        by_cases e2 : (ro k).1 ≠ 0 ∧ (ro k).2.1 = s
        · have : delR ro s k = (0, 0, 0, 0) := by unfold delR; rw [if_pos e2]
          rw [this, if_neg (fun x => e (x.2.symm.trans e2.2)), if_neg (fun x => x.1 rfl)]
        · have : delR ro s k = ro k := by unfold delR; rw [if_neg e2]
          rw [this]
    exact this n
theorem Wd.way (v : Wd n L rt nt ws ps) {s : Nat} (hs : L s = true) (vpn : Int) : Way n (rt s) vpn (ws, ps, nt s) := by
  obtain ⟨ro, v⟩ := v
  have V := v.iv
  refine ⟨V.ok, V.rlt hs, fun m i hi hm e => ?_, fun m i hi hm => ?_, fun {r s1} asid hg e => ?_⟩
  · have := V.md1 _ _ _ hs hi hm
    rw [e, V.rt1 s hs] at this; simp at this
  · have rm := V.md1 _ _ _ hs hi hm
    obtain ⟨t, ht, hw⟩ := v.nb m (.inl (by rw [rm])) (fun x => x)
    cases hb : bareB ws m
    · rfl
    · exact absurd (bareB_iff.1 hb t ht) hw
  · unfold growS at hg
    split at hg
    · cases hg
    · rename_i hc
      simp only [Option.some.injEq, Prod.mk.injEq] at hg
      have hf := fst0_lt V.gf hc
      have := V.z5 hf.1 hf.2
      rw [hg.1, e, V.rt1 s hs] at this
      simp at this
/-- How many frames. -/
def cntB (F : Nat → Bool) : Nat → Int
  | 0 => 0
  | k + 1 => cntB F k + if F k = true then 1 else 0
theorem cntB_range (F : Nat → Bool) (k : Nat) : 0 ≤ cntB F k ∧ cntB F k ≤ k := by
  induction k with
  | zero => simp [cntB]
  | succ k ih =>
    simp only [cntB]
    by_cases h : F k = true
    · rw [if_pos h]; omega
    · rw [if_neg h]; omega
theorem cntB_set {F F' : Nat → Bool} {l : Nat} (hF : F l = false) (h : ∀ j, F' j = if j = l then true else F j) : ∀ k, cntB F' k = cntB F k + (if l < k then 1 else 0) := by
  intro k
  induction k with
  | zero => simp [cntB]
  | succ k ih =>
    simp only [cntB]
    rw [ih, h k]
    by_cases e : k = l
    · subst e
      rw [if_pos rfl, if_pos rfl, if_neg (show ¬ k < k from Nat.lt_irrefl k), if_pos (show k < k + 1 from Nat.lt_succ_self k), hF]; simp
    · rw [if_neg e]
      by_cases h2 : l < k
      · rw [if_pos h2, if_pos (show l < k + 1 by omega)]; omega
      · rw [if_neg h2, if_neg (show ¬ l < k + 1 by omega)]; omega
theorem cntB_own (ro : Nat → Role) (s : Nat) : ∀ k, cntB (ownB ro s) k = cntR ro s k := by
  intro k
  induction k with
  | zero => rfl
  | succ k ih =>
    simp only [cntB, cntR]
    rw [ih]
    congr 1
    unfold ownB
    by_cases e : (ro k).1 ≠ 0 ∧ (ro k).2.1 = s
    · rw [if_pos (decide_eq_true e), if_pos e]
    · rw [if_neg (by rw [decide_eq_false e]; simp), if_neg e]
/-- One frame given back. -/
theorem PF.step {F F' : Nat → Bool} {psx : List Int} {l : Nat} (V : Inv0 n L rt ro ws ps) (g : GF psx n) (pf : PF n ps F psx) (h0 : (ro l).1 ≠ 0) (hF : F l = false) (h : ∀ j, F' j = if j = l then true else F j) :
    ∃ psy, sGive psx n (l : Int) = (0, psy) ∧ PF n ps F' psy ∧ GF psy n ∧ cntB F' n = cntB F n + 1 := by
  have hl := V.lt h0
  have tb := V.tb l hl h0
  have c0 := pf.2 l 0 hl (by omega)
  have c3 := pf.2 l 3 hl (by omega)
  have c4 := pf.2 l 4 hl (by omega)
  rw [hF] at c0 c3 c4
  simp only [Bool.false_eq_true, if_false, Nat.add_zero] at c0 c3 c4
  have hb5 : 5 * l + 5 ≤ psx.length := by rw [pf.1, V.len]; omega
  refine ⟨set5 psx l 0 0 0 0 0, ?_, ⟨by rw [set5_len]; exact pf.1, fun j t hj ht => ?_⟩, g.set5 (pf.1.trans V.len) hl (by omega) (fun _ => ⟨rfl, rfl⟩), by rw [cntB_set hF h, if_pos hl]⟩
  · unfold sGive
    rw [if_neg (fun h => h ⟨by omega, by omega⟩), Int.toNat_natCast, if_neg (by rw [c0, tb.1]; decide), if_neg (fun h => h ⟨by rw [c3]; exact tb.2.1, by rw [c4]; exact tb.2.2⟩)]
  · rw [set5_get psx l j t 0 0 0 0 0 hb5 ht, h j]
    by_cases e : j = l
    · rw [if_pos e, if_pos e, if_pos rfl]
      have : t = 0 ∨ t = 1 ∨ t = 2 ∨ t = 3 ∨ t = 4 := by omega
      rcases this with rfl | rfl | rfl | rfl | rfl <;> rfl
    · rw [if_neg e, if_neg e]; exact pf.2 j t hj ht
end
/-- The frames that the document's Close has given back by then. -/
def FB (ro : Nat → Role) (s i k : Nat) : Nat → Bool := fun j => decide ((ro j).2.1 = s ∧ (((ro j).1 = 3 ∧ ((ro j).2.2.1 < i ∨ ((ro j).2.2.1 = i ∧ (ro j).2.2.2 < k))) ∨ ((ro j).1 = 2 ∧ (ro j).2.2.1 < i)))
section
variable {R : RK} {h : H} {rx : Nat} {asid : Int}
theorem N147 {L : Nat → Bool} {rt : Nat → Nat} {nt : Nat → Int} {ro : Nat → Role} {ws ps : List Int} {s : Nat} {Q : Int → H → Prop} (w : V1 R h rx asid (rt s) (ws, ps, nt s)) (hs : L s = true) (v : Wz R.n L rt nt ro noEx ws ps)
    (q : ∀ h' ps', KL h (Lr rx R) h' → V1 R h' rx asid (rt s) (ws, ps', nt s) → PF R.n ps (ownB ro s) ps' → Q (nt s) h') : F147 (some ⟨rx, 0, none⟩) Q h := by
  rw [F147_eq]
  have V := v.iv
  have hr := V.rlt hs
  have r1 := V.rt1 s hs
  have hle := w.le
  refine Loop_intro (σ := Int × Int × Unit) (x := (0, 0, ())) (fun c z h' => ∃ (i : Nat) (psx : List Int), z.2.1 = (i : Int) ∧ c = 512 - i ∧ i ≤ 512 ∧ KL h (Lr rx R) h' ∧ V1 R h' rx asid (rt s) (ws, psx, nt s) ∧ PF R.n ps (FB ro s i 0) psx ∧ z.1 = cntB (FB ro s i 0) R.n) 512 ?_ ?_
  · refine ⟨0, ps, rfl, rfl, by omega, KL.refl _ _, w, ⟨rfl, fun j t hj ht => ?_⟩, ?_⟩
    · rw [if_neg (by unfold FB; simp)]
    · have : ∀ k, cntB (FB ro s 0 0) k = 0 := by
        intro k
        induction k with
        | zero => rfl
        | succ k ih => simp only [cntB]; rw [ih, if_neg (by unfold FB; simp)]; rfl
      rw [this]
  rintro c ⟨zc, zz, u⟩ h1 ⟨i, psx, hi, hc, hi5, k1, w1, pf, hcn⟩
  simp only at hi hcn
  subst hi hcn
  have br := cntB_range (FB ro s i 0) R.n
  refine Br_dec (fun hlt => ?_) fun hge => ?_
  · have hlt : i < 512 := by simp only at hlt; omega
    have hwi : IntKind.wrap .i64 ((i : Int) + 1) = ((i + 1 : Nat) : Int) := by rw [wrap_i64'] <;> omega
    simp only [NilP, add_mk, Nat.add_zero, Nat.zero_add]
    refine Ld_i w1.r (N196 w1 hr hlt fun h2 k2 => ?_)
    have w2 := w1.kept k2
    simp only [LetI]
    cases hm : lead R.n (wat ws (rt s) i) with
    | none =>
      rw [nxI_none]
      simp only [show decide ((-1 : Int) < 0) = true by decide, Br_true]
      have e : FB ro s (i + 1) 0 = FB ro s i 0 := by
        funext j
        unfold FB
        congr 1
        apply propext
        constructor
        · rintro ⟨ho, hh⟩
          refine ⟨ho, ?_⟩
          rcases hh with ⟨h3, hh⟩ | ⟨h2, hh⟩
          · refine .inl ⟨h3, ?_⟩
            by_cases ei : (ro j).2.2.1 = i
            · exfalso
              obtain ⟨_, m, hm2, _⟩ := V.ls2 j s i (ro j).2.2.2 (by rw [← h3, ← ho, ← ei])
              obtain ⟨_, _, _, hl⟩ := V.md2 _ _ _ _ hm2
              rw [hm] at hl; cases hl
            · omega
          · refine .inr ⟨h2, ?_⟩
            by_cases ei : (ro j).2.2.1 = i
            · exfalso
              obtain ⟨_, _, _, hl⟩ := V.md2 j s i (ro j).2.2.2 (by rw [← h2, ← ho, ← ei])
              rw [hm] at hl; cases hl
            · omega
        · rintro ⟨ho, hh⟩
          refine ⟨ho, ?_⟩
          rcases hh with ⟨h3, hh⟩ | ⟨h2, hh⟩
          · exact .inl ⟨h3, by omega⟩
          · exact .inr ⟨h2, by omega⟩
      exact ⟨512 - (i + 1), by omega, i + 1, psx, hwi, rfl, by omega, k1.trans k2.kl, w2, by rw [e]; exact pf, by rw [e]⟩
    | some m =>
      have rm := V.md1 _ _ _ hs hlt hm
      have hmn := lead_lt hm
      rw [nxI_some, decide_eq_false (show ¬ ((m : Int) < 0) by omega)]
      simp only [Br_false]
      refine Loop_intro (σ := Int × Int × Unit) (x := (cntB (FB ro s i 0) R.n, 0, ())) (fun c z h' => ∃ (t : Nat) (psx : List Int), z.2.1 = (t : Int) ∧ c = 512 - t ∧ t ≤ 512 ∧ KL h (Lr rx R) h' ∧ V1 R h' rx asid (rt s) (ws, psx, nt s) ∧ PF R.n ps (FB ro s i t) psx ∧ z.1 = cntB (FB ro s i t) R.n) 512
        ⟨0, psx, rfl, rfl, by omega, k1.trans k2.kl, w2, pf, rfl⟩ ?_
      rintro c3 ⟨zc3, zz3, u3⟩ h3 ⟨t, ps3, ht, hc3, ht5, k3, w3, pf3, hcn3⟩
      simp only at ht hcn3
      subst ht hcn3
      have br3 := cntB_range (FB ro s i t) R.n
      have hwc : IntKind.wrap .i64 (cntB (FB ro s i t) R.n + 1) = cntB (FB ro s i t) R.n + 1 := wrap_i64' _ (by omega) (by omega)
      refine Br_dec (fun hlt3 => ?_) fun hge3 => ?_
      · have hlt3 : t < 512 := by simp only at hlt3; omega
        have hwt : IntKind.wrap .i64 ((t : Int) + 1) = ((t + 1 : Nat) : Int) := by rw [wrap_i64'] <;> omega
        refine N196 w3 hmn hlt3 fun h4 k4 => ?_
        have w4 := w3.kept k4
        simp only [LetI]
        cases hl : lead R.n (wat ws m t) with
        | none =>
          rw [nxI_none]
          simp only [show decide ((-1 : Int) ≥ 0) = false by decide, Br_false]
          have e : FB ro s i (t + 1) = FB ro s i t := by
            funext j
            unfold FB
            congr 1
            apply propext
            constructor
            · rintro ⟨ho, hh⟩
              refine ⟨ho, ?_⟩
              rcases hh with ⟨h3, hh⟩ | ⟨h2, hh⟩
              · refine .inl ⟨h3, ?_⟩
                by_cases ei : (ro j).2.2.1 = i ∧ (ro j).2.2.2 = t
                · exfalso
                  obtain ⟨_, m2, hm2, hl2⟩ := V.ls2 j s i t (by rw [← h3, ← ho, ← ei.1, ← ei.2])
                  obtain ⟨_, _, _, hl3⟩ := V.md2 _ _ _ _ hm2
                  rw [hm] at hl3
                  simp only [Option.some.injEq] at hl3
                  subst hl3
                  rw [hl] at hl2; cases hl2
                · omega
              · exact .inr ⟨h2, hh⟩
            · rintro ⟨ho, hh⟩
              refine ⟨ho, ?_⟩
              rcases hh with ⟨h3, hh⟩ | ⟨h2, hh⟩
              · exact .inl ⟨h3, by omega⟩
              · exact .inr ⟨h2, by omega⟩
          exact ⟨512 - (t + 1), by omega, t + 1, ps3, hwt, rfl, by omega, k3.trans k4.kl, w4, by rw [e]; exact pf3, by rw [e]⟩
        | some l =>
          have rl := V.ls1 _ _ _ _ _ rm hlt3 hl
          rw [nxI_some, decide_eq_true (show (l : Int) ≥ 0 by omega)]
          simp only [Br_true, NilP, add_mk, Nat.add_zero, Nat.zero_add]
          have e : ∀ j, FB ro s i (t + 1) j = if j = l then true else FB ro s i t j := by
            intro j
            by_cases ej : j = l
            · rw [if_pos ej, ej]
              unfold FB
              rw [rl]
              simp
            · rw [if_neg ej]
              unfold FB
              congr 1
              apply propext
              constructor
              · rintro ⟨ho, hh⟩
                refine ⟨ho, ?_⟩
                rcases hh with ⟨h3, hh⟩ | ⟨h2, hh⟩
                · refine .inl ⟨h3, ?_⟩
                  by_cases ei : (ro j).2.2.1 = i ∧ (ro j).2.2.2 = t
                  · exfalso
                    obtain ⟨_, m2, hm2, hl2⟩ := V.ls2 j s i t (by rw [← h3, ← ho, ← ei.1, ← ei.2])
                    obtain ⟨_, _, _, hl3⟩ := V.md2 _ _ _ _ hm2
                    rw [hm] at hl3
                    simp only [Option.some.injEq] at hl3
                    subst hl3
                    rw [hl] at hl2
                    simp only [Option.some.injEq] at hl2
                    exact ej hl2.symm
                  · omega
                · exact .inr ⟨h2, hh⟩
              · rintro ⟨ho, hh⟩
                refine ⟨ho, ?_⟩
                rcases hh with ⟨h3, hh⟩ | ⟨h2, hh⟩
                · exact .inl ⟨h3, by omega⟩
                · exact .inr ⟨h2, by omega⟩
          obtain ⟨psy, hg, pfy, gy, cy⟩ := PF.step V w4.gf pf3 (by rw [rl]; simp) (by unfold FB; rw [rl]; simp) e
          refine Ld_p w4.p (Y172 w4.pm w4.le w4.ex fun e' ys h5 hs5 u5 m5 => ?_)
          simp only at hs5
          rw [hg] at hs5
          simp only [Prod.mk.injEq] at hs5
          obtain ⟨rfl, rfl⟩ := hs5
          simp only [beq_self_eq_true, Br_true]
          exact ⟨512 - (t + 1), by omega, t + 1, psy, hwt, rfl, by omega, (k3.trans k4.kl).trans (u5.kl (by simp)), w4.pool u5 m5 gy, pfy, by rw [hwc, cy]⟩
      · have : t = 512 := by simp only at hge3; omega
        subst this
        simp only [NilP, add_mk, Nat.add_zero, Nat.zero_add]
        have e : ∀ j, FB ro s (i + 1) 0 j = if j = m then true else FB ro s i 512 j := by
          intro j
          by_cases ej : j = m
          · rw [if_pos ej, ej]
            unfold FB
            rw [rm]
            simp
          · rw [if_neg ej]
            unfold FB
            congr 1
            apply propext
            constructor
            · rintro ⟨ho, hh⟩
              refine ⟨ho, ?_⟩
              rcases hh with ⟨h3, hh⟩ | ⟨h2, hh⟩
              · refine .inl ⟨h3, ?_⟩
                have := (V.ls2 j s (ro j).2.2.1 (ro j).2.2.2 (by rw [← h3, ← ho])).1
                omega
              · refine .inr ⟨h2, ?_⟩
                by_cases ei : (ro j).2.2.1 = i
                · exfalso
                  obtain ⟨_, _, _, hl3⟩ := V.md2 j s i (ro j).2.2.2 (by rw [← h2, ← ho, ← ei])
                  rw [hm] at hl3
                  simp only [Option.some.injEq] at hl3
                  exact ej hl3.symm
                · omega
            · rintro ⟨ho, hh⟩
              refine ⟨ho, ?_⟩
              rcases hh with ⟨h3, hh⟩ | ⟨h2, hh⟩
              · exact .inl ⟨h3, by omega⟩
              · exact .inr ⟨h2, by omega⟩
        obtain ⟨psy, hg, pfy, gy, cy⟩ := PF.step V w3.gf pf3 (by rw [rm]; simp) (by unfold FB; rw [rm]; simp) e
        refine Ld_p w3.p (Y172 w3.pm w3.le w3.ex fun e' ys h5 hs5 u5 m5 => ?_)
        simp only at hs5
        rw [hg] at hs5
        simp only [Prod.mk.injEq] at hs5
        obtain ⟨rfl, rfl⟩ := hs5
        simp only [beq_self_eq_true, Br_true]
        exact ⟨512 - (i + 1), by omega, i + 1, psy, hwi, rfl, by omega, k3.trans (u5.kl (by simp)), w3.pool u5 m5 gy, pfy, by rw [hwc, cy]⟩
  · have : i = 512 := by simp only at hge; omega
    subst this
    simp only [NilP, add_mk, Nat.add_zero, Nat.zero_add]
    have e : ∀ j, ownB ro s j = if j = rt s then true else FB ro s 512 0 j := by
      intro j
      by_cases ej : j = rt s
      · rw [if_pos ej, ej]
        unfold ownB
        rw [r1]; simp
      · rw [if_neg ej]
        unfold FB ownB
        congr 1
        apply propext
        constructor
        · rintro ⟨h0, ho⟩
          refine ⟨ho, ?_⟩
          have h3 := V.kd j
          have : (ro j).1 = 1 ∨ (ro j).1 = 2 ∨ (ro j).1 = 3 := by omega
          rcases this with hk | hk | hk
          · exact absurd (V.rt2 j s (ro j).2.2.1 (ro j).2.2.2 (by rw [← hk, ← ho])).2.1.symm ej
          · exact .inr ⟨hk, (V.md2 j s (ro j).2.2.1 (ro j).2.2.2 (by rw [← hk, ← ho])).2.1⟩
          · obtain ⟨_, m, hm, _⟩ := V.ls2 j s (ro j).2.2.1 (ro j).2.2.2 (by rw [← hk, ← ho])
            exact .inl ⟨hk, .inl (V.md2 _ _ _ _ hm).2.1⟩
        · rintro ⟨ho, hh⟩
          exact ⟨by omega, ho⟩
    obtain ⟨psy, hg, pfy, gy, cy⟩ := PF.step V w1.gf pf (by rw [r1]; simp) (by unfold FB; rw [r1]; simp) e
    refine Ld_p w1.p (Ld_i w1.r (Y172 w1.pm w1.le w1.ex fun e' ys h5 hs5 u5 m5 => ?_))
    simp only at hs5
    rw [hg] at hs5
    simp only [Prod.mk.injEq] at hs5
    obtain ⟨rfl, rfl⟩ := hs5
    simp only [beq_self_eq_true, Br_true, LetI]
    rw [wrap_i64' _ (by omega) (by omega), ← cy, cntB_own, ← v.ct s hs]
    exact q h5 psy (k1.trans (u5.kl (by simp))) (w1.pool u5 m5 gy) pfy
end

theorem PM.kl {h h' : H} {bp bf n : Nat} {res : Int} {xs : List Int} {L : List Nat} (m : PM h bp bf n res xs) (k : KL h L h') (h1 : bp ∉ L) (h2 : bf ∉ L) : PM h' bp bf n res xs :=
  ⟨k.blk m.top h1, k.blk m.row h2, m.len, m.ne, m.lo, m.le, m.res0⟩
/-- Blocks of the program's side, and of the document's. -/
def CB (K : WK) (b : Nat) : Prop := b = K.bm ∨ b = K.bf ∨ b = K.bp ∨ b = K.pf ∨ ∃ s, K.L s = true ∧ b = K.bx s
def DB (R : RK) (K : WK) (rx : Nat → Nat) (b : Nat) : Prop := b = R.rm ∨ b = R.rt ∨ b = R.rp ∨ b ∈ R.cs ∨ ∃ s, K.L s = true ∧ b = rx s
theorem WH.kl {K : WK} {h0 h h' : H} {nt : Nat → Int} {ws ps : List Int} {L : List Nat} (w : WH K h0 h nt ws ps) (k : KL h L h') (hL : ∀ b ∈ L, ¬ CB K b ∧ h0.size ≤ b) : WH K h0 h' nt ws ps := by
  have m1 : K.bm ∉ L := fun h => (hL _ h).1 (.inl rfl)
  have m2 : K.bf ∉ L := fun h => (hL _ h).1 (.inr (.inl rfl))
  have m3 : K.bp ∉ L := fun h => (hL _ h).1 (.inr (.inr (.inl rfl)))
  have m4 : K.pf ∉ L := fun h => (hL _ h).1 (.inr (.inr (.inr (.inl rfl))))
  exact ⟨⟨w.pw.mw.kl k m1 m2, w.pw.pm.kl k m3 m4, w.pw.gf, w.pw.e1, w.pw.e2, w.pw.e3⟩, w.wd, fun s hs => ⟨k.blk (w.xm s hs).cells fun h => (hL _ h).1 (.inr (.inr (.inr (.inr ⟨s, hs, rfl⟩))))⟩, w.nx, w.ij, k.kept w.kp (fun b hb => (hL b hb).2), w.lo, w.lx⟩
/-- The document's memory and pool. -/
structure RB (R : RK) (h : H) (ws ps : List Int) : Prop where
  mw : RW h R.rm R.rt R.cs R.n ws
  pm : RM h R.rp R.ex R.n 0 ps
  gf : GF ps R.n
  g : ∀ c ∈ R.cs, c ∈ R.ex
  ex : ∀ b ∈ R.ex, b < h.size
  p1 : R.rp ∉ R.cs
  p2 : R.rp ≠ R.rm
  p3 : R.rp ≠ R.rt
theorem N140 {R : RK} {h : H} {ws ps : List Int} {asid : Int} {Q : Option Addr → Int → H → Prop} (w : RB R h ws ps)
    (q5 : ∀ h', newS R.n asid ws ps = none → KL h (R.rp :: R.cs) h' → RB R h' ws ps → Q none 5 h')
    (q : ∀ rx r ws' ps' h', newS R.n asid ws ps = some (r, (ws', ps', 1)) → KL h (R.rp :: R.cs) h' → h.size ≤ rx → RB R h' ws' ps' →
      h'[rx]? = some (.cells #[.pointer (some ⟨R.rm, 0, none⟩), .pointer (some ⟨R.rp, 0, none⟩), .int .i64 asid, .int .i64 (r : Int), .int .i64 1] 189) → Q (some ⟨rx, 0, none⟩) 0 h') :
    F140 (some ⟨R.rm, 0, none⟩) (some ⟨R.rp, 0, none⟩) asid Q h := by
  rw [F140_eq]
  refine Y171 w.pm w.gf (by omega) w.mw.ok.le w.ex fun r e ys h1 hs u1 m1 => ?_
  rw [sTake_one] at hs
  have base : ∀ ys, RM h1 R.rp R.ex R.n 0 ys → GF ys R.n → RB R h1 ws ys := fun ys m g =>
    ⟨w.mw.kl (L := [R.rp]) (u1.kl (by simp)) (by simpa using Ne.symm w.p2) (by simpa using Ne.symm w.p3) (fun c hc => by simp; intro e; exact w.p1 (e ▸ hc)), m, g, w.g, fun b hb => Nat.lt_of_lt_of_le (w.ex b hb) u1.1, w.p1, w.p2, w.p3⟩
  by_cases hc : cnt ps 0 R.n ≤ 0
  · rw [if_pos hc] at hs
    simp only [Prod.mk.injEq] at hs
    obtain ⟨rfl, rfl, rfl⟩ := hs
    simp only [LetI, show ((5 : Int) != 0) = true by decide, Br_true]
    exact q5 h1 (by unfold newS; rw [if_pos hc]) (u1.kl (by simp)) (base _ m1 w.gf)
  · rw [if_neg hc] at hs
    simp only [Prod.mk.injEq] at hs
    obtain ⟨rfl, rfl, rfl⟩ := hs
    have hf := fst0_lt w.gf hc
    simp only [LetI, bne_self_eq_false, Br_false]
    have g1 := w.gf.set5 w.pm.len hf.1 (c := 1) (o := asid) (x := 0) (by omega) (fun e => by omega)
    have b1 := base _ m1 g1
    refine R167 b1.mw (fun j h2 hj hjn u2 m2 => ?_) fun hh => absurd ⟨by omega, by omega⟩ hh
    obtain rfl : j = fst0 ps R.n := by omega
    refine Nw_intro fun a h3 ha k3 e3 => ?_
    have hu1 := u1.1
    have hu2 := u2.1
    refine q a _ _ _ h3 (by unfold newS; rw [if_neg hc]) (((u1.kl (by simp)).trans (u2.mono (by simp; intro a ha; exact .inr ha))).trans k3.kl) (by omega) ⟨m2.kept k3, (b1.pm.kl u2 w.p1 w.g).kept k3, g1, w.g, fun b hb => ?_, w.p1, w.p2, w.p3⟩ e3
    have := w.ex b hb
    have := k3.1
    omega
/-- Frames alike. -/
theorem frame_eq {n : Nat} {ws wsr : List Int} (o1 : OkW n ws) (o2 : OkW n wsr) {j : Nat} (hj : j < n) (h : ∀ t, t < 512 → wat ws j t = wat wsr j t) : frame (bytesW ws) j = frame (bytesW wsr) j := by
  have hb1 := o1.big hj
  have hb2 := o2.big hj
  have l1 : (frame (bytesW ws) j).length = 4096 := by unfold frame; rw [List.length_take, List.length_drop, bytesW_len]; omega
  have l2 : (frame (bytesW wsr) j).length = 4096 := by unfold frame; rw [List.length_take, List.length_drop, bytesW_len]; omega
  refine ext_getD (by rw [l1, l2]) fun k => ?_
  by_cases hk : k < 4096
  · rw [frame_getD hk, frame_getD hk]
    have e : j * 4096 + k = 8 * (j * 512 + k / 8) + k % 8 := by omega
    rw [e, bytesW_getD _ _ _ (by omega) (by omega), bytesW_getD _ _ _ (by omega) (by omega)]
    have := h (k / 8) (by omega)
    unfold wat at this
    rw [this]
  · rw [List.getD_eq_getElem?_getD, List.getD_eq_getElem?_getD, List.getElem?_eq_none (by omega), List.getElem?_eq_none (by omega)]
theorem P146 {R : RK} {h : H} {bm bf bp pf : Nat} {ws wsr ps : List Int} {Q : Bool → H → Prop} (w : PW h bm bf bp pf R.n ws ps) (r : RB R h wsr ps)
    (ha : ∀ j, j < R.n → ps.getD (5 * j) 0 = 1 → ∀ t, t < 512 → wat ws j t = wat wsr j t) (q : ∀ h', Kept h h' → Q true h') : F146 (some ⟨bm, 0, none⟩) (some ⟨bp, 0, none⟩) (some ⟨R.rm, 0, none⟩) (some ⟨R.rp, 0, none⟩) Q h := by
  rw [F146_eq]
  unfold B146
  obtain ⟨cap, c0⟩ := r.mw.mem.c0
  obtain ⟨rf, pcap, p0, _, pr⟩ := r.pm.c0
  have hle := r.mw.ok.le
  simp only [NilP, add_mk, Nat.add_zero, Nat.zero_add]
  refine Ld_s (x := ⟨some ⟨R.rt, 0, none⟩, R.n, cap⟩) c0 ?_
  refine Loop_intro (σ := Int × Unit) (x := (0, ())) (fun c z h' => ∃ j : Nat, z.1 = (j : Int) ∧ c = R.n - j ∧ j ≤ R.n ∧ Kept h h') R.n ⟨0, rfl, rfl, by omega, Kept.refl h⟩ ?_
  rintro c ⟨jj, u⟩ h1 ⟨j, hj, hc, hjn, k1⟩
  simp only at hj
  subst hj
  refine Br_dec (fun hlt => ?_) fun _ => q h1 k1
  have hlt : j < R.n := by simp only at hlt; omega
  have hwj : IntKind.wrap .i64 ((j : Int) + 1) = ((j + 1 : Nat) : Int) := by rw [wrap_i64'] <;> omega
  simp only [LetI]
  refine X78 (w.pm.kept k1) (fun j' h2 hj' _ k2 => ?_) fun h2 hh _ => absurd ⟨by omega, by omega⟩ hh
  obtain rfl : j' = j := by omega
  refine Nw_intro fun a h3 hha k3 e3 => ?_
  rw [zero72] at e3
  have e3 : IL h3 a 72 [0, 0, 0, 0, 0] := e3
  simp only [add_mk, Nat.add_zero, Nat.zero_add]
  have P5 := put5 (a := ps.getD (5 * j' + 0) 0) (b := ps.getD (5 * j' + 1) 0) (c := ps.getD (5 * j' + 2) 0) (d := ps.getD (5 * j' + 3) 0) (e := ps.getD (5 * j' + 4) 0) e3 (K := fun h20 =>
    Ld (.i .i64) h20 ⟨a, 0, none⟩ fun x21 => Ld (.i .i64) h20 ⟨a, 1, none⟩ fun x22 => Ld (.i .i64) h20 ⟨a, 2, none⟩ fun x23 => Ld (.i .i64) h20 ⟨a, 3, none⟩ fun x24 => Ld (.i .i64) h20 ⟨a, 4, none⟩ fun x25 =>
    Ld .s h20 ⟨R.rp, 0, none⟩ fun x27 =>
    IdxS x27.a x27.len (j' : Int) fun a28 =>
    Ld (.i .i64) h20 ((a28.add (Int.toNat (j' : Int) * 5)).add 0) fun x29 =>
    Ld (.i .i64) h20 ((a28.add (Int.toNat (j' : Int) * 5)).add 1) fun x30 =>
    Ld (.i .i64) h20 ((a28.add (Int.toNat (j' : Int) * 5)).add 2) fun x31 =>
    Ld (.i .i64) h20 ((a28.add (Int.toNat (j' : Int) * 5)).add 3) fun x32 =>
    Ld (.i .i64) h20 ((a28.add (Int.toNat (j' : Int) * 5)).add 4) fun x33 =>
    Br (!((x21 == x29) && ((x22 == x30) && ((x23 == x31) && ((x24 == x32) && ((x25 == x33) && true))))))
    (Q false h20)
    (Ld (.i .i64) h20 ⟨a, 0, none⟩ fun x34 =>
    Br (x34 == 1)
    (Ld .s h20 ⟨R.rm, 0, none⟩ fun x36 =>
    IdxS x36.a x36.len (j' : Int) fun a37 =>
    Ld .s h20 ((a37.add (Int.toNat (j' : Int) * 1)).add 0) fun x38 =>
    F64 (some ⟨bm, 0, none⟩) (j' : Int) (fun r39 h40 =>
    (hcell h40 ((a37.add (Int.toNat (j' : Int) * 1)).add 0) = some (.slice x38.a x38.len x38.cap)) ∧
    (hcell h40 ⟨R.rm, 0, none⟩ = some (.slice x36.a x36.len x36.cap)) ∧
    QC [.one .b] h40 (fun K' h' => F65 r39 x38 (fun r42 h'' => K' (.bool r42) h'') h') fun x41 =>
    Br (!x41.1)
    (Q false h40)
    (∃ k', k' < c ∧ ∃ j : Nat, IntKind.wrap .i64 ((j' : Int) + 1) = (j : Int) ∧ k' = R.n - j ∧ j ≤ R.n ∧ Kept h h40)) h20)
    (∃ k', k' < c ∧ ∃ j : Nat, IntKind.wrap .i64 ((j' : Int) + 1) = (j : Int) ∧ k' = R.n - j ∧ j ≤ R.n ∧ Kept h h20))) fun h4 u4 e4 => ?_
  · exact P5
  · have k14 : Kept h1 h4 := u4.kept (k2.trans k3) (by have := k2.1; omega)
    have k4 := k1.trans k14
    have hdec : R.n - (j' + 1) < c := by omega
    refine Ld_i (x := ps.getD (5 * j' + 0) 0) (by rw [hcell_blk e4]; rfl) (Ld_i (x := ps.getD (5 * j' + 1) 0) (by rw [hcell_blk e4]; rfl) (Ld_i (x := ps.getD (5 * j' + 2) 0) (by rw [hcell_blk e4]; rfl) (Ld_i (x := ps.getD (5 * j' + 3) 0) (by rw [hcell_blk e4]; rfl) (Ld_i (x := ps.getD (5 * j' + 4) 0) (by rw [hcell_blk e4]; rfl) ?_))))
    refine Ld_s (x := ⟨some ⟨rf, 0, none⟩, R.n, pcap⟩) (k4.cell p0) ⟨⟨Int.natCast_nonneg j', Int.ofNat_lt.2 hlt⟩, ?_⟩
    simp only [add_mk, Int.toNat_natCast, Nat.zero_add]
    refine Ld_i (pr h4 k4 j' 0 hlt (by omega)) (Ld_i (pr h4 k4 j' 1 hlt (by omega)) (Ld_i (pr h4 k4 j' 2 hlt (by omega)) (Ld_i (pr h4 k4 j' 3 hlt (by omega)) (Ld_i (pr h4 k4 j' 4 hlt (by omega)) ?_))))
    simp only [beq_self_eq_true, Bool.and_self, Bool.not_true, Br_false]
    refine Ld_i (x := ps.getD (5 * j' + 0) 0) (by rw [hcell_blk e4]; rfl) (Br_beq_int (fun hone => ?_) fun _ => ?_)
    · have r4 := r.mw.kept k4
      refine Ld_s (x := ⟨some ⟨R.rt, 0, none⟩, R.n, cap⟩) (k4.cell c0) ⟨⟨Int.natCast_nonneg j', Int.ofNat_lt.2 hlt⟩, ?_⟩
      simp only [add_mk, Nat.mul_one, Nat.add_zero, Nat.zero_add]
      refine Ld_s (x := ⟨some ⟨R.cs.getD j' 0, 0, none⟩, 4096, 4096⟩) (r4.mem.c1 hlt) ?_
      refine C64 (w.mw.kept k4).mem (fun j2 p pc bs h7 hj2 _ k7 hp B7 hps hpl hpb => ?_) fun hh => absurd ⟨by omega, by omega⟩ hh
      obtain rfl : j2 = j' := by omega
      have r7 := r4.kept k7
      have k47 := k4.trans k7
      refine ⟨r7.mem.c1 hlt, k47.cell c0, ⟨(true, ()), ?_, ?_⟩⟩
      · have S1 := SB.frame B7 hpl hpb pc
        have S2 : SB h7 ⟨some ⟨R.cs.getD j2 0, 0, none⟩, 4096, 4096⟩ (frame (bytesW wsr) j2) := by
          have := SB.row (n := 4096) (c := 4096) (r7.mem.row j2 hlt) (by rw [r7.mem.fl hlt]; exact Nat.le_refl _) (fun x hx => r7.mem.byte x (List.mem_of_mem_drop (List.mem_of_mem_take hx)))
          rw [List.take_of_length_le (by rw [r7.mem.fl hlt]; exact Nat.le_refl _)] at this
          exact this
        rw [hps, frame_eq w.mw.ok r.mw.ok hlt (ha j2 hlt hone)] at S1
        exact C65 S1 S2 ⟨rfl, rfl⟩
      · simp only [Bool.not_true, Br_false]
        exact ⟨R.n - (j2 + 1), hdec, j2 + 1, hwj, rfl, hlt, k47⟩
    · exact ⟨R.n - (j' + 1), hdec, j' + 1, hwj, rfl, hlt, k4⟩
/-- A slice of pointers to blocks, that grows. -/
def pV (x : Nat) : Value := .pointer (some ⟨x, 0, none⟩)
def GP (h : H) (t : Nat) (s : Sl) (xs : List Nat) (ob : Option Nat) : Prop :=
  s.len = xs.length ∧ ((s = ⟨none, 0, 0⟩ ∧ ob = none) ∨ ∃ (b : Nat) (vs : Array Value), ob = some b ∧ s.a = some ⟨b, 0, none⟩ ∧ h[b]? = some (.cells vs t) ∧ vs.size = s.cap ∧ s.len ≤ s.cap ∧ ∀ (j x : Nat), xs[j]? = some x → vs[j]? = some (pV x))
theorem GP.kl {h h' : H} {t : Nat} {s : Sl} {xs : List Nat} {ob : Option Nat} {L : List Nat} (g : GP h t s xs ob) (k : KL h L h') (hL : ∀ b, ob = some b → b ∉ L) : GP h' t s xs ob := by
  refine ⟨g.1, ?_⟩
  rcases g.2 with g | ⟨b, vs, h1, h2, h3, h4⟩
  · exact .inl g
  · exact .inr ⟨b, vs, h1, h2, k.blk h3 (hL b h1), h4⟩
theorem GP.get {h : H} {t : Nat} {s : Sl} {xs : List Nat} {ob : Option Nat} (g : GP h t s xs ob) {j : Nat} (hj : j < xs.length) : ∃ b, ob = some b ∧ s.a = some ⟨b, 0, none⟩ ∧ hcell h ⟨b, j, none⟩ = some (.pointer (some ⟨xs[j], 0, none⟩)) := by
  rcases g.2 with ⟨h1, _⟩ | ⟨b, vs, h1, h2, h3, h4, h5, h6⟩
  · have := g.1; rw [h1] at this; simp at this; omega
  · exact ⟨b, h1, h2, by rw [hcell_blk h3, h6 j xs[j] (List.getElem?_eq_getElem hj)]; rfl⟩
theorem AppP {h : H} {t bytes tt x a : Nat} {s : Sl} {xs : List Nat} {ob : Option Nat} {K : Sl → H → Prop} (hz : ∀ n, (zerosC Try.prog t n).size = n) (g : GP h t s xs ob) (ea : h[a]? = some (.cells #[pV x] tt))
    (hb : (s.len + 1) * bytes ≤ 140737488355328)
    (q : ∀ s' b h', GP h' t s' (xs ++ [x]) (some b) → ((ob = some b ∧ KB h b h') ∨ (h.size ≤ b ∧ Kept h h')) → K s' h') : App Try.prog ⟨none, t, 1, bytes⟩ h s ⟨some ⟨a, 0, none⟩, 1, 1⟩ K := by
  have gl := g.1
  refine ⟨[pV x], ⟨rfl, fun j v hv => ⟨_, rfl, ?_⟩, by simp; rfl⟩, ?_⟩
  · have : j = 0 := by have := (List.getElem?_eq_some_iff.1 hv).1; simpa using this
    subst this
    simp only [List.getElem?_cons_zero, Option.some.injEq] at hv
    subst hv
    rw [add_mk, hcell_blk ea]; rfl
  by_cases hc : s.len + 1 ≤ s.cap
  · refine .inl ⟨hc, ?_, ?_⟩
    · rintro ad had j hj
      rcases g.2 with ⟨h1, h2⟩ | ⟨b, vs, h1, h2, h3, h4, h5, h6⟩
      · rw [h1] at had; cases had
      · rw [h2] at had
        simp only [Option.some.injEq] at had
        subst had
        have : j = 0 := by simpa using hj
        subst this
        simp only [add_mk, Nat.zero_add, Nat.mul_one, Nat.add_zero]
        have hlt : s.len < vs.size := by omega
        refine ⟨⟨vs[s.len], by rw [hcell_blk h3]; simp [hlt]⟩, by simp [hfroz, h3]⟩
    · rcases g.2 with ⟨h1, h2⟩ | ⟨b, vs, h1, h2, h3, h4, h5, h6⟩
      · rw [h1] at hc; simp at hc
      · rw [h2]
        simp only [add_mk, Nat.zero_add, Nat.mul_one, hsetL, Nat.add_zero]
        refine q ⟨some ⟨b, 0, none⟩, s.len + 1, s.cap⟩ b _ ⟨by simp; exact gl, .inr ⟨b, _, rfl, rfl, hset_blk (o := s.len) (pV x) h3, by simp; exact h4, hc, fun j y hy => ?_⟩⟩ (.inl ⟨h1, (hset_upd h b s.len _).kb⟩)
        by_cases e : j = s.len
        · subst e
          rw [List.getElem?_append_right (by omega), show s.len - xs.length = 0 by omega] at hy
          simp only [List.getElem?_cons_zero, Option.some.injEq] at hy
          subst hy
          rw [Array.getElem?_setIfInBounds]
          simp; omega
        · have hj : j < xs.length := by
            have := (List.getElem?_eq_some_iff.1 hy).1
            simp at this; omega
          rw [List.getElem?_append_left hj] at hy
          rw [Array.getElem?_setIfInBounds_ne (Ne.symm e)]
          exact h6 j y hy
  · refine .inr ⟨by simp only; omega, hb, xs.map pV, ⟨by simp; exact gl.symm, fun j v hv => ?_, ?_⟩, fun cap hcap => ?_⟩
    · have hj : j < xs.length := by
        have := (List.getElem?_eq_some_iff.1 hv).1
        simpa using this
      obtain ⟨b, _, h2, h3⟩ := g.get hj
      refine ⟨_, h2, ?_⟩
      rw [add_mk, Nat.zero_add, h3]
      rw [List.getElem?_map, List.getElem?_eq_getElem hj] at hv
      simp at hv
      rw [← hv]; rfl
    · intro v hv
      simp only [List.mem_map] at hv
      obtain ⟨y, _, rfl⟩ := hv
      rfl
    · obtain ⟨vs, hvs⟩ : ∃ vs : Array Value, vs = (xs.map pV).toArray ++ [pV x].toArray ++ zerosC Try.prog t (cap - (s.len + 1)) := ⟨_, rfl⟩
      simp only at hcap ⊢
      rw [← hvs]
      refine q ⟨some ⟨h.size, 0, none⟩, s.len + 1, cap⟩ h.size _ ⟨by simp; exact gl, .inr ⟨h.size, vs, rfl, rfl, new_blk h vs t, ?_, hcap, fun j y hy => ?_⟩⟩ (.inr ⟨Nat.le_refl _, Kept.new h vs t⟩)
      · rw [hvs]; simp [hz]; omega
      · have hj := (List.getElem?_eq_some_iff.1 hy).1
        rw [hvs, Array.getElem?_append_left (by simpa using hj)]
        have : ((xs.map pV).toArray ++ [pV x].toArray) = ((xs ++ [x]).map pV).toArray := by simp
        rw [this]
        simp only [List.getElem?_toArray, List.getElem?_map, hy]; rfl

structure RH (R : RK) (K : WK) (rx : Nat → Nat) (h0 h : H) (nt : Nat → Int) (ws ps : List Int) : Prop where
  b : RB R h ws ps
  n : R.n = K.n
  xm : ∀ s, K.L s = true → h[rx s]? = some (.cells #[.pointer (some ⟨R.rm, 0, none⟩), .pointer (some ⟨R.rp, 0, none⟩), .int .i64 (K.ai s), .int .i64 (K.rt s : Int), .int .i64 (nt s)] 189)
  x0 : ∀ s, K.L s = true → rx s ∈ R.ex
  x1 : ∀ s, K.L s = true → rx s ∉ R.cs ∧ rx s ≠ R.rm ∧ rx s ≠ R.rt ∧ rx s ≠ R.rp
  ij : ∀ s t, K.L s = true → K.L t = true → rx s = rx t → s = t
  dj : ∀ b, CB K b → ¬ DB R K rx b
  ec : K.bf ∈ R.ex ∧ K.pf ∈ R.ex ∧ ∀ s, K.L s = true → K.bx s ∈ R.ex
  lo : ∀ b, DB R K rx b → h0.size ≤ b
theorem WH.cb {K : WK} {h0 h : H} {nt : Nat → Int} {ws ps : List Int} (w : WH K h0 h nt ws ps) {b : Nat} (c : CB K b) : b < h.size := by
  rcases c with rfl | rfl | rfl | rfl | ⟨s, hs, rfl⟩
  · exact w.pw.mw.lt.1
  · exact w.pw.mw.lt.2
  · exact (Array.getElem?_eq_some_iff.1 w.pw.pm.top).1
  · exact (Array.getElem?_eq_some_iff.1 (show h[K.pf]? = some _ from w.pw.pm.row)).1
  · exact (w.w1 hs).lt.2.2.2.2
section
variable {R : RK} {K : WK} {rx : Nat → Nat} {h0 h h' : H} {nt : Nat → Int} {ws ps : List Int}
theorem RB.lt (b : RB R h ws ps) : R.rm < h.size ∧ R.rt < h.size ∧ R.rp < h.size ∧ ∀ c ∈ R.cs, c < h.size := by
  have l := b.mw.mem.lt
  refine ⟨l.1, l.2.1, ?_, l.2.2⟩
  obtain ⟨_, _, _, m, _⟩ := b.pm
  exact (Array.getElem?_eq_some_iff.1 m.top).1
theorem RB.kl {L : List Nat} (b : RB R h ws ps) (k : KL h L h') (h1 : R.rm ∉ L) (h2 : R.rt ∉ L) (h3 : R.rp ∉ L) (h4 : ∀ c ∈ R.cs, c ∉ L) (h5 : ∀ x ∈ L, x ∈ R.ex) : RB R h' ws ps :=
  ⟨b.mw.kl k h1 h2 h4, b.pm.kl k h3 h5, b.gf, b.g, fun x hx => Nat.lt_of_lt_of_le (b.ex x hx) k.1, b.p1, b.p2, b.p3⟩
theorem RB.kept (b : RB R h ws ps) (k : Kept h h') : RB R h' ws ps := b.kl (L := []) k.kl (by simp) (by simp) (by simp) (by simp) (by simp)
theorem RH.db (r : RH R K rx h0 h nt ws ps) {b : Nat} (d : DB R K rx b) : b < h.size := by
  have l := r.b.lt
  rcases d with rfl | rfl | rfl | hc | ⟨s, hs, rfl⟩
  · exact l.1
  · exact l.2.1
  · exact l.2.2.1
  · exact l.2.2.2 _ hc
  · exact (Array.getElem?_eq_some_iff.1 (r.xm s hs)).1
theorem RH.kl {L : List Nat} (r : RH R K rx h0 h nt ws ps) (k : KL h L h') (hL : ∀ b ∈ L, ¬ DB R K rx b ∧ b ∈ R.ex) : RH R K rx h0 h' nt ws ps :=
  ⟨r.b.kl k (fun x => (hL _ x).1 (.inl rfl)) (fun x => (hL _ x).1 (.inr (.inl rfl))) (fun x => (hL _ x).1 (.inr (.inr (.inl rfl)))) (fun c hc x => (hL _ x).1 (.inr (.inr (.inr (.inl hc))))) (fun x hx => (hL x hx).2),
    r.n, fun s hs => k.blk (r.xm s hs) (fun x => (hL _ x).1 (.inr (.inr (.inr (.inr ⟨s, hs, rfl⟩))))), r.x0, r.x1, r.ij, r.dj, r.ec, r.lo⟩
theorem RH.kept (r : RH R K rx h0 h nt ws ps) (k : Kept h h') : RH R K rx h0 h' nt ws ps := r.kl (L := []) k.kl (by simp)
theorem RH.code (r : RH R K rx h0 h nt ws ps) {s : Nat} (hs : K.L s = true) (k : KL h (L3b K.bf K.pf (K.bx s)) h') : RH R K rx h0 h' nt ws ps := by
  refine r.kl k fun b hb => ?_
  simp only [L3b, List.mem_cons, List.not_mem_nil, or_false] at hb
  rcases hb with rfl | rfl | rfl
  · exact ⟨r.dj _ (.inr (.inl rfl)), r.ec.1⟩
  · exact ⟨r.dj _ (.inr (.inr (.inr (.inl rfl)))), r.ec.2.1⟩
  · exact ⟨r.dj _ (.inr (.inr (.inr (.inr ⟨s, hs, rfl⟩)))), r.ec.2.2 s hs⟩
theorem RH.v1 (r : RH R K rx h0 h nt ws ps) {s : Nat} (hs : K.L s = true) : V1 R h (rx s) (K.ai s) (K.rt s) (ws, ps, nt s) :=
  ⟨r.b.mw, r.b.pm, r.b.gf, r.xm s hs, r.b.g, r.x0 s hs, r.b.ex, (r.x1 s hs).1, (r.x1 s hs).2.1, (r.x1 s hs).2.2.1, (r.x1 s hs).2.2.2, r.b.p1, r.b.p2, r.b.p3⟩
theorem V1.rb {s : PS} {x : Nat} {a : Int} {ro : Nat} (v : V1 R h x a ro s) : RB R h s.1 s.2.1 := ⟨v.mw, v.pm, v.gf, v.g, v.ex, v.p1, v.p2, v.p3⟩
theorem RH.lrx (r : RH R K rx h0 h nt ws ps) {s t : Nat} (hs : K.L s = true) (ht : K.L t = true) (e : t ≠ s) : rx t ∉ Lr (rx s) R := by
  simp only [Lr, List.mem_cons, not_or]
  exact ⟨fun x => e (r.ij t s ht hs x), (r.x1 t ht).2.2.2, (r.x1 t ht).1⟩
theorem RH.upd (r : RH R K rx h0 h nt ws ps) {s : Nat} {s' : PS} (hs : K.L s = true) (k : KL h (Lr (rx s) R) h') (v : V1 R h' (rx s) (K.ai s) (K.rt s) s') : RH R K rx h0 h' (setN nt s s'.2.2) s'.1 s'.2.1 := by
  refine ⟨v.rb, r.n, fun t ht => ?_, r.x0, r.x1, r.ij, r.dj, r.ec, r.lo⟩
  by_cases e : t = s
  · subst e; rw [setN_at]; exact v.xm
  · rw [show setN nt s s'.2.2 t = nt t by unfold setN; rw [if_neg e]]
    exact k.blk (r.xm t ht) (r.lrx hs ht e)
theorem WH.ref {ws2 ps2 : List Int} {nt2 : Nat → Int} (w : WH K h0 h nt ws ps) (r : RH R K rx h0 h nt2 ws2 ps2) {s : Nat} (hs : K.L s = true) (k : KL h (Lr (rx s) R) h') : WH K h0 h' nt ws ps := by
  refine w.kl k fun b hb => ?_
  have d : DB R K rx b := by
    simp only [Lr, List.mem_cons] at hb
    rcases hb with rfl | rfl | hb
    · exact .inr (.inr (.inr (.inr ⟨s, hs, rfl⟩)))
    · exact .inr (.inr (.inl rfl))
    · exact .inr (.inr (.inr (.inl hb)))
  exact ⟨fun c => r.dj b c d, r.lo b d⟩
theorem CB.del {s b : Nat} (c : CB (K.del s) b) : CB K b := by
  rcases c with h | h | h | h | ⟨t, ht, h⟩
  · exact .inl h
  · exact .inr (.inl h)
  · exact .inr (.inr (.inl h))
  · exact .inr (.inr (.inr (.inl h)))
  · refine .inr (.inr (.inr (.inr ⟨t, ?_, h⟩)))
    have ht : delL K.L s t = true := ht
    unfold delL at ht
    split at ht
    · cases ht
    · exact ht
theorem DB.del {s b : Nat} (c : DB R (K.del s) rx b) : DB R K rx b := by
  rcases c with h | h | h | h | ⟨t, ht, h⟩
  · exact .inl h
  · exact .inr (.inl h)
  · exact .inr (.inr (.inl h))
  · exact .inr (.inr (.inr (.inl h)))
  · refine .inr (.inr (.inr (.inr ⟨t, ?_, h⟩)))
    have ht : delL K.L s t = true := ht
    unfold delL at ht
    split at ht
    · cases ht
    · exact ht
theorem del_L {s t : Nat} (h : (K.del s).L t = true) : t ≠ s ∧ K.L t = true := by
  have h : delL K.L s t = true := h
  unfold delL at h
  by_cases e : t = s
  · rw [if_pos e] at h; cases h
  · rw [if_neg e] at h; exact ⟨e, h⟩
theorem RH.close (r : RH R K rx h0 h nt ws ps) {s : Nat} {ps' : List Int} {nt' : Nat → Int} (hs : K.L s = true) (k : KL h (Lr (rx s) R) h') (v : V1 R h' (rx s) (K.ai s) (K.rt s) (ws, ps', nt s)) (hn : ∀ t, t ≠ s → nt' t = nt t) :
    RH R (K.del s) rx h0 h' nt' ws ps' := by
  refine ⟨v.rb, r.n, fun t ht => ?_, fun t ht => r.x0 t (del_L ht).2, fun t ht => r.x1 t (del_L ht).2, fun t u ht hu => r.ij t u (del_L ht).2 (del_L hu).2, fun b c d => r.dj b c.del d.del, ⟨r.ec.1, r.ec.2.1, fun t ht => r.ec.2.2 t (del_L ht).2⟩, fun b d => r.lo b d.del⟩
  obtain ⟨e, ht⟩ := del_L ht
  rw [hn t e]
  exact k.blk (r.xm t ht) (r.lrx hs ht e)
/-- The program's acts, by what they come to. -/
theorem Wd.enterS {n : Nat} {L : Nat → Bool} {rt : Nat → Nat} (v : Wd n L rt nt ws ps) {s : Nat} (hs : L s = true) {asid vpn frame prot e : Int} {s' : PS} (h : Go.Proofs.Ytfijchofplkcoaa.enterS n (rt s) asid vpn frame prot (ws, ps, nt s) = (e, s')) :
    Wd n L rt (setN nt s s'.2.2) s'.1 s'.2.1 := by
  by_cases hb : badE n vpn frame prot
  · unfold Go.Proofs.Ytfijchofplkcoaa.enterS at h
    rw [if_pos hb] at h
    simp only [Prod.mk.injEq] at h
    obtain ⟨rfl, rfl⟩ := h
    simp only
    rw [setN_self]; exact v
  · obtain ⟨nd, _, _, hh⟩ := v.enter' (asid := asid) (frame := frame) (prot := prot) hs hb
    rcases hh with ⟨_, s2, e2, ok, _⟩ | ⟨_, ws', ps', e2, wd, _⟩
    · rw [e2] at h
      simp only [Prod.mk.injEq] at h
      rw [← h.2]; exact ok.wd
    · rw [e2] at h
      simp only [Prod.mk.injEq] at h
      rw [← h.2]
      simp only
      rw [setN_self]; exact wd
theorem X130 {s : Nat} {v f p : Int} {Q : Int → H → Prop} (w : WH K h0 h nt ws ps) (hs : K.L s = true)
    (q : ∀ h' e s', enterS K.n (K.rt s) (K.ai s) v f p (ws, ps, nt s) = (e, s') → KL h (L3b K.bf K.pf (K.bx s)) h' → WH K h0 h' (setN nt s s'.2.2) s'.1 s'.2.1 → Q e h') : F130 (some ⟨K.bx s, 0, none⟩) v f p Q h :=
  P130 (w.w1 hs) (w.cnt hs).1 (w.rlt hs) (by have := w.cnt hs; simp only; omega) fun h' e s' he k w1 => q h' e s' he k (w.upd hs k w1 (w.wd.enterS hs he))
theorem X134 {s : Nat} {v : Int} {Q : Bool → H → Prop} (w : WH K h0 h nt ws ps) (hs : K.L s = true)
    (q : ∀ h' e s', removeS K.n (K.rt s) v (ws, ps, nt s) = (e, s') → KL h (L3b K.bf K.pf (K.bx s)) h' → WH K h0 h' (setN nt s s'.2.2) s'.1 s'.2.1 → Q e h') : F134 (some ⟨K.bx s, 0, none⟩) v Q h :=
  P134 (w.w1 hs) (w.cnt hs).1 (w.rlt hs) (by have := w.cnt hs; simp only; omega) fun h' e s' he k w1 => q h' e s' he k (w.upd hs k w1 (by
    obtain ⟨s2, e2, ok⟩ := w.wd.remove hs v
    rw [e2] at he
    simp only [Prod.mk.injEq] at he
    rw [← he.2]; exact ok.wd))
theorem X137 {s : Nat} {v p : Int} {Q : Bool → H → Prop} (w : WH K h0 h nt ws ps) (hs : K.L s = true)
    (q : ∀ h' e s', protectS K.n (K.rt s) v p (ws, ps, nt s) = (e, s') → KL h (L3b K.bf K.pf (K.bx s)) h' → WH K h0 h' (setN nt s s'.2.2) s'.1 s'.2.1 → Q e h') : F137 (some ⟨K.bx s, 0, none⟩) v p Q h :=
  P137 (w.w1 hs) (w.cnt hs).1 (w.rlt hs) (by have := w.cnt hs; simp only; omega) fun h' e s' he k w1 => q h' e s' he k (w.upd hs k w1 (by
    obtain ⟨s2, e2, ok⟩ := w.wd.protect hs v p
    rw [e2] at he
    simp only [Prod.mk.injEq] at he
    rw [← he.2]; exact ok.wd))
theorem X138 {s : Nat} {v p : Int} {Q : Int → H → Prop} (w : WH K h0 h nt ws ps) (hs : K.L s = true)
    (q : ∀ h' e s', clearS K.n (K.rt s) v p (ws, ps, nt s) = (e, s') → KL h (L3b K.bf K.pf (K.bx s)) h' → WH K h0 h' (setN nt s s'.2.2) s'.1 s'.2.1 → Q e h') : F138 (some ⟨K.bx s, 0, none⟩) v p Q h :=
  P138 (w.w1 hs) (w.cnt hs).1 (w.rlt hs) (by have := w.cnt hs; simp only; omega) fun h' e s' he k w1 => q h' e s' he k (w.upd hs k w1 (by
    obtain ⟨s2, e2, ok⟩ := w.wd.clear hs v p
    rw [e2] at he
    simp only [Prod.mk.injEq] at he
    rw [← he.2]; exact ok.wd))
theorem RH.nb (r : RH R K rx h0 h nt ws ps) (wd : Wd K.n K.L K.rt nt ws ps) {s : Nat} (hs : K.L s = true) : 0 ≤ nt s ∧ nt s ≤ 800 := by
  have := wd.cntS hs; have := r.b.mw.ok.le; have := r.n; omega
theorem Y141 {s : Nat} {v f p : Int} {Q : Int → H → Prop} (r : RH R K rx h0 h nt ws ps) (wd : Wd K.n K.L K.rt nt ws ps) (hs : K.L s = true)
    (q : ∀ h' e s', enterS K.n (K.rt s) (K.ai s) v f p (ws, ps, nt s) = (e, s') → KL h (Lr (rx s) R) h' → RH R K rx h0 h' (setN nt s s'.2.2) s'.1 s'.2.1 → Q e h') : F141 (some ⟨rx s, 0, none⟩) v f p Q h :=
  N141 (r.v1 hs) (by rw [r.n]; exact wd.way hs v) (r.nb wd hs) fun h' e s' he k v1 => q h' e s' (by rw [← r.n]; exact he) k (r.upd hs k v1)
theorem Y142 {s : Nat} {v : Int} {Q : Bool → H → Prop} (r : RH R K rx h0 h nt ws ps) (wd : Wd K.n K.L K.rt nt ws ps) (hs : K.L s = true)
    (q : ∀ h' e s', removeS K.n (K.rt s) v (ws, ps, nt s) = (e, s') → KL h (Lr (rx s) R) h' → RH R K rx h0 h' (setN nt s s'.2.2) s'.1 s'.2.1 → Q e h') : F142 (some ⟨rx s, 0, none⟩) v Q h :=
  N142 (r.v1 hs) (by rw [r.n]; exact wd.way hs v) (r.nb wd hs) fun h' e s' he k v1 => q h' e s' (by rw [← r.n]; exact he) k (r.upd hs k v1)
theorem Y143 {s : Nat} {v p : Int} {Q : Bool → H → Prop} (r : RH R K rx h0 h nt ws ps) (wd : Wd K.n K.L K.rt nt ws ps) (hs : K.L s = true)
    (q : ∀ h' e s', protectS K.n (K.rt s) v p (ws, ps, nt s) = (e, s') → KL h (Lr (rx s) R) h' → RH R K rx h0 h' (setN nt s s'.2.2) s'.1 s'.2.1 → Q e h') : F143 (some ⟨rx s, 0, none⟩) v p Q h :=
  N143 (r.v1 hs) (by rw [r.n]; exact wd.way hs v) (r.nb wd hs) fun h' e s' he k v1 => q h' e s' (by rw [← r.n]; exact he) k (r.upd hs k v1)
theorem Y144 {s : Nat} {v p : Int} {Q : Int → H → Prop} (r : RH R K rx h0 h nt ws ps) (wd : Wd K.n K.L K.rt nt ws ps) (hs : K.L s = true)
    (q : ∀ h' e s', clearS K.n (K.rt s) v p (ws, ps, nt s) = (e, s') → KL h (Lr (rx s) R) h' → RH R K rx h0 h' (setN nt s s'.2.2) s'.1 s'.2.1 → Q e h') : F144 (some ⟨rx s, 0, none⟩) v p Q h :=
  N144 (r.v1 hs) (by rw [r.n]; exact wd.way hs v) (r.nb wd hs) fun h' e s' he k v1 => q h' e s' (by rw [← r.n]; exact he) k (r.upd hs k v1)
/-- Blocks that hold no list of the pool. -/
def RK.addE (R : RK) (b : Nat) : RK := { R with ex := b :: R.ex }
theorem RB.addE {b : Nat} {cs : Array Value} {t : Nat} (w : RB R h ws ps) (e : h[b]? = some (.cells cs t)) (ht : t ≠ 111) : RB (R.addE b) h ws ps := by
  refine ⟨w.mw, ?_, w.gf, fun c hc => List.mem_cons_of_mem _ (w.g c hc), fun x hx => ?_, w.p1, w.p2, w.p3⟩
  · obtain ⟨rf, cap, zs, m, e1, n1⟩ := w.pm
    refine ⟨rf, cap, zs, m, e1, ?_⟩
    show rf ∉ b :: R.ex
    rw [List.mem_cons, not_or]
    refine ⟨fun x => ?_, n1⟩
    subst x
    have : h[rf]? = some (.cells (VI zs) 111) := m.row
    rw [this] at e
    simp only [Option.some.injEq, Obj.cells.injEq] at e
    exact ht e.2.1.symm
  · have hx : x ∈ b :: R.ex := hx
    rcases List.mem_cons.1 hx with rfl | hx
    · exact (Array.getElem?_eq_some_iff.1 e).1
    · exact w.ex x hx
theorem RH.addE {b : Nat} {cs : Array Value} {t : Nat} (r : RH R K rx h0 h nt ws ps) (e : h[b]? = some (.cells cs t)) (ht : t ≠ 111) : RH (R.addE b) K rx h0 h nt ws ps :=
  ⟨r.b.addE e ht, r.n, r.xm, fun s hs => List.mem_cons_of_mem _ (r.x0 s hs), r.x1, r.ij, r.dj, ⟨List.mem_cons_of_mem _ r.ec.1, List.mem_cons_of_mem _ r.ec.2.1, fun s hs => List.mem_cons_of_mem _ (r.ec.2.2 s hs)⟩, r.lo⟩
/-- Both slices of spaces. -/
structure GX (R : RK) (K : WK) (rx : Nat → Nat) (h0 h : H) (l o : Sl) (m : Nat) (ol oo : Option Nat) : Prop where
  gl : GP h 167 l ((List.range m).map K.bx) ol
  go : GP h 185 o ((List.range m).map rx) oo
  fl : ∀ b, ol = some b → ¬ CB K b ∧ ¬ DB R K rx b ∧ b ∈ R.ex ∧ h0.size ≤ b
  fo : ∀ b, oo = some b → ¬ CB K b ∧ ¬ DB R K rx b ∧ b ∈ R.ex ∧ h0.size ≤ b
  ne : ∀ b, ol = some b → oo ≠ some b
theorem GX.kl {l o : Sl} {m : Nat} {ol oo : Option Nat} {L : List Nat} (g : GX R K rx h0 h l o m ol oo) (k : KL h L h') (hL : ∀ b ∈ L, CB K b ∨ DB R K rx b) : GX R K rx h0 h' l o m ol oo :=
  ⟨g.gl.kl k fun b e hb => by rcases hL b hb with c | d
                              · exact (g.fl b e).1 c
                              · exact (g.fl b e).2.1 d,
   g.go.kl k fun b e hb => by rcases hL b hb with c | d
                              · exact (g.fo b e).1 c
                              · exact (g.fo b e).2.1 d, g.fl, g.fo, g.ne⟩
theorem GX.code {l o : Sl} {m : Nat} {ol oo : Option Nat} (g : GX R K rx h0 h l o m ol oo) {s : Nat} (hs : K.L s = true) (k : KL h (L3b K.bf K.pf (K.bx s)) h') : GX R K rx h0 h' l o m ol oo :=
  g.kl k fun b hb => by
    simp only [L3b, List.mem_cons, List.not_mem_nil, or_false] at hb
    rcases hb with rfl | rfl | rfl
    · exact .inl (.inr (.inl rfl))
    · exact .inl (.inr (.inr (.inr (.inl rfl))))
    · exact .inl (.inr (.inr (.inr (.inr ⟨s, hs, rfl⟩))))
theorem GX.ref {l o : Sl} {m : Nat} {ol oo : Option Nat} (g : GX R K rx h0 h l o m ol oo) {s : Nat} (hs : K.L s = true) (k : KL h (Lr (rx s) R) h') : GX R K rx h0 h' l o m ol oo :=
  g.kl k fun b hb => by
    simp only [Lr, List.mem_cons] at hb
    rcases hb with rfl | rfl | hb
    · exact .inr (.inr (.inr (.inr (.inr ⟨s, hs, rfl⟩))))
    · exact .inr (.inr (.inr (.inl rfl)))
    · exact .inr (.inr (.inr (.inr (.inl hb))))
theorem GX.kept {l o : Sl} {m : Nat} {ol oo : Option Nat} (g : GX R K rx h0 h l o m ol oo) (k : Kept h h') : GX R K rx h0 h' l o m ol oo := g.kl (L := []) k.kl (by simp)
theorem GX.del {l o : Sl} {m : Nat} {ol oo : Option Nat} (g : GX R K rx h0 h l o m ol oo) (s : Nat) : GX R (K.del s) rx h0 h l o m ol oo :=
  ⟨g.gl, g.go, fun b e => ⟨fun c => (g.fl b e).1 c.del, fun d => (g.fl b e).2.1 d.del, (g.fl b e).2.2⟩, fun b e => ⟨fun c => (g.fo b e).1 c.del, fun d => (g.fo b e).2.1 d.del, (g.fo b e).2.2⟩, g.ne⟩
/-- A block of one of the slices changes, or is new. -/
theorem both_app {b : Nat} {ob : Option Nat} (w : WH K h0 h nt ws ps) (r : RH R K rx h0 h nt ws ps) (f : ∀ b, ob = some b → ¬ CB K b ∧ ¬ DB R K rx b ∧ b ∈ R.ex ∧ h0.size ≤ b)
    (k : (ob = some b ∧ KB h b h') ∨ (h.size ≤ b ∧ Kept h h')) : WH K h0 h' nt ws ps ∧ RH R K rx h0 h' nt ws ps ∧ ¬ CB K b ∧ ¬ DB R K rx b ∧ h0.size ≤ b ∧ KL h [b] h' := by
  rcases k with ⟨e, k⟩ | ⟨e, k⟩
  · obtain ⟨f1, f2, f3, f4⟩ := f b e
    have k' : KL h [b] h' := k.kl (by simp)
    exact ⟨w.kl k' (by simpa using ⟨f1, f4⟩), r.kl k' (by simpa using ⟨f2, f3⟩), f1, f2, f4, k'⟩
  · have := w.kp.1
    exact ⟨w.kept k, r.kept k, fun c => by have := w.cb c; omega, fun d => by have := r.db d; omega, by omega, k.kl⟩
end

theorem Join_out {σ : Type} {A : (σ → H → Prop) → Prop} {B : σ → H → Prop} (h : A B) : JoinM A B := h
theorem zs167 (n : Nat) : (zerosC Try.prog 167 n).size = n := by
  unfold zerosC
  have : (zeroC Try.prog 167).size = 1 := by kernel_rfl
  rw [this]; simp
theorem zs185 (n : Nat) : (zerosC Try.prog 185 n).size = n := by
  unfold zerosC
  have : (zeroC Try.prog 185).size = 1 := by kernel_rfl
  rw [this]; simp
/-- What stays of a world through all acts. -/
structure Fix (K0 K : WK) (R0 R : RK) : Prop where
  bm : K.bm = K0.bm
  bp : K.bp = K0.bp
  rm : R.rm = R0.rm
  rp : R.rp = R0.rp
  n : K.n = K0.n
/-- Where the loop that makes the spaces stands. -/
def NewI (K0 : WK) (R0 : RK) (h0 : H) (i : Nat) (l o : Sl) (h : H) : Prop :=
  ∃ (m : Nat) (K : WK) (R : RK) (rx : Nat → Nat) (nt : Nat → Int) (ws ps : List Int) (ol oo : Option Nat), m ≤ i ∧ Fix K0 K R0 R ∧ WH K h0 h nt ws ps ∧ RH R K rx h0 h nt ws ps ∧ GX R K rx h0 h l o m ol oo ∧ (∀ s, K.L s = true ↔ s < m)
section
variable {R : RK} {K : WK} {rx : Nat → Nat} {h0 h : H} {nt : Nat → Int} {ws ps : List Int}
/-- The document's world with one space more. -/
theorem RH.new {b r xr m : Nat} {a : Int} {h1 h2 : H} {ws' ps' : List Int} (rr : RH R K rx h0 h nt ws ps) (w : WH K h0 h nt ws ps) (hm : K.L m = false) (hb : h.size ≤ b) (w1 : WH (K.add m r b a) h0 h1 (setN nt m 1) ws' ps')
    (k1 : KL h [K.bf, K.pf] h1) (rb : RB (R.addE b) h2 ws' ps') (k2 : KL h1 (R.rp :: R.cs) h2) (hx : h1.size ≤ xr)
    (ex : h2[xr]? = some (.cells #[.pointer (some ⟨R.rm, 0, none⟩), .pointer (some ⟨R.rp, 0, none⟩), .int .i64 a, .int .i64 (r : Int), .int .i64 1] 189)) :
    RH ((R.addE b).addE xr) (K.add m r b a) (setA rx m xr) h0 h2 (setN nt m 1) ws' ps' ∧ WH (K.add m r b a) h0 h2 (setN nt m 1) ws' ps' := by
  have hs1 := k1.1
  have hk := w.kp.1
  have bl : b < h1.size := w1.cb (.inr (.inr (.inr (.inr ⟨m, K.L0 m r b a, (K.bx0 m r b a).symm⟩))))
  have LA : ∀ t, (K.add m r b a).L t = true → t = m ∨ (t ≠ m ∧ K.L t = true) := fun t ht => by
    by_cases e : t = m
    · exact .inl e
    · exact .inr ⟨e, by rw [K.L1 m r b a e] at ht; exact ht⟩
  have X0 : setA rx m xr m = xr := by unfold setA; rw [if_pos rfl]
  have X1 : ∀ t, t ≠ m → setA rx m xr t = rx t := fun t e => by unfold setA; rw [if_neg e]
  have lt := rr.b.lt
  have CC : ∀ x, CB (K.add m r b a) x → CB K x ∨ x = b := by
    rintro x (h | h | h | h | ⟨t, ht, h⟩)
    · exact .inl (.inl h)
    · exact .inl (.inr (.inl h))
    · exact .inl (.inr (.inr (.inl h)))
    · exact .inl (.inr (.inr (.inr (.inl h))))
    · rcases LA t ht with rfl | ⟨e, ht⟩
      · rw [K.bx0] at h; exact .inr h
      · rw [K.bx1 m r b a e] at h; exact .inl (.inr (.inr (.inr (.inr ⟨t, ht, h⟩))))
  have DD : ∀ x, DB ((R.addE b).addE xr) (K.add m r b a) (setA rx m xr) x → DB R K rx x ∨ x = xr := by
    rintro x (h | h | h | h | ⟨t, ht, h⟩)
    · exact .inl (.inl h)
    · exact .inl (.inr (.inl h))
    · exact .inl (.inr (.inr (.inl h)))
    · exact .inl (.inr (.inr (.inr (.inl h))))
    · rcases LA t ht with rfl | ⟨e, ht⟩
      · rw [X0] at h; exact .inr h
      · rw [X1 t e] at h; exact .inl (.inr (.inr (.inr (.inr ⟨t, ht, h⟩))))
  have rxl : ∀ t, K.L t = true → rx t < h.size := fun t ht => rr.db (.inr (.inr (.inr (.inr ⟨t, ht, rfl⟩))))
  refine ⟨⟨rb.addE ex (by decide), rr.n, ?_, ?_, ?_, ?_, ?_, ?_, ?_⟩, w1.kl k2 fun x hx' => ?_⟩
  · intro t ht
    rcases LA t ht with rfl | ⟨e, ht⟩
    · rw [X0, setN_at, show (K.add t r b a).ai t = a by show setN _ _ _ _ = _; unfold setN; rw [if_pos rfl], show (K.add t r b a).rt t = r from K.rt0 t r b a]
      exact ex
    · rw [X1 t e, show setN nt m 1 t = nt t by unfold setN; rw [if_neg e], show (K.add m r b a).ai t = K.ai t by show setN _ _ _ _ = _; unfold setN; rw [if_neg e], show (K.add m r b a).rt t = K.rt t from K.rt1 m r b a e]
      refine k2.blk (k1.blk (rr.xm t ht) ?_) ?_
      · have d : DB R K rx (rx t) := .inr (.inr (.inr (.inr ⟨t, ht, rfl⟩)))
        simp only [List.mem_cons, List.not_mem_nil, or_false, not_or]
        exact ⟨fun x => rr.dj K.bf (.inr (.inl rfl)) (x ▸ d), fun x => rr.dj K.pf (.inr (.inr (.inr (.inl rfl)))) (x ▸ d)⟩
      · simp only [List.mem_cons, not_or]
        exact ⟨(rr.x1 t ht).2.2.2, (rr.x1 t ht).1⟩
  · intro t ht
    rcases LA t ht with rfl | ⟨e, ht⟩
    · rw [X0]; exact List.mem_cons_self
    · rw [X1 t e]; exact List.mem_cons_of_mem _ (List.mem_cons_of_mem _ (rr.x0 t ht))
  · intro t ht
    rcases LA t ht with rfl | ⟨e, ht⟩
    · rw [X0]
      exact ⟨fun hc => by have := lt.2.2.2 _ hc; omega, by show xr ≠ R.rm; omega, by show xr ≠ R.rt; omega, by show xr ≠ R.rp; omega⟩
    · rw [X1 t e]; exact rr.x1 t ht
  · intro t u ht hu e
    rcases LA t ht with rfl | ⟨e1, ht'⟩
    · rcases LA u hu with rfl | ⟨e2, hu'⟩
      · rfl
      · rw [X0, X1 u e2] at e
        have := rxl u hu'; omega
    · rcases LA u hu with rfl | ⟨e2, hu'⟩
      · rw [X0, X1 t e1] at e
        have := rxl t ht'; omega
      · rw [X1 t e1, X1 u e2] at e
        exact rr.ij t u ht' hu' e
  · intro x c d
    rcases CC x c with c | rfl
    · rcases DD x d with d | rfl
      · exact rr.dj x c d
      · have := w.cb c; omega
    · rcases DD x d with d | rfl
      · have := rr.db d; omega
      · omega
  · refine ⟨List.mem_cons_of_mem _ (List.mem_cons_of_mem _ rr.ec.1), List.mem_cons_of_mem _ (List.mem_cons_of_mem _ rr.ec.2.1), fun t ht => ?_⟩
    rcases LA t ht with rfl | ⟨e, ht⟩
    · rw [K.bx0]; exact List.mem_cons_of_mem _ List.mem_cons_self
    · rw [K.bx1 m r b a e]; exact List.mem_cons_of_mem _ (List.mem_cons_of_mem _ (rr.ec.2.2 t ht))
  · intro x d
    rcases DD x d with d | rfl
    · exact rr.lo x d
    · omega
  · have d : DB R K rx x := by
      rcases List.mem_cons.1 hx' with rfl | h
      · exact .inr (.inr (.inl rfl))
      · exact .inr (.inr (.inr (.inl h)))
    refine ⟨fun c => ?_, rr.lo x d⟩
    rcases CC x c with c | rfl
    · exact rr.dj x c d
    · have := rr.db d; omega
/-- Both slices with one space more. -/
theorem GX.app {l o : Sl} {m xr b r tt1 tt2 : Nat} {a : Int} {ol oo : Option Nat} {K' : Sl → Sl → H → Prop} (hK : K.L m = true) (w : WH K h0 h nt ws ps) (rr : RH R K rx h0 h nt ws ps)
    (gl : GP h 167 l ((List.range m).map K.bx) ol) (go : GP h 185 o ((List.range m).map rx) oo)
    (fl : ∀ b, ol = some b → ¬ CB K b ∧ ¬ DB R K rx b ∧ b ∈ R.ex ∧ h0.size ≤ b) (fo : ∀ b, oo = some b → ¬ CB K b ∧ ¬ DB R K rx b ∧ b ∈ R.ex ∧ h0.size ≤ b) (ne : ∀ b, ol = some b → oo ≠ some b) (hm : m ≤ 10)
    (q : ∀ l' o' h' R' ol' oo', (R'.rm = R.rm ∧ R'.rp = R.rp) → WH K h0 h' nt ws ps → RH R' K rx h0 h' nt ws ps → GX R' K rx h0 h' l' o' (m + 1) ol' oo' → K' l' o' h') :
    Nw h #[(.pointer (some ⟨K.bx m, 0, none⟩))] 167 fun a34 h35 =>
    App Try.prog ⟨none, 167, 1, 8⟩ h35 l ⟨(some a34), 1, 1⟩ fun s36 h37 =>
    Nw h37 #[(.pointer (some ⟨rx m, 0, none⟩))] 185 fun a38 h39 =>
    App Try.prog ⟨none, 185, 1, 8⟩ h39 o ⟨(some a38), 1, 1⟩ fun s40 h41 => K' s36 s40 h41 := by
  have ll := gl.1
  have lo := go.1
  simp only [List.length_map, List.length_range] at ll lo
  refine Nw_intro fun a1 h1 ha1 k1 e1 => ?_
  have w1 := w.kept k1
  have r1 := rr.kept k1
  refine AppP (xs := (List.range m).map K.bx) (ob := ol) zs167 (gl.kl (L := []) k1.kl (by simp)) e1 (by omega) fun l' ub h2 gl2 hu => ?_
  obtain ⟨w2, r2, f1, f2, f3, k2⟩ := both_app w1 r1 fl hu
  have uol : ∀ b, oo = some b → b ≠ ub := fun b hb e => by
    subst e
    rcases hu with ⟨h, _⟩ | ⟨h, _⟩
    · exact ne b h hb
    · obtain ⟨b', vs, h1', _, h3, _⟩ := (go.2.resolve_left (fun x => by rw [x.2] at hb; cases hb))
      rw [hb] at h1'
      simp only [Option.some.injEq] at h1'
      subst h1'
      have := (Array.getElem?_eq_some_iff.1 h3).1
      have := k1.1
      omega
  have go2 := (go.kl (L := []) k1.kl (by simp)).kl k2 (fun b hb => by simpa using uol b hb)
  refine Nw_intro fun a2 h3 ha2 k3 e3 => ?_
  have w3 := w2.kept k3
  have r3 := r2.kept k3
  have gl3 := gl2.kl (L := []) k3.kl (by simp)
  refine AppP (xs := (List.range m).map rx) (ob := oo) zs185 (go2.kl (L := []) k3.kl (by simp)) e3 (by omega) fun o' uo h4 go4 hv => ?_
  obtain ⟨w4, r4, f5, f6, f7, k4⟩ := both_app w3 r3 fo hv
  obtain ⟨b', vs, hb', _, h3b, _⟩ := (gl3.2.resolve_left (fun x => by cases x.2))
  simp only [Option.some.injEq] at hb'
  subst hb'
  have hne : ub ≠ uo := by
    rcases hv with ⟨h, _⟩ | ⟨h, _⟩
    · exact fun e => uol uo h e.symm
    · have := (Array.getElem?_eq_some_iff.1 h3b).1
      omega
  have gl4 := gl3.kl k4 (fun b hb => by simp only [Option.some.injEq] at hb; subst hb; simpa using hne)
  obtain ⟨b2, vs2, hb2, _, h3c, _⟩ := (go4.2.resolve_left (fun x => by cases x.2))
  simp only [Option.some.injEq] at hb2
  subst hb2
  have h3d : h4[ub]? = some (.cells vs 167) := k4.blk h3b (by simpa using hne)
  have r5 := (r4.addE h3d (by decide)).addE h3c (by decide)
  refine q l' o' h4 ((R.addE ub).addE uo) (some ub) (some uo) ⟨rfl, rfl⟩ w4 r5 ⟨?_, ?_, fun b hb => ?_, fun b hb => ?_, fun b hb => ?_⟩
  · rw [List.range_succ, List.map_append]; exact gl4
  · rw [List.range_succ, List.map_append]; exact go4
  · simp only [Option.some.injEq] at hb
    subst hb
    exact ⟨f1, f2, List.mem_cons_of_mem _ List.mem_cons_self, f3⟩
  · simp only [Option.some.injEq] at hb
    subst hb
    exact ⟨f5, f6, List.mem_cons_self, f7⟩
  · simp only [Option.some.injEq] at hb
    subst hb
    simpa using Ne.symm hne
end

theorem CB_add {K : WK} {m r b x : Nat} {a : Int} (h : CB (K.add m r b a) x) : CB K x ∨ x = b := by
  rcases h with h | h | h | h | ⟨t, ht, h⟩
  · exact .inl (.inl h)
  · exact .inl (.inr (.inl h))
  · exact .inl (.inr (.inr (.inl h)))
  · exact .inl (.inr (.inr (.inr (.inl h))))
  · by_cases e : t = m
    · subst e; rw [K.bx0] at h; exact .inr h
    · rw [K.bx1 m r b a e] at h
      rw [K.L1 m r b a e] at ht
      exact .inl (.inr (.inr (.inr (.inr ⟨t, ht, h⟩))))
theorem DB_add {R : RK} {K : WK} {rx : Nat → Nat} {m r b xr x : Nat} {a : Int} (h : DB ((R.addE b).addE xr) (K.add m r b a) (setA rx m xr) x) : DB R K rx x ∨ x = xr := by
  rcases h with h | h | h | h | ⟨t, ht, h⟩
  · exact .inl (.inl h)
  · exact .inl (.inr (.inl h))
  · exact .inl (.inr (.inr (.inl h)))
  · exact .inl (.inr (.inr (.inr (.inl h))))
  · by_cases e : t = m
    · subst e
      rw [show setA rx t xr t = xr by unfold setA; rw [if_pos rfl]] at h; exact .inr h
    · rw [show setA rx m xr t = rx t by unfold setA; rw [if_neg e]] at h
      rw [K.L1 m r b a e] at ht
      exact .inl (.inr (.inr (.inr (.inr ⟨t, ht, h⟩))))
theorem NilP_some {a : Addr} {K : Addr → Prop} (h : K a) : NilP (some a) K := h
/-- Where the acts stand. -/
def ActI (K : WK) (R : RK) (rx : Nat → Nat) (h0 : H) (l o : Sl) (m : Nat) (ol oo : Option Nat) (h : H) : Prop :=
  ∃ (nt : Nat → Int) (ws ps : List Int), WH K h0 h nt ws ps ∧ RH R K rx h0 h nt ws ps ∧ GX R K rx h0 h l o m ol oo
theorem ActI.kept {K : WK} {R : RK} {rx : Nat → Nat} {h0 h h' : H} {l o : Sl} {m : Nat} {ol oo : Option Nat} (a : ActI K R rx h0 l o m ol oo h) (k : Kept h h') : ActI K R rx h0 l o m ol oo h' := by
  obtain ⟨nt, ws, ps, w, r, g⟩ := a
  exact ⟨nt, ws, ps, w.kept k, r.kept k, g.kept k⟩
/-- Where the closing stands. -/
def CloI (K : WK) (R : RK) (rx : Nat → Nat) (h0 : H) (l o : Sl) (m : Nat) (ol oo : Option Nat) (i : Nat) (h : H) : Prop :=
  ∃ (L' : Nat → Bool) (nt : Nat → Int) (ws wsr ps : List Int) (ro : Nat → Role), (∀ s, L' s = true ↔ i ≤ s ∧ s < m) ∧ WH { K with L := L' } h0 h nt ws ps ∧ Wz K.n L' K.rt nt ro noEx ws ps ∧
    RH R { K with L := L' } rx h0 h nt wsr ps ∧ Wz K.n L' K.rt nt ro noEx wsr ps ∧ (∀ j t, t < 512 → (ro j).1 ≠ 0 → wat ws j t = wat wsr j t) ∧ GX R { K with L := L' } rx h0 h l o m ol oo
theorem L37 {p0 p1 : Int} {a2 : Option Addr} {l2 c2 : Nat} {Q : Bool → H → Prop} {h : H} (o2 : Opn h (.slice D5) [.slice a2 l2 c2])
    (q : ∀ h', Kept h h' → Q true h') : F37 p0 p1 ⟨a2, l2, c2⟩ Q h := by
  have liv : ∀ h', Kept h h' → F129 (fun r6 h7 => Q r6 h7) h' := fun h' k => C129 fun h9 k9 => q h9 (k.trans k9)
  have acts := Acts5.of o2
  rw [F37_eq]
  unfold B37
  refine Nw_intro fun a1 h1 ha1 k1 e1 => ?_
  simp only [add_mk]
  refine Ld_i (x := p0) (by rw [hcell_blk e1]; rfl) ⟨by omega, Ld_i (x := p1) (by rw [hcell_blk e1]; rfl) ⟨by omega, ?_⟩⟩
  simp only [LetI]
  obtain ⟨n, hn⟩ : ∃ n : Nat, IntKind.wrap .u64 p0 % 24 + 1 = (n : Int) := ⟨(IntKind.wrap .u64 p0 % 24 + 1).toNat, by omega⟩
  obtain ⟨k, hk⟩ : ∃ k : Nat, IntKind.wrap .u64 p1 % 3 + 1 = (k : Int) := ⟨(IntKind.wrap .u64 p1 % 3 + 1).toNat, by omega⟩
  have en : IntKind.wrap .i64 (1 + IntKind.wrap .i64 (Int.tmod (IntKind.wrap .u64 p0) 24)) = (n : Int) := by
    have : 0 ≤ IntKind.wrap .u64 p0 := by rw [wrap_u64]; omega
    rw [Int.tmod_eq_emod_of_nonneg this, wrap_i64' (IntKind.wrap .u64 p0 % 24) (by omega) (by omega), wrap_i64'] <;> omega
  have ek : IntKind.wrap .i64 (1 + IntKind.wrap .i64 (Int.tmod (IntKind.wrap .u64 p1) 3)) = (k : Int) := by
    have : 0 ≤ IntKind.wrap .u64 p1 := by rw [wrap_u64]; omega
    rw [Int.tmod_eq_emod_of_nonneg this, wrap_i64' (IntKind.wrap .u64 p1 % 3) (by omega) (by omega), wrap_i64'] <;> omega
  rw [en, ek]
  have hn1 : 1 ≤ n ∧ n ≤ 24 := by omega
  have hk3 : 1 ≤ k ∧ k ≤ 3 := by omega
  clear en ek hn hk
  refine Br_dec (fun _ => liv h1 k1) fun hl40 => ?_
  have hl40 : l2 ≤ 40 := by simp at hl40; omega
  refine Q0 (n := n) (h0 := h) k1 hn1.1 (by omega) fun K0 h2 hKn hL0 w0 => R88 hn1.1 (by omega) fun rm rt cs h3 k3 hrm hrt hcs mw3 => ?_
  have w3 := w0.kept k3
  have hk3' := k3.1
  have cslt := mw3.mem.lt
  refine C95 (ex := K0.bf :: K0.pf :: cs) (by omega) (by omega) (fun b hb => ?_) fun rp h4 k4 hrp pm4 => ?_
  · simp only [List.mem_cons] at hb
    rcases hb with rfl | rfl | hb
    · exact w3.cb (.inr (.inl rfl))
    · exact w3.cb (.inr (.inr (.inr (.inl rfl))))
    · exact cslt.2.2 _ hb
  rw [show ((n : Int).toNat) = n from rfl] at pm4
  have w4 := w3.kept k4
  have hk4 := k4.1
  have hkp := w0.kp.1
  refine Join_out ?_
  simp only [Option.isNone_some, Br_false]
  obtain ⟨R0, hR0⟩ : ∃ R0 : RK, R0 = ⟨rm, rt, rp, cs, K0.bf :: K0.pf :: cs, n⟩ := ⟨_, rfl⟩
  have r4 : RH R0 K0 (fun _ => 0) h h4 (fun _ => 0) (List.replicate (n * 512) 0) (List.replicate (5 * n) 0) := by
    subst hR0
    have noL : ∀ s, K0.L s = true → False := fun s hs => by rw [hL0] at hs; cases hs
    refine ⟨⟨mw3.kept k4, pm4, zGF n, fun c hc => by simp [hc], fun b hb => ?_, fun hc => by have := cslt.2.2 _ hc; simp only at this; omega, by show rp ≠ rm; omega, by show rp ≠ rt; omega⟩, hKn.symm, fun s hs => (noL s hs).elim, fun s hs => (noL s hs).elim, fun s hs => (noL s hs).elim, fun s t hs => (noL s hs).elim, fun b c d => ?_,
      ⟨by simp, by simp, fun s hs => (noL s hs).elim⟩, fun b d => ?_⟩
    · simp only [List.mem_cons] at hb
      rcases hb with rfl | rfl | hb
      · exact w4.cb (.inr (.inl rfl))
      · exact w4.cb (.inr (.inr (.inr (.inl rfl))))
      · have := cslt.2.2 _ hb; omega
    · have hc := w0.cb c
      rcases d with e | e | e | e | ⟨s, hs, _⟩
      · simp only at e; omega
      · simp only at e; omega
      · simp only at e; omega
      · have := hcs _ e; omega
      · exact noL s hs
    · rcases d with e | e | e | e | ⟨s, hs, _⟩
      · simp only at e; omega
      · simp only at e; omega
      · simp only at e; omega
      · have := hcs _ e; omega
      · exact (noL s hs).elim
  have erm : rm = R0.rm := by rw [hR0]
  have erp : rp = R0.rp := by rw [hR0]
  rw [erm, erp]
  have hRn : R0.n = n := by rw [hR0]
  clear hR0 mw3 pm4 cslt erm erp
  refine Loop_intro (σ := Sl × Sl × Int × Unit) (x := (⟨none, 0, 0⟩, ⟨none, 0, 0⟩, 0, ())) (fun c z h' => ∃ i : Nat, z.2.2.1 = (i : Int) ∧ c = k - i ∧ i ≤ k ∧ NewI K0 R0 h i z.1 z.2.1 h') k
    ⟨0, rfl, rfl, by omega, 0, K0, R0, _, _, _, _, none, none, Nat.le_refl _, ⟨rfl, rfl, rfl, rfl, rfl⟩, w4, r4, ⟨⟨rfl, .inl ⟨rfl, rfl⟩⟩, ⟨rfl, .inl ⟨rfl, rfl⟩⟩, by simp, by simp, by simp⟩, fun s => by rw [hL0]; simp⟩ ?_
  rintro c ⟨zl, zo, zz, u⟩ h5 ⟨i, hi, hc, hik, m, K, R, rx, nt, ws, ps, ol, oo, hmi, fx, w, r, g, hL⟩
  simp only at hi g
  subst hi
  rw [← fx.bm, ← fx.bp, ← fx.rm, ← fx.rp]
  have hKn' : K.n = n := fx.n.trans hKn
  refine Br_dec (fun hlt => ?_) fun hge => ?_
  · have hlt : i < k := by simp only at hlt; omega
    have hwi : IntKind.wrap .i64 ((i : Int) + 1) = ((i + 1 : Nat) : Int) := by rw [wrap_i64'] <;> omega
    simp only [hwi]
    have hLm : K.L m = false := by
      cases e : K.L m
      · rfl
      · exact absurd ((hL m).1 e) (by omega)
    have dbf : ∀ b ∈ [K.bf, K.pf], ¬ DB R K rx b ∧ b ∈ R.ex := fun b hb => by
      simp only [List.mem_cons, List.not_mem_nil, or_false] at hb
      rcases hb with rfl | rfl
      · exact ⟨r.dj _ (.inr (.inl rfl)), r.ec.1⟩
      · exact ⟨r.dj _ (.inr (.inr (.inr (.inl rfl)))), r.ec.2.1⟩
    have cbf : ∀ b ∈ [K.bf, K.pf], CB K b := fun b hb => by
      simp only [List.mem_cons, List.not_mem_nil, or_false] at hb
      rcases hb with rfl | rfl
      · exact .inr (.inl rfl)
      · exact .inr (.inr (.inr (.inl rfl)))
    refine Q128x w (by omega) hLm (fun h6 _ w6 k6 hn6 => ?_) fun b r' h6 ws' ps' _ hb w6 _ _ _ _ _ k6 hn6 => ?_
    · have r6 := r.kl k6 dbf
      refine N140 r6.b (fun h7 _ k7 rb7 => ?_) fun _ _ _ _ _ hn7 => by rw [r.n, hn6] at hn7; cases hn7
      have dcs : ∀ b ∈ R.rp :: R.cs, DB R K rx b := fun b hb => by
        rcases List.mem_cons.1 hb with rfl | hb
        · exact .inr (.inr (.inl rfl))
        · exact .inr (.inr (.inr (.inl hb)))
      have w7 := w6.kl k7 (fun b hb => ⟨fun c => r.dj b c (dcs b hb), r.lo b (dcs b hb)⟩)
      have r7 : RH R K rx h h7 nt ws ps := ⟨rb7, r.n, fun s hs => k7.blk (r6.xm s hs) (by simp only [List.mem_cons, not_or]; exact ⟨(r.x1 s hs).2.2.2, (r.x1 s hs).1⟩), r.x0, r.x1, r.ij, r.dj, r.ec, r.lo⟩
      refine Join_out ?_
      simp only [bne_self_eq_false, Br_false, Option.isNone_none, beq_self_eq_true, Bool.not_true]
      exact ⟨k - (i + 1), by omega, i + 1, rfl, rfl, hlt, m, K, R, rx, nt, ws, ps, ol, oo, by omega, fx, w7, r7, (g.kl k6 fun b hb => .inl (cbf b hb)).kl k7 fun b hb => .inr (dcs b hb), hL⟩
    · have rb6 := (r.kl k6 dbf).b
      have xm6 := (w6.xm m (K.L0 m r' b _)).cells
      rw [K.bx0] at xm6
      refine N140 (R := R.addE b) (rb6.addE xm6 (by decide)) (fun h7 hn7 _ _ => by rw [show (R.addE b).n = K.n from r.n, hn6] at hn7; cases hn7) fun xr r'' ws'' ps'' h7 hn7 k7 hxr rb7 ex7 => ?_
      rw [show (R.addE b).n = K.n from r.n, hn6] at hn7
      simp only [Option.some.injEq, Prod.mk.injEq, and_true] at hn7
      obtain ⟨rfl, rfl, rfl⟩ := hn7
      obtain ⟨r7, w7⟩ := r.new w hLm hb w6 k6 rb7 k7 hxr ex7
      refine Join_out ?_
      simp only [bne_self_eq_false, Br_false, Option.isNone_some, beq_self_eq_true, Bool.not_true, Bool.not_false, Br_true]
      have dcs : ∀ b ∈ R.rp :: R.cs, DB R K rx b := fun b hb => by
        rcases List.mem_cons.1 hb with rfl | hb
        · exact .inr (.inr (.inl rfl))
        · exact .inr (.inr (.inr (.inl hb)))
      have g7 := (g.kl k6 fun b hb => .inl (cbf b hb)).kl k7 fun b hb => .inr (dcs b hb)
      have mapc : (List.range m).map K.bx = (List.range m).map (K.add m r' b ((i + 1 : Nat) : Int)).bx := by
        refine List.map_congr_left fun t ht => ?_
        rw [List.mem_range] at ht
        rw [K.bx1 m r' b _ (by omega)]
      have mapd : (List.range m).map rx = (List.range m).map (setA rx m xr) := by
        refine List.map_congr_left fun t ht => ?_
        rw [List.mem_range] at ht
        unfold setA
        rw [if_neg (by omega)]
      have lift : ∀ ob : Option Nat, (∀ x, ob = some x → ¬ CB K x ∧ ¬ DB R K rx x ∧ x ∈ R.ex ∧ h.size ≤ x) → ∀ x, ob = some x → ¬ CB (K.add m r' b ((i + 1 : Nat) : Int)) x ∧ ¬ DB ((R.addE b).addE xr) (K.add m r' b ((i + 1 : Nat) : Int)) (setA rx m xr) x ∧ x ∈ ((R.addE b).addE xr).ex ∧ h.size ≤ x := by
        intro ob f x hx
        obtain ⟨f1, f2, f3, f4⟩ := f x hx
        have hxl := r.b.ex x f3
        have := k6.1
        refine ⟨fun c => ?_, fun d => ?_, List.mem_cons_of_mem _ (List.mem_cons_of_mem _ f3), f4⟩
        · rcases CB_add c with c | c
          · exact f1 c
          · omega
        · rcases DB_add d with d | d
          · exact f2 d
          · omega
      have := GX.app (m := m) (a := 0) (xr := 0) (b := 0) (r := 0) (tt1 := 0) (tt2 := 0) (K.L0 m r' b _) w7 r7 (l := zl) (o := zo) (ol := ol) (oo := oo) (by rw [← mapc]; exact g7.gl) (by rw [← mapd]; exact g7.go) (lift _ g.fl) (lift _ g.fo) g.ne (by omega)
        (K' := fun s36 s40 h41 => ∃ k', k' < c ∧ ∃ i' : Nat, ((i + 1 : Nat) : Int) = (i' : Int) ∧ k' = k - i' ∧ i' ≤ k ∧ NewI K0 R0 h i' s36 s40 h41) fun l' o' h8 R' ol' oo' hR' w8 r8 g8 => ?_
      · rw [K.bx0, show setA rx m xr m = xr by unfold setA; rw [if_pos rfl]] at this
        exact this
      · refine ⟨k - (i + 1), by omega, i + 1, rfl, rfl, hlt, m + 1, K.add m r' b ((i + 1 : Nat) : Int), R', setA rx m xr, setN nt m 1, ws', ps', ol', oo', by omega, ⟨fx.bm, fx.bp, hR'.1.trans fx.rm, hR'.2.trans fx.rp, fx.n⟩, w8, r8, g8, fun s => ?_⟩
        by_cases e : s = m
        · subst e; rw [K.L0]; simp
        · rw [K.L1 m r' b _ e, hL]; omega
  · -- the acts
    have hm3 : m ≤ 3 := by omega
    clear hc hik hmi hge
    refine JoinI (fun _ h' => ActI K R rx h zl zo m ol oo h') (fun J hJ => ?_) ?_
    · refine Loop_intro (σ := Int × Unit) (x := (0, ())) (fun c z h' => ∃ i : Nat, z.1 = (i : Int) ∧ c = l2 - i ∧ i ≤ l2 ∧ ActI K R rx h zl zo m ol oo h') l2 ⟨0, rfl, rfl, by omega, nt, ws, ps, w, r, g⟩ ?_
      rintro c ⟨zz, u⟩ h6 ⟨j, hj, hc, hjl, A⟩
      simp only at hj
      subst hj
      refine Br_dec (fun hlt => ?_) fun _ => hJ () h6 A
      have hlt : j < l2 := by simp only at hlt; omega
      have hwj : IntKind.wrap .i64 ((j : Int) + 1) = ((j + 1 : Nat) : Int) := by rw [wrap_i64'] <;> omega
      have hdec : l2 - (j + 1) < c := by omega
      obtain ⟨nt6, ws6, ps6, w6, r6, g6⟩ := id A
      obtain ⟨ad, had, kk, ff, av, bv, cv, hr, g0, g1, g2, g3, g4⟩ := (acts.kept w6.kp) j hlt
      simp only at had
      simp only [had]
      refine ⟨⟨Int.natCast_nonneg j, Int.ofNat_lt.2 hlt⟩, ?_⟩
      simp only [add_add, Int.toNat_natCast]
      refine Ld_i g0 (Ld_i g1 (Ld_i g2 (Ld_i g3 (Ld_i g4 ?_))))
      refine Nw_intro fun a56 h7 h56 k7 e7 => ?_
      have e7 : IL h7 a56 179 [0, 0, 0, 0, 0] := by
        have : zeroC Try.prog 179 = VI [0, 0, 0, 0, 0] := by kernel_rfl
        rw [this] at e7; exact e7
      simp only [add_mk]
      refine put5 e7 fun h8 u8 e8 => ?_
      have k8 : Kept h6 h8 := u8.kept k7 (by omega)
      have olen : zo.len = m := by have := g6.go.1; simpa using this
      have llen : zl.len = m := by have := g6.gl.1; simpa using this
      refine Br_beq_int (fun _ => hJ () h8 (A.kept k8)) fun hm0 => ?_
      have hm0 : 0 < m := by rw [olen] at hm0; omega
      refine Ld_i (x := ff) (by rw [hcell_blk e8]; rfl) ?_
      have eu : IntKind.wrap .u64 ((zo.len : Nat) : Int) = (m : Int) := by rw [olen, wrap_u64]; omega
      simp only [eu]
      refine ⟨by omega, ?_⟩
      have hfp : 0 ≤ IntKind.wrap .u64 ff := by rw [wrap_u64]; omega
      obtain ⟨s, hs⟩ : ∃ s : Nat, IntKind.wrap .u64 ff % (m : Int) = (s : Int) := ⟨(IntKind.wrap .u64 ff % (m : Int)).toNat, by have := Int.emod_nonneg (IntKind.wrap .u64 ff) (show (m : Int) ≠ 0 by omega); omega⟩
      have hsm : s < m := by have := Int.emod_lt_of_pos (IntKind.wrap .u64 ff) (show (0 : Int) < m by omega); omega
      have es : IntKind.wrap .i64 (Int.tmod (IntKind.wrap .u64 ff) (m : Int)) = (s : Int) := by
        rw [Int.tmod_eq_emod_of_nonneg hfp, hs, wrap_i64'] <;> omega
      rw [es]
      have hls : K.L s = true := (hL s).2 hsm
      have w8 := w6.kept k8
      have r8 := r6.kept k8
      have g8 := g6.kept k8
      obtain ⟨bl, hol, hal, cl⟩ := g8.gl.get (j := s) (by simpa using hsm)
      obtain ⟨bo, hoo, hao, co⟩ := g8.go.get (j := s) (by simpa using hsm)
      simp only [List.getElem_map, List.getElem_range] at cl co
      simp only [hal, hao]
      refine ⟨⟨Int.natCast_nonneg s, by rw [llen]; exact Int.ofNat_lt.2 hsm⟩, ?_⟩
      simp only [add_mk, Int.toNat_natCast, Nat.mul_one, Nat.zero_add, Nat.add_zero]
      refine Ld_p cl ⟨⟨Int.natCast_nonneg s, by rw [olen]; exact Int.ofNat_lt.2 hsm⟩, ?_⟩
      simp only [add_mk, Nat.zero_add, Nat.add_zero]
      refine Ld_p co ?_
      have na : ∀ b, CB K b ∨ DB R K rx b → a56 ≠ b := fun b hb e => by
        rcases hb with hb | hb
        · have := w6.cb hb; omega
        · have := r6.db hb; omega
      have e9 : ∀ h9, KL h8 (L3b K.bf K.pf (K.bx s)) h9 → IL h9 a56 179 [kk, ff, av, bv, cv] := fun h9 k9 => k9.blk e8 (by
        simp only [L3b, List.mem_cons, List.not_mem_nil, or_false, not_or]
        exact ⟨na _ (.inl (.inr (.inl rfl))), na _ (.inl (.inr (.inr (.inr (.inl rfl))))), na _ (.inl (.inr (.inr (.inr (.inr ⟨s, hls, rfl⟩)))))⟩)
      have fin : ∀ (h9 h10 : H) (s1 : PS), KL h8 (L3b K.bf K.pf (K.bx s)) h9 → WH K h h9 (setN nt6 s s1.2.2) s1.1 s1.2.1 → KL h9 (Lr (rx s) R) h10 → RH R K rx h h10 (setN nt6 s s1.2.2) s1.1 s1.2.1 →
          ActI K R rx h zl zo m ol oo h10 ∧ IL h10 a56 179 [kk, ff, av, bv, cv] := fun h9 h10 s1 k9 w9 k10 r10 =>
        ⟨⟨_, _, _, w9.ref (r8.code hls k9) hls k10, r10, (g8.code hls k9).ref hls k10⟩, k10.blk (e9 h9 k9) (by
          simp only [Lr, List.mem_cons, not_or]
          exact ⟨na _ (.inr (.inr (.inr (.inr (.inr ⟨s, hls, rfl⟩))))), na _ (.inr (.inr (.inr (.inl rfl)))), fun hc => na _ (.inr (.inr (.inr (.inr (.inl hc))))) rfl⟩)⟩
      have cx : ∀ h' : H, IL h' a56 179 [kk, ff, av, bv, cv] → hcell h' ⟨a56, 0, none⟩ = some (.int .i64 kk) ∧ hcell h' ⟨a56, 2, none⟩ = some (.int .i64 av) ∧ hcell h' ⟨a56, 3, none⟩ = some (.int .i64 bv) ∧ hcell h' ⟨a56, 4, none⟩ = some (.int .i64 cv) :=
        fun h' e => ⟨by rw [hcell_blk e]; rfl, by rw [hcell_blk e]; rfl, by rw [hcell_blk e]; rfl, by rw [hcell_blk e]; rfl⟩
      refine JoinI (fun y h' => y.1 = true ∧ ActI K R rx h zl zo m ol oo h' ∧ IL h' a56 179 [kk, ff, av, bv, cv]) (fun J2 hJ2 => ?_) ?_
      · obtain ⟨c0, c2', c3, c4⟩ := cx h8 e8
        refine Ld_i c0 (Br_beq_int (fun _ => ?_) fun _ => Br_beq_int (fun _ => ?_) fun _ => Br_beq_int (fun _ => ?_) fun _ => Br_beq_int (fun _ => ?_) fun _ => ?_)
        · refine Ld_i c2' (Ld_i c3 (Ld_i c4 (Ld_i c2' (Ld_i c3 (Ld_i c4 (X130 w8 hls fun h9 e s1 he k9 w9 => ?_))))))
          obtain ⟨d0, d2, d3, d4⟩ := cx h9 (e9 h9 k9)
          refine ⟨d4, d3, d2, Y141 (r8.code hls k9) w6.wd hls fun h10 e' s2 he' k10 r10 => ?_⟩
          rw [he] at he'
          simp only [Prod.mk.injEq] at he'
          obtain ⟨rfl, rfl⟩ := he'
          exact hJ2 _ h10 ⟨by simp, fin h9 h10 s1 k9 w9 k10 r10⟩
        · refine Ld_i c2' (Ld_i c2' (X134 w8 hls fun h9 e s1 he k9 w9 => ?_))
          obtain ⟨d0, d2, d3, d4⟩ := cx h9 (e9 h9 k9)
          refine ⟨d2, Y142 (r8.code hls k9) w6.wd hls fun h10 e' s2 he' k10 r10 => ?_⟩
          rw [he] at he'
          simp only [Prod.mk.injEq] at he'
          obtain ⟨rfl, rfl⟩ := he'
          exact hJ2 _ h10 ⟨by simp, fin h9 h10 s1 k9 w9 k10 r10⟩
        · refine Ld_i c2' (Ld_i c4 (Ld_i c2' (Ld_i c4 (X137 w8 hls fun h9 e s1 he k9 w9 => ?_))))
          obtain ⟨d0, d2, d3, d4⟩ := cx h9 (e9 h9 k9)
          refine ⟨d4, d2, Y143 (r8.code hls k9) w6.wd hls fun h10 e' s2 he' k10 r10 => ?_⟩
          rw [he] at he'
          simp only [Prod.mk.injEq] at he'
          obtain ⟨rfl, rfl⟩ := he'
          exact hJ2 _ h10 ⟨by simp, fin h9 h10 s1 k9 w9 k10 r10⟩
        · refine Ld_i c2' (Ld_i c4 (Ld_i c2' (Ld_i c4 (X138 w8 hls fun h9 e s1 he k9 w9 => ?_))))
          obtain ⟨d0, d2, d3, d4⟩ := cx h9 (e9 h9 k9)
          refine ⟨d4, d2, Y144 (r8.code hls k9) w6.wd hls fun h10 e' s2 he' k10 r10 => ?_⟩
          rw [he] at he'
          simp only [Prod.mk.injEq] at he'
          obtain ⟨rfl, rfl⟩ := he'
          exact hJ2 _ h10 ⟨by simp, fin h9 h10 s1 k9 w9 k10 r10⟩
        · exact hJ2 _ h8 ⟨rfl, A.kept k8, e8⟩
      rintro ⟨yb, yu⟩ h9 ⟨hyb, A9, E9⟩
      simp only at hyb
      subst hyb
      obtain ⟨nt9, ws9, ps9, w9, r9, g9⟩ := id A9
      have pos9 := (w9.cnt hls).1
      refine Ld_i (cx h9 E9).2.1 (P131 (w9.w1 hls) pos9 fun h10 k10 => Q25 fun a110 h11 k11 _ e11 => ?_)
      have k911 := k10.trans k11
      refine Ld_i (cx h11 (k911.blk E9)).2.1 (N145 ((r9.kept k911).v1 hls) fun h12 k12 => Q25 fun a119 h13 k13 _ e13 => ?_)
      rw [r9.n] at e13 ⊢
      have k1113 := k12.trans k13
      have k913 := k911.trans k1113
      have e11' := k1113.blk e11
      have w13 := w9.kept k913
      have r13 := r9.kept k913
      simp only [Bool.not_true, Br_false, beq_self_eq_true, add_mk, Nat.add_zero, Nat.zero_add]
      refine Ld_i (x := flg ((findS K.n ws9 (K.rt s) av).getD 0)) (by rw [hcell_blk e11']; rfl) (Ld_i (x := ppn ((findS K.n ws9 (K.rt s) av).getD 0)) (by rw [hcell_blk e11']; rfl) (Ld_i (x := flg ((findS K.n ws9 (K.rt s) av).getD 0)) (by rw [hcell_blk e13]; rfl) (Ld_i (x := ppn ((findS K.n ws9 (K.rt s) av).getD 0)) (by rw [hcell_blk e13]; rfl) ?_)))
      simp only [beq_self_eq_true, Bool.and_self, Bool.not_true, Br_false]
      refine ⟨(nt9 s, ()), P132 (w13.w1 hls) pos9 ⟨rfl, rfl⟩, ?_⟩
      simp only [NilP, add_mk, Nat.add_zero, Nat.zero_add]
      refine Ld_i (r13.v1 hls).c ?_
      simp only [bne_self_eq_false, Br_false]
      refine ⟨((K.rt s : Int), ()), P136 (w13.w1 hls) pos9 ⟨rfl, rfl⟩, ?_⟩
      refine Ld_i (r13.v1 hls).r ?_
      simp only [bne_self_eq_false, Br_false]
      refine P146 (bf := K.bf) (pf := K.pf) (ws := ws9) (by rw [r9.n]; exact w13.pw) r13.b (fun _ _ _ _ _ => rfl) fun h14 k14 => ?_
      simp only [Bool.not_true, Br_false]
      exact ⟨l2 - (j + 1), hdec, j + 1, hwj, rfl, hlt, A9.kept (k913.trans k14)⟩
    · -- the closing
      rintro _ h6 ⟨nt6, ws6, ps6, w6, r6, g6⟩
      obtain ⟨ro6, v6⟩ := id w6.wd
      refine Loop_intro (σ := Int × Unit) (x := (0, ())) (fun c z h' => ∃ i : Nat, z.1 = (i : Int) ∧ c = m - i ∧ i ≤ m ∧ CloI K R rx h zl zo m ol oo i h') m
        ⟨0, rfl, rfl, by omega, K.L, nt6, ws6, ws6, ps6, ro6, fun s => by rw [hL]; omega, w6, v6, r6, v6, fun _ _ _ _ => rfl, g6⟩ ?_
      rintro c ⟨zz, u⟩ h7 ⟨s, hi, hc, hsm, L', nt7, ws7, wsr7, ps7, ro7, hL', w7, v7, r7, vr7, ag7, g7⟩
      simp only at hi
      subst hi
      have olen : zo.len = m := by have := g7.go.1; simpa using this
      have llen : zl.len = m := by have := g7.gl.1; simpa using this
      simp only [olen]
      refine Br_dec (fun hlt => ?_) fun hge => ?_
      · have hlt : s < m := by omega
        have hws : IntKind.wrap .i64 ((s : Int) + 1) = ((s + 1 : Nat) : Int) := by rw [wrap_i64'] <;> omega
        have hls : L' s = true := (hL' s).2 ⟨Nat.le_refl _, hlt⟩
        obtain ⟨bl, hol, hal, cl⟩ := g7.gl.get (j := s) (by simpa using hlt)
        obtain ⟨bo, hoo, hao, co⟩ := g7.go.get (j := s) (by simpa using hlt)
        simp only [List.getElem_map, List.getElem_range] at cl co
        simp only [hal, hao]
        refine ⟨⟨Int.natCast_nonneg s, by rw [llen]; exact Int.ofNat_lt.2 hlt⟩, ?_⟩
        simp only [add_mk, Int.toNat_natCast, Nat.mul_one, Nat.zero_add, Nat.add_zero]
        refine Ld_p cl ⟨⟨Int.natCast_nonneg s, Int.ofNat_lt.2 hlt⟩, ?_⟩
        simp only [add_mk, Nat.zero_add, Nat.add_zero]
        refine Ld_p co ?_
        refine Q139x (K := { K with L := L' }) w7 hls v7 fun h8 nt8 ws8 ps8 w8 o8 _ z8 k8 pf8 mm8 => ?_
        have r8 := r7.code hls k8
        have g8 := g7.code hls k8
        have co8 := g8.go.get (j := s) (by simpa using hlt)
        obtain ⟨bo', hoo', hao', co'⟩ := co8
        rw [hoo] at hoo'
        simp only [Option.some.injEq] at hoo'
        subst hoo'
        simp only [List.getElem_map, List.getElem_range] at co'
        refine ⟨co', N147 (L := L') (rt := K.rt) (ro := ro7) (r8.v1 hls) hls (by rw [r7.n]; exact vr7) fun h9 ps9 k9 v9 pf9 => ?_⟩
        rw [r7.n] at pf9
        have : ps9 = ps8 := PF.uniq v7.iv.len pf9 pf8
        subst this
        have r9 := r8.close hls k9 v9 o8
        have dlr : ∀ b ∈ Lr (rx s) R, DB R { K with L := L' } rx b := fun b hb => by
          simp only [Lr, List.mem_cons] at hb
          rcases hb with rfl | rfl | hb
          · exact .inr (.inr (.inr (.inr ⟨s, hls, rfl⟩)))
          · exact .inr (.inr (.inl rfl))
          · exact .inr (.inr (.inr (.inl hb)))
        have w9 := w8.kl k9 (fun b hb => ⟨fun c => r7.dj b c.del (dlr b hb), r7.lo b (dlr b hb)⟩)
        have z9 : Zc h9 (K.bx s) := k9.blk z8 (fun hb => r7.dj _ (.inr (.inr (.inr (.inr ⟨s, hls, rfl⟩)))) (dlr _ hb))
        have va := v7.free (nt' := nt8) pf8 w8.pw.mw.ok mm8 o8
        have vb := vr7.free (nt' := nt8) pf8 vr7.iv.ok (fun _ _ _ _ _ => rfl) o8
        have g9 := (g8.ref hls k9).del s
        have ag9 : ∀ j t, t < 512 → (delR ro7 s j).1 ≠ 0 → wat ws8 j t = wat wsr7 j t := fun j t ht h0 => by
          unfold delR at h0
          by_cases e : (ro7 j).1 ≠ 0 ∧ (ro7 j).2.1 = s
          · rw [if_pos e] at h0; exact absurd rfl h0
          · rw [if_neg e] at h0
            rw [mm8 j t ht h0 (fun x => e ⟨h0, x⟩)]; exact ag7 j t ht h0
        simp only [bne_self_eq_false, Br_false]
        obtain ⟨bl', hol', hal', cl'⟩ := g9.gl.get (j := s) (by simpa using hlt)
        rw [hol] at hol'
        simp only [Option.some.injEq] at hol'
        subst hol'
        simp only [List.getElem_map, List.getElem_range] at cl'
        refine ⟨⟨Int.natCast_nonneg s, by rw [llen]; exact Int.ofNat_lt.2 hlt⟩, ?_⟩
        simp only [add_mk, Int.toNat_natCast, Nat.mul_one, Nat.zero_add, Nat.add_zero]
        refine Ld_p cl' ⟨(0, ()), Z132 z9 ⟨rfl, rfl⟩, ?_⟩
        simp only [bne_self_eq_false, Br_false]
        refine P146 (bf := K.bf) (pf := K.pf) (ws := ws8) (by rw [r7.n]; exact w9.pw) r9.b (fun j hj h1 t ht => ?_) fun h10 k10 => ?_
        · rw [r7.n] at hj
          have := va.iv.cls hj
          rw [h1] at this
          refine ag9 j t ht fun h0 => ?_
          rw [if_pos h0] at this; cases this
        · simp only [Bool.not_true, Br_false]
          exact ⟨m - (s + 1), by omega, s + 1, hws, rfl, hlt, delL L' s, nt8, ws8, wsr7, ps9, delR ro7 s, fun t => by
            unfold delL
            by_cases e : t = s
            · rw [if_pos e]; simp; omega
            · rw [if_neg e, hL']; omega, w9.kept k10, va, r9.kept k10, vb, ag9, g9.kept k10⟩
      · have : s = m := by omega
        subst this
        refine Q98 (K := { K with L := L' }) w7 fun h8 w8 k8 => ?_
        have hz := w8.wd.none' fun t => by
          cases e : L' t
          · exact e
          · exact absurd ((hL' t).1 e) (by omega)
        rw [hz]
        simp only [hKn', beq_self_eq_true, Br_true]
        exact liv h8 w8.kp

end Go.Proofs.Ytfijchofplkcoaa
