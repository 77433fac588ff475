/-
  Some spaces in one memory, in the heap: each act's contract over the world.
  Statements about spaces: the document's examples, PmapFull.
-/
import Derived.Test.YtfijchofplkcoaaKh
import Derived.Test.YtfijchofplkcoaaKe
set_option linter.unusedVariables false
set_option linter.unusedSimpArgs false
set_option maxRecDepth 100000
namespace Go.Proofs.Ytfijchofplkcoaa

/-- Where a world lies. -/
structure WK where
  bm : Nat
  bf : Nat
  bp : Nat
  pf : Nat
  n : Nat
  L : Nat → Bool
  rt : Nat → Nat
  bx : Nat → Nat
  ai : Nat → Int
structure WH (K : WK) (h0 h : H) (nt : Nat → Int) (ws ps : List Int) : Prop where
  pw : PW h K.bm K.bf K.bp K.pf K.n ws ps
  wd : Wd K.n K.L K.rt nt ws ps
  xm : ∀ s, K.L s = true → XM h (K.bx s) K.bm K.bp (K.ai s) (K.rt s) (nt s)
  nx : ∀ s, K.L s = true → K.bx s ≠ K.bm ∧ K.bx s ≠ K.bf ∧ K.bx s ≠ K.bp ∧ K.bx s ≠ K.pf
  ij : ∀ s t, K.L s = true → K.L t = true → K.bx s = K.bx t → s = t
  kp : Kept h0 h
  lo : h0.size ≤ K.bm ∧ h0.size ≤ K.bf ∧ h0.size ≤ K.bp ∧ h0.size ≤ K.pf
  lx : ∀ s, K.L s = true → h0.size ≤ K.bx s
/-- All spaces' pages but one are the same. -/
def PgSet (K : WK) (ws ws' : List Int) (s : Nat) (vpn x : Int) : Prop := ∀ s1 u, K.L s1 = true → pgv K.n ws' (K.rt s1) u = if s1 = s ∧ u = vpn then x else pgv K.n ws (K.rt s1) u
def PgSame (K : WK) (ws ws' : List Int) : Prop := ∀ s1 u, K.L s1 = true → pgv K.n ws' (K.rt s1) u = pgv K.n ws (K.rt s1) u
theorem zGF (n : Nat) : GF (List.replicate (5 * n) 0) n := by
  have z : ∀ k, (List.replicate (5 * n) (0 : Int)).getD k 0 = 0 := by
    intro k
    rw [List.getD_eq_getElem?_getD, List.getElem?_replicate]
    split <;> rfl
  refine ⟨fun j _ => by rw [z]; omega, fun j _ _ => ?_, fun j _ => by rw [z]; omega, fun j _ => by rw [z]; omega⟩
  unfold z5
  rw [z, z, z, z, z]; rfl
/-- No space yet. -/
theorem Wd.zero {n : Nat} {ws : List Int} (o : OkW n ws) (L : Nat → Bool) (hL : ∀ s, L s = false) (rt : Nat → Nat) (nt : Nat → Int) : Wd n L rt nt ws (List.replicate (5 * n) 0) := by
  have z : ∀ k, (List.replicate (5 * n) (0 : Int)).getD k 0 = 0 := by
    intro k
    rw [List.getD_eq_getElem?_getD, List.getElem?_replicate]
    split <;> rfl
  refine ⟨fun _ => (0, 0, 0, 0), ⟨o, zGF n, by simp, ?_, ?_, ?_, ?_, ?_, ?_, ?_, ?_, ?_, ?_, ?_, ?_, ?_⟩, ?_, ?_⟩
  · intro j _ _; unfold z5; rw [z, z, z, z, z]; rfl
  · intro j _ h; exact absurd rfl h
  · intro j _; rfl
  · intro s h; rw [hL] at h; cases h
  · intro j s i k h; simp at h
  · intro s i j h; rw [hL] at h; cases h
  · intro j s i k h; simp at h
  · intro m s i k j h; simp at h
  · intro j s i k h; simp at h
  · intro s i h; rw [hL] at h; cases h
  · intro m s i k h; simp at h
  · intro l s i k t h; simp at h
  · intro j; simp
  · intro m h; simp at h
  · intro s h; rw [hL] at h; cases h
def addL (L : Nat → Bool) (s : Nat) : Nat → Bool := fun j => if j = s then true else L j
def setA (f : Nat → Nat) (s x : Nat) : Nat → Nat := fun j => if j = s then x else f j
section
variable {n : Nat} {L : Nat → Bool} {rt : Nat → Nat} {nt : Nat → Int} {ro : Nat → Role} {ex : Nat → Prop} {ws ps : List Int}
/-- A space more. -/
theorem Wd.new (v : Wd n L rt nt ws ps) {s r : Nat} {asid : Int} {x : PS} (h0 : L s = false) (h : newS n asid ws ps = some (r, x)) :
    Wd n (addL L s) (setA rt s r) (setN nt s 1) x.1 x.2.1 ∧ x.2.2 = 1 ∧ cnt x.2.1 0 n = cnt ps 0 n - 1 ∧ cnt x.2.1 1 n = cnt ps 1 n + 1 ∧ (∀ s1 u, L s1 = true → pgv n x.1 (rt s1) u = pgv n ws (rt s1) u) ∧ (∀ u, pgv n x.1 r u = 0) ∧
      (∀ a b c, a < 512 → b < 512 → c < 512 → pgW n x.1 r a b c = 0) := by
  obtain ⟨ro, v⟩ := v
  unfold newS at h
  split at h
  · cases h
  rename_i hc
  simp only [Option.some.injEq, Prod.mk.injEq] at h
  obtain ⟨rfl, rfl⟩ := h
  have hf := fst0_lt v.iv.gf hc
  have hfr := v.iv.z5 hf.1 hf.2
  have V := v.iv
  generalize fst0 ps n = r at *
  have hr := hf.1
  have hb5 : 5 * r + 5 ≤ ps.length := by rw [V.len]; omega
  have W : ∀ j t, t < 512 → wat (zeroW ws r) j t = if j = r then 0 else wat ws j t := by
    intro j t ht
    rw [wat_zero V.ok hr ht]
    by_cases e : r = j
    · rw [if_pos e, if_pos e.symm]
    · rw [if_neg e, if_neg (fun x => e x.symm)]
  have S0 : setR ro r (1, s, 0, 0) r = (1, s, 0, 0) := by unfold setR; rw [if_pos rfl]
  have S1 : ∀ j, j ≠ r → setR ro r (1, s, 0, 0) j = ro j := fun j h => by unfold setR; rw [if_neg h]
  have R0 : setA rt s r s = r := by unfold setA; rw [if_pos rfl]
  have R1 : ∀ t, t ≠ s → setA rt s r t = rt t := fun t h => by unfold setA; rw [if_neg h]
  have L0 : addL L s s = true := by unfold addL; rw [if_pos rfl]
  have L1 : ∀ t, t ≠ s → addL L s t = L t := fun t h => by unfold addL; rw [if_neg h]
  have LL : ∀ t, L t = true → t ≠ s := fun t h e => by rw [e, h0] at h; cases h
  have own : ∀ j, (ro j).1 ≠ 0 → (ro j).2.1 ≠ s := fun j h => LL _ (V.own h)
  have rtr : ∀ t, L t = true → rt t ≠ r := fun t h e => by have := V.rt1 t h; rw [e] at this; rw [this] at hfr; simp at hfr
  have nr : ∀ j x, ro j = x → x.1 ≠ 0 → j ≠ r := fun j x h hx e => by rw [e] at h; rw [h] at hfr; exact hx hfr
  refine ⟨⟨setR ro r (1, s, 0, 0), ⟨V.ok.zero hr, V.gf.set5 V.len hr (by omega) (fun e => by omega), by rw [set5_len]; exact V.len, ?_, ?_, ?_, ?_, ?_, ?_, ?_, ?_, ?_, ?_, ?_, ?_, ?_⟩, ?_, ?_⟩, rfl, ?_, ?_, ?_, ?_, ?_⟩
  · intro j hj h
    by_cases e : j = r
    · subst e; rw [S0] at h; simp at h
    · rw [S1 j e] at h
      simp only
      rw [set5_z5 _ _ _ _ _ _ _ _ hb5, if_neg e]; exact V.fr j hj h
  · intro j hj h
    have g0 : ∀ t, t < 5 → (set5 ps r 1 asid 0 0 0).getD (5 * j + t) 0 = if j = r then [1, asid, 0, 0, 0].getD t 0 else ps.getD (5 * j + t) 0 := fun t ht => set5_get ps r j t 1 asid 0 0 0 hb5 ht
    have g00 := g0 0 (by omega)
    rw [Nat.add_zero] at g00
    simp only
    rw [g00, g0 3 (by omega), g0 4 (by omega)]
    by_cases e : j = r
    · rw [if_pos e, if_pos e, if_pos e]; simp
    · rw [S1 j e] at h
      rw [if_neg e, if_neg e, if_neg e]; exact V.tb j hj h
  · intro j hj
    rw [S1 j (by omega)]; exact V.out j hj
  · intro t h
    by_cases e : t = s
    · subst e; rw [R0, S0]
    · rw [L1 t e] at h
      rw [R1 t e, S1 _ (rtr t h)]; exact V.rt1 t h
  · intro j t i k h
    by_cases e : j = r
    · subst e
      rw [S0] at h
      simp only [Prod.mk.injEq, true_and] at h
      obtain ⟨rfl, rfl, rfl⟩ := h
      exact ⟨L0, R0, rfl, rfl⟩
    · rw [S1 j e] at h
      obtain ⟨h1, h2, h3⟩ := V.rt2 j t i k h
      exact ⟨by rw [L1 t (LL t h1)]; exact h1, by rw [R1 t (LL t h1)]; exact h2, h3⟩
  · intro t i j h hi hl
    simp only at hl
    rw [W _ _ hi] at hl
    by_cases e : t = s
    · subst e; rw [R0, if_pos rfl, lead0] at hl; cases hl
    · rw [L1 t e] at h
      rw [R1 t e, if_neg (rtr t h)] at hl
      have := V.md1 t i j h hi hl
      rw [S1 j (nr j _ this (by simp))]; exact this
  · intro j t i k h
    by_cases e : j = r
    · subst e; rw [S0] at h; simp at h
    · rw [S1 j e] at h
      obtain ⟨h1, h2, h3, h4⟩ := V.md2 j t i k h
      exact ⟨by rw [L1 t (LL t h1)]; exact h1, h2, h3, by simp only; rw [W _ _ h2, R1 t (LL t h1), if_neg (rtr t h1)]; exact h4⟩
  · intro m t i k j h hk hl
    simp only at hl
    rw [W _ _ hk] at hl
    by_cases e : m = r
    · rw [if_pos e, lead0] at hl; cases hl
    · rw [if_neg e] at hl
      rw [S1 m e] at h
      have := V.ls1 m t i k j h hk hl
      rw [S1 j (nr j _ this (by simp))]; exact this
  · intro j t i k h
    by_cases e : j = r
    · subst e; rw [S0] at h; simp at h
    · rw [S1 j e] at h
      obtain ⟨h1, m, h2, h3⟩ := V.ls2 j t i k h
      have hm := nr m _ h2 (by simp)
      exact ⟨h1, m, by rw [S1 m hm]; exact h2, by simp only; rw [W _ _ h1, if_neg hm]; exact h3⟩
  · intro t i h hi hl
    simp only at hl ⊢
    rw [W _ _ hi] at hl ⊢
    by_cases e : t = s
    · subst e; rw [R0, if_pos rfl]
    · rw [L1 t e] at h
      rw [R1 t e, if_neg (rtr t h)] at hl ⊢
      exact V.z2 t i h hi hl
  · intro m t i k h hk hl
    simp only at hl ⊢
    rw [W _ _ hk] at hl ⊢
    by_cases e : m = r
    · rw [if_pos e]
    · rw [if_neg e] at hl ⊢
      rw [S1 m e] at h
      exact V.z1 m t i k h hk hl
  · intro l t i k u h hu hne
    simp only at hne ⊢
    rw [W _ _ hu] at hne ⊢
    by_cases e : l = r
    · rw [if_pos e] at hne; exact absurd rfl hne
    · rw [if_neg e] at hne ⊢
      rw [S1 l e] at h
      exact V.lf l t i k u h hu hne
  · intro j
    by_cases e : j = r
    · subst e; rw [S0]; simp
    · rw [S1 j e]; exact V.kd j
  · intro m h _
    by_cases e : m = r
    · subst e; rw [S0] at h; simp at h
    · rw [S1 m e] at h
      obtain ⟨t, ht, hw⟩ := v.nb m h (fun x => x)
      exact ⟨t, ht, by simp only; rw [W _ _ ht, if_neg e]; exact hw⟩
  · intro t h
    rw [cntR_set, if_pos hr]
    unfold setN
    by_cases e : t = s
    · subst e
      have : cntR ro t n = 0 := by
        have : ∀ k, cntR ro t k = 0 := by
          intro k
          induction k with
          | zero => rfl
          | succ k ih =>
            simp only [cntR]
            rw [ih, if_neg (fun x => own k x.1 x.2)]; rfl
        exact this n
      rw [if_pos rfl, this, if_pos ⟨by simp, rfl⟩, if_neg (fun x => x.1 hfr)]; rfl
    · rw [L1 t e] at h
      rw [if_neg e, if_neg (fun x => e x.2.symm), if_neg (fun x => x.1 hfr), v.ct t h]; omega
  · have c0 := V.cls hr
    rw [if_pos hfr] at c0
    simp only
    rw [cnt_set5 V.len hr _ _ _ _ _ _ n (Nat.le_refl n), if_pos hr, c0]
    simp; omega
  · have c0 := V.cls hr
    rw [if_pos hfr] at c0
    simp only
    rw [cnt_set5 V.len hr _ _ _ _ _ _ n (Nat.le_refl n), if_pos hr, c0]
    simp
  · intro t u h
    unfold pgv pgW
    obtain ⟨l2, l1, l0⟩ := ix_lt u
    simp only
    rw [W _ _ l2, if_neg (rtr t h)]
    cases hm : lead n (wat ws (rt t) (ix2 u)) with
    | none => rfl
    | some m =>
      have rm := V.md1 _ _ _ h l2 hm
      simp only
      rw [W _ _ l1, if_neg (nr m _ rm (by simp))]
      cases hl : lead n (wat ws m (ix1 u)) with
      | none => rfl
      | some l =>
        have rl := V.ls1 _ _ _ _ _ rm l1 hl
        simp only
        rw [W _ _ l0, if_neg (nr l _ rl (by simp))]
  · intro u
    unfold pgv pgW
    obtain ⟨l2, l1, l0⟩ := ix_lt u
    simp only
    rw [W _ _ l2, if_pos rfl, lead0]
    simp
  · intro a b c ha hb hc
    unfold pgW
    simp only
    rw [W _ _ ha, if_pos rfl, lead0]
end
section
variable {K : WK} {h0 h : H} {nt : Nat → Int} {ws ps : List Int}
theorem WH.kept {h' : H} (w : WH K h0 h nt ws ps) (k : Kept h h') : WH K h0 h' nt ws ps := ⟨w.pw.kept k, w.wd, fun s hs => ⟨k.blk (w.xm s hs).cells⟩, w.nx, w.ij, w.kp.trans k, w.lo, w.lx⟩
theorem WH.w1 (w : WH K h0 h nt ws ps) {s : Nat} (hs : K.L s = true) : W1 h K.bm K.bf K.bp K.pf (K.bx s) K.n (K.ai s) (K.rt s) (ws, ps, nt s) :=
  ⟨w.pw, w.xm s hs, (w.nx s hs).1, (w.nx s hs).2.1, (w.nx s hs).2.2.1, (w.nx s hs).2.2.2⟩
theorem WH.nle (w : WH K h0 h nt ws ps) : K.n ≤ 256 := w.pw.mw.ok.le
theorem WH.cnt (w : WH K h0 h nt ws ps) {s : Nat} (hs : K.L s = true) : 0 < nt s ∧ nt s ≤ 256 := by
  have := w.wd.cntS hs; have := w.nle; omega
theorem WH.rlt (w : WH K h0 h nt ws ps) {s : Nat} (hs : K.L s = true) : K.rt s < K.n := by
  obtain ⟨ro, v⟩ := w.wd; exact v.iv.rlt hs
theorem WH.upd {h' : H} {s' : PS} (w : WH K h0 h nt ws ps) {s : Nat} (hs : K.L s = true) (k : KL h (L3b K.bf K.pf (K.bx s)) h') (w1 : W1 h' K.bm K.bf K.bp K.pf (K.bx s) K.n (K.ai s) (K.rt s) s')
    (wd : Wd K.n K.L K.rt (setN nt s s'.2.2) s'.1 s'.2.1) : WH K h0 h' (setN nt s s'.2.2) s'.1 s'.2.1 := by
  refine ⟨w1.pw, wd, fun t ht => ?_, w.nx, w.ij, k.kept w.kp ?_, w.lo, w.lx⟩
  · by_cases e : t = s
    · subst e; rw [setN_at]; exact w1.xm
    · have hn := w.nx t ht
      have : setN nt s s'.2.2 t = nt t := by unfold setN; rw [if_neg e]
      rw [this]
      refine ⟨k.blk (w.xm t ht).cells ?_⟩
      simp only [L3b, List.mem_cons, List.not_mem_nil, or_false, not_or]
      exact ⟨hn.2.1, hn.2.2.2, fun x => e (w.ij t s ht hs x)⟩
  · intro b hb
    simp only [L3b, List.mem_cons, List.not_mem_nil, or_false] at hb
    have := w.lo
    have := w.lx s hs
    rcases hb with rfl | rfl | rfl <;> omega
theorem Q132 {s : Nat} {Q : Int → H → Prop} (w : WH K h0 h nt ws ps) (hs : K.L s = true) (q : Q (nt s) h) : F132 (some ⟨K.bx s, 0, none⟩) Q h := P132 (w.w1 hs) (w.cnt hs).1 q
theorem Q136 {s : Nat} {Q : Int → H → Prop} (w : WH K h0 h nt ws ps) (hs : K.L s = true) (q : Q (K.rt s : Int) h) : F136 (some ⟨K.bx s, 0, none⟩) Q h := P136 (w.w1 hs) (w.cnt hs).1 q
theorem Q131 {s : Nat} {vpn : Int} {Q : Int → Int → Bool → H → Prop} (w : WH K h0 h nt ws ps) (hs : K.L s = true)
    (q : ∀ h', WH K h0 h' nt ws ps → Kept h h' → Q (flg (pgv K.n ws (K.rt s) vpn)) (ppn (pgv K.n ws (K.rt s) vpn)) (decide (pgv K.n ws (K.rt s) vpn ≠ 0)) h') : F131 (some ⟨K.bx s, 0, none⟩) vpn Q h := by
  refine P131 (w.w1 hs) (w.cnt hs).1 fun h' k => ?_
  simp only
  rw [w.wd.find hs vpn]
  have q := q h' (w.kept k) k
  by_cases e : pgv K.n ws (K.rt s) vpn = 0
  · rw [decide_eq_false (fun x => x e), e] at q
    rw [if_pos e]; exact q
  · rw [decide_eq_true e] at q
    rw [if_neg e]; exact q
theorem Q134 {s : Nat} {vpn : Int} {Q : Bool → H → Prop} (w : WH K h0 h nt ws ps) (hs : K.L s = true)
    (q : ∀ h' nt' ws' ps', WH K h0 h' (setN nt s nt') ws' ps' → PgSet K ws ws' s vpn 0 → KL h (L3b K.bf K.pf (K.bx s)) h' → Q (decide (pgv K.n ws (K.rt s) vpn ≠ 0)) h') : F134 (some ⟨K.bx s, 0, none⟩) vpn Q h := by
  refine P134 (w.w1 hs) (w.cnt hs).1 (w.rlt hs) (by have := w.cnt hs; simp only; omega) fun h' r s' e k w1 => ?_
  obtain ⟨s2, e2, ok⟩ := w.wd.remove hs vpn
  rw [e2] at e
  simp only [Prod.mk.injEq] at e
  obtain ⟨rfl, rfl⟩ := e
  exact q h' _ _ _ (w.upd hs k w1 ok.wd) ok.pg k
theorem Q137 {s : Nat} {vpn prot : Int} {Q : Bool → H → Prop} (w : WH K h0 h nt ws ps) (hs : K.L s = true)
    (q : ∀ h' nt' ws' ps', WH K h0 h' (setN nt s nt') ws' ps' → PgSet K ws ws' s vpn (proV prot (pgv K.n ws (K.rt s) vpn)) → KL h (L3b K.bf K.pf (K.bx s)) h' → Q (decide (pgv K.n ws (K.rt s) vpn ≠ 0)) h') : F137 (some ⟨K.bx s, 0, none⟩) vpn prot Q h := by
  refine P137 (w.w1 hs) (w.cnt hs).1 (w.rlt hs) (by have := w.cnt hs; simp only; omega) fun h' r s' e k w1 => ?_
  obtain ⟨s2, e2, ok⟩ := w.wd.protect hs vpn prot
  rw [e2] at e
  simp only [Prod.mk.injEq] at e
  obtain ⟨rfl, rfl⟩ := e
  exact q h' _ _ _ (w.upd hs k w1 ok.wd) ok.pg k
theorem Q138 {s : Nat} {vpn flags : Int} {Q : Int → H → Prop} (w : WH K h0 h nt ws ps) (hs : K.L s = true)
    (q : ∀ h' nt' ws' ps', WH K h0 h' (setN nt s nt') ws' ps' → PgSet K ws ws' s vpn (clrV flags (pgv K.n ws (K.rt s) vpn)) → KL h (L3b K.bf K.pf (K.bx s)) h' → Q (hadV flags (pgv K.n ws (K.rt s) vpn)) h') : F138 (some ⟨K.bx s, 0, none⟩) vpn flags Q h := by
  refine P138 (w.w1 hs) (w.cnt hs).1 (w.rlt hs) (by have := w.cnt hs; simp only; omega) fun h' r s' e k w1 => ?_
  obtain ⟨s2, e2, ok⟩ := w.wd.clear hs vpn flags
  rw [e2] at e
  simp only [Prod.mk.injEq] at e
  obtain ⟨rfl, rfl⟩ := e
  exact q h' _ _ _ (w.upd hs k w1 ok.wd) ok.pg k
/-- How many tables an Enter needs. -/
def Need (K : WK) (ws : List Int) (s : Nat) (vpn nd : Int) : Prop :=
  (¬ hasT (pgW K.n ws (K.rt s)) (ix2 vpn) ∧ nd = 2) ∨ (hasT (pgW K.n ws (K.rt s)) (ix2 vpn) ∧ ¬ hasM (pgW K.n ws (K.rt s)) (ix2 vpn) (ix1 vpn) ∧ nd = 1) ∨ (hasM (pgW K.n ws (K.rt s)) (ix2 vpn) (ix1 vpn) ∧ nd = 0)
def leafV (prot frame : Int) : Int := encF (flagsN (lo3 prot) true) frame
theorem leafV_ne {prot : Int} (h : 1 ≤ prot ∧ prot ≤ 7) (frame : Int) : leafV prot frame ≠ 0 := by
  have hlo : 1 ≤ lo3 prot ∧ lo3 prot < 8 := by have := lo3_lt prot; refine ⟨?_, this⟩; unfold lo3; omega
  obtain ⟨f1, f2, f3⟩ := flagsK (lo3 prot) hlo.2 hlo.1
  unfold leafV
  rw [f3]; exact enc_ne (by omega) (kind2_ne f1) _
theorem Q130 {s : Nat} {vpn frame prot : Int} {Q : Int → H → Prop} (w : WH K h0 h nt ws ps) (hs : K.L s = true)
    (q2 : ∀ h', badE K.n vpn frame prot → WH K h0 h' nt ws ps → KL h (L3b K.bf K.pf (K.bx s)) h' → Q 2 h')
    (q0 : ∀ h' nd ws' ps', ¬ badE K.n vpn frame prot → 0 ≤ nd ∧ nd ≤ 2 → Need K ws s vpn nd → nd ≤ cnt ps 0 K.n → WH K h0 h' (setN nt s (nt s + nd)) ws' ps' → PgSet K ws ws' s vpn (leafV prot frame) →
       (∀ s1 a b c, K.L s1 = true → a < 512 → b < 512 → c < 512 → pgW K.n ws' (K.rt s1) a b c = if s1 = s ∧ a = ix2 vpn ∧ b = ix1 vpn ∧ c = ix0 vpn then leafV prot frame else pgW K.n ws (K.rt s1) a b c) → KL h (L3b K.bf K.pf (K.bx s)) h' → Q 0 h')
    (q5 : ∀ h' nd ws' ps', ¬ badE K.n vpn frame prot → 0 ≤ nd ∧ nd ≤ 2 → Need K ws s vpn nd → cnt ps 0 K.n < nd → WH K h0 h' nt ws' ps' → cnt ps' 0 K.n = cnt ps 0 K.n → PgSame K ws ws' → KL h (L3b K.bf K.pf (K.bx s)) h' → Q 5 h') :
    F130 (some ⟨K.bx s, 0, none⟩) vpn frame prot Q h := by
  refine P130 (w.w1 hs) (w.cnt hs).1 (w.rlt hs) (by have := w.cnt hs; simp only; omega) fun h' e s' he k w1 => ?_
  by_cases hb : badE K.n vpn frame prot
  · unfold enterS at he
    rw [if_pos hb] at he
    simp only [Prod.mk.injEq] at he
    obtain ⟨rfl, rfl⟩ := he
    have := w.upd hs k w1 (by simp only; rw [setN_self]; exact w.wd)
    simp only at this
    rw [setN_self] at this
    exact q2 h' hb this k
  · obtain ⟨nd, h2, hn, hh⟩ := w.wd.enter' (asid := K.ai s) (frame := frame) (prot := prot) hs hb
    rcases hh with ⟨hc, s2, e2, ok, hnt, hpg⟩ | ⟨hc, ws', ps', e2, wd, c0, c1, P⟩
    · rw [e2] at he
      simp only [Prod.mk.injEq] at he
      obtain ⟨rfl, rfl⟩ := he
      have := w.upd hs k w1 ok.wd
      rw [hnt] at this
      exact q0 h' nd _ _ hb h2 hn hc this ok.pg hpg k
    · rw [e2] at he
      simp only [Prod.mk.injEq] at he
      obtain ⟨rfl, rfl⟩ := he
      have := w.upd hs k w1 (by simp only; rw [setN_self]; exact wd)
      simp only at this
      rw [setN_self] at this
      exact q5 h' nd _ _ hb h2 hn hc this c0 P k
/-- The world with one space more. -/
def WK.add (K : WK) (s r b : Nat) (a : Int) : WK := { K with L := addL K.L s, rt := setA K.rt s r, bx := setA K.bx s b, ai := setN K.ai s a }
theorem Q128x {s : Nat} {asid : Int} {Q : Option Addr → Int → H → Prop} (w : WH K h0 h nt ws ps) (h1 : 1 ≤ K.n) (hs : K.L s = false)
    (q5 : ∀ h', cnt ps 0 K.n ≤ 0 → WH K h0 h' nt ws ps → KL h [K.bf, K.pf] h' → newS K.n asid ws ps = none → Q none 5 h')
    (q0 : ∀ b r h' ws' ps', 0 < cnt ps 0 K.n → h.size ≤ b → WH (K.add s r b asid) h0 h' (setN nt s 1) ws' ps' → cnt ps' 0 K.n = cnt ps 0 K.n - 1 → cnt ps' 1 K.n = cnt ps 1 K.n + 1 → PgSame K ws ws' → (∀ u, pgv K.n ws' r u = 0) →
      (∀ a b c, a < 512 → b < 512 → c < 512 → pgW K.n ws' r a b c = 0) → KL h [K.bf, K.pf] h' → newS K.n asid ws ps = some (r, (ws', ps', 1)) → Q (some ⟨b, 0, none⟩) 0 h') :
    F128 (some ⟨K.bm, 0, none⟩) (some ⟨K.bp, 0, none⟩) asid Q h := by
  have lo2 : ∀ b ∈ [K.bf, K.pf], h0.size ≤ b := by
    intro b hb
    simp only [List.mem_cons, List.not_mem_nil, or_false] at hb
    have := w.lo
    rcases hb with rfl | rfl <;> omega
  have xk : ∀ h', KL h [K.bf, K.pf] h' → ∀ t, K.L t = true → XM h' (K.bx t) K.bm K.bp (K.ai t) (K.rt t) (nt t) := fun h' k t ht => by
    have hn := w.nx t ht
    refine ⟨k.blk (w.xm t ht).cells ?_⟩
    simp only [List.mem_cons, List.not_mem_nil, or_false, not_or]
    exact ⟨hn.2.1, hn.2.2.2⟩
  refine P128 w.pw h1 (fun h' hn k pw => ?_) fun bx h' r s1 hn hr hb k w1 => ?_
  · refine q5 h' ?_ ⟨pw, w.wd, xk h' k, w.nx, w.ij, k.kept w.kp lo2, w.lo, w.lx⟩ k hn
    unfold newS at hn
    split at hn
    · assumption
    · cases hn
  · obtain ⟨wd, hnt, c0, c1, P, P0, P00⟩ := w.wd.new hs hn
    have hc : 0 < cnt ps 0 K.n := by
      unfold newS at hn
      split at hn
      · cases hn
      · omega
    have old : ∀ t, K.L t = true → K.bx t < h.size := fun t ht => (Array.getElem?_eq_some_iff.1 (w.xm t ht).cells).1
    have ne : ∀ t, K.L t = true → t ≠ s := fun t ht e => by rw [e, hs] at ht; cases ht
    have LA : ∀ t, (K.add s r bx asid).L t = true → t = s ∨ (t ≠ s ∧ K.L t = true) := fun t ht => by
      by_cases e : t = s
      · exact .inl e
      · refine .inr ⟨e, ?_⟩
        have : (K.add s r bx asid).L t = K.L t := by show addL K.L s t = _; unfold addL; rw [if_neg e]
        rw [this] at ht; exact ht
    have b0 : (K.add s r bx asid).bx s = bx := by show setA _ _ _ _ = _; unfold setA; rw [if_pos rfl]
    have b1 : ∀ t, t ≠ s → (K.add s r bx asid).bx t = K.bx t := fun t e => by show setA _ _ _ _ = _; unfold setA; rw [if_neg e]
    refine q0 bx r h' s1.1 s1.2.1 hc hb ⟨w1.pw, wd, ?_, ?_, ?_, k.kept w.kp lo2, w.lo, ?_⟩ c0 c1 P P0 P00 k (by rw [hn]; obtain ⟨_, _, _⟩ := s1; simp only at hnt; rw [hnt])
    · intro t ht
      rcases LA t ht with rfl | ⟨e, ht⟩
      · rw [b0]
        have := w1.xm
        rw [hnt] at this
        rw [show (K.add t r bx asid).ai t = asid by show setN _ _ _ _ = _; unfold setN; rw [if_pos rfl], show (K.add t r bx asid).rt t = r by show setA _ _ _ _ = _; unfold setA; rw [if_pos rfl], setN_at]
        exact this
      · rw [b1 t e, show (K.add s r bx asid).ai t = K.ai t by show setN _ _ _ _ = _; unfold setN; rw [if_neg e], show (K.add s r bx asid).rt t = K.rt t by show setA _ _ _ _ = _; unfold setA; rw [if_neg e], show setN nt s 1 t = nt t by unfold setN; rw [if_neg e]]
        exact xk h' k t ht
    · intro t ht
      rcases LA t ht with rfl | ⟨e, ht⟩
      · rw [b0]; exact ⟨w1.x1, w1.x2, w1.x3, w1.x4⟩
      · rw [b1 t e]; exact w.nx t ht
    · intro t u ht hu hh
      rcases LA t ht with rfl | ⟨e, ht'⟩
      · rcases LA u hu with rfl | ⟨e2, hu'⟩
        · rfl
        · rw [b0, b1 u e2] at hh
          have := old u hu'
          omega
      · rcases LA u hu with rfl | ⟨e2, hu'⟩
        · rw [b0, b1 t e] at hh
          have := old t ht'
          omega
        · rw [b1 t e, b1 u e2] at hh
          exact w.ij t u ht' hu' hh
    · intro t ht
      have := w.kp.1
      rcases LA t ht with rfl | ⟨e, ht⟩
      · rw [b0]; omega
      · rw [b1 t e]; exact w.lx t ht
theorem Q128 {s : Nat} {asid : Int} {Q : Option Addr → Int → H → Prop} (w : WH K h0 h nt ws ps) (h1 : 1 ≤ K.n) (hs : K.L s = false)
    (q5 : ∀ h', cnt ps 0 K.n ≤ 0 → WH K h0 h' nt ws ps → KL h [K.bf, K.pf] h' → Q none 5 h')
    (q0 : ∀ b r h' ws' ps', 0 < cnt ps 0 K.n → h.size ≤ b → WH (K.add s r b asid) h0 h' (setN nt s 1) ws' ps' → cnt ps' 0 K.n = cnt ps 0 K.n - 1 → cnt ps' 1 K.n = cnt ps 1 K.n + 1 → PgSame K ws ws' → (∀ u, pgv K.n ws' r u = 0) →
      (∀ a b c, a < 512 → b < 512 → c < 512 → pgW K.n ws' r a b c = 0) → KL h [K.bf, K.pf] h' → Q (some ⟨b, 0, none⟩) 0 h') :
    F128 (some ⟨K.bm, 0, none⟩) (some ⟨K.bp, 0, none⟩) asid Q h :=
  Q128x w h1 hs (fun h' a b c _ => q5 h' a b c) (fun b r h' ws' ps' a1 a2 a3 a4 a5 a6 a7 a8 a9 _ => q0 b r h' ws' ps' a1 a2 a3 a4 a5 a6 a7 a8 a9)
end
/-- A memory and a pool, new. -/
theorem Q0 {n : Nat} {h0 h : H} {J : Option Addr → Option Addr → H → Prop} (k0 : Kept h0 h) (h1 : 1 ≤ n) (h2 : n ≤ 256)
    (q : ∀ (K : WK) h', K.n = n → (∀ s, K.L s = false) → WH K h0 h' (fun _ => 0) (List.replicate (n * 512) 0) (List.replicate (5 * n) 0) → J (some ⟨K.bm, 0, none⟩) (some ⟨K.bp, 0, none⟩) h') :
    F61 n (fun r1 h2 => F75 n 0 (fun r3 h4 => J r1 r3 h4) h2) h := by
  refine M61 h1 h2 fun bm bf h3 k3 hbm hbf m3 => C75 (by omega) (by omega) fun bp pf h4 k4 hbp hpf m4 => ?_
  have lt := m3.lt
  have hk3 := k3.1
  have hk0 := k0.1
  rw [show ((n : Int).toNat) = n from rfl] at m4
  have hne := m3.mem.ne
  refine q ⟨bm, bf, bp, pf, n, fun _ => false, fun _ => 0, fun _ => 0, fun _ => 0⟩ h4 rfl (fun _ => rfl) ⟨⟨m3.kept k4, m4, zGF n, by simp only; omega, by simp only; omega, by simp only; omega⟩, Wd.zero m3.ok _ (fun _ => rfl) _ _, ?_, ?_, ?_, (k0.trans k3).trans k4, ?_, ?_⟩
  · intro s hs; cases hs
  · intro s hs; cases hs
  · intro s t hs; cases hs
  · simp only; omega
  · intro s hs; cases hs

section
variable {n : Nat} {L : Nat → Bool} {rt : Nat → Nat} {nt : Nat → Int} {ro : Nat → Role} {ex : Nat → Prop} {ws ps : List Int}
theorem ix_join {a b c : Nat} (ha : a < 512) (hb : b < 512) (hc : c < 512) : ∃ u : Int, 0 ≤ u ∧ u < 134217728 ∧ ix2 u = a ∧ ix1 u = b ∧ ix0 u = c := by
  refine ⟨(a * 262144 + b * 512 + c : Nat), ?_⟩
  unfold ix2 ix1 ix0; omega
theorem pgv_in {r : Nat} {u : Int} (h : 0 ≤ u ∧ u < 134217728) : pgv n ws r u = pgW n ws r (ix2 u) (ix1 u) (ix0 u) := by unfold pgv; rw [if_pos h]
theorem hasT_iff {r a : Nat} (ha : a < 512) : hasT (pgW n ws r) a ↔ ∃ u, pgv n ws r u ≠ 0 ∧ ix2 u = a := by
  constructor
  · rintro ⟨b, c, hb, hc, h⟩
    obtain ⟨u, h0, h1, rfl, rfl, rfl⟩ := ix_join ha hb hc
    exact ⟨u, by rw [pgv_in ⟨h0, h1⟩]; exact h, rfl⟩
  · rintro ⟨u, h, rfl⟩
    rw [pgv_in (pgv_ne h)] at h
    exact ⟨_, _, (ix_lt u).2.1, (ix_lt u).2.2, h⟩
theorem hasM_iff {r a b : Nat} (ha : a < 512) (hb : b < 512) : hasM (pgW n ws r) a b ↔ ∃ u, pgv n ws r u ≠ 0 ∧ ix2 u = a ∧ ix1 u = b := by
  constructor
  · rintro ⟨c, hc, h⟩
    obtain ⟨u, h0, h1, rfl, rfl, rfl⟩ := ix_join ha hb hc
    exact ⟨u, by rw [pgv_in ⟨h0, h1⟩]; exact h, rfl, rfl⟩
  · rintro ⟨u, h, rfl, rfl⟩
    rw [pgv_in (pgv_ne h)] at h
    exact ⟨_, (ix_lt u).2.2, h⟩
theorem Wd.bare' (v : Wd n L rt nt ws ps) {s : Nat} (hs : L s = true) (h : ∀ u, pgv n ws (rt s) u = 0) : nt s = 1 := by
  refine v.bare hs fun a b c ha hb hc => ?_
  obtain ⟨u, h0, h1, rfl, rfl, rfl⟩ := ix_join ha hb hc
  rw [← pgv_in ⟨h0, h1⟩]; exact h u
end
theorem need2 {K : WK} {ws : List Int} {s : Nat} {vpn nd : Int} (h : ∀ u, pgv K.n ws (K.rt s) u = 0) (hn : Need K ws s vpn nd) : nd = 2 := by
  obtain ⟨l2, l1, l0⟩ := ix_lt vpn
  rcases hn with ⟨_, h⟩ | ⟨h1, _⟩ | ⟨h1, _⟩
  · exact h
  · obtain ⟨u, hu, _⟩ := (hasT_iff l2).1 h1; exact absurd (h u) hu
  · obtain ⟨u, hu, _⟩ := (hasM_iff l2 l1).1 h1; exact absurd (h u) hu
theorem need0 {K : WK} {ws : List Int} {s : Nat} {vpn nd : Int} {u : Int} (h : pgv K.n ws (K.rt s) u ≠ 0) (e2 : ix2 u = ix2 vpn) (e1 : ix1 u = ix1 vpn) (hn : Need K ws s vpn nd) : nd = 0 := by
  obtain ⟨l2, l1, l0⟩ := ix_lt vpn
  have hm := (hasM_iff l2 l1).2 ⟨u, h, e2, e1⟩
  rcases hn with ⟨h1, h⟩ | ⟨_, h1, _⟩ | ⟨_, h1⟩
  · exact absurd (hasM_T l1 hm) h1
  · exact absurd hm h1
  · exact h1
theorem Q25 {h : H} {x y : Int} {C : Addr → H → Prop} (q : ∀ a h', Kept h h' → h.size ≤ a → IL h' a 25 [x, y] → C ⟨a, 0, none⟩ h') :
    Nw h (zeroC Try.prog 25) 25 fun a32 h33 => St h33 (a32.add 0) (.int .i64 x) fun h34 => St h34 (a32.add 1) (.int .i64 y) fun h35 => C a32 h35 := by
  refine Nw_intro fun a h1 ha k1 e1 => ?_
  rw [zero25] at e1
  simp only [add_mk]
  have := put25 (a := x) (b := y) e1 (K := fun h35 => C ⟨a, 0, none⟩ h35) fun h3 u3 e3 => q a h3 (u3.kept k1 (by omega)) (by omega) e3
  exact this
section
variable {K : WK} {h0 h : H} {nt : Nat → Int} {ws ps : List Int}
theorem Q98 {Q : Int → H → Prop} (w : WH K h0 h nt ws ps) (q : ∀ h', WH K h0 h' nt ws ps → Kept h h' → Q (cnt ps 0 K.n) h') : F98 (some ⟨K.bp, 0, none⟩) Q h := by
  rw [F98_eq]; exact C100 w.pw.pm fun h' k => q h' (w.kept k) k
theorem Q100 {c : Int} {Q : Int → H → Prop} (w : WH K h0 h nt ws ps) (q : ∀ h', WH K h0 h' nt ws ps → Kept h h' → Q (cnt ps c K.n) h') : F100 (some ⟨K.bp, 0, none⟩) c Q h := C100 w.pw.pm fun h' k => q h' (w.kept k) k
end
theorem WK.bx0 (K : WK) (s r b : Nat) (a : Int) : (K.add s r b a).bx s = b := by show setA K.bx s b s = b; unfold setA; rw [if_pos rfl]
theorem WK.rt0 (K : WK) (s r b : Nat) (a : Int) : (K.add s r b a).rt s = r := by show setA K.rt s r s = r; unfold setA; rw [if_pos rfl]
theorem WK.L0 (K : WK) (s r b : Nat) (a : Int) : (K.add s r b a).L s = true := by show addL K.L s s = true; unfold addL; rw [if_pos rfl]
theorem WK.bx1 (K : WK) (s r b : Nat) (a : Int) {t : Nat} (h : t ≠ s) : (K.add s r b a).bx t = K.bx t := by show setA K.bx s b t = K.bx t; unfold setA; rw [if_neg h]
theorem WK.rt1 (K : WK) (s r b : Nat) (a : Int) {t : Nat} (h : t ≠ s) : (K.add s r b a).rt t = K.rt t := by show setA K.rt s r t = K.rt t; unfold setA; rw [if_neg h]
theorem WK.L1 (K : WK) (s r b : Nat) (a : Int) {t : Nat} (h : t ≠ s) : (K.add s r b a).L t = K.L t := by show addL K.L s t = K.L t; unfold addL; rw [if_neg h]
/-- One space alone in a new memory. -/
structure One (K : WK) : Prop where
  l0 : K.L 0 = true
  l1 : ∀ s, K.L s = true ↔ s = 0
/-- A new memory, a pool and one space. -/
theorem QN {n : Nat} {h0 h : H} {J : Option Addr → Option Addr → Option Addr → Int → H → Prop} (k0 : Kept h0 h) (h1 : 1 ≤ n) (h2 : n ≤ 256) (asid : Int)
    (q : ∀ (K : WK) h' ws ps, K.n = n → One K → WH K h0 h' (setN (fun _ => 0) 0 1) ws ps → (∀ u, pgv K.n ws (K.rt 0) u = 0) → J (some ⟨K.bm, 0, none⟩) (some ⟨K.bp, 0, none⟩) (some ⟨K.bx 0, 0, none⟩) 0 h') :
    F61 n (fun r1 h2 => F75 n 0 (fun r3 h4 => F128 r1 r3 asid (fun r5 r6 h7 => J r1 r3 r5 r6 h7) h4) h2) h := by
  refine Q0 (J := fun r1 r3 h4 => F128 r1 r3 asid (fun r5 r6 h7 => J r1 r3 r5 r6 h7) h4) k0 h1 h2 fun K h3 hn hL w => ?_
  have hc := w.wd.none' hL
  refine Q128 (s := 0) w (by omega) (hL 0) (fun h' hh _ _ => by rw [hn] at hc hh; omega) fun b r h' ws' ps' hc' hb w' c0 c1 P P0 P00 k => ?_
  have e0 : (K.add 0 r b asid).bx 0 = b := K.bx0 0 r b asid
  have e1 : (K.add 0 r b asid).rt 0 = r := K.rt0 0 r b asid
  have := q (K.add 0 r b asid) h' ws' ps' hn ⟨K.L0 0 r b asid, fun s => by
    by_cases e : s = 0
    · subst e; rw [K.L0 0 r b asid]; simp
    · rw [K.L1 0 r b asid e, hL]; simp [e]⟩ w' (fun u => by rw [e1]; exact P0 u)
  rw [e0] at this
  exact this
theorem okE {n : Nat} {vpn frame prot : Int} (h1 : 0 ≤ vpn ∧ vpn < 67108864) (h2 : 1 ≤ prot ∧ prot ≤ 7) (h3 : 0 ≤ frame ∧ frame < n) : ¬ badE n vpn frame prot := by unfold badE; omega
theorem C129 {Q : Bool → H → Prop} {h : H} (q : ∀ h', Kept h h' → Q true h') : F129 Q h := by
  rw [F129_eq]
  unfold B129
  simp only [JoinM]
  refine QN (n := 12) (h0 := h) (Kept.refl h) (by omega) (by omega) 1 fun K h1 ws ps hn one w z => ?_
  simp only [LetI, bne_self_eq_false, Br_false]
  have c1 := w.wd.one one.l1
  refine Q132 w one.l0 ?_
  rw [setN_at]
  simp only [bne_self_eq_false, Br_false]
  refine Q130 w one.l0 (fun h2 hb _ _ => absurd hb (okE (by omega) (by omega) (by omega))) (fun h2 nd ws2 ps2 _ hnd hN hc w2 p2 _ _ => ?_) (fun h2 nd ws2 ps2 _ hnd hN hc _ _ _ _ => by rw [hn, setN_at] at c1; rw [hn] at hc; omega)
  have e2 := need2 z hN
  subst e2
  simp only [bne_self_eq_false, Br_false]
  refine Q132 w2 one.l0 ?_
  rw [setN_at, setN_at, show (1 : Int) + 2 = 3 by decide] at *
  simp only [bne_self_eq_false, Br_false]
  have c2 := w2.wd.one one.l1
  rw [hn, setN_at] at c2
  refine Q130 w2 one.l0 (fun h3 hb _ _ => absurd hb (okE (by omega) (by omega) (by omega))) (fun h3 nd ws3 ps3 _ hnd hN3 hc3 w3 p3 _ _ => ?_) (fun h3 nd ws3 ps3 _ hnd hN3 hc3 _ _ _ _ => by rw [hn] at hc3; omega)
  have p5 : pgv K.n ws2 (K.rt 0) 5 ≠ 0 := by rw [p2 0 5 one.l0, if_pos ⟨rfl, rfl⟩]; exact leafV_ne (by omega) _
  have e3 := need0 p5 (by decide) (by decide) hN3
  subst e3
  simp only [bne_self_eq_false, Br_false]
  refine Q132 w3 one.l0 ?_
  rw [setN_at, setN_at]
  simp only [show ((3 : Int) + 0 != 3) = false by decide, Br_false]
  refine Q134 w3 one.l0 fun h4 nt4 ws4 ps4 w4 p4 _ => ?_
  have g5 : pgv K.n ws3 (K.rt 0) 5 ≠ 0 := by rw [p3 0 5 one.l0, if_neg (by decide)]; exact p5
  rw [decide_eq_true g5]
  simp only [Br_true]
  refine Q134 w4 one.l0 fun h5 nt5 ws5 ps5 w5 p5' _ => ?_
  have g6 : pgv K.n ws4 (K.rt 0) 6 ≠ 0 := by rw [p4 0 6 one.l0, if_neg (by decide), p3 0 6 one.l0, if_pos ⟨rfl, rfl⟩]; exact leafV_ne (by omega) _
  rw [decide_eq_true g6]
  simp only [Br_true]
  refine Q132 w5 one.l0 ?_
  rw [w5.wd.bare' one.l0 fun u => ?_]
  · exact q h5 w5.kp
  · rw [p5' 0 u one.l0]
    by_cases e6 : u = 6
    · rw [if_pos ⟨rfl, e6⟩]
    · rw [if_neg (fun x => e6 x.2), p4 0 u one.l0]
      by_cases e5 : u = 5
      · rw [if_pos ⟨rfl, e5⟩]
      · rw [if_neg (fun x => e5 x.2), p3 0 u one.l0, if_neg (fun x => e6 x.2), p2 0 u one.l0, if_neg (fun x => e5 x.2)]; exact z u
theorem L33 {p0 p1 p2 p3 : Int} {Q : Bool → H → Prop} {h : H} (hp0 : 0 ≤ p0 ∧ p0 < 18446744073709551616) (hp2 : 0 ≤ p2 ∧ p2 < 18446744073709551616) (hp3 : 0 ≤ p3 ∧ p3 < 18446744073709551616)
    (q : ∀ h', Kept h h' → Q true h') : F33 p0 p1 p2 p3 Q h := by
  have liv : ∀ h', Kept h h' → F129 (fun r6 h7 => Q r6 h7) h' := fun h' k => C129 fun h9 k9 => q h9 (k.trans k9)
  rw [F33_eq]
  unfold B33
  simp only [JoinM]
  refine Nw_intro fun a1 h1 ha1 k1 e1 => ⟨by omega, ?_⟩
  simp only [add_mk]
  refine ⟨by omega, Ld_i (x := p2) (by rw [hcell_blk e1]; rfl) ⟨by omega, Ld_i (x := p3) (by rw [hcell_blk e1]; rfl) ?_⟩⟩
  obtain ⟨k, hk⟩ : ∃ k : Nat, p0 % 3 + 1 = (k : Int) := ⟨(p0 % 3 + 1).toNat, by omega⟩
  have e5 : IntKind.wrap .i64 (1 + IntKind.wrap .i64 (Int.tmod p0 3)) = (k : Int) := by rw [Int.tmod_eq_emod_of_nonneg hp0.1, wrap_i64' (p0 % 3) (by omega) (by omega), wrap_i64'] <;> omega
  rw [e5]
  simp only [LetI]
  refine QN (n := k) (h0 := h) k1 (by omega) (by omega) 1 fun K h2 ws ps hn one w z => ?_
  simp only [bne_self_eq_false, Br_false, beq_self_eq_true, Br_true]
  refine Br_dec (fun _ => liv h2 w.kp) fun hv0 => Br_dec (fun _ => liv h2 w.kp) fun hv1 => ?_
  have eu : IntKind.wrap .u64 (k : Int) = (k : Int) := by rw [wrap_u64]; omega
  rw [eu]
  have ef : IntKind.wrap .i64 (Int.tmod p2 (k : Int)) = p2 % k := by
    have h1 : 0 ≤ p2 % (k : Int) := Int.emod_nonneg _ (by omega)
    have h2 : p2 % (k : Int) < k := Int.emod_lt_of_pos _ (by omega)
    rw [Int.tmod_eq_emod_of_nonneg hp2.1, wrap_i64'] <;> omega
  have ep : IntKind.wrap .i64 (1 + IntKind.wrap .i64 (Int.tmod p3 7)) = p3 % 7 + 1 := by rw [Int.tmod_eq_emod_of_nonneg hp3.1, wrap_i64' (p3 % 7) (by omega) (by omega), wrap_i64'] <;> omega
  rw [ef, ep]
  have c1 := w.wd.one one.l1
  rw [hn, setN_at] at c1
  have hf1 : 0 ≤ p2 % (k : Int) := Int.emod_nonneg _ (by omega)
  have hf2 : p2 % (k : Int) < k := Int.emod_lt_of_pos _ (by omega)
  refine ⟨by omega, by omega, Q130 w one.l0 (fun h3 hb _ _ => absurd hb (okE (by omega) (by omega) (by rw [hn]; omega))) (fun h3 nd ws3 ps3 _ hnd hN hc w3 pg3 _ _ => ?_) fun h3 nd ws3 ps3 _ hnd hN hc w3 c0 pg3 _ => ?_⟩
  · obtain rfl := need2 z hN
    rw [hn] at hc
    obtain rfl : k = 3 := by omega
    refine Q131 w3 one.l0 fun h4 w4 k4 => Q25 fun a h5 k5 ha e5 => ?_
    have w5 := w4.kept k5
    have p5 : pgv K.n ws3 (K.rt 0) p1 ≠ 0 := by rw [pg3 0 p1 one.l0, if_pos ⟨rfl, rfl⟩]; exact leafV_ne (by omega) _
    rw [decide_eq_true p5]
    simp only [show (((3 : Nat) : Int) == 3) = true by decide, beq_self_eq_true, Br_true]
    refine Q132 w5 one.l0 ?_
    rw [setN_at, setN_at]
    simp only [show ((1 : Int) + 2 == 3) = true by decide, Br_true]
    have c5 := w5.wd.one one.l1
    rw [hn, setN_at, setN_at] at c5
    refine Q98 w5 fun h6 w6 k6 => ?_
    rw [hn, c5.2]
    simp only [show (((3 : Nat) : Int) - (1 + 2) == 0) = true by decide, Br_true]
    exact liv h6 w6.kp
  · obtain rfl := need2 z hN
    rw [hn] at hc
    have hk3 : ((k : Int) == 3) = false := by
      rw [beq_eq_false_iff_ne]; omega
    refine Q131 w3 one.l0 fun h4 w4 k4 => Q25 fun a h5 k5 ha e5 => ?_
    have w5 := w4.kept k5
    have p5 : pgv K.n ws3 (K.rt 0) p1 = 0 := by rw [pg3 0 p1 one.l0]; exact z p1
    rw [hk3, decide_eq_false (fun x => x p5)]
    simp only [Br_false, beq_self_eq_true, Br_true, Bool.not_false]
    refine Q132 w5 one.l0 ?_
    rw [setN_at]
    simp only [beq_self_eq_true, Br_true]
    refine Q98 w5 fun h6 w6 k6 => ?_
    rw [c0, hn, c1.2, wrap_i64' _ (by omega) (by omega)]
    simp only [beq_self_eq_true, Br_true]
    exact liv h6 w6.kp

end Go.Proofs.Ytfijchofplkcoaa
