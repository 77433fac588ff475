/-
  Tables of some spaces in one memory, in plain Lean: which frame is whose, and what attaching, detaching a table and setting a leaf leave.
  The world of some spaces in one memory: what Enter, Remove, Protect, Clear and New leave of it, page by page.
  What Remove, Protect, Clear and New leave; how many frames are tables.
-/
import Derived.Test.YtfijchofplkcoaaKe
set_option linter.unusedVariables false
set_option linter.unusedSimpArgs false
set_option maxRecDepth 100000
namespace Go.Proofs.Ytfijchofplkcoaa

/-- What a frame is: 0 free; 1 the root of a space; 2 a table in the middle; 3 a lowest one. -/
abbrev Role := Nat × Nat × Nat × Nat
structure Inv0 (n : Nat) (L : Nat → Bool) (rt : Nat → Nat) (ro : Nat → Role) (ws ps : List Int) : Prop where
  ok : OkW n ws
  gf : GF ps n
  len : ps.length = 5 * n
  fr : ∀ j, j < n → (ro j).1 = 0 → z5 ps j = true
  tb : ∀ j, j < n → (ro j).1 ≠ 0 → ps.getD (5 * j) 0 = 1 ∧ ps.getD (5 * j + 3) 0 = 0 ∧ ps.getD (5 * j + 4) 0 = 0
  out : ∀ j, n ≤ j → (ro j).1 = 0
  rt1 : ∀ s, L s = true → ro (rt s) = (1, s, 0, 0)
  rt2 : ∀ j s i k, ro j = (1, s, i, k) → L s = true ∧ rt s = j ∧ i = 0 ∧ k = 0
  md1 : ∀ s i j, L s = true → i < 512 → lead n (wat ws (rt s) i) = some j → ro j = (2, s, i, 0)
  md2 : ∀ j s i k, ro j = (2, s, i, k) → L s = true ∧ i < 512 ∧ k = 0 ∧ lead n (wat ws (rt s) i) = some j
  ls1 : ∀ m s i k j, ro m = (2, s, i, 0) → k < 512 → lead n (wat ws m k) = some j → ro j = (3, s, i, k)
  ls2 : ∀ j s i k, ro j = (3, s, i, k) → k < 512 ∧ ∃ m, ro m = (2, s, i, 0) ∧ lead n (wat ws m k) = some j
  z2 : ∀ s i, L s = true → i < 512 → lead n (wat ws (rt s) i) = none → wat ws (rt s) i = 0
  z1 : ∀ m s i k, ro m = (2, s, i, 0) → k < 512 → lead n (wat ws m k) = none → wat ws m k = 0
  lf : ∀ l s i k t, ro l = (3, s, i, k) → t < 512 → wat ws l t ≠ 0 → kindM (lo8 (flg (wat ws l t))) = 2
  kd : ∀ j, (ro j).1 ≤ 3
/-- No table is bare but for some. -/
def NB (ro : Nat → Role) (ws : List Int) (ex : Nat → Prop) : Prop := ∀ m, ((ro m).1 = 2 ∨ (ro m).1 = 3) → ¬ ex m → ∃ t, t < 512 ∧ wat ws m t ≠ 0
def cntR (ro : Nat → Role) (s : Nat) : Nat → Int
  | 0 => 0
  | k + 1 => cntR ro s k + if (ro k).1 ≠ 0 ∧ (ro k).2.1 = s then 1 else 0
theorem cntR_range (ro : Nat → Role) (s k : Nat) : 0 ≤ cntR ro s k ∧ cntR ro s k ≤ k := by
  induction k with
  | zero => simp [cntR]
  | succ k ih =>
    simp only [cntR]
    by_cases h : (ro k).1 ≠ 0 ∧ (ro k).2.1 = s
    · rw [if_pos h]; omega
    · rw [if_neg h]; omega
def setR (ro : Nat → Role) (r : Nat) (x : Role) : Nat → Role := fun j => if j = r then x else ro j
theorem cntR_set (ro : Nat → Role) (s r : Nat) (x : Role) : ∀ k, cntR (setR ro r x) s k = cntR ro s k + (if r < k then (if x.1 ≠ 0 ∧ x.2.1 = s then 1 else 0) - (if (ro r).1 ≠ 0 ∧ (ro r).2.1 = s then 1 else 0) else 0) := by
  intro k
  induction k with
  | zero => simp [cntR]
  | succ k ih =>
    simp only [cntR]
    rw [ih]
    unfold setR
    by_cases e : k = r
    · subst e
      rw [if_pos rfl, if_neg (show ¬ k < k from Nat.lt_irrefl k), if_pos (show k < k + 1 from Nat.lt_succ_self k)]
      generalize (if x.1 ≠ 0 ∧ x.2.1 = s then (1 : Int) else 0) = A
      generalize (if (ro k).1 ≠ 0 ∧ (ro k).2.1 = s then (1 : Int) else 0) = B
      omega
    · rw [if_neg e]
      generalize (if x.1 ≠ 0 ∧ x.2.1 = s then (1 : Int) else 0) = A
      generalize (if (ro k).1 ≠ 0 ∧ (ro k).2.1 = s then (1 : Int) else 0) = B
      by_cases h : r < k
      · rw [if_pos h, if_pos (show r < k + 1 by omega)]; omega
      · rw [if_neg h, if_neg (show ¬ r < k + 1 by omega)]; omega
/-- The entry of a page, or 0. -/
def pgW (n : Nat) (ws : List Int) (r a b c : Nat) : Int :=
  match lead n (wat ws r a) with
  | none => 0
  | some m => match lead n (wat ws m b) with
    | none => 0
    | some l => wat ws l c
theorem lead0 (n : Nat) : lead n 0 = none := by
  unfold lead
  rw [if_neg]
  intro h
  exact absurd h.1 (by decide)
theorem lead_tab {n r : Nat} (hr : r < n) (hn : n ≤ 256) : lead n (encF 1 (r : Int)) = some r := by
  have e : encF 1 (r : Int) = ((r * 1024 + 1 : Nat) : Int) := by unfold encF; omega
  have f : flg (encF 1 (r : Int)) = 1 := by rw [e]; unfold flg; omega
  have p : ppn (encF 1 (r : Int)) = (r : Int) := by rw [e]; unfold ppn; omega
  unfold lead
  rw [f, p, if_pos ⟨by decide, by omega⟩]; rfl
theorem encT_ne (r : Nat) : encF 1 (r : Int) ≠ 0 := by unfold encF; omega
section
variable {n : Nat} {L : Nat → Bool} {rt : Nat → Nat} {ro : Nat → Role} {ws ps : List Int}
theorem Inv0.lt (v : Inv0 n L rt ro ws ps) {j : Nat} (h : (ro j).1 ≠ 0) : j < n := by
  by_cases e : j < n
  · exact e
  · exact absurd (v.out j (by omega)) h
theorem Inv0.rlt (v : Inv0 n L rt ro ws ps) {s : Nat} (h : L s = true) : rt s < n := v.lt (by rw [v.rt1 s h]; simp)
/-- A page of a space as its lookup tells. -/
theorem Inv0.find (v : Inv0 n L rt ro ws ps) {s : Nat} (hs : L s = true) {vpn : Int} (hv : 0 ≤ vpn ∧ vpn < 134217728) :
    findS n ws (rt s) vpn = if pgW n ws (rt s) (ix2 vpn) (ix1 vpn) (ix0 vpn) = 0 then none else some (pgW n ws (rt s) (ix2 vpn) (ix1 vpn) (ix0 vpn)) := by
  obtain ⟨l2, l1, l0⟩ := ix_lt vpn
  have hr := v.rlt hs
  have pl : placeS n ws (rt s) vpn = (lead n (wat ws (rt s) (ix2 vpn))).bind fun m => (lead n (wat ws m (ix1 vpn))).map fun l => (l, ix0 vpn) := by
    unfold placeS; rw [if_pos (by omega)]; rfl
  unfold findS entS pgW
  rw [pl]
  cases hm : lead n (wat ws (rt s) (ix2 vpn)) with
  | none => simp
  | some m =>
    have rm := v.md1 _ _ _ hs l2 hm
    simp only [Option.bind_some]
    cases hl : lead n (wat ws m (ix1 vpn)) with
    | none => simp
    | some l =>
      have rl := v.ls1 _ _ _ _ _ rm l1 hl
      simp only [Option.map_some, Option.bind_some]
      by_cases hz : wat ws l (ix0 vpn) = 0
      · rw [if_pos hz, if_neg]
        rw [hz]; decide
      · rw [if_neg hz, if_pos (v.lf l _ _ _ _ rl l0 hz)]
/-- A table attached. -/
theorem Inv0.attach (v : Inv0 n L rt ro ws ps) {r p i s : Nat} {new : Role} {asid lv : Int} (hs : L s = true) (hr : r < n) (hfr : (ro r).1 = 0) (hi : i < 512) (hl : lead n (wat ws p i) = none)
    (hpar : (p = rt s ∧ new = (2, s, i, 0)) ∨ ∃ i2, ro p = (2, s, i2, 0) ∧ new = (3, s, i2, i)) :
    Inv0 n L rt (setR ro r new) ((zeroW ws r).set (p * 512 + i) (encF 1 r)) (set5 ps r 1 asid lv 0 0) ∧
    (∀ j t, t < 512 → wat ((zeroW ws r).set (p * 512 + i) (encF 1 r)) j t = if j = p ∧ t = i then encF 1 r else if j = r then 0 else wat ws j t) ∧
    (∀ s' a b c, L s' = true → a < 512 → b < 512 → c < 512 → pgW n ((zeroW ws r).set (p * 512 + i) (encF 1 r)) (rt s') a b c = pgW n ws (rt s') a b c) := by
  have hpk : (ro p).1 = 1 ∨ (ro p).1 = 2 := by
    rcases hpar with ⟨rfl, _⟩ | ⟨i2, h, _⟩
    · left; rw [v.rt1 s hs]
    · right; rw [h]
  have hp : p < n := v.lt (by omega)
  have hpr : p ≠ r := by intro e; subst e; omega
  have hn := v.ok.le
  have hnew : new.1 ≠ 0 ∧ (new.1 = 2 ∨ new.1 = 3) := by
    rcases hpar with ⟨_, rfl⟩ | ⟨i2, _, rfl⟩ <;> simp
  have o1 := v.ok.zero hr
  have er := encF_range 1 (r : Int)
  have W : ∀ j t, t < 512 → wat ((zeroW ws r).set (p * 512 + i) (encF 1 r)) j t = if j = p ∧ t = i then encF 1 r else if j = r then 0 else wat ws j t := by
    intro j t ht
    rw [wat_set o1 hp hi ht]
    by_cases e : p = j ∧ i = t
    · rw [if_pos e, if_pos ⟨e.1.symm, e.2.symm⟩]
    · rw [if_neg e, if_neg (fun x => e ⟨x.1.symm, x.2.symm⟩), wat_zero v.ok hr ht]
      by_cases e2 : r = j
      · rw [if_pos e2, if_pos e2.symm]
      · rw [if_neg e2, if_neg (fun x => e2 x.symm)]
  have hb5 : 5 * r + 5 ≤ ps.length := by rw [v.len]; omega
  have LT := lead_tab hr hn
  have rtr : ∀ s', L s' = true → rt s' ≠ r := fun s' h e => by have := v.rt1 s' h; rw [e] at this; rw [this] at hfr; simp at hfr
  have S0 : setR ro r new r = new := by unfold setR; rw [if_pos rfl]
  have S1 : ∀ j, j ≠ r → setR ro r new j = ro j := fun j h => by unfold setR; rw [if_neg h]
  refine ⟨⟨o1.set _ er, v.gf.set5 v.len hr (by omega) (fun e => by omega), by rw [set5_len]; exact v.len, ?_, ?_, ?_, ?_, ?_, ?_, ?_, ?_, ?_, ?_, ?_, ?_, ?_⟩, W, ?_⟩
  · intro j hj h0
    by_cases e : j = r
    · subst e; rw [S0] at h0; exact absurd h0 hnew.1
    · rw [S1 j e] at h0
      rw [set5_z5 _ _ _ _ _ _ _ _ hb5, if_neg e]; exact v.fr j hj h0
  · intro j hj h0
    have g0 : ∀ t, t < 5 → (set5 ps r 1 asid lv 0 0).getD (5 * j + t) 0 = if j = r then [1, asid, lv, 0, 0].getD t 0 else ps.getD (5 * j + t) 0 := fun t ht => set5_get ps r j t 1 asid lv 0 0 hb5 ht
    have g00 := g0 0 (by omega)
    rw [Nat.add_zero] at g00
    rw [g00, g0 3 (by omega), g0 4 (by omega)]
    by_cases e : j = r
    · rw [if_pos e, if_pos e, if_pos e]; simp
    · rw [S1 j e] at h0
      rw [if_neg e, if_neg e, if_neg e]; exact v.tb j hj h0
  · intro j hj
    rw [S1 j (by omega)]; exact v.out j hj
  · intro s' h
    rw [S1 _ (rtr s' h)]; exact v.rt1 s' h
  · intro j s' i' k h
    by_cases e : j = r
    · subst e; rw [S0] at h; rw [h] at hnew; simp at hnew
    · rw [S1 j e] at h; exact v.rt2 j s' i' k h
  · intro s' i' j h hi' hl'
    rw [W _ _ hi'] at hl'
    by_cases e : rt s' = p ∧ i' = i
    · rw [if_pos e, LT] at hl'
      simp only [Option.some.injEq] at hl'
      subst hl'
      rw [S0]
      have h1 := v.rt1 s' h
      rcases hpar with ⟨hp', rfl⟩ | ⟨i2, h2, _⟩
      · rw [e.1, hp', v.rt1 s hs] at h1
        simp only [Prod.mk.injEq, and_true, true_and] at h1
        rw [h1, e.2]
      · rw [e.1, h2] at h1; simp at h1
    · rw [if_neg e, if_neg (rtr s' h)] at hl'
      have := v.md1 s' i' j h hi' hl'
      rw [S1 j (fun e => by subst e; rw [this] at hfr; simp at hfr)]; exact this
  · intro j s' i' k h
    by_cases e : j = r
    · subst e
      rw [S0] at h
      rcases hpar with ⟨hp', rfl⟩ | ⟨i2, h2, rfl⟩
      · simp only [Prod.mk.injEq, true_and] at h
        obtain ⟨rfl, rfl, rfl⟩ := h
        exact ⟨hs, hi, rfl, by rw [W _ _ hi, if_pos ⟨hp'.symm, rfl⟩, LT]⟩
      · simp at h
    · rw [S1 j e] at h
      obtain ⟨h1, h2, h3, h4⟩ := v.md2 j s' i' k h
      refine ⟨h1, h2, h3, ?_⟩
      rw [W _ _ h2, if_neg (fun x => by rw [x.1, x.2, hl] at h4; cases h4), if_neg (rtr s' h1)]; exact h4
  · intro m s' i' k j h hk hl'
    by_cases e : m = r
    · subst e
      rw [W _ _ hk, if_neg (fun x => hpr x.1.symm), if_pos rfl, lead0] at hl'
      cases hl'
    · rw [S1 m e] at h
      rw [W _ _ hk] at hl'
      by_cases e2 : m = p ∧ k = i
      · rw [if_pos e2, LT] at hl'
        simp only [Option.some.injEq] at hl'
        subst hl'
        rw [S0]
        rcases hpar with ⟨hp', rfl⟩ | ⟨i2, h2, rfl⟩
        · rw [e2.1, hp', v.rt1 s hs] at h; simp at h
        · rw [e2.1, h2] at h
          simp only [Prod.mk.injEq, true_and, and_true] at h
          rw [h.1, h.2, e2.2]
      · rw [if_neg e2, if_neg e] at hl'
        have := v.ls1 m s' i' k j h hk hl'
        rw [S1 j (fun e => by subst e; rw [this] at hfr; simp at hfr)]; exact this
  · intro j s' i' k h
    by_cases e : j = r
    · subst e
      rw [S0] at h
      rcases hpar with ⟨hp', rfl⟩ | ⟨i2, h2, rfl⟩
      · simp at h
      · simp only [Prod.mk.injEq, true_and] at h
        obtain ⟨rfl, rfl, rfl⟩ := h
        exact ⟨hi, p, by rw [S1 p hpr]; exact h2, by rw [W _ _ hi, if_pos ⟨rfl, rfl⟩, LT]⟩
    · rw [S1 j e] at h
      obtain ⟨h1, m, h2, h3⟩ := v.ls2 j s' i' k h
      have hmr : m ≠ r := fun e => by subst e; rw [h2] at hfr; simp at hfr
      refine ⟨h1, m, by rw [S1 m hmr]; exact h2, ?_⟩
      rw [W _ _ h1, if_neg (fun x => by rw [x.1, x.2, hl] at h3; cases h3), if_neg hmr]; exact h3
  · intro s' i' h hi' hl'
    rw [W _ _ hi'] at hl' ⊢
    by_cases e : rt s' = p ∧ i' = i
    · rw [if_pos e, LT] at hl'; cases hl'
    · rw [if_neg e, if_neg (rtr s' h)] at hl' ⊢
      exact v.z2 s' i' h hi' hl'
  · intro m s' i' k h hk hl'
    rw [W _ _ hk] at hl' ⊢
    by_cases e2 : m = p ∧ k = i
    · rw [if_pos e2, LT] at hl'; cases hl'
    · rw [if_neg e2] at hl' ⊢
      by_cases e : m = r
      · rw [if_pos e]
      · rw [if_neg e] at hl' ⊢
        rw [S1 m e] at h
        exact v.z1 m s' i' k h hk hl'
  · intro l s' i' k t h ht hne
    rw [W _ _ ht] at hne ⊢
    by_cases e2 : l = p ∧ t = i
    · have hlr : l ≠ r := fun x => hpr (e2.1.symm.trans x)
      rw [S1 l hlr, e2.1] at h
      rw [h] at hpk; simp at hpk
    · rw [if_neg e2] at hne ⊢
      by_cases e : l = r
      · rw [if_pos e] at hne; exact absurd rfl hne
      · rw [if_neg e] at hne ⊢
        rw [S1 l e] at h
        exact v.lf l s' i' k t h ht hne
  · intro j
    by_cases e : j = r
    · subst e; rw [S0]; rcases hnew.2 with h | h <;> omega
    · rw [S1 j e]; exact v.kd j
  · intro s' a b c h ha hb hc
    unfold pgW
    rw [W _ _ ha]
    by_cases e : rt s' = p ∧ a = i
    · rw [if_pos e, LT]
      rw [e.1, e.2, hl]
      simp only
      rw [W _ _ hb, if_neg (fun x => hpr x.1.symm), if_pos rfl, lead0]
    · rw [if_neg e, if_neg (rtr s' h)]
      cases hm : lead n (wat ws (rt s') a) with
      | none => rfl
      | some m =>
        have rm := v.md1 _ _ _ h ha hm
        have hmr : m ≠ r := fun e => by subst e; rw [rm] at hfr; simp at hfr
        simp only
        rw [W _ _ hb]
        by_cases e2 : m = p ∧ b = i
        · rw [if_pos e2, LT]
          rw [e2.1, e2.2, hl]
          simp only
          rw [W _ _ hc, if_neg (fun x => hpr x.1.symm), if_pos rfl]
        · rw [if_neg e2, if_neg hmr]
          cases hl2 : lead n (wat ws m b) with
          | none => rfl
          | some l =>
            have rl := v.ls1 _ _ _ _ _ rm hb hl2
            have hlr : l ≠ r := fun e => by subst e; rw [rl] at hfr; simp at hfr
            simp only
            rw [W _ _ hc, if_neg (fun x => by rw [x.1] at rl; rw [rl] at hpk; simp at hpk), if_neg hlr]
/-- A table detached. -/
theorem Inv0.detach (v : Inv0 n L rt ro ws ps) {r p i s : Nat} (hs : L s = true) (hi : i < 512) (hl : lead n (wat ws p i) = some r)
    (hpar : (p = rt s ∧ ∀ t, t < 512 → wat ws r t = 0) ∨ ((∃ i2, ro p = (2, s, i2, 0)) ∧ ∀ t, t < 512 → wat ws r t = 0) ) :
    Inv0 n L rt (setR ro r (0, 0, 0, 0)) (ws.set (p * 512 + i) 0) (set5 ps r 0 0 0 0 0) ∧ (ro r).1 ≠ 0 ∧ (ro r).2.1 = s ∧ r < n ∧ p ≠ r ∧
    (∀ j t, t < 512 → wat (ws.set (p * 512 + i) 0) j t = if j = p ∧ t = i then 0 else wat ws j t) ∧
    (∀ s' a b c, L s' = true → a < 512 → b < 512 → c < 512 → pgW n (ws.set (p * 512 + i) 0) (rt s') a b c = pgW n ws (rt s') a b c) := by
  have hbare : ∀ t, t < 512 → wat ws r t = 0 := by rcases hpar with h | h <;> exact h.2
  have hpk : (ro p).1 = 1 ∨ (ro p).1 = 2 := by
    rcases hpar with ⟨rfl, _⟩ | ⟨⟨i2, h⟩, _⟩
    · left; rw [v.rt1 s hs]
    · right; rw [h]
  have hrr : ((p = rt s ∧ ro r = (2, s, i, 0)) ∨ ∃ i2, ro p = (2, s, i2, 0) ∧ ro r = (3, s, i2, i)) := by
    rcases hpar with ⟨rfl, _⟩ | ⟨⟨i2, h⟩, _⟩
    · exact .inl ⟨rfl, v.md1 s i r hs hi hl⟩
    · exact .inr ⟨i2, h, v.ls1 p s i2 i r h hi hl⟩
  have hrk : ((ro r).1 = 2 ∨ (ro r).1 = 3) ∧ (ro r).2.1 = s := by
    rcases hrr with ⟨_, h⟩ | ⟨i2, _, h⟩ <;> rw [h] <;> simp
  have hp : p < n := v.lt (by omega)
  have hr : r < n := v.lt (by omega)
  have hpr : p ≠ r := by
    intro e
    rcases hrr with ⟨h1, h2⟩ | ⟨i2, h1, h2⟩
    · rw [← e, h1, v.rt1 s hs] at h2; simp at h2
    · rw [← e, h1] at h2; simp at h2
  have W : ∀ j t, t < 512 → wat (ws.set (p * 512 + i) 0) j t = if j = p ∧ t = i then 0 else wat ws j t := by
    intro j t ht
    rw [wat_set v.ok hp hi ht]
    by_cases e : p = j ∧ i = t
    · rw [if_pos e, if_pos ⟨e.1.symm, e.2.symm⟩]
    · rw [if_neg e, if_neg (fun x => e ⟨x.1.symm, x.2.symm⟩)]
  have hb5 : 5 * r + 5 ≤ ps.length := by rw [v.len]; omega
  have rtr : ∀ s', L s' = true → rt s' ≠ r := fun s' h e => by have := v.rt1 s' h; rw [e] at this; rw [this] at hrk; simp at hrk
  have S0 : setR ro r (0, 0, 0, 0) r = (0, 0, 0, 0) := by unfold setR; rw [if_pos rfl]
  have S1 : ∀ j, j ≠ r → setR ro r (0, 0, 0, 0) j = ro j := fun j h => by unfold setR; rw [if_neg h]
  refine ⟨⟨v.ok.set _ (by omega), v.gf.set5 v.len hr (by omega) (fun _ => ⟨rfl, rfl⟩), by rw [set5_len]; exact v.len, ?_, ?_, ?_, ?_, ?_, ?_, ?_, ?_, ?_, ?_, ?_, ?_, ?_⟩, by omega, hrk.2, hr, hpr, W, ?_⟩
  · intro j hj h0
    rw [set5_z5 _ _ _ _ _ _ _ _ hb5]
    by_cases e : j = r
    · rw [if_pos e]; rfl
    · rw [S1 j e] at h0
      rw [if_neg e]; exact v.fr j hj h0
  · intro j hj h0
    by_cases e : j = r
    · subst e; rw [S0] at h0; exact absurd rfl h0
    · rw [S1 j e] at h0
      have g0 : ∀ t, t < 5 → (set5 ps r 0 0 0 0 0).getD (5 * j + t) 0 = ps.getD (5 * j + t) 0 := fun t ht => by rw [set5_get ps r j t 0 0 0 0 0 hb5 ht, if_neg e]
      have g00 := g0 0 (by omega)
      rw [Nat.add_zero] at g00
      rw [g00, g0 3 (by omega), g0 4 (by omega)]; exact v.tb j hj h0
  · intro j hj
    rw [S1 j (by omega)]; exact v.out j hj
  · intro s' h
    rw [S1 _ (rtr s' h)]; exact v.rt1 s' h
  · intro j s' i' k h
    by_cases e : j = r
    · subst e; rw [S0] at h; simp at h
    · rw [S1 j e] at h; exact v.rt2 j s' i' k h
  · intro s' i' j h hi' hl'
    rw [W _ _ hi'] at hl'
    by_cases e : rt s' = p ∧ i' = i
    · rw [if_pos e, lead0] at hl'; cases hl'
    · rw [if_neg e] at hl'
      have h3 := v.md1 s' i' j h hi' hl'
      have hjr : j ≠ r := by
        intro ej
        subst ej
        rcases hrr with ⟨h1, h2⟩ | ⟨i2, h1, h2⟩
        · rw [h2] at h3
          simp only [Prod.mk.injEq, true_and, and_true] at h3
          exact e ⟨by rw [← h3.1, h1], h3.2.symm⟩
        · rw [h2] at h3; simp at h3
      rw [S1 j hjr]; exact h3
  · intro j s' i' k h
    by_cases e : j = r
    · subst e; rw [S0] at h; simp at h
    · rw [S1 j e] at h
      obtain ⟨h1, h2, h3, h4⟩ := v.md2 j s' i' k h
      refine ⟨h1, h2, h3, ?_⟩
      rw [W _ _ h2, if_neg (fun x => by rw [x.1, x.2, hl] at h4; simp only [Option.some.injEq] at h4; exact e h4.symm)]; exact h4
  · intro m s' i' k j h hk hl'
    by_cases e : m = r
    · subst e; rw [S0] at h; simp at h
    · rw [S1 m e] at h
      rw [W _ _ hk] at hl'
      by_cases e2 : m = p ∧ k = i
      · rw [if_pos e2, lead0] at hl'; cases hl'
      · rw [if_neg e2] at hl'
        have h3 := v.ls1 m s' i' k j h hk hl'
        have hjr : j ≠ r := by
          intro ej
          subst ej
          rcases hrr with ⟨h1, h2⟩ | ⟨i2, h1, h2⟩
          · rw [h2] at h3; simp at h3
          · rw [h2] at h3
            simp only [Prod.mk.injEq, true_and] at h3
            obtain ⟨rfl, rfl, rfl⟩ := h3
            -- the same table in the middle
            obtain ⟨_, _, _, q1⟩ := v.md2 p _ _ _ h1
            obtain ⟨_, _, _, q2⟩ := v.md2 m _ _ _ h
            rw [q1] at q2
            simp only [Option.some.injEq] at q2
            exact e2 ⟨q2.symm, rfl⟩
        rw [S1 j hjr]; exact h3
  · intro j s' i' k h
    by_cases e : j = r
    · subst e; rw [S0] at h; simp at h
    · rw [S1 j e] at h
      obtain ⟨h1, m, h2, h3⟩ := v.ls2 j s' i' k h
      have hmr : m ≠ r := by
        intro em
        subst em
        have := hbare k h1
        rw [this, lead0] at h3; cases h3
      refine ⟨h1, m, by rw [S1 m hmr]; exact h2, ?_⟩
      rw [W _ _ h1, if_neg (fun x => by rw [x.1, x.2, hl] at h3; simp only [Option.some.injEq] at h3; exact e h3.symm)]; exact h3
  · intro s' i' h hi' hl'
    rw [W _ _ hi'] at hl' ⊢
    by_cases e : rt s' = p ∧ i' = i
    · rw [if_pos e]
    · rw [if_neg e] at hl' ⊢
      exact v.z2 s' i' h hi' hl'
  · intro m s' i' k h hk hl'
    rw [W _ _ hk] at hl' ⊢
    by_cases e2 : m = p ∧ k = i
    · rw [if_pos e2]
    · rw [if_neg e2] at hl' ⊢
      by_cases e : m = r
      · subst e; rw [S0] at h; simp at h
      · rw [S1 m e] at h
        exact v.z1 m s' i' k h hk hl'
  · intro l s' i' k t h ht hne
    by_cases e : l = r
    · subst e; rw [S0] at h; simp at h
    · rw [S1 l e] at h
      rw [W _ _ ht] at hne ⊢
      by_cases e2 : l = p ∧ t = i
      · rw [if_pos e2] at hne; exact absurd rfl hne
      · rw [if_neg e2] at hne ⊢
        exact v.lf l s' i' k t h ht hne
  · intro j
    by_cases e : j = r
    · subst e; rw [S0]; simp
    · rw [S1 j e]; exact v.kd j
  · intro s' a b c h ha hb hc
    unfold pgW
    rw [W _ _ ha]
    by_cases e : rt s' = p ∧ a = i
    · rw [if_pos e, lead0, e.1, e.2, hl]
      simp only
      rw [hbare b hb, lead0]
    · rw [if_neg e]
      cases hm : lead n (wat ws (rt s') a) with
      | none => rfl
      | some m =>
        have rm := v.md1 _ _ _ h ha hm
        simp only
        rw [W _ _ hb]
        by_cases e2 : m = p ∧ b = i
        · rw [if_pos e2, lead0, e2.1, e2.2, hl]
          simp only
          rw [hbare c hc]
        · rw [if_neg e2]
          cases hl2 : lead n (wat ws m b) with
          | none => rfl
          | some l =>
            have rl := v.ls1 _ _ _ _ _ rm hb hl2
            simp only
            rw [W _ _ hc, if_neg (fun x => by rw [x.1] at rl; rw [rl] at hpk; simp at hpk)]
/-- A leaf set. -/
theorem Inv0.leaf (v : Inv0 n L rt ro ws ps) {l s i k t : Nat} {x : Int} (hl : ro l = (3, s, i, k)) (ht : t < 512) (hx : 0 ≤ x ∧ x < 18446744073709551616) (hk : x ≠ 0 → kindM (lo8 (flg x)) = 2) :
    Inv0 n L rt ro (ws.set (l * 512 + t) x) ps ∧ (∀ j u, u < 512 → wat (ws.set (l * 512 + t) x) j u = if j = l ∧ u = t then x else wat ws j u) ∧
    (∀ s' a b c, L s' = true → a < 512 → b < 512 → c < 512 → pgW n (ws.set (l * 512 + t) x) (rt s') a b c = if s' = s ∧ a = i ∧ b = k ∧ c = t then x else pgW n ws (rt s') a b c) := by
  have hln : l < n := v.lt (by rw [hl]; simp)
  have W : ∀ j u, u < 512 → wat (ws.set (l * 512 + t) x) j u = if j = l ∧ u = t then x else wat ws j u := by
    intro j u hu
    rw [wat_set v.ok hln ht hu]
    by_cases e : l = j ∧ t = u
    · rw [if_pos e, if_pos ⟨e.1.symm, e.2.symm⟩]
    · rw [if_neg e, if_neg (fun x => e ⟨x.1.symm, x.2.symm⟩)]
  have nl : ∀ j u, u < 512 → (ro j).1 ≠ 3 → wat (ws.set (l * 512 + t) x) j u = wat ws j u := by
    intro j u hu h
    rw [W j u hu, if_neg (fun e => h (by rw [e.1, hl]))]
  refine ⟨⟨v.ok.set _ hx, v.gf, v.len, v.fr, v.tb, v.out, v.rt1, v.rt2, ?_, ?_, ?_, ?_, ?_, ?_, ?_, v.kd⟩, W, ?_⟩
  · intro s' i' j h hi' hl'
    rw [nl _ _ hi' (by rw [v.rt1 s' h]; simp)] at hl'
    exact v.md1 s' i' j h hi' hl'
  · intro j s' i' k' h
    obtain ⟨h1, h2, h3, h4⟩ := v.md2 j s' i' k' h
    exact ⟨h1, h2, h3, by rw [nl _ _ h2 (by rw [v.rt1 s' h1]; simp)]; exact h4⟩
  · intro m s' i' k' j h hk' hl'
    rw [nl _ _ hk' (by rw [h]; simp)] at hl'
    exact v.ls1 m s' i' k' j h hk' hl'
  · intro j s' i' k' h
    obtain ⟨h1, m, h2, h3⟩ := v.ls2 j s' i' k' h
    exact ⟨h1, m, h2, by rw [nl _ _ h1 (by rw [h2]; simp)]; exact h3⟩
  · intro s' i' h hi' hl'
    rw [nl _ _ hi' (by rw [v.rt1 s' h]; simp)] at hl' ⊢
    exact v.z2 s' i' h hi' hl'
  · intro m s' i' k' h hk' hl'
    rw [nl _ _ hk' (by rw [h]; simp)] at hl' ⊢
    exact v.z1 m s' i' k' h hk' hl'
  · intro l' s' i' k' u h hu hne
    rw [W _ _ hu] at hne ⊢
    by_cases e : l' = l ∧ u = t
    · rw [if_pos e] at hne ⊢; exact hk hne
    · rw [if_neg e] at hne ⊢; exact v.lf l' s' i' k' u h hu hne
  · intro s' a b c h ha hb hc
    unfold pgW
    rw [nl _ _ ha (by rw [v.rt1 s' h]; simp)]
    obtain ⟨hk1, m0, hm0, hl0⟩ := v.ls2 l s i k hl
    obtain ⟨hs0, hi0, _, hm1⟩ := v.md2 m0 s i 0 hm0
    cases hm : lead n (wat ws (rt s') a) with
    | none =>
      simp only
      rw [if_neg]
      rintro ⟨rfl, rfl, _⟩
      rw [hm] at hm1; cases hm1
    | some m =>
      have rm := v.md1 _ _ _ h ha hm
      simp only
      rw [nl _ _ hb (by rw [rm]; simp)]
      cases hl2 : lead n (wat ws m b) with
      | none =>
        simp only
        rw [if_neg]
        rintro ⟨rfl, rfl, rfl, _⟩
        rw [hm] at hm1
        simp only [Option.some.injEq] at hm1
        subst hm1
        rw [hl2] at hl0; cases hl0
      | some l2 =>
        have rl := v.ls1 _ _ _ _ _ rm hb hl2
        simp only
        rw [W _ _ hc]
        by_cases e : l2 = l ∧ c = t
        · rw [if_pos e]
          rw [e.1, hl] at rl
          simp only [Prod.mk.injEq, true_and] at rl
          rw [if_pos ⟨rl.1.symm, rl.2.1.symm, rl.2.2.symm, e.2⟩]
        · rw [if_neg e, if_neg]
          rintro ⟨rfl, rfl, rfl, rfl⟩
          rw [hm] at hm1
          simp only [Option.some.injEq] at hm1
          subst hm1
          rw [hl2] at hl0
          simp only [Option.some.injEq] at hl0
          exact e ⟨hl0, rfl⟩
end

def setN (nt : Nat → Int) (s : Nat) (x : Int) : Nat → Int := fun j => if j = s then x else nt j
/-- Roles, words, frames and counts agree; but for some tables none is bare. -/
structure Wz (n : Nat) (L : Nat → Bool) (rt : Nat → Nat) (nt : Nat → Int) (ro : Nat → Role) (ex : Nat → Prop) (ws ps : List Int) : Prop where
  iv : Inv0 n L rt ro ws ps
  nb : NB ro ws ex
  ct : ∀ s, L s = true → nt s = cntR ro s n
/-- The same, whatever the roles. -/
def Wd (n : Nat) (L : Nat → Bool) (rt : Nat → Nat) (nt : Nat → Int) (ws ps : List Int) : Prop := ∃ ro, Wz n L rt nt ro (fun _ => False) ws ps
def noEx : Nat → Prop := fun _ => False
theorem flagsK : ∀ m, m < 8 → 1 ≤ m → kindM (flagsN m true).toNat = 2 ∧ (flagsN m true).toNat < 64 ∧ flagsN m true = ((flagsN m true).toNat : Int) := by decide
theorem lo8_of {m : Nat} (h : m < 256) (p : Int) : lo8 (flg (encF (m : Int) p)) = m := by unfold lo8 flg encF; omega
theorem flg_of {m : Nat} (h : m < 256) (p : Int) : flg (encF (m : Int) p) = m := by unfold flg encF; omega
theorem ppn_of (m : Int) (p : Int) : ppn (encF m p) = p % 17592186044416 := by unfold ppn encF; omega
theorem kind2_ne {m : Nat} (h : kindM m = 2) : m ≠ 0 := by intro e; subst e; revert h; decide
theorem enc_ne {m : Nat} (h : m < 256) (h0 : m ≠ 0) (p : Int) : encF (m : Int) p ≠ 0 := by unfold encF; omega
/-- A change of frames counted. -/
theorem cnt_set5 {ps : List Int} {n r : Nat} (hl : ps.length = 5 * n) (hr : r < n) (a b c d e x : Int) : ∀ k, k ≤ n → cnt (set5 ps r a b c d e) x k = cnt ps x k + (if r < k then (if a = x then 1 else 0) - (if ps.getD (5 * r) 0 = x then 1 else 0) else 0) := by
  intro k
  induction k with
  | zero => intro _; simp [cnt]
  | succ k ih =>
    intro hk
    simp only [cnt]
    rw [ih (by omega)]
    have g := set5_get ps r k 0 a b c d e (by omega) (by omega)
    rw [Nat.add_zero] at g
    rw [g]
    by_cases h : k = r
    · subst h
      rw [if_pos rfl, if_neg (show ¬ k < k from Nat.lt_irrefl k), if_pos (show k < k + 1 from Nat.lt_succ_self k)]
      simp only [List.getD_cons_zero]
      generalize (if a = x then (1 : Int) else 0) = A
      generalize (if ps.getD (5 * k) 0 = x then (1 : Int) else 0) = B
      omega
    · rw [if_neg h]
      generalize (if a = x then (1 : Int) else 0) = A
      generalize (if ps.getD (5 * r) 0 = x then (1 : Int) else 0) = B
      by_cases h2 : r < k
      · rw [if_pos h2, if_pos (show r < k + 1 by omega)]; omega
      · rw [if_neg h2, if_neg (show ¬ r < k + 1 by omega)]; omega
section
variable {n : Nat} {L : Nat → Bool} {rt : Nat → Nat} {nt : Nat → Int} {ro : Nat → Role} {ex : Nat → Prop} {ws ps : List Int}
theorem Inv0.cls (v : Inv0 n L rt ro ws ps) {j : Nat} (hj : j < n) : ps.getD (5 * j) 0 = if (ro j).1 = 0 then 0 else 1 := by
  by_cases h : (ro j).1 = 0
  · rw [if_pos h]
    have := v.fr j hj h
    unfold z5 at this
    simp only [Bool.and_eq_true, beq_iff_eq] at this
    exact this.1
  · rw [if_neg h]; exact (v.tb j hj h).1
theorem Inv0.z5 (v : Inv0 n L rt ro ws ps) {j : Nat} (hj : j < n) (h : Go.Proofs.Ytfijchofplkcoaa.z5 ps j = true) : (ro j).1 = 0 := by
  by_cases e : (ro j).1 = 0
  · exact e
  · have := (v.tb j hj e).1
    unfold Go.Proofs.Ytfijchofplkcoaa.z5 at h
    simp only [Bool.and_eq_true, beq_iff_eq] at h
    omega
/-- A table more. -/
theorem Wz.grow (v : Wz n L rt nt ro ex ws ps) {p i s : Nat} {asid lv : Int} (new : Nat → Role) (hs : L s = true) (hc : ¬ cnt ps 0 n ≤ 0) (hi : i < 512) (hl : lead n (wat ws p i) = none)
    (hex : ∀ j, ex j → j = p) (hpar : (p = rt s ∧ new = fun _ => (2, s, i, 0)) ∨ ∃ i2, ro p = (2, s, i2, 0) ∧ new = fun _ => (3, s, i2, i)) :
    ∃ (r : Nat) (ws' ps' : List Int), growS n asid p i lv (ws, ps, nt s) = some (r, (ws', ps', nt s + 1)) ∧ r < n ∧ p ≠ r ∧ lead n (wat ws' p i) = some r ∧ (∀ t, t < 512 → wat ws' r t = 0) ∧ (∀ t, t < 512 → t ≠ i → wat ws' p t = wat ws p t) ∧
      Wz n L rt (setN nt s (nt s + 1)) (setR ro r (new 0)) (fun j => j = r) ws' ps' ∧ cnt ps' 0 n = cnt ps 0 n - 1 ∧ cnt ps' 1 n = cnt ps 1 n + 1 ∧
      (∀ s' a b c, L s' = true → a < 512 → b < 512 → c < 512 → pgW n ws' (rt s') a b c = pgW n ws (rt s') a b c) := by
  have hf := fst0_lt v.iv.gf hc
  have h0 := v.iv.z5 hf.1 hf.2
  have hpar' : (p = rt s ∧ new 0 = (2, s, i, 0)) ∨ ∃ i2, ro p = (2, s, i2, 0) ∧ new 0 = (3, s, i2, i) := by
    rcases hpar with ⟨h1, h2⟩ | ⟨i2, h1, h2⟩
    · exact .inl ⟨h1, by rw [h2]⟩
    · exact .inr ⟨i2, h1, by rw [h2]⟩
  have hown : (new 0).1 ≠ 0 ∧ (new 0).2.1 = s := by
    rcases hpar' with ⟨_, h2⟩ | ⟨i2, _, h2⟩ <;> rw [h2] <;> simp
  obtain ⟨iv, W, P⟩ := v.iv.attach (asid := asid) (lv := lv) hs hf.1 h0 hi hl hpar'
  have hpk : (ro p).1 ≠ 0 := by
    rcases hpar' with ⟨h1, _⟩ | ⟨i2, h1, _⟩
    · rw [h1, v.iv.rt1 s hs]; simp
    · rw [h1]; simp
  have hpr : p ≠ fst0 ps n := by intro e; rw [← e] at h0; exact hpk h0
  refine ⟨fst0 ps n, _, _, by unfold growS; rw [if_neg hc], hf.1, hpr, ?_, ?_, ?_, ⟨iv, ?_, ?_⟩, ?_, ?_, P⟩
  · rw [W _ _ hi, if_pos ⟨rfl, rfl⟩]; exact lead_tab hf.1 v.iv.ok.le
  · intro t ht
    rw [W _ _ ht, if_neg (fun x => hpr x.1.symm), if_pos rfl]
  · intro t ht hti
    rw [W _ _ ht, if_neg (fun x => hti x.2), if_neg hpr]
  · intro j hj hne
    unfold setR at hj
    rw [if_neg hne] at hj
    by_cases hp : j = p
    · subst hp
      exact ⟨i, hi, by rw [W _ _ hi, if_pos ⟨rfl, rfl⟩]; exact encT_ne _⟩
    · obtain ⟨t, ht, hw⟩ := v.nb j hj (fun e => hp (hex j e))
      exact ⟨t, ht, by rw [W _ _ ht, if_neg (fun x => hp x.1), if_neg hne]; exact hw⟩
  · intro s' hs'
    rw [cntR_set, if_pos hf.1]
    unfold setN
    by_cases e : s' = s
    · subst e
      rw [if_pos rfl, if_pos hown, if_neg (fun x => x.1 h0), v.ct _ hs]
      omega
    · rw [if_neg e, if_neg (fun x => e (x.2.symm.trans hown.2)), if_neg (fun x => x.1 h0), v.ct _ hs']
      omega
  · have c0 := v.iv.cls hf.1
    rw [if_pos h0] at c0
    rw [cnt_set5 v.iv.len hf.1 _ _ _ _ _ _ n (Nat.le_refl n), if_pos hf.1, c0]
    simp; omega
  · have c0 := v.iv.cls hf.1
    rw [if_pos h0] at c0
    rw [cnt_set5 v.iv.len hf.1 _ _ _ _ _ _ n (Nat.le_refl n), if_pos hf.1, c0]
    simp
/-- A table less. -/
theorem Wz.give (v : Wz n L rt nt ro ex ws ps) {p i r s : Nat} (hs : L s = true) (hi : i < 512) (hl : lead n (wat ws p i) = some r) (hz : ∀ t, t < 512 → wat ws r t = 0)
    (hex : ∀ j, ex j → j = r) (hpar : p = rt s ∨ ∃ i2, ro p = (2, s, i2, 0)) :
    ∃ (ws' ps' : List Int), giveS n p i (ws, ps, nt s) = (ws', ps', nt s - 1) ∧ p ≠ r ∧ (∀ j t, t < 512 → wat ws' j t = if j = p ∧ t = i then 0 else wat ws j t) ∧
      Wz n L rt (setN nt s (nt s - 1)) (setR ro r (0, 0, 0, 0)) (fun j => j = p) ws' ps' ∧ cnt ps' 0 n = cnt ps 0 n + 1 ∧ cnt ps' 1 n = cnt ps 1 n - 1 ∧
      (∀ s' a b c, L s' = true → a < 512 → b < 512 → c < 512 → pgW n ws' (rt s') a b c = pgW n ws (rt s') a b c) := by
  obtain ⟨iv, h0, h1, hr, hpr, W, P⟩ := v.iv.detach hs hi hl (by
    rcases hpar with h | h
    · exact .inl ⟨h, hz⟩
    · exact .inr ⟨h, hz⟩)
  have hpp := (lead_some hl).2
  have tb := v.iv.tb r hr h0
  have hg : sGive ps n (ppn (wat ws p i)) = (0, set5 ps r 0 0 0 0 0) := by
    unfold sGive
    rw [hpp, if_neg (fun h => h ⟨by omega, by omega⟩), Int.toNat_natCast, if_neg (by rw [tb.1]; decide), if_neg (fun h => h tb.2)]
  refine ⟨ws.set (p * 512 + i) 0, set5 ps r 0 0 0 0 0, by unfold giveS; rw [hg], hpr, W, ⟨iv, ?_, ?_⟩, ?_, ?_, P⟩
  · intro j hj hne
    unfold setR at hj
    by_cases e : j = r
    · rw [if_pos e] at hj; simp at hj
    · rw [if_neg e] at hj
      obtain ⟨t, ht, hw⟩ := v.nb j hj (fun x => e (hex j x))
      exact ⟨t, ht, by rw [W _ _ ht, if_neg (fun x => hne x.1)]; exact hw⟩
  · intro s' hs'
    rw [cntR_set, if_pos hr, if_neg (fun x => x.1 rfl)]
    unfold setN
    by_cases e : s' = s
    · subst e
      rw [if_pos rfl, if_pos ⟨h0, h1⟩, v.ct _ hs]
      omega
    · rw [if_neg e, if_neg (fun x => e (x.2.symm.trans h1)), v.ct _ hs']
      omega
  · have c0 := v.iv.cls hr
    rw [if_neg h0] at c0
    rw [cnt_set5 v.iv.len hr _ _ _ _ _ _ n (Nat.le_refl n), if_pos hr, c0]
    simp
  · have c0 := v.iv.cls hr
    rw [if_neg h0] at c0
    rw [cnt_set5 v.iv.len hr _ _ _ _ _ _ n (Nat.le_refl n), if_pos hr, c0]
    simp; omega
/-- An entry of a page. -/
theorem Wz.leaf (v : Wz n L rt nt ro ex ws ps) {l s i k t : Nat} {x : Int} (hl : ro l = (3, s, i, k)) (ht : t < 512) (hx : 0 ≤ x ∧ x < 18446744073709551616) (hk : x ≠ 0 → kindM (lo8 (flg x)) = 2)
    (hex : ∀ j, ex j → j = l) {ex' : Nat → Prop} (he' : ex' l ∨ x ≠ 0) :
    Wz n L rt nt ro ex' (ws.set (l * 512 + t) x) ps ∧ (∀ j u, u < 512 → wat (ws.set (l * 512 + t) x) j u = if j = l ∧ u = t then x else wat ws j u) ∧
    (∀ s' a b c, L s' = true → a < 512 → b < 512 → c < 512 → pgW n (ws.set (l * 512 + t) x) (rt s') a b c = if s' = s ∧ a = i ∧ b = k ∧ c = t then x else pgW n ws (rt s') a b c) := by
  obtain ⟨iv, W, P⟩ := v.iv.leaf hl ht hx hk
  refine ⟨⟨iv, ?_, v.ct⟩, W, P⟩
  intro j hj hne
  by_cases e : j = l
  · subst e
    rcases he' with h | h
    · exact absurd h hne
    · exact ⟨t, ht, by rw [W _ _ ht, if_pos ⟨rfl, rfl⟩]; exact h⟩
  · obtain ⟨u, hu, hw⟩ := v.nb j hj (fun x => e (hex j x))
    exact ⟨u, hu, by rw [W _ _ hu, if_neg (fun x => e x.1)]; exact hw⟩
theorem Wz.ex' (v : Wz n L rt nt ro ex ws ps) {ex' : Nat → Prop} (h : ∀ m, ((ro m).1 = 2 ∨ (ro m).1 = 3) → ex m → ¬ ex' m → ∃ t, t < 512 ∧ wat ws m t ≠ 0) : Wz n L rt nt ro ex' ws ps :=
  ⟨v.iv, fun m hm hne => by
    by_cases e : ex m
    · exact h m hm e hne
    · exact v.nb m hm e, v.ct⟩
/-- There is a page below. -/
def hasT (pg : Nat → Nat → Nat → Int) (a : Nat) : Prop := ∃ b c, b < 512 ∧ c < 512 ∧ pg a b c ≠ 0
def hasM (pg : Nat → Nat → Nat → Int) (a b : Nat) : Prop := ∃ c, c < 512 ∧ pg a b c ≠ 0
theorem Wz.hasM (v : Wz n L rt nt ro noEx ws ps) {s m l a b : Nat} (hs : L s = true) (ha : a < 512) (hb : b < 512) (hm : lead n (wat ws (rt s) a) = some m) (hl : lead n (wat ws m b) = some l) : Go.Proofs.Ytfijchofplkcoaa.hasM (pgW n ws (rt s)) a b := by
  have rm := v.iv.md1 _ _ _ hs ha hm
  have rl := v.iv.ls1 _ _ _ _ _ rm hb hl
  obtain ⟨t, ht, hw⟩ := v.nb l (.inr (by rw [rl])) (fun x => x)
  exact ⟨t, ht, by unfold pgW; rw [hm]; simp only; rw [hl]; exact hw⟩
theorem Wz.hasT (v : Wz n L rt nt ro noEx ws ps) {s m a : Nat} (hs : L s = true) (ha : a < 512) (hm : lead n (wat ws (rt s) a) = some m) : Go.Proofs.Ytfijchofplkcoaa.hasT (pgW n ws (rt s)) a := by
  have rm := v.iv.md1 _ _ _ hs ha hm
  obtain ⟨t, ht, hw⟩ := v.nb m (.inl (by rw [rm])) (fun x => x)
  cases hl : lead n (wat ws m t) with
  | none => exact absurd (v.iv.z1 m _ _ _ rm ht hl) hw
  | some l =>
    obtain ⟨c, hc, h⟩ := v.hasM hs ha ht hm hl
    exact ⟨t, c, ht, hc, h⟩
theorem hasT_some {r a : Nat} (h : Go.Proofs.Ytfijchofplkcoaa.hasT (pgW n ws r) a) : ∃ m, lead n (wat ws r a) = some m := by
  obtain ⟨b, c, hb, hc, h⟩ := h
  unfold pgW at h
  cases hm : lead n (wat ws r a) with
  | none => rw [hm] at h; exact absurd rfl h
  | some m => exact ⟨m, rfl⟩
theorem hasM_some {r a b m : Nat} (hm : lead n (wat ws r a) = some m) (h : Go.Proofs.Ytfijchofplkcoaa.hasM (pgW n ws r) a b) : ∃ l, lead n (wat ws m b) = some l := by
  obtain ⟨c, hc, h⟩ := h
  unfold pgW at h
  rw [hm] at h
  simp only at h
  cases hl : lead n (wat ws m b) with
  | none => rw [hl] at h; exact absurd rfl h
  | some l => exact ⟨l, rfl⟩
theorem hasM_T {pg : Nat → Nat → Nat → Int} {a b : Nat} (hb : b < 512) (h : Go.Proofs.Ytfijchofplkcoaa.hasM pg a b) : Go.Proofs.Ytfijchofplkcoaa.hasT pg a := by
  obtain ⟨c, hc, h⟩ := h; exact ⟨b, c, hb, hc, h⟩
end
/-- What Enter leaves. -/
structure EnterOK (n : Nat) (L : Nat → Bool) (rt : Nat → Nat) (nt : Nat → Int) (ws ps : List Int) (s : Nat) (vpn x : Int) (nd : Int) (s' : PS) : Prop where
  wd : Wd n L rt (setN nt s s'.2.2) s'.1 s'.2.1
  nt : s'.2.2 = nt s + nd
  c0 : cnt s'.2.1 0 n = cnt ps 0 n - nd
  c1 : cnt s'.2.1 1 n = cnt ps 1 n + nd
  pg : ∀ s1 a b c, L s1 = true → a < 512 → b < 512 → c < 512 → pgW n s'.1 (rt s1) a b c = if s1 = s ∧ a = ix2 vpn ∧ b = ix1 vpn ∧ c = ix0 vpn then x else pgW n ws (rt s1) a b c
section
variable {n : Nat} {L : Nat → Bool} {rt : Nat → Nat} {nt : Nat → Int} {ro : Nat → Role} {ex : Nat → Prop} {ws ps : List Int}
theorem setN_self (nt : Nat → Int) (s : Nat) : setN nt s (nt s) = nt := by
  funext j; unfold setN; by_cases e : j = s
  · rw [if_pos e, e]
  · rw [if_neg e]
theorem setN_setN (nt : Nat → Int) (s : Nat) (x y : Int) : setN (setN nt s x) s y = setN nt s y := by
  funext j; unfold setN; by_cases e : j = s
  · rw [if_pos e, if_pos e]
  · rw [if_neg e, if_neg e, if_neg e]
theorem setN_at (nt : Nat → Int) (s : Nat) (x : Int) : setN nt s x s = x := by unfold setN; rw [if_pos rfl]
/-- The last step of Enter. -/
theorem enter1_ok (v : Wz n L rt nt ro ex ws ps) {s m : Nat} {vpn frame prot asid : Int} (hs : L s = true) (hg : 1 ≤ prot ∧ prot ≤ 7) (rm : ro m = (2, s, ix2 vpn, 0)) (hex : ∀ j, ex j → j = m)
    (hx : ex m → lead n (wat ws m (ix1 vpn)) = none) :
    (∃ l, lead n (wat ws m (ix1 vpn)) = some l ∧ ∃ s', enter1 n asid m vpn frame prot (ws, ps, nt s) = (0, s') ∧ EnterOK n L rt nt ws ps s vpn (encF (flagsN (lo3 prot) true) frame) 0 s') ∨
    (lead n (wat ws m (ix1 vpn)) = none ∧ ¬ cnt ps 0 n ≤ 0 ∧ ∃ s', enter1 n asid m vpn frame prot (ws, ps, nt s) = (0, s') ∧ EnterOK n L rt nt ws ps s vpn (encF (flagsN (lo3 prot) true) frame) 1 s') ∨
    (lead n (wat ws m (ix1 vpn)) = none ∧ cnt ps 0 n ≤ 0 ∧ enter1 n asid m vpn frame prot (ws, ps, nt s) = (5, (ws, ps, nt s))) := by
  obtain ⟨l2, l1, l0⟩ := ix_lt vpn
  have hlo : 1 ≤ lo3 prot ∧ lo3 prot < 8 := by have := lo3_lt prot; refine ⟨?_, this⟩; unfold lo3; omega
  obtain ⟨f1, f2, f3⟩ := flagsK (lo3 prot) hlo.2 hlo.1
  have hkx : kindM (lo8 (flg (encF (flagsN (lo3 prot) true) frame))) = 2 := by rw [f3, lo8_of (by omega)]; exact f1
  have hxn : encF (flagsN (lo3 prot) true) frame ≠ 0 := by rw [f3]; exact enc_ne (by omega) (kind2_ne f1) _
  cases hl : lead n (wat ws m (ix1 vpn)) with
  | some l =>
    refine .inl ⟨l, rfl, _, enter1_0 (s := (ws, ps, nt s)) hl, ?_⟩
    have rl := v.iv.ls1 _ _ _ _ _ rm l1 hl
    obtain ⟨v2, W, P⟩ := v.leaf (x := encF (flagsN (lo3 prot) true) frame) (ex' := noEx) rl l0 (encF_range _ _) (fun _ => hkx) (fun j hj => by
      have := hex j hj; subst this; rw [hx hj] at hl; cases hl) (.inr hxn)
    exact ⟨⟨ro, by rw [show (leafS l vpn frame prot (ws, ps, nt s)).2.2 = nt s from rfl, setN_self]; exact v2⟩, by simp only [leafS]; omega, by simp only [leafS]; omega, by simp only [leafS]; omega, P⟩
  | none =>
    by_cases hc : cnt ps 0 n ≤ 0
    · refine .inr (.inr ⟨rfl, hc, enter1_5 (s := (ws, ps, nt s)) hl ?_⟩)
      unfold growS
      rw [if_pos hc]
    · refine .inr (.inl ⟨rfl, hc, ?_⟩)
      obtain ⟨r, ws', ps', hgr, hr, hpr, hlr, hzr, hsm, vr, c0, c1, P0⟩ := v.grow (asid := asid) (lv := 2) (fun _ => (3, s, ix2 vpn, ix1 vpn)) hs hc l1 hl hex (.inr ⟨_, rm, rfl⟩)
      have rl : setR ro r (3, s, ix2 vpn, ix1 vpn) r = (3, s, ix2 vpn, ix1 vpn) := by unfold setR; rw [if_pos rfl]
      obtain ⟨v2, W, P⟩ := vr.leaf (x := encF (flagsN (lo3 prot) true) frame) (ex' := noEx) rl l0 (encF_range _ _) (fun _ => hkx) (fun j hj => hj) (.inr hxn)
      refine ⟨_, enter1_1 (s := (ws, ps, nt s)) hl hgr, ⟨⟨_, v2⟩, rfl, c0, c1, fun s1 a b c h1 ha hb hc => ?_⟩⟩
      have := P s1 a b c h1 ha hb hc
      rw [P0 s1 a b c h1 ha hb hc] at this
      exact this
/-- Enter: how many tables it needs, and what it leaves. -/
theorem Wd.enter (v : Wd n L rt nt ws ps) {s : Nat} {vpn frame prot asid : Int} (hs : L s = true) (hb : ¬ badE n vpn frame prot) :
    ∃ nd : Int, ((¬ hasT (pgW n ws (rt s)) (ix2 vpn) ∧ nd = 2) ∨ (hasT (pgW n ws (rt s)) (ix2 vpn) ∧ ¬ hasM (pgW n ws (rt s)) (ix2 vpn) (ix1 vpn) ∧ nd = 1) ∨ (hasM (pgW n ws (rt s)) (ix2 vpn) (ix1 vpn) ∧ nd = 0)) ∧
    ((nd ≤ cnt ps 0 n ∧ ∃ s', enterS n (rt s) asid vpn frame prot (ws, ps, nt s) = (0, s') ∧ EnterOK n L rt nt ws ps s vpn (encF (flagsN (lo3 prot) true) frame) nd s') ∨
     (cnt ps 0 n < nd ∧ ∃ ws' ps', enterS n (rt s) asid vpn frame prot (ws, ps, nt s) = (5, (ws', ps', nt s)) ∧ Wd n L rt nt ws' ps' ∧ cnt ps' 0 n = cnt ps 0 n ∧ cnt ps' 1 n = cnt ps 1 n ∧
       (∀ s1 a b c, L s1 = true → a < 512 → b < 512 → c < 512 → pgW n ws' (rt s1) a b c = pgW n ws (rt s1) a b c))) := by
  obtain ⟨ro, v⟩ := v
  have hcr := (cnt_le ps 0 n).1
  obtain ⟨l2, l1, l0⟩ := ix_lt vpn
  have hg : 1 ≤ prot ∧ prot ≤ 7 := by unfold badE at hb; omega
  have eS : enterS n (rt s) asid vpn frame prot (ws, ps, nt s) = enterB n (rt s) asid vpn frame prot (ws, ps, nt s) (lead n (wat ws (rt s) (ix2 vpn))) := by unfold enterS; rw [if_neg hb]
  cases hm : lead n (wat ws (rt s) (ix2 vpn)) with
  | some m =>
    have rm := v.iv.md1 _ _ _ hs l2 hm
    have hT := v.hasT hs l2 hm
    rw [hm] at eS
    rcases enter1_ok v (asid := asid) (frame := frame) hs hg rm (fun j hj => False.elim hj) (fun h => False.elim h) with ⟨l, hl, s', he, ok⟩ | ⟨hl, hc, s', he, ok⟩ | ⟨hl, hc, he⟩
    · exact ⟨0, .inr (.inr ⟨v.hasM hs l2 l1 hm hl, rfl⟩), .inl ⟨by omega, s', eS.trans he, ok⟩⟩
    · exact ⟨1, .inr (.inl ⟨hT, (fun h => by obtain ⟨l, h⟩ := hasM_some hm h; rw [hl] at h; cases h), rfl⟩), .inl ⟨by omega, s', eS.trans he, ok⟩⟩
    · exact ⟨1, .inr (.inl ⟨hT, (fun h => by obtain ⟨l, h⟩ := hasM_some hm h; rw [hl] at h; cases h), rfl⟩), .inr ⟨by omega, ws, ps, eS.trans he, ⟨ro, v⟩, rfl, rfl, fun _ _ _ _ _ _ _ _ => rfl⟩⟩
  | none =>
    rw [hm] at eS
    have hT : ¬ hasT (pgW n ws (rt s)) (ix2 vpn) := fun h => by obtain ⟨m, h⟩ := hasT_some h; rw [hm] at h; cases h
    refine ⟨2, .inl ⟨hT, rfl⟩, ?_⟩
    by_cases hc : cnt ps 0 n ≤ 0
    · refine .inr ⟨by omega, ws, ps, ?_, ⟨ro, v⟩, rfl, rfl, fun _ _ _ _ _ _ _ _ => rfl⟩
      rw [eS]
      show enterA _ _ _ _ _ _ _ (growS _ _ _ _ _ _) = _
      unfold growS
      rw [if_pos hc]
      rfl
    · obtain ⟨m, ws1, ps1, hgr, hr, hpr, hlr, hzr, hsm, vr, c0, c1, P0⟩ := v.grow (asid := asid) (lv := 1) (fun _ => (2, s, ix2 vpn, 0)) hs hc l2 hm (fun j hj => False.elim hj) (.inl ⟨rfl, rfl⟩)
      have rm : setR ro m (2, s, ix2 vpn, 0) m = (2, s, ix2 vpn, 0) := by unfold setR; rw [if_pos rfl]
      have e1 : enterS n (rt s) asid vpn frame prot (ws, ps, nt s) = if (enter1 n asid m vpn frame prot (ws1, ps1, nt s + 1)).1 = 0 then enter1 n asid m vpn frame prot (ws1, ps1, nt s + 1) else ((enter1 n asid m vpn frame prot (ws1, ps1, nt s + 1)).1, giveS n (rt s) (ix2 vpn) (ws1, ps1, nt s + 1)) := by
        rw [eS]
        show enterA _ _ _ _ _ _ _ (growS _ _ _ _ _ _) = _
        rw [hgr]
        rfl
      have hz : lead n (wat ws1 m (ix1 vpn)) = none := by rw [hzr _ l1]; exact lead0 n
      have h1 := enter1_ok vr (asid := asid) (frame := frame) hs hg rm (fun j hj => hj) (fun _ => hz)
      rw [setN_at] at h1
      rcases h1 with ⟨l, hl, _⟩ | ⟨hl, hc1, s', he, ok⟩ | ⟨hl, hc1, he⟩
      · rw [hz] at hl; cases hl
      · refine .inl ⟨by omega, s', by rw [e1, he, if_pos rfl], ⟨?_, ?_, ?_, ?_, ?_⟩⟩
        · have := ok.wd
          rw [setN_setN] at this
          exact this
        · have := ok.nt
          rw [setN_at] at this
          omega
        · have := ok.c0; omega
        · have := ok.c1; omega
        · intro s1 a b c h1 ha hb hc
          rw [ok.pg s1 a b c h1 ha hb hc, P0 s1 a b c h1 ha hb hc]
      · obtain ⟨ws2, ps2, hgv, _, W2, v2, c02, c12, P2⟩ := vr.give hs l2 hlr hzr (fun j hj => hj) (.inl rfl)
        rw [setN_at, setN_setN] at v2
        rw [setN_at] at hgv
        rw [show nt s + 1 - 1 = nt s by omega] at v2 hgv
        rw [setN_self] at v2
        refine .inr ⟨by omega, ws2, ps2, by rw [e1, he, if_neg (by simp), hgv], ⟨_, v2.ex' (ex' := fun _ => False) fun m' hm' he _ => ?_⟩, by omega, by omega, fun s1 a b c h1 ha hb hc => by rw [P2 s1 a b c h1 ha hb hc, P0 s1 a b c h1 ha hb hc]⟩
        have he : m' = rt s := he
        have := v2.iv.rt1 s hs
        rw [he, this] at hm'
        simp at hm'
end

section
variable {n : Nat} {L : Nat → Bool} {rt : Nat → Nat} {nt : Nat → Int} {ro : Nat → Role} {ex : Nat → Prop} {ws ps : List Int}
theorem findS_at (v : Inv0 n L rt ro ws ps) {s : Nat} {vpn x : Int} (hs : L s = true) (h : findS n ws (rt s) vpn = some x) :
    ∃ m l, lead n (wat ws (rt s) (ix2 vpn)) = some m ∧ lead n (wat ws m (ix1 vpn)) = some l ∧ placeS n ws (rt s) vpn = some (l, ix0 vpn) ∧ x = wat ws l (ix0 vpn) ∧ kindM (lo8 (flg x)) = 2 ∧
      ro m = (2, s, ix2 vpn, 0) ∧ ro l = (3, s, ix2 vpn, ix1 vpn) := by
  obtain ⟨f, i, hp, hv, hk⟩ := findS_some h
  obtain ⟨l2, l1, l0⟩ := ix_lt vpn
  have hp' := hp
  unfold placeS at hp'
  split at hp'
  · simp only [Option.bind_eq_some_iff, Option.map_eq_some_iff] at hp'
    obtain ⟨m, hm, l, hl, e⟩ := hp'
    simp only [Prod.mk.injEq] at e
    obtain ⟨rfl, rfl⟩ := e
    rw [Int.toNat_natCast] at hm
    have rm := v.md1 _ _ _ hs l2 hm
    have rl := v.ls1 _ _ _ _ _ rm l1 hl
    exact ⟨m, l, hm, hl, hp, hv, hk, rm, rl⟩
  · cases hp'
/-- Bare tables go. -/
theorem Wz.tidy (v : Wz n L rt nt ro ex ws ps) {s m l : Nat} {vpn : Int} (hs : L s = true) (hm : lead n (wat ws (rt s) (ix2 vpn)) = some m) (hl : lead n (wat ws m (ix1 vpn)) = some l)
    (hex : ∀ j, ex j → j = l) : ∃ s', tidyS n (rt s) vpn (ws, ps, nt s) = s' ∧ Wd n L rt (setN nt s s'.2.2) s'.1 s'.2.1 ∧
      (∀ s1 a b c, L s1 = true → a < 512 → b < 512 → c < 512 → pgW n s'.1 (rt s1) a b c = pgW n ws (rt s1) a b c) := by
  refine ⟨_, rfl, ?_⟩
  obtain ⟨l2, l1, l0⟩ := ix_lt vpn
  have rm := v.iv.md1 _ _ _ hs l2 hm
  have rl := v.iv.ls1 _ _ _ _ _ rm l1 hl
  unfold tidyS
  simp only
  rw [hm]
  simp only
  have t1 : tidy1 n m (ix1 vpn) (ws, ps, nt s) = if bareB ws l = true then giveS n m (ix1 vpn) (ws, ps, nt s) else (ws, ps, nt s) := by unfold tidy1; simp only; rw [hl]
  have key : ∃ (ws1 ps1 : List Int) (nt1 : Int) (ro1 : Nat → Role), tidy1 n m (ix1 vpn) (ws, ps, nt s) = (ws1, ps1, nt1) ∧ Wz n L rt (setN nt s nt1) ro1 (fun j => j = m) ws1 ps1 ∧
      lead n (wat ws1 (rt s) (ix2 vpn)) = some m ∧ (∀ s1 a b c, L s1 = true → a < 512 → b < 512 → c < 512 → pgW n ws1 (rt s1) a b c = pgW n ws (rt s1) a b c) := by
    rw [t1]
    cases hb : bareB ws l
    · rw [if_neg (by simp)]
      refine ⟨ws, ps, nt s, ro, rfl, ?_, hm, fun _ _ _ _ _ _ _ _ => rfl⟩
      rw [setN_self]
      refine v.ex' fun j _ hj _ => ?_
      have := hex j hj
      subst this
      apply Classical.byContradiction
      intro hne
      have : bareB ws j = true := bareB_iff.2 fun t ht => Classical.byContradiction fun h => hne ⟨t, ht, h⟩
      rw [this] at hb; cases hb
    · rw [if_pos rfl]
      obtain ⟨ws1, ps1, hg, hpr, W, v1, _, _, P⟩ := v.give hs l1 hl (bareB_iff.1 hb) hex (.inr ⟨_, rm⟩)
      refine ⟨ws1, ps1, nt s - 1, _, hg, v1, ?_, P⟩
      rw [W _ _ l2, if_neg]
      · exact hm
      · intro e
        have := v.iv.rt1 s hs
        rw [e.1, rm] at this
        simp at this
  obtain ⟨ws1, ps1, nt1, ro1, e1, v1, hm1, P1⟩ := key
  rw [e1]
  simp only
  cases hb : bareB ws1 m
  · rw [if_neg (by simp)]
    refine ⟨⟨ro1, v1.ex' fun j _ hj _ => ?_⟩, P1⟩
    have hj : j = m := hj
    subst hj
    apply Classical.byContradiction
    intro hne
    have : bareB ws1 j = true := bareB_iff.2 fun t ht => Classical.byContradiction fun h => hne ⟨t, ht, h⟩
    rw [this] at hb; cases hb
  · rw [if_pos rfl]
    obtain ⟨ws2, ps2, hg, hpr, W, v2, _, _, P⟩ := v1.give hs l2 hm1 (bareB_iff.1 hb) (fun j hj => hj) (.inl rfl)
    rw [setN_at] at hg v2
    rw [hg]
    refine ⟨⟨setR ro1 m (0, 0, 0, 0), ?_⟩, fun s1 a b c h1 ha hb hc => by rw [P s1 a b c h1 ha hb hc, P1 s1 a b c h1 ha hb hc]⟩
    have := v2.ex' (ex' := fun _ => False) fun j hj he _ => by
      have he : j = rt s := he
      have := v2.iv.rt1 s hs
      rw [he, this] at hj
      simp at hj
    rw [setN_setN] at this
    exact this
structure ChangeOK (n : Nat) (L : Nat → Bool) (rt : Nat → Nat) (nt : Nat → Int) (ws : List Int) (s : Nat) (vpn x : Int) (s' : PS) : Prop where
  wd : Wd n L rt (setN nt s s'.2.2) s'.1 s'.2.1
  pg : ∀ s1 a b c, L s1 = true → a < 512 → b < 512 → c < 512 → pgW n s'.1 (rt s1) a b c = if s1 = s ∧ a = ix2 vpn ∧ b = ix1 vpn ∧ c = ix0 vpn then x else pgW n ws (rt s1) a b c
/-- The entry of a page that is found becomes another one. -/
theorem Wd.change (v : Wd n L rt nt ws ps) {s : Nat} {vpn x x' : Int} (hs : L s = true) (hf : findS n ws (rt s) vpn = some x) (hr : 0 ≤ x' ∧ x' < 18446744073709551616) (hk : x' ≠ 0 → kindM (lo8 (flg x')) = 2) :
    ChangeOK n L rt nt ws s vpn x' (changeS n (rt s) vpn x' (ws, ps, nt s)) := by
  obtain ⟨ro, v⟩ := v
  obtain ⟨l2, l1, l0⟩ := ix_lt vpn
  obtain ⟨m, l, hm, hl, hp, hx, hkx, rm, rl⟩ := findS_at v.iv hs hf
  unfold changeS
  simp only
  rw [hp]
  simp only
  by_cases h0 : x' = 0
  · rw [if_pos h0]
    obtain ⟨v1, W, P⟩ := v.leaf (ex' := fun j => j = l) rl l0 hr hk (fun j hj => False.elim hj) (.inl rfl)
    have ml : m ≠ l := fun e => by rw [e, rl] at rm; simp at rm
    have rl' : rt s ≠ l := fun e => by have := v.iv.rt1 s hs; rw [e, rl] at this; simp at this
    obtain ⟨s', hs', wd, P1⟩ := v1.tidy (vpn := vpn) hs (by rw [W _ _ l2, if_neg (fun e => rl' e.1)]; exact hm) (by rw [W _ _ l1, if_neg (fun e => ml e.1)]; exact hl) (fun j hj => hj)
    rw [hs']
    exact ⟨wd, fun s1 a b c h1 ha hb hc => by rw [P1 s1 a b c h1 ha hb hc, P s1 a b c h1 ha hb hc]⟩
  · rw [if_neg h0]
    obtain ⟨v1, W, P⟩ := v.leaf (ex' := fun _ => False) rl l0 hr hk (fun j hj => False.elim hj) (.inr h0)
    exact ⟨⟨ro, by simp only; rw [setN_self]; exact v1⟩, P⟩
theorem placeS_range {n : Nat} {ws : List Int} {root vpn : Int} {p : Nat × Nat} (h : placeS n ws root vpn = some p) : 0 ≤ vpn ∧ vpn < 134217728 := by
  unfold placeS at h
  split at h
  · rename_i hh; exact hh.2.2
  · cases h
/-- A page's entry, or 0. -/
def pgv (n : Nat) (ws : List Int) (r : Nat) (vpn : Int) : Int := if 0 ≤ vpn ∧ vpn < 134217728 then pgW n ws r (ix2 vpn) (ix1 vpn) (ix0 vpn) else 0
theorem Wd.find (v : Wd n L rt nt ws ps) {s : Nat} (hs : L s = true) (vpn : Int) : findS n ws (rt s) vpn = if pgv n ws (rt s) vpn = 0 then none else some (pgv n ws (rt s) vpn) := by
  obtain ⟨ro, v⟩ := v
  unfold pgv
  by_cases h : 0 ≤ vpn ∧ vpn < 134217728
  · rw [if_pos h]; exact v.iv.find hs h
  · rw [if_neg h, if_pos rfl]
    cases hf : findS n ws (rt s) vpn with
    | none => rfl
    | some x =>
      obtain ⟨f, i, hp, _⟩ := findS_some hf
      exact absurd (placeS_range hp) h
theorem ix_inj {a b : Int} (ha : 0 ≤ a ∧ a < 134217728) (hb : 0 ≤ b ∧ b < 134217728) (h : ix2 a = ix2 b ∧ ix1 a = ix1 b ∧ ix0 a = ix0 b) : a = b := by
  unfold ix2 ix1 ix0 at h; omega
/-- Pages by their numbers. -/
theorem pgv_of {n : Nat} {ws ws' : List Int} {rt : Nat → Nat} {L : Nat → Bool} {s : Nat} {vpn x : Int} (hv : 0 ≤ vpn ∧ vpn < 134217728)
    (h : ∀ s1 a b c, L s1 = true → a < 512 → b < 512 → c < 512 → pgW n ws' (rt s1) a b c = if s1 = s ∧ a = ix2 vpn ∧ b = ix1 vpn ∧ c = ix0 vpn then x else pgW n ws (rt s1) a b c) :
    ∀ s1 u, L s1 = true → pgv n ws' (rt s1) u = if s1 = s ∧ u = vpn then x else pgv n ws (rt s1) u := by
  intro s1 u h1
  unfold pgv
  obtain ⟨l2, l1, l0⟩ := ix_lt u
  by_cases hu : 0 ≤ u ∧ u < 134217728
  · rw [if_pos hu, if_pos hu, h s1 _ _ _ h1 l2 l1 l0]
    by_cases e : s1 = s ∧ u = vpn
    · rw [if_pos e, if_pos ⟨e.1, by rw [e.2], by rw [e.2], by rw [e.2]⟩]
    · rw [if_neg e, if_neg (fun x => e ⟨x.1, ix_inj hu hv x.2⟩)]
  · rw [if_neg hu, if_neg hu, if_neg]
    rintro ⟨_, rfl⟩; exact hu hv
theorem pgv_same {n : Nat} {ws ws' : List Int} {rt : Nat → Nat} {L : Nat → Bool} (h : ∀ s1 a b c, L s1 = true → a < 512 → b < 512 → c < 512 → pgW n ws' (rt s1) a b c = pgW n ws (rt s1) a b c) :
    ∀ s1 u, L s1 = true → pgv n ws' (rt s1) u = pgv n ws (rt s1) u := by
  intro s1 u h1
  unfold pgv
  obtain ⟨l2, l1, l0⟩ := ix_lt u
  rw [h s1 _ _ _ h1 l2 l1 l0]
/-- What an act on one page leaves. -/
structure ActOK (n : Nat) (L : Nat → Bool) (rt : Nat → Nat) (nt : Nat → Int) (ws : List Int) (s : Nat) (vpn x : Int) (s' : PS) : Prop where
  wd : Wd n L rt (setN nt s s'.2.2) s'.1 s'.2.1
  pg : ∀ s1 u, L s1 = true → pgv n s'.1 (rt s1) u = if s1 = s ∧ u = vpn then x else pgv n ws (rt s1) u
theorem ActOK.nop (v : Wd n L rt nt ws ps) {s : Nat} {vpn x : Int} (hx : pgv n ws (rt s) vpn = x) : ActOK n L rt nt ws s vpn x (ws, ps, nt s) :=
  ⟨by simp only; rw [setN_self]; exact v, fun s1 u h1 => by
    by_cases e : s1 = s ∧ u = vpn
    · rw [if_pos e, e.1, e.2]; exact hx
    · rw [if_neg e]⟩
theorem pgv_ne {n : Nat} {ws : List Int} {r : Nat} {vpn : Int} (h : pgv n ws r vpn ≠ 0) : 0 ≤ vpn ∧ vpn < 134217728 := by
  unfold pgv at h
  split at h
  · assumption
  · exact absurd rfl h
theorem Wd.kind (v : Wd n L rt nt ws ps) {s : Nat} {vpn : Int} (hs : L s = true) (h : pgv n ws (rt s) vpn ≠ 0) : kindM (lo8 (flg (pgv n ws (rt s) vpn))) = 2 := by
  have := v.find hs vpn
  rw [if_neg h] at this
  obtain ⟨f, i, _, _, hk⟩ := findS_some this
  exact hk
theorem Wd.chg (v : Wd n L rt nt ws ps) {s : Nat} {vpn x' : Int} (hs : L s = true) (hne : pgv n ws (rt s) vpn ≠ 0) (hr : 0 ≤ x' ∧ x' < 18446744073709551616) (hk : x' ≠ 0 → kindM (lo8 (flg x')) = 2) :
    ActOK n L rt nt ws s vpn x' (changeS n (rt s) vpn x' (ws, ps, nt s)) := by
  have hf := v.find hs vpn
  rw [if_neg hne] at hf
  have c := v.change hs hf hr hk
  exact ⟨c.wd, pgv_of (pgv_ne hne) c.pg⟩
/-- Remove. -/
theorem Wd.remove (v : Wd n L rt nt ws ps) {s : Nat} (hs : L s = true) (vpn : Int) :
    ∃ s', removeS n (rt s) vpn (ws, ps, nt s) = (decide (pgv n ws (rt s) vpn ≠ 0), s') ∧ ActOK n L rt nt ws s vpn 0 s' := by
  unfold removeS
  simp only
  rw [v.find hs vpn]
  by_cases h : pgv n ws (rt s) vpn = 0
  · rw [if_pos h]
    exact ⟨_, by rw [decide_eq_false (fun x => x h)], ActOK.nop v h⟩
  · rw [if_neg h]
    exact ⟨_, by rw [decide_eq_true h], v.chg hs h (by omega) (fun x => absurd rfl x)⟩
/-- Its entry under other rights. -/
def proV (prot v : Int) : Int := if v = 0 then 0 else if flagsN (lo3 prot) true = 0 then 0 else encF (((flagsN (lo3 prot) true).toNat ||| (lo8 (flg v) &&& 192) : Nat) : Int) (ppn v)
theorem key_pro : ∀ m, m < 8 → ∀ y : Nat, y < 4 → flagsN m true ≠ 0 → kindM ((flagsN m true).toNat ||| (y * 64)) = 2 ∧ ((flagsN m true).toNat ||| (y * 64)) < 256 := by decide +kernel
theorem Wd.protect (v : Wd n L rt nt ws ps) {s : Nat} (hs : L s = true) (vpn prot : Int) :
    ∃ s', protectS n (rt s) vpn prot (ws, ps, nt s) = (decide (pgv n ws (rt s) vpn ≠ 0), s') ∧ ActOK n L rt nt ws s vpn (proV prot (pgv n ws (rt s) vpn)) s' := by
  unfold protectS proV
  by_cases hp : flagsN (lo3 prot) true = 0
  · rw [if_pos hp, if_pos hp]
    obtain ⟨s', h1, h2⟩ := v.remove hs vpn
    refine ⟨s', h1, ?_⟩
    split <;> exact h2
  · rw [if_neg hp, if_neg hp]
    simp only
    rw [v.find hs vpn]
    by_cases h : pgv n ws (rt s) vpn = 0
    · rw [if_pos h, if_pos h]
      exact ⟨_, by rw [decide_eq_false (fun x => x h)], ActOK.nop v h⟩
    · rw [if_neg h, if_neg h]
      refine ⟨_, by rw [decide_eq_true h], v.chg hs h (encF_range _ _) (fun _ => ?_)⟩
      rw [key_192 _ (lo8_lt _)]
      have h8 := lo8_lt (flg (pgv n ws (rt s) vpn))
      have := key_pro _ (lo3_lt prot) (lo8 (flg (pgv n ws (rt s) vpn)) / 64) (by omega) hp
      rw [lo8_of this.2]
      exact this.1
/-- Its entry without some flags. -/
def clrV (flags v : Int) : Int := if v = 0 then 0 else encF ((lo8 (flg v) - hadN (lo8 (flg v)) flags : Nat) : Int) (ppn v)
def hadV (flags v : Int) : Int := if v = 0 then 0 else (hadN (lo8 (flg v)) flags : Nat)
theorem key_clr2 : ∀ fl : Nat, fl < 256 → ∀ y : Nat, y < 4 → kindM fl = 2 → kindM (fl - (fl &&& (y * 64))) = 2 := by decide +kernel
theorem Wd.clear (v : Wd n L rt nt ws ps) {s : Nat} (hs : L s = true) (vpn flags : Int) :
    ∃ s', clearS n (rt s) vpn flags (ws, ps, nt s) = (hadV flags (pgv n ws (rt s) vpn), s') ∧ ActOK n L rt nt ws s vpn (clrV flags (pgv n ws (rt s) vpn)) s' := by
  unfold clearS clrV hadV
  simp only
  rw [v.find hs vpn]
  by_cases h : pgv n ws (rt s) vpn = 0
  · rw [if_pos h, if_pos h, if_pos h]
    exact ⟨_, rfl, ActOK.nop v h⟩
  · rw [if_neg h, if_neg h, if_neg h]
    refine ⟨_, rfl, v.chg hs h (encF_range _ _) (fun _ => ?_)⟩
    have hk := v.kind hs h
    have h8 := lo8_lt (flg (pgv n ws (rt s) vpn))
    have h1 := lo8_lt flags
    have := key_clr2 _ h8 (lo8 flags / 64) (by omega) hk
    rw [← hadN_eq] at this
    rw [lo8_of (by omega)]
    exact this
/-- Enter by page numbers. -/
theorem Wd.enter' (v : Wd n L rt nt ws ps) {s : Nat} {vpn frame prot asid : Int} (hs : L s = true) (hb : ¬ badE n vpn frame prot) :
    ∃ nd : Int, (0 ≤ nd ∧ nd ≤ 2) ∧ ((¬ hasT (pgW n ws (rt s)) (ix2 vpn) ∧ nd = 2) ∨ (hasT (pgW n ws (rt s)) (ix2 vpn) ∧ ¬ hasM (pgW n ws (rt s)) (ix2 vpn) (ix1 vpn) ∧ nd = 1) ∨ (hasM (pgW n ws (rt s)) (ix2 vpn) (ix1 vpn) ∧ nd = 0)) ∧
    ((nd ≤ cnt ps 0 n ∧ ∃ s', enterS n (rt s) asid vpn frame prot (ws, ps, nt s) = (0, s') ∧ ActOK n L rt nt ws s vpn (encF (flagsN (lo3 prot) true) frame) s' ∧ s'.2.2 = nt s + nd ∧
        (∀ s1 a b c, L s1 = true → a < 512 → b < 512 → c < 512 → pgW n s'.1 (rt s1) a b c = if s1 = s ∧ a = ix2 vpn ∧ b = ix1 vpn ∧ c = ix0 vpn then encF (flagsN (lo3 prot) true) frame else pgW n ws (rt s1) a b c)) ∨
     (cnt ps 0 n < nd ∧ ∃ ws' ps', enterS n (rt s) asid vpn frame prot (ws, ps, nt s) = (5, (ws', ps', nt s)) ∧ Wd n L rt nt ws' ps' ∧ cnt ps' 0 n = cnt ps 0 n ∧ cnt ps' 1 n = cnt ps 1 n ∧
       (∀ s1 u, L s1 = true → pgv n ws' (rt s1) u = pgv n ws (rt s1) u))) := by
  have hv : 0 ≤ vpn ∧ vpn < 134217728 := by unfold badE at hb; omega
  obtain ⟨nd, h1, h2⟩ := v.enter (asid := asid) hs hb
  refine ⟨nd, by rcases h1 with ⟨_, h⟩ | ⟨_, _, h⟩ | ⟨_, h⟩ <;> omega, h1, ?_⟩
  rcases h2 with ⟨hc, s', he, ok⟩ | ⟨hc, ws', ps', he, wd, c0, c1, P⟩
  · exact .inl ⟨hc, s', he, ⟨ok.wd, pgv_of hv ok.pg⟩, ok.nt, ok.pg⟩
  · exact .inr ⟨hc, ws', ps', he, wd, c0, c1, pgv_same P⟩
/-- All tables of all spaces. -/
def cntN (ro : Nat → Role) : Nat → Int
  | 0 => 0
  | k + 1 => cntN ro k + if (ro k).1 ≠ 0 then 1 else 0
theorem Inv0.c1 (v : Inv0 n L rt ro ws ps) : ∀ k, k ≤ n → cnt ps 1 k = cntN ro k ∧ cnt ps 0 k = k - cntN ro k := by
  intro k
  induction k with
  | zero => intro _; simp [cnt, cntN]
  | succ k ih =>
    intro hk
    obtain ⟨h1, h0⟩ := ih (by omega)
    simp only [cnt, cntN]
    rw [v.cls (show k < n by omega), h1, h0]
    by_cases e : (ro k).1 = 0
    · rw [if_pos e, if_neg (show ¬ (0 : Int) = 1 by decide), if_pos rfl, if_neg (fun x => x e)]; omega
    · rw [if_neg e, if_pos rfl, if_neg (show ¬ (1 : Int) = 0 by decide), if_pos e]; omega
theorem Inv0.own (v : Inv0 n L rt ro ws ps) {j : Nat} (h : (ro j).1 ≠ 0) : L (ro j).2.1 = true := by
  have h3 := v.kd j
  obtain ⟨⟨k, s, i, t⟩, he⟩ : ∃ x, ro j = x := ⟨_, rfl⟩
  rw [he] at h h3 ⊢
  simp only at h h3 ⊢
  have : k = 1 ∨ k = 2 ∨ k = 3 := by omega
  rcases this with rfl | rfl | rfl
  · exact (v.rt2 _ _ _ _ he).1
  · exact (v.md2 _ _ _ _ he).1
  · obtain ⟨_, m, hm, _⟩ := v.ls2 _ _ _ _ he
    exact (v.md2 _ _ _ _ hm).1
/-- One space: its tables are all. -/
theorem Wd.one (v : Wd n L rt nt ws ps) (h : ∀ s, L s = true ↔ s = 0) : cnt ps 1 n = nt 0 ∧ cnt ps 0 n = n - nt 0 := by
  obtain ⟨ro, v⟩ := v
  have : ∀ k, cntN ro k = cntR ro 0 k := by
    intro k
    induction k with
    | zero => rfl
    | succ k ih =>
      simp only [cntN, cntR]
      rw [ih]
      by_cases e : (ro k).1 = 0
      · rw [if_neg (fun x => x e), if_neg (fun x => x.1 e)]
      · rw [if_pos e, if_pos ⟨e, (h _).1 (v.iv.own e)⟩]
  have c := v.iv.c1 n (Nat.le_refl n)
  rw [this n, ← v.ct 0 ((h 0).2 rfl)] at c
  exact c
/-- Two spaces. -/
theorem Wd.two (v : Wd n L rt nt ws ps) (h : ∀ s, L s = true ↔ s = 0 ∨ s = 1) : cnt ps 1 n = nt 0 + nt 1 ∧ cnt ps 0 n = n - (nt 0 + nt 1) := by
  obtain ⟨ro, v⟩ := v
  have : ∀ k, cntN ro k = cntR ro 0 k + cntR ro 1 k := by
    intro k
    induction k with
    | zero => rfl
    | succ k ih =>
      simp only [cntN, cntR]
      rw [ih]
      by_cases e : (ro k).1 = 0
      · rw [if_neg (fun x => x e), if_neg (fun x => x.1 e), if_neg (fun x => x.1 e)]; omega
      · rw [if_pos e]
        rcases (h _).1 (v.iv.own e) with o | o
        · rw [if_pos ⟨e, o⟩, if_neg (fun x => by rw [o] at x; exact absurd x.2 (by decide))]; omega
        · rw [if_neg (fun x => by rw [o] at x; exact absurd x.2 (by decide)), if_pos ⟨e, o⟩]; omega
  have c := v.iv.c1 n (Nat.le_refl n)
  rw [this n, ← v.ct 0 ((h 0).2 (.inl rfl)), ← v.ct 1 ((h 1).2 (.inr rfl))] at c
  exact c
/-- No space. -/
theorem Wd.none' (v : Wd n L rt nt ws ps) (h : ∀ s, L s = false) : cnt ps 0 n = n := by
  obtain ⟨ro, v⟩ := v
  have : ∀ k, cntN ro k = 0 := by
    intro k
    induction k with
    | zero => rfl
    | succ k ih =>
      simp only [cntN]
      rw [ih]
      by_cases e : (ro k).1 = 0
      · rw [if_neg (fun x => x e)]; rfl
      · have := v.iv.own e
        rw [h] at this; cases this
  have c := (v.iv.c1 n (Nat.le_refl n)).2
  rw [this n] at c
  omega
/-- A space's count: at least the root, at most all. -/
theorem Wd.cntS (v : Wd n L rt nt ws ps) {s : Nat} (hs : L s = true) : 1 ≤ nt s ∧ nt s ≤ n := by
  obtain ⟨ro, v⟩ := v
  rw [v.ct s hs]
  refine ⟨?_, (cntR_range ro s n).2⟩
  have : ∀ k, rt s < k → 1 ≤ cntR ro s k := by
    intro k
    induction k with
    | zero => intro h; omega
    | succ k ih =>
      intro h
      simp only [cntR]
      by_cases e : rt s = k
      · have hc := (cntR_range ro s k).1
        rw [if_pos (by rw [← e, v.iv.rt1 s hs]; simp)]; omega
      · have := ih (by omega)
        by_cases e2 : (ro k).1 ≠ 0 ∧ (ro k).2.1 = s
        · rw [if_pos e2]; omega
        · rw [if_neg e2]; omega
  exact this n (v.iv.rlt hs)
/-- Without pages there is but the root. -/
theorem Wd.bare (v : Wd n L rt nt ws ps) {s : Nat} (hs : L s = true) (h : ∀ a b c, a < 512 → b < 512 → c < 512 → pgW n ws (rt s) a b c = 0) : nt s = 1 := by
  obtain ⟨ro, v⟩ := v
  have nt3 : ∀ j, (ro j).1 ≠ 0 → (ro j).2.1 = s → j = rt s := by
    intro j h0 hj
    have h3 := v.iv.kd j
    obtain ⟨⟨k, s', i, t⟩, he⟩ : ∃ x, ro j = x := ⟨_, rfl⟩
    rw [he] at h0 h3 hj
    simp only at h0 h3 hj
    subst hj
    have : k = 1 ∨ k = 2 ∨ k = 3 := by omega
    rcases this with rfl | rfl | rfl
    · exact (v.iv.rt2 _ _ _ _ he).2.1.symm
    · obtain ⟨_, hi, _, hl⟩ := v.iv.md2 _ _ _ _ he
      obtain ⟨b, c, hb, hc, hne⟩ := v.hasT hs hi hl
      exact absurd (h _ _ _ hi hb hc) hne
    · obtain ⟨ht, m, hm, hl2⟩ := v.iv.ls2 _ _ _ _ he
      obtain ⟨_, hi, _, hl⟩ := v.iv.md2 _ _ _ _ hm
      obtain ⟨c, hc, hne⟩ := v.hasM hs hi ht hl hl2
      exact absurd (h _ _ _ hi ht hc) hne
  have : ∀ k, cntR ro s k = if rt s < k then 1 else 0 := by
    intro k
    induction k with
    | zero => simp [cntR]
    | succ k ih =>
      simp only [cntR]
      rw [ih]
      by_cases e : k = rt s
      · subst e
        rw [if_neg (Nat.lt_irrefl _), if_pos (Nat.lt_succ_self _), if_pos (by rw [v.iv.rt1 s hs]; simp)]; rfl
      · rw [if_neg (show ¬ ((ro k).1 ≠ 0 ∧ (ro k).2.1 = s) from fun x => e (nt3 k x.1 x.2))]
        by_cases h2 : rt s < k
        · rw [if_pos h2, if_pos (show rt s < k + 1 by omega)]; rfl
        · rw [if_neg h2, if_neg (show ¬ rt s < k + 1 by omega)]; rfl
  rw [v.ct s hs, this n, if_pos (v.iv.rlt hs)]
end

end Go.Proofs.Ytfijchofplkcoaa
