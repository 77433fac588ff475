/-
  Closing a space: all its frames are free, all others as they were.
-/
import Derived.Test.YtfijchofplkcoaaKj
set_option linter.unusedVariables false
set_option linter.unusedSimpArgs false
set_option maxRecDepth 100000
namespace Go.Proofs.Ytfijchofplkcoaa

section
variable {n : Nat} {L : Nat → Bool} {rt : Nat → Nat} {nt : Nat → Int} {ro : Nat → Role} {ex : Nat → Prop} {ws ps : List Int}
/-- A lowest table detached, whatever it has. -/
theorem Inv0.detach3 (v : Inv0 n L rt ro ws ps) {r p i s : Nat} (hs : L s = true) (hi : i < 512) (hl : lead n (wat ws p i) = some r)
    {i2 : Nat} (hp2 : ro p = (2, s, i2, 0)) :
    Inv0 n L rt (setR ro r (0, 0, 0, 0)) (ws.set (p * 512 + i) 0) (set5 ps r 0 0 0 0 0) ∧ (ro r).1 ≠ 0 ∧ (ro r).2.1 = s ∧ r < n ∧ p ≠ r ∧
    (∀ j t, t < 512 → wat (ws.set (p * 512 + i) 0) j t = if j = p ∧ t = i then 0 else wat ws j t) ∧
    (∀ s' a b c, L s' = true → s' ≠ s → a < 512 → b < 512 → c < 512 → pgW n (ws.set (p * 512 + i) 0) (rt s') a b c = pgW n ws (rt s') a b c) := by
  have hpk : (ro p).1 = 1 ∨ (ro p).1 = 2 := by right; rw [hp2]
  have hr3 := v.ls1 p s i2 i r hp2 hi hl
  have hrr : ((p = rt s ∧ ro r = (2, s, i, 0)) ∨ ∃ i2, ro p = (2, s, i2, 0) ∧ ro r = (3, s, i2, i)) := .inr ⟨i2, hp2, hr3⟩
  have hrk : ((ro r).1 = 2 ∨ (ro r).1 = 3) ∧ (ro r).2.1 = s := by
    rcases hrr with ⟨_, h⟩ | ⟨i2, _, h⟩ <;> rw [h] <;> simp
  have hp : p < n := v.lt (by omega)
  have hr : r < n := v.lt (by omega)
  have hpr : p ≠ r := by
    intro e
    rcases hrr with ⟨h1, h2⟩ | ⟨i2, h1, h2⟩
    · rw [← e, h1, v.rt1 s hs] at h2; simp at h2
    · rw [← e, h1] at h2; simp at h2
  have W : ∀ j t, t < 512 → wat (ws.set (p * 512 + i) 0) j t = if j = p ∧ t = i then 0 else wat ws j t := by
    intro j t ht
    rw [wat_set v.ok hp hi ht]
    by_cases e : p = j ∧ i = t
    · rw [if_pos e, if_pos ⟨e.1.symm, e.2.symm⟩]
    · rw [if_neg e, if_neg (fun x => e ⟨x.1.symm, x.2.symm⟩)]
  have hb5 : 5 * r + 5 ≤ ps.length := by rw [v.len]; omega
  have rtr : ∀ s', L s' = true → rt s' ≠ r := fun s' h e => by have := v.rt1 s' h; rw [e] at this; rw [this] at hrk; simp at hrk
  have S0 : setR ro r (0, 0, 0, 0) r = (0, 0, 0, 0) := by unfold setR; rw [if_pos rfl]
  have S1 : ∀ j, j ≠ r → setR ro r (0, 0, 0, 0) j = ro j := fun j h => by unfold setR; rw [if_neg h]
  refine ⟨⟨v.ok.set _ (by omega), v.gf.set5 v.len hr (by omega) (fun _ => ⟨rfl, rfl⟩), by rw [set5_len]; exact v.len, ?_, ?_, ?_, ?_, ?_, ?_, ?_, ?_, ?_, ?_, ?_, ?_, ?_⟩, by omega, hrk.2, hr, hpr, W, ?_⟩
  · intro j hj h0
    rw [set5_z5 _ _ _ _ _ _ _ _ hb5]
    by_cases e : j = r
    · rw [if_pos e]; rfl
    · rw [S1 j e] at h0
      rw [if_neg e]; exact v.fr j hj h0
  · intro j hj h0
    by_cases e : j = r
    · subst e; rw [S0] at h0; exact absurd rfl h0
    · rw [S1 j e] at h0
      have g0 : ∀ t, t < 5 → (set5 ps r 0 0 0 0 0).getD (5 * j + t) 0 = ps.getD (5 * j + t) 0 := fun t ht => by rw [set5_get ps r j t 0 0 0 0 0 hb5 ht, if_neg e]
      have g00 := g0 0 (by omega)
      rw [Nat.add_zero] at g00
      rw [g00, g0 3 (by omega), g0 4 (by omega)]; exact v.tb j hj h0
  · intro j hj
    rw [S1 j (by omega)]; exact v.out j hj
  · intro s' h
    rw [S1 _ (rtr s' h)]; exact v.rt1 s' h
  · intro j s' i' k h
    by_cases e : j = r
    · subst e; rw [S0] at h; simp at h
    · rw [S1 j e] at h; exact v.rt2 j s' i' k h
  · intro s' i' j h hi' hl'
    rw [W _ _ hi'] at hl'
    by_cases e : rt s' = p ∧ i' = i
    · rw [if_pos e, lead0] at hl'; cases hl'
    · rw [if_neg e] at hl'
      have h3 := v.md1 s' i' j h hi' hl'
      have hjr : j ≠ r := by
        intro ej
        subst ej
        rcases hrr with ⟨h1, h2⟩ | ⟨i2, h1, h2⟩
        · rw [h2] at h3
          simp only [Prod.mk.injEq, true_and, and_true] at h3
          exact e ⟨by rw [← h3.1, h1], h3.2.symm⟩
        · rw [h2] at h3; simp at h3
      rw [S1 j hjr]; exact h3
  · intro j s' i' k h
    by_cases e : j = r
    · subst e; rw [S0] at h; simp at h
    · rw [S1 j e] at h
      obtain ⟨h1, h2, h3, h4⟩ := v.md2 j s' i' k h
      refine ⟨h1, h2, h3, ?_⟩
      rw [W _ _ h2, if_neg (fun x => by rw [x.1, x.2, hl] at h4; simp only [Option.some.injEq] at h4; exact e h4.symm)]; exact h4
  · intro m s' i' k j h hk hl'
    by_cases e : m = r
    · subst e; rw [S0] at h; simp at h
    · rw [S1 m e] at h
      rw [W _ _ hk] at hl'
      by_cases e2 : m = p ∧ k = i
      · rw [if_pos e2, lead0] at hl'; cases hl'
      · rw [if_neg e2] at hl'
        have h3 := v.ls1 m s' i' k j h hk hl'
        have hjr : j ≠ r := by
          intro ej
          subst ej
          rcases hrr with ⟨h1, h2⟩ | ⟨i2, h1, h2⟩
          · rw [h2] at h3; simp at h3
          · rw [h2] at h3
            simp only [Prod.mk.injEq, true_and] at h3
            obtain ⟨rfl, rfl, rfl⟩ := h3
            -- the same table in the middle
            obtain ⟨_, _, _, q1⟩ := v.md2 p _ _ _ h1
            obtain ⟨_, _, _, q2⟩ := v.md2 m _ _ _ h
            rw [q1] at q2
            simp only [Option.some.injEq] at q2
            exact e2 ⟨q2.symm, rfl⟩
        rw [S1 j hjr]; exact h3
  · intro j s' i' k h
    by_cases e : j = r
    · subst e; rw [S0] at h; simp at h
    · rw [S1 j e] at h
      obtain ⟨h1, m, h2, h3⟩ := v.ls2 j s' i' k h
      have hmr : m ≠ r := by
        intro em
        subst em
        rw [hr3] at h2; simp at h2
      refine ⟨h1, m, by rw [S1 m hmr]; exact h2, ?_⟩
      rw [W _ _ h1, if_neg (fun x => by rw [x.1, x.2, hl] at h3; simp only [Option.some.injEq] at h3; exact e h3.symm)]; exact h3
  · intro s' i' h hi' hl'
    rw [W _ _ hi'] at hl' ⊢
    by_cases e : rt s' = p ∧ i' = i
    · rw [if_pos e]
    · rw [if_neg e] at hl' ⊢
      exact v.z2 s' i' h hi' hl'
  · intro m s' i' k h hk hl'
    rw [W _ _ hk] at hl' ⊢
    by_cases e2 : m = p ∧ k = i
    · rw [if_pos e2]
    · rw [if_neg e2] at hl' ⊢
      by_cases e : m = r
      · subst e; rw [S0] at h; simp at h
      · rw [S1 m e] at h
        exact v.z1 m s' i' k h hk hl'
  · intro l s' i' k t h ht hne
    by_cases e : l = r
    · subst e; rw [S0] at h; simp at h
    · rw [S1 l e] at h
      rw [W _ _ ht] at hne ⊢
      by_cases e2 : l = p ∧ t = i
      · rw [if_pos e2] at hne; exact absurd rfl hne
      · rw [if_neg e2] at hne ⊢
        exact v.lf l s' i' k t h ht hne
  · intro j
    by_cases e : j = r
    · subst e; rw [S0]; simp
    · rw [S1 j e]; exact v.kd j
  · intro s' a b c h hne ha hb hc
    unfold pgW
    have hrp : rt s' ≠ p := fun e => by have := v.rt1 s' h; rw [e, hp2] at this; simp at this
    rw [W _ _ ha, if_neg (fun e => hrp e.1)]
    cases hm : lead n (wat ws (rt s') a) with
    | none => rfl
    | some m =>
      have rm := v.md1 _ _ _ h ha hm
      have hmp : m ≠ p := fun e => by rw [e, hp2] at rm; simp only [Prod.mk.injEq, true_and] at rm; exact hne rm.1.symm
      simp only
      rw [W _ _ hb, if_neg (fun e => hmp e.1)]
      cases hl2 : lead n (wat ws m b) with
      | none => rfl
      | some l =>
        have rl := v.ls1 _ _ _ _ _ rm hb hl2
        simp only
        rw [W _ _ hc, if_neg (fun x => by rw [x.1] at rl; rw [rl] at hpk; simp at hpk)]
/-- A lowest table less, whatever it has. -/
theorem Wz.give3 (v : Wz n L rt nt ro ex ws ps) {p i r s i2 : Nat} (hs : L s = true) (hi : i < 512) (hl : lead n (wat ws p i) = some r) (hp2 : ro p = (2, s, i2, 0))
    (hex : ∀ j, ex j → j = p) :
    ∃ (ws' ps' : List Int), giveS n p i (ws, ps, nt s) = (ws', ps', nt s - 1) ∧ p ≠ r ∧ (∀ j t, t < 512 → wat ws' j t = if j = p ∧ t = i then 0 else wat ws j t) ∧
      Wz n L rt (setN nt s (nt s - 1)) (setR ro r (0, 0, 0, 0)) (fun j => j = p) ws' ps' ∧ setR ro r (0, 0, 0, 0) p = (2, s, i2, 0) ∧
      (∀ s' a b c, L s' = true → s' ≠ s → a < 512 → b < 512 → c < 512 → pgW n ws' (rt s') a b c = pgW n ws (rt s') a b c) := by
  obtain ⟨iv, h0, h1, hr, hpr, W, P⟩ := v.iv.detach3 hs hi hl hp2
  have hpp := (lead_some hl).2
  have tb := v.iv.tb r hr h0
  have hg : sGive ps n (ppn (wat ws p i)) = (0, set5 ps r 0 0 0 0 0) := by
    unfold sGive
    rw [hpp, if_neg (fun h => h ⟨by omega, by omega⟩), Int.toNat_natCast, if_neg (by rw [tb.1]; decide), if_neg (fun h => h tb.2)]
  refine ⟨ws.set (p * 512 + i) 0, set5 ps r 0 0 0 0 0, by unfold giveS; rw [hg], hpr, W, ⟨iv, ?_, ?_⟩, by unfold setR; rw [if_neg hpr]; exact hp2, P⟩
  · intro j hj hne
    unfold setR at hj
    by_cases e : j = r
    · rw [if_pos e] at hj; simp at hj
    · rw [if_neg e] at hj
      obtain ⟨t, ht, hw⟩ := v.nb j hj (fun x => hne (hex j x))
      exact ⟨t, ht, by rw [W _ _ ht, if_neg (fun x => hne x.1)]; exact hw⟩
  · intro s' hs'
    rw [cntR_set, if_pos hr, if_neg (fun x => x.1 rfl)]
    unfold setN
    by_cases e : s' = s
    · subst e
      rw [if_pos rfl, if_pos ⟨h0, h1⟩, v.ct _ hs]
      omega
    · rw [if_neg e, if_neg (fun x => e (x.2.symm.trans h1)), v.ct _ hs']
      omega
def delL (L : Nat → Bool) (s : Nat) : Nat → Bool := fun j => if j = s then false else L j
/-- A space less, the root of which leads to nothing. -/
theorem Wz.close (v : Wz n L rt nt ro noEx ws ps) {s : Nat} (hs : L s = true) (hz : ∀ i, i < 512 → wat ws (rt s) i = 0) :
    ∃ ps', sGive ps n (rt s) = (0, ps') ∧ Wd n (delL L s) rt nt ws ps' := by
  have V := v.iv
  have hr := V.rlt hs
  have r1 := V.rt1 s hs
  have tb := V.tb (rt s) hr (by rw [r1]; simp)
  refine ⟨set5 ps (rt s) 0 0 0 0 0, ?_, ?_⟩
  · unfold sGive
    rw [if_neg (fun h => h ⟨by omega, by omega⟩), Int.toNat_natCast, if_neg (by rw [tb.1]; decide), if_neg (fun h => h tb.2)]
  obtain ⟨r, hrr⟩ : ∃ r, r = rt s := ⟨_, rfl⟩
  rw [← hrr] at hr r1 tb hz ⊢
  have hb5 : 5 * r + 5 ≤ ps.length := by rw [V.len]; omega
  have S0 : setR ro r (0, 0, 0, 0) r = (0, 0, 0, 0) := by unfold setR; rw [if_pos rfl]
  have S1 : ∀ j, j ≠ r → setR ro r (0, 0, 0, 0) j = ro j := fun j h => by unfold setR; rw [if_neg h]
  have LD : ∀ t, delL L s t = true → t ≠ s ∧ L t = true := fun t h => by
    unfold delL at h
    by_cases e : t = s
    · rw [if_pos e] at h; cases h
    · rw [if_neg e] at h; exact ⟨e, h⟩
  have L1 : ∀ t, t ≠ s → L t = true → delL L s t = true := fun t e h => by unfold delL; rw [if_neg e]; exact h
  -- no table of the space but the root
  have no2 : ∀ j i k, ro j = (2, s, i, k) → False := fun j i k h => by
    obtain ⟨_, h2, _, h4⟩ := V.md2 j s i k h
    rw [← hrr, hz i h2, lead0] at h4; cases h4
  have no3 : ∀ j i k, ro j = (3, s, i, k) → False := fun j i k h => by
    obtain ⟨_, m, hm, _⟩ := V.ls2 j s i k h
    exact no2 m i 0 hm
  have nr2 : ∀ j t i k, ro j = (2, t, i, k) → j ≠ r ∧ t ≠ s := fun j t i k h => ⟨fun e => by rw [e, r1] at h; simp at h, fun e => by subst e; exact no2 _ _ _ h⟩
  have nr3 : ∀ j t i k, ro j = (3, t, i, k) → j ≠ r ∧ t ≠ s := fun j t i k h => ⟨fun e => by rw [e, r1] at h; simp at h, fun e => by subst e; exact no3 _ _ _ h⟩
  refine ⟨setR ro r (0, 0, 0, 0), ⟨V.ok, V.gf.set5 V.len hr (by omega) (fun _ => ⟨rfl, rfl⟩), by rw [set5_len]; exact V.len, ?_, ?_, ?_, ?_, ?_, ?_, ?_, ?_, ?_, ?_, ?_, ?_, ?_⟩, ?_, ?_⟩
  · intro j hj h0
    rw [set5_z5 _ _ _ _ _ _ _ _ hb5]
    by_cases e : j = r
    · rw [if_pos e]; rfl
    · rw [S1 j e] at h0
      rw [if_neg e]; exact V.fr j hj h0
  · intro j hj h0
    by_cases e : j = r
    · subst e; rw [S0] at h0; exact absurd rfl h0
    · rw [S1 j e] at h0
      have g0 : ∀ t, t < 5 → (set5 ps r 0 0 0 0 0).getD (5 * j + t) 0 = ps.getD (5 * j + t) 0 := fun t ht => by rw [set5_get ps r j t 0 0 0 0 0 hb5 ht, if_neg e]
      have g00 := g0 0 (by omega)
      rw [Nat.add_zero] at g00
      rw [g00, g0 3 (by omega), g0 4 (by omega)]; exact V.tb j hj h0
  · intro j hj
    rw [S1 j (by omega)]; exact V.out j hj
  · intro t h
    obtain ⟨e, h⟩ := LD t h
    have h1 := V.rt1 t h
    rw [S1 _ (fun x => by rw [x, r1] at h1; simp only [Prod.mk.injEq, true_and, and_true] at h1; exact e h1.symm)]; exact h1
  · intro j t i k h
    by_cases e : j = r
    · subst e; rw [S0] at h; simp at h
    · rw [S1 j e] at h
      obtain ⟨h1, h2, h3⟩ := V.rt2 j t i k h
      exact ⟨L1 t (fun x => by subst x; exact e (h2.symm.trans hrr.symm)) h1, h2, h3⟩
  · intro t i j h hi hl
    obtain ⟨e, h⟩ := LD t h
    have := V.md1 t i j h hi hl
    rw [S1 j (nr2 _ _ _ _ this).1]; exact this
  · intro j t i k h
    by_cases e : j = r
    · subst e; rw [S0] at h; simp at h
    · rw [S1 j e] at h
      obtain ⟨h1, h2⟩ := V.md2 j t i k h
      exact ⟨L1 t (nr2 _ _ _ _ h).2 h1, h2⟩
  · intro m t i k j h hk hl
    by_cases e : m = r
    · subst e; rw [S0] at h; simp at h
    · rw [S1 m e] at h
      have := V.ls1 m t i k j h hk hl
      rw [S1 j (nr3 _ _ _ _ this).1]; exact this
  · intro j t i k h
    by_cases e : j = r
    · subst e; rw [S0] at h; simp at h
    · rw [S1 j e] at h
      obtain ⟨h1, m, h2, h3⟩ := V.ls2 j t i k h
      exact ⟨h1, m, by rw [S1 m (nr2 _ _ _ _ h2).1]; exact h2, h3⟩
  · intro t i h hi hl
    exact V.z2 t i (LD t h).2 hi hl
  · intro m t i k h hk hl
    by_cases e : m = r
    · subst e; rw [S0] at h; simp at h
    · rw [S1 m e] at h
      exact V.z1 m t i k h hk hl
  · intro l t i k u h hu hne
    by_cases e : l = r
    · subst e; rw [S0] at h; simp at h
    · rw [S1 l e] at h
      exact V.lf l t i k u h hu hne
  · intro j
    by_cases e : j = r
    · subst e; rw [S0]; simp
    · rw [S1 j e]; exact V.kd j
  · intro m h _
    by_cases e : m = r
    · subst e; rw [S0] at h; simp at h
    · rw [S1 m e] at h
      exact v.nb m h (fun x => x)
  · intro t h
    obtain ⟨e, h⟩ := LD t h
    rw [cntR_set, if_pos hr, if_neg (fun x => x.1 rfl), if_neg (fun x => e (by rw [r1] at x; exact x.2.symm)), v.ct t h]; omega
end
/-- The world with one space less. -/
def WK.del (K : WK) (s : Nat) : WK := { K with L := delL K.L s }
def Zc (h : H) (b : Nat) : Prop := h[b]? = some (.cells #[.pointer none, .pointer none, .int .i64 0, .int .i64 0, .int .i64 0] 195)
theorem Z188 {h : H} {b : Nat} {Q : Bool → H → Prop} (z : Zc h b) (q : Q false h) : F188 (some ⟨b, 0, none⟩) Q h := by
  rw [F188_eq]
  unfold B188
  simp only [Option.isNone_some, Bool.not_false, Br_true, NilP, add_mk, Nat.add_zero, Nat.zero_add]
  exact Ld_i (x := 0) (by rw [hcell_blk z]; rfl) q
theorem Z132 {h : H} {b : Nat} {Q : Int → H → Prop} (z : Zc h b) (q : Q 0 h) : F132 (some ⟨b, 0, none⟩) Q h := by
  rw [F132_eq]
  refine Z188 z ?_
  simp only [Bool.not_false, Br_true]
  exact q
/-- Frames of a space; a pool without some frames. -/
def ownB (ro : Nat → Role) (s : Nat) : Nat → Bool := fun j => decide ((ro j).1 ≠ 0 ∧ (ro j).2.1 = s)
def PF (n : Nat) (ps : List Int) (F : Nat → Bool) (ps' : List Int) : Prop := ps'.length = ps.length ∧ ∀ j t, j < n → t < 5 → ps'.getD (5 * j + t) 0 = if F j = true then 0 else ps.getD (5 * j + t) 0
theorem PF.uniq {n : Nat} {ps : List Int} {F : Nat → Bool} {p1 p2 : List Int} (hl : ps.length = 5 * n) (a : PF n ps F p1) (b : PF n ps F p2) : p1 = p2 := by
  refine ext_getD (a.1.trans b.1.symm) fun k => ?_
  by_cases h : k < 5 * n
  · have e : k = 5 * (k / 5) + k % 5 := by omega
    rw [e, a.2 _ _ (by omega) (by omega), b.2 _ _ (by omega) (by omega)]
  · rw [List.getD_eq_getElem?_getD, List.getD_eq_getElem?_getD, List.getElem?_eq_none (by have := a.1; omega), List.getElem?_eq_none (by have := b.1; omega)]
theorem z5_all {ps : List Int} {j : Nat} (h : z5 ps j = true) : ∀ t, t < 5 → ps.getD (5 * j + t) 0 = 0 := by
  intro t ht
  unfold z5 at h
  simp only [Bool.and_eq_true, beq_iff_eq, and_true] at h
  have : t = 0 ∨ t = 1 ∨ t = 2 ∨ t = 3 ∨ t = 4 := by omega
  rcases this with rfl | rfl | rfl | rfl | rfl
  · exact h.1
  · exact h.2.1
  · exact h.2.2.1
  · exact h.2.2.2.1
  · exact h.2.2.2.2
theorem sGive_tab {n : Nat} {L : Nat → Bool} {rt : Nat → Nat} {ro : Nat → Role} {ws ps : List Int} (V : Inv0 n L rt ro ws ps) {r : Nat} (h0 : (ro r).1 ≠ 0) : sGive ps n (r : Int) = (0, set5 ps r 0 0 0 0 0) := by
  have hr := V.lt h0
  have tb := V.tb r hr h0
  unfold sGive
  rw [if_neg (fun h => h ⟨by omega, by omega⟩), Int.toNat_natCast, if_neg (by rw [tb.1]; decide), if_neg (fun h => h tb.2)]
theorem giveS_tab {n : Nat} {L : Nat → Bool} {rt : Nat → Nat} {ro : Nat → Role} {ws ps : List Int} (V : Inv0 n L rt ro ws ps) {p i r : Nat} {x : Int} (hl : lead n (wat ws p i) = some r) (h0 : (ro r).1 ≠ 0) :
    giveS n p i (ws, ps, x) = (ws.set (p * 512 + i) 0, set5 ps r 0 0 0 0 0, x - 1) := by
  unfold giveS
  simp only
  rw [(lead_some hl).2, sGive_tab V h0]
/-- Where Close's loops stand. -/
structure CloseI (K : WK) (h h' : H) (s i : Nat) (ws0 : List Int) (nt0 : Nat → Int) (ro0 : Nat → Role) (ps0 : List Int) (ex : Nat → Prop) (ro : Nat → Role) (nt : Nat → Int) (ws ps : List Int) : Prop where
  k : KL h (L3b K.bf K.pf (K.bx s)) h'
  w : W1 h' K.bm K.bf K.bp K.pf (K.bx s) K.n (K.ai s) (K.rt s) (ws, ps, nt s)
  v : Wz K.n K.L K.rt nt ro ex ws ps
  z : ∀ i', i' < i → wat ws (K.rt s) i' = 0
  o : ∀ t, t ≠ s → nt t = nt0 t
  p : ∀ s' a b c, K.L s' = true → s' ≠ s → a < 512 → b < 512 → c < 512 → pgW K.n ws (K.rt s') a b c = pgW K.n ws0 (K.rt s') a b c
  rr : ∀ j, ro j = ro0 j ∨ ((ro j).1 = 0 ∧ (ro0 j).2.1 = s ∧ (ro0 j).1 ≠ 0)
  ff : ∀ j t, j < K.n → t < 5 → (ro j).1 ≠ 0 → ps.getD (5 * j + t) 0 = ps0.getD (5 * j + t) 0
  mm : ∀ j t, t < 512 → (ro0 j).1 ≠ 0 → (ro0 j).2.1 ≠ s → wat ws j t = wat ws0 j t
/-- A step of Close: the roles, frames and words. -/
theorem CloseI.step {K : WK} {h h' : H} {s i : Nat} {ws0 : List Int} {nt0 : Nat → Int} {ro0 : Nat → Role} {ps0 : List Int} {ex : Nat → Prop} {ro : Nat → Role} {nt : Nat → Int} {ws ps : List Int}
    (C : CloseI K h h' s i ws0 nt0 ro0 ps0 ex ro nt ws ps) {p t r : Nat} {x : Int} {ws' ps' : List Int} {y : Int} (hl : lead K.n (wat ws p t) = some r) (h0 : (ro r).1 ≠ 0) (h1 : (ro r).2.1 = s)
    (hg : giveS K.n p t (ws, ps, x) = (ws', ps', y)) (hp : (ro p).1 ≠ 0 ∧ (ro p).2.1 = s) (W : ∀ j u, u < 512 → wat ws' j u = if j = p ∧ u = t then 0 else wat ws j u) :
    (∀ j, setR ro r (0, 0, 0, 0) j = ro0 j ∨ ((setR ro r (0, 0, 0, 0) j).1 = 0 ∧ (ro0 j).2.1 = s ∧ (ro0 j).1 ≠ 0)) ∧
    (∀ j t, j < K.n → t < 5 → (setR ro r (0, 0, 0, 0) j).1 ≠ 0 → ps'.getD (5 * j + t) 0 = ps0.getD (5 * j + t) 0) ∧
    (∀ j t, t < 512 → (ro0 j).1 ≠ 0 → (ro0 j).2.1 ≠ s → wat ws' j t = wat ws0 j t) := by
  have V := C.v.iv
  rw [giveS_tab V hl h0] at hg
  simp only [Prod.mk.injEq] at hg
  obtain ⟨_, rfl, _⟩ := hg
  have hr := V.lt h0
  have hb5 : 5 * r + 5 ≤ ps.length := by rw [V.len]; omega
  have same : ∀ j, (ro j).1 ≠ 0 → ro j = ro0 j := fun j hj => by
    rcases C.rr j with e | e
    · exact e
    · exact absurd e.1 hj
  refine ⟨fun j => ?_, fun j u hj hu hj0 => ?_, fun j u hu hj0 hjs => ?_⟩
  · unfold setR
    by_cases e : j = r
    · rw [if_pos e]
      have := same r h0
      exact .inr ⟨rfl, by rw [e, ← this]; exact h1, by rw [e, ← this]; exact h0⟩
    · rw [if_neg e]; exact C.rr j
  · have hne : j ≠ r := fun e => by unfold setR at hj0; rw [if_pos e] at hj0; exact hj0 rfl
    have : setR ro r (0, 0, 0, 0) j = ro j := by unfold setR; rw [if_neg hne]
    rw [this] at hj0
    rw [set5_get ps r j u 0 0 0 0 0 hb5 hu, if_neg hne]; exact C.ff j u hj hu hj0
  · rw [W j u hu, if_neg (fun e => hjs (by rw [e.1, ← same p hp.1]; exact hp.2))]; exact C.mm j u hu hj0 hjs
theorem Q139x {K : WK} {h0 h : H} {nt : Nat → Int} {ws ps : List Int} {s : Nat} {ro0 : Nat → Role} {Q : Int → H → Prop} (w : WH K h0 h nt ws ps) (hs : K.L s = true) (v0 : Wz K.n K.L K.rt nt ro0 noEx ws ps)
    (q : ∀ h' nt' ws' ps', WH (K.del s) h0 h' nt' ws' ps' → (∀ t, t ≠ s → nt' t = nt t) → (∀ s1 u, K.L s1 = true → s1 ≠ s → pgv K.n ws' (K.rt s1) u = pgv K.n ws (K.rt s1) u) → Zc h' (K.bx s) →
      KL h (L3b K.bf K.pf (K.bx s)) h' → PF K.n ps (ownB ro0 s) ps' → (∀ j t, t < 512 → (ro0 j).1 ≠ 0 → (ro0 j).2.1 ≠ s → wat ws' j t = wat ws j t) → Q (nt s) h') : F139 (some ⟨K.bx s, 0, none⟩) Q h := by
  rw [F139_eq]
  unfold B139
  have hpos := w.cnt hs
  refine P188 (w.w1 hs) ?_
  rw [decide_eq_true (show nt s > 0 from hpos.1)]
  simp only [Bool.not_true, Br_false, NilP, add_mk, Nat.add_zero, Nat.zero_add]
  refine Ld_i (w.w1 hs).c ?_
  simp only [LetI]
  refine Loop_intro (σ := Int × Unit) (x := (0, ())) (fun c z h' => ∃ (i : Nat) (ro : Nat → Role) (nt1 : Nat → Int) (ws1 ps1 : List Int), z.1 = (i : Int) ∧ c = 512 - i ∧ i ≤ 512 ∧ CloseI K h h' s i ws nt ro0 ps noEx ro nt1 ws1 ps1) 512 ?_ ?_
  · exact ⟨0, ro0, nt, ws, ps, rfl, rfl, by omega, KL.refl _ _, w.w1 hs, v0, fun i' hi' => by omega, fun _ _ => rfl, fun _ _ _ _ _ _ _ _ _ => rfl, fun _ => .inl rfl, fun _ _ _ _ _ => rfl, fun _ _ _ _ _ => rfl⟩
  rintro c ⟨zz, u⟩ h1 ⟨i, ro, nt1, ws1, ps1, hi, hc, hi5, C⟩
  simp only at hi
  subst hi
  refine Br_dec (fun hlt => ?_) fun hge => ?_
  · have hlt : i < 512 := by simp only at hlt; omega
    have hwi : IntKind.wrap .i64 ((i : Int) + 1) = ((i + 1 : Nat) : Int) := by rw [wrap_i64'] <;> omega
    refine Ld_i C.w.r (P189 C.w (C.v.iv.rlt hs) hlt fun h2 k2 => ?_)
    simp only
    cases hm : lead K.n (wat ws1 (K.rt s) i) with
    | none =>
      simp only [Option.isSome_none, Bool.not_false, Br_true]
      refine ⟨512 - (i + 1), by omega, i + 1, ro, nt1, ws1, ps1, hwi, rfl, by omega, C.k.trans k2.kl, C.w.kept k2, C.v, fun i' hi' => ?_, C.o, C.p, C.rr, C.ff, C.mm⟩
      by_cases e : i' = i
      · subst e; exact C.v.iv.z2 s i' hs hlt hm
      · exact C.z i' (by omega)
    | some m =>
      obtain ⟨_, hp⟩ := lead_some hm
      have hmn := lead_lt hm
      simp only [Option.isSome_some, Bool.not_true, Br_false]
      rw [hp]
      refine Loop_intro (σ := Int × Unit) (x := (0, ())) (fun c z h' => ∃ (t : Nat) (ro : Nat → Role) (nt1 : Nat → Int) (ws1 ps1 : List Int), z.1 = (t : Int) ∧ c = 512 - t ∧ t ≤ 512 ∧ CloseI K h h' s i ws nt ro0 ps (fun j => j = m) ro nt1 ws1 ps1 ∧
        lead K.n (wat ws1 (K.rt s) i) = some m ∧ ∀ t', t' < t → wat ws1 m t' = 0) 512 ⟨0, ro, nt1, ws1, ps1, rfl, rfl, by omega, ⟨C.k.trans k2.kl, C.w.kept k2, C.v.ex' fun j _ hj _ => False.elim hj, C.z, C.o, C.p, C.rr, C.ff, C.mm⟩, hm, fun t' ht' => by omega⟩ ?_
      rintro c3 ⟨zz3, u3⟩ h3 ⟨t, ro3, nt3, ws3, ps3, ht, hc3, ht5, C3, hm3, hz3⟩
      simp only at ht
      subst ht
      have rm3 := C3.v.iv.md1 _ _ _ hs hlt hm3
      have hpos3 : 1 ≤ nt3 s ∧ nt3 s ≤ 256 := by
        have h1 := C3.v.ct s hs
        have h2 := cntR_range ro3 s K.n
        have h3 := w.nle
        have h4 : 1 ≤ cntR ro3 s K.n := by
          have : ∀ k, m < k → 1 ≤ cntR ro3 s k := by
            intro k
            induction k with
            | zero => intro h; omega
            | succ k ih =>
              intro h
              simp only [cntR]
              have hc := (cntR_range ro3 s k).1
              by_cases e : m = k
              · rw [if_pos (by rw [← e, rm3]; simp)]; omega
              · have := ih (by omega)
                by_cases e2 : (ro3 k).1 ≠ 0 ∧ (ro3 k).2.1 = s
                · rw [if_pos e2]; omega
                · rw [if_neg e2]; omega
          exact this K.n hmn
        omega
      refine Br_dec (fun hlt3 => ?_) fun hge3 => ?_
      · have hlt3 : t < 512 := by simp only at hlt3; omega
        have hwt : IntKind.wrap .i64 ((t : Int) + 1) = ((t + 1 : Nat) : Int) := by rw [wrap_i64'] <;> omega
        refine P189 C3.w hmn hlt3 fun h4 k4 => ?_
        simp only
        have w4 := C3.w.kept k4
        cases hl : lead K.n (wat ws3 m t) with
        | none =>
          simp only [Option.isSome_none, Br_false]
          refine ⟨512 - (t + 1), by omega, t + 1, ro3, nt3, ws3, ps3, hwt, rfl, by omega, ⟨C3.k.trans k4.kl, w4, C3.v, C3.z, C3.o, C3.p, C3.rr, C3.ff, C3.mm⟩, hm3, fun t' ht' => ?_⟩
          by_cases e : t' = t
          · subst e; exact C3.v.iv.z1 m s i t' rm3 hlt3 hl
          · exact hz3 t' (by omega)
        | some l =>
          simp only [Option.isSome_some, Br_true]
          obtain ⟨ws5, ps5, hg, hpr, W, v5, rm5, P5⟩ := C3.v.give3 hs hlt3 hl rm3 (fun j hj => hj)
          refine P191 w4 hmn hlt3 (by simp only; omega) fun h5 k5 w5 => ?_
          rw [hg] at w5
          have rts : K.rt s ≠ m := fun e => by have := C3.v.iv.rt1 s hs; rw [e, rm3] at this; simp at this
          have rl3 := C3.v.iv.ls1 _ _ _ _ _ rm3 hlt3 hl
          obtain ⟨X1, X2, X3⟩ := C3.step hl (by rw [rl3]; simp) (by rw [rl3]) hg ⟨by rw [rm3]; simp, by rw [rm3]⟩ W
          refine ⟨512 - (t + 1), by omega, t + 1, _, _, ws5, ps5, hwt, rfl, by omega, ⟨(C3.k.trans k4.kl).trans k5, by rw [setN_at]; exact w5, v5, fun i' hi' => ?_, fun t ht => ?_, fun s' a b c h1 h2 ha hb hc => ?_, X1, X2, X3⟩, ?_, fun t' ht' => ?_⟩
          · rw [W _ _ (by omega), if_neg (fun e => rts e.1)]; exact C3.z i' hi'
          · have : setN nt3 s (nt3 s - 1) t = nt3 t := by unfold setN; rw [if_neg ht]
            rw [this]; exact C3.o t ht
          · rw [P5 s' a b c h1 h2 ha hb hc]; exact C3.p s' a b c h1 h2 ha hb hc
          · rw [W _ _ hlt, if_neg (fun e => rts e.1)]; exact hm3
          · rw [W _ _ (by omega)]
            by_cases e : t' = t
            · rw [if_pos ⟨rfl, e⟩]
            · rw [if_neg (fun x => e x.2)]; exact hz3 t' (by omega)
      · have : t = 512 := by simp only at hge3; omega
        subst this
        obtain ⟨ws5, ps5, hg, hpr, W, v5, _, _, P5⟩ := C3.v.give hs hlt hm3 hz3 (fun j hj => hj) (.inl rfl)
        refine Ld_i C3.w.r (P191 C3.w (C3.v.iv.rlt hs) hlt (by simp only; omega) fun h5 k5 w5 => ?_)
        rw [hg] at w5
        have r13 := C3.v.iv.rt1 s hs
        obtain ⟨X1, X2, X3⟩ := C3.step hm3 (by rw [rm3]; simp) (by rw [rm3]) hg ⟨by rw [r13]; simp, by rw [r13]⟩ W
        refine ⟨512 - (i + 1), by omega, i + 1, _, _, ws5, ps5, hwi, rfl, by omega, ⟨C3.k.trans k5, by rw [setN_at]; exact w5, v5.ex' fun j hj he _ => ?_, fun i' hi' => ?_, fun t ht => ?_, fun s' a b c h1 h2 ha hb hc => ?_, X1, X2, X3⟩⟩
        · have he : j = K.rt s := he
          have := v5.iv.rt1 s hs
          rw [he, this] at hj
          simp at hj
        · rw [W _ _ (by omega)]
          by_cases e : i' = i
          · rw [if_pos ⟨rfl, e⟩]
          · rw [if_neg (fun x => e x.2)]; exact C3.z i' (by omega)
        · have : setN nt3 s (nt3 s - 1) t = nt3 t := by unfold setN; rw [if_neg ht]
          rw [this]; exact C3.o t ht
        · rw [P5 s' a b c h1 ha hb hc]; exact C3.p s' a b c h1 h2 ha hb hc
  · have : i = 512 := by simp only at hge; omega
    subst this
    obtain ⟨ps2, hg, wd⟩ := C.v.close hs C.z
    have pf : PF K.n ps (ownB ro0 s) ps2 := by
      have r1 := C.v.iv.rt1 s hs
      have V0 := v0.iv
      have r0 := V0.rt1 s hs
      have hg2 := sGive_tab C.v.iv (r := K.rt s) (by rw [r1]; simp)
      rw [hg] at hg2
      simp only [Prod.mk.injEq, true_and] at hg2
      have hr := C.v.iv.rlt hs
      have hb5 : 5 * K.rt s + 5 ≤ ps1.length := by rw [C.v.iv.len]; omega
      have no2 : ∀ j i k, ro j = (2, s, i, k) → False := fun j i k h => by
        obtain ⟨_, h2, _, h4⟩ := C.v.iv.md2 j s i k h
        rw [C.z i h2, lead0] at h4; cases h4
      refine ⟨by rw [hg2, set5_len, C.v.iv.len, V0.len], fun j t hj ht => ?_⟩
      rw [hg2, set5_get ps1 (K.rt s) j t 0 0 0 0 0 hb5 ht]
      by_cases e : j = K.rt s
      · rw [if_pos e, if_pos (by unfold ownB; rw [e, r0]; simp)]
        have : t = 0 ∨ t = 1 ∨ t = 2 ∨ t = 3 ∨ t = 4 := by omega
        rcases this with rfl | rfl | rfl | rfl | rfl <;> rfl
      · rw [if_neg e]
        by_cases hown : (ro0 j).1 ≠ 0 ∧ (ro0 j).2.1 = s
        · rw [if_pos (by unfold ownB; exact decide_eq_true hown)]
          -- no other table of the space is left
          have hz : (ro j).1 = 0 := by
            rcases C.rr j with ee | ee
            · exfalso
              have h3 := C.v.iv.kd j
              obtain ⟨⟨k, s', i', t'⟩, he⟩ : ∃ x, ro j = x := ⟨_, rfl⟩
              rw [← ee, he] at hown
              rw [he] at h3
              simp only at hown h3
              obtain ⟨hk, rfl⟩ := hown
              have : k = 1 ∨ k = 2 ∨ k = 3 := by omega
              rcases this with rfl | rfl | rfl
              · exact e (C.v.iv.rt2 _ _ _ _ he).2.1.symm
              · exact no2 _ _ _ he
              · obtain ⟨_, m, hm, _⟩ := C.v.iv.ls2 _ _ _ _ he
                exact no2 _ _ _ hm
            · exact ee.1
          exact z5_all (C.v.iv.fr j hj hz) t ht
        · rw [if_neg (by unfold ownB; simp only [decide_eq_true_eq]; exact hown)]
          have ee : ro j = ro0 j := by
            rcases C.rr j with ee | ee
            · exact ee
            · exact absurd ⟨ee.2.2, ee.2.1⟩ hown
          by_cases h0 : (ro j).1 = 0
          · rw [z5_all (C.v.iv.fr j hj h0) t ht, z5_all (V0.fr j hj (by rw [← ee]; exact h0)) t ht]
          · exact C.ff j t hj ht h0
    refine Ld_p C.w.p (Ld_i C.w.r (X77 C.w.pw.pm fun e ys h2 hs2 u2 m2 => ?_))
    rw [hg] at hs2
    simp only [Prod.mk.injEq] at hs2
    obtain ⟨rfl, rfl⟩ := hs2
    obtain ⟨_, wd'⟩ := id wd
    have w2 := C.w.pool u2 m2 wd'.iv.gf
    have hnx := w.nx s hs
    refine St_intro w2.xm.cells (by simp) fun h3 u3 e3 => St_intro e3 (by simp) fun h4 u4 e4 => St_intro e4 (by simp) fun h5 u5 e5 => St_intro e5 (by simp) fun h6 u6 e6 => St_intro e6 (by simp) fun h7 u7 e7 => ?_
    have U : KL h2 [K.bx s] h7 := (((u3.kl (by simp)).trans (u4.kl (by simp))).trans ((u5.kl (by simp)).trans (u6.kl (by simp)))).trans (u7.kl (by simp))
    have k2 : KL h (L3b K.bf K.pf (K.bx s)) h2 := C.k.trans (u2.kl (by simp))
    have k7 : KL h (L3b K.bf K.pf (K.bx s)) h7 := k2.trans (U.mono (by simp))
    have pw7 : PW h7 K.bm K.bf K.bp K.pf K.n ws1 ps2 := by
      refine ⟨w2.pw.mw.kl U (by simpa using Ne.symm hnx.1) (by simpa using Ne.symm hnx.2.1), ?_, w2.pw.gf, w2.pw.e1, w2.pw.e2, w2.pw.e3⟩
      exact (w2.pw.pm.kbo (b := K.bx s) ⟨U.1, fun i hi hne => U.2 i hi (by simpa using hne)⟩ (Ne.symm hnx.2.2.1) (Ne.symm hnx.2.2.2))
    have LD : ∀ t, (K.del s).L t = true → t ≠ s ∧ K.L t = true := fun t h => by
      have h : delL K.L s t = true := h
      unfold delL at h
      by_cases e : t = s
      · rw [if_pos e] at h; cases h
      · rw [if_neg e] at h; exact ⟨e, h⟩
    refine q h7 nt1 ws1 ps2 ⟨pw7, wd, fun t ht => ?_, fun t ht => w.nx t (LD t ht).2, fun t u ht hu => w.ij t u (LD t ht).2 (LD u hu).2, k7.kept w.kp ?_, w.lo, fun t ht => w.lx t (LD t ht).2⟩ C.o ?_ e7 k7 pf C.mm
    · obtain ⟨e, ht⟩ := LD t ht
      rw [C.o t e]
      have hn := w.nx t ht
      refine ⟨k7.blk (w.xm t ht).cells ?_⟩
      simp only [L3b, List.mem_cons, List.not_mem_nil, or_false, not_or]
      exact ⟨hn.2.1, hn.2.2.2, fun x => e (w.ij t s ht hs x)⟩
    · intro b hb
      simp only [L3b, List.mem_cons, List.not_mem_nil, or_false] at hb
      have := w.lo
      have := w.lx s hs
      rcases hb with rfl | rfl | rfl <;> omega
    · intro s1 u h1 h2
      unfold pgv
      obtain ⟨l2, l1, l0⟩ := ix_lt u
      rw [C.p s1 _ _ _ h1 h2 l2 l1 l0]
theorem Q139 {K : WK} {h0 h : H} {nt : Nat → Int} {ws ps : List Int} {s : Nat} {Q : Int → H → Prop} (w : WH K h0 h nt ws ps) (hs : K.L s = true)
    (q : ∀ h' nt' ws' ps', WH (K.del s) h0 h' nt' ws' ps' → (∀ t, t ≠ s → nt' t = nt t) → (∀ s1 u, K.L s1 = true → s1 ≠ s → pgv K.n ws' (K.rt s1) u = pgv K.n ws (K.rt s1) u) → Zc h' (K.bx s) →
      KL h (L3b K.bf K.pf (K.bx s)) h' → Q (nt s) h') : F139 (some ⟨K.bx s, 0, none⟩) Q h := by
  obtain ⟨ro, v⟩ := w.wd
  exact Q139x w hs v fun h' nt' ws' ps' a b c d e _ _ => q h' nt' ws' ps' a b c d e
end Go.Proofs.Ytfijchofplkcoaa
