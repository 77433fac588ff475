/-
  The laws of entries' kinds and rights (PteCodes, PteKinds, PteRights, PteGrants) hold over the heap predicates.
-/
import Derived.Test.YtfijchofplkcoaaCc
set_option linter.unusedVariables false
set_option linter.unusedSimpArgs false
set_option maxRecDepth 100000
namespace Go.Proofs.Ytfijchofplkcoaa

/-- An entry's lowest eight bits. -/
def lo8 (f : Int) : Nat := (f % 256).toNat
theorem lo8_lt (f : Int) : lo8 f < 256 := by unfold lo8; omega
theorem bA8 (f : Int) (c : Nat) (hc : c < 256) : bAnd .i64 f (c : Int) = ((lo8 f &&& c : Nat) : Int) := bAnd_low f 8 c (by omega) hc
def kindM (m : Nat) : Int := cond (m &&& 1 == 0) 0 (cond (m &&& 6 == 4) 0 (cond (m &&& 10 == 0) 1 2))
theorem beqN (a b : Nat) : (((a : Nat) : Int) == ((b : Nat) : Int)) = (a == b) := by
  by_cases h : a = b
  · subst h; simp
  · have : (a : Int) ≠ (b : Int) := by omega
    rw [beq_false_of_ne this, beq_false_of_ne h]
theorem gtN (a : Nat) : decide ((a : Int) > 0) = decide (0 < a) := by
  by_cases h : 0 < a
  · rw [decide_eq_true h, decide_eq_true (show (a : Int) > 0 by omega)]
  · rw [decide_eq_false h, decide_eq_false (show ¬ (a : Int) > 0 by omega)]

theorem C53 {f p : Int} {Q : Int → H → Prop} {h : H} (q : ∀ h', Kept h h' → Q (kindM (lo8 f)) h') : F53 f p Q h := by
  rw [F53_eq]
  refine Nw_intro fun b h2 hb k e => ?_
  simp only [add_mk]
  have c0 : hcell h2 ⟨b, 0 + 0 + 0, none⟩ = some (.int .i64 f) := by rw [hcell_blk e]; rfl
  refine Ld_i c0 ?_
  have := q h2 k
  have e1 := bA8 f 1 (by omega)
  have e6 := bA8 f 6 (by omega)
  have e10 := bA8 f 10 (by omega)
  have z1 := beqN (lo8 f &&& 1) 0
  have z4 := beqN (lo8 f &&& 6) 4
  have z0 := beqN (lo8 f &&& 10) 0
  have g1 : (bAnd .i64 f 1 == 0) = (lo8 f &&& 1 == 0) := by rw [show (1 : Int) = ((1 : Nat) : Int) from rfl, e1]; exact z1
  have g4 : (bAnd .i64 f 6 == 4) = (lo8 f &&& 6 == 4) := by rw [show (6 : Int) = ((6 : Nat) : Int) from rfl, e6]; exact z4
  have g0 : (bAnd .i64 f 10 == 0) = (lo8 f &&& 10 == 0) := by rw [show (10 : Int) = ((10 : Nat) : Int) from rfl, e10]; exact z0
  rw [g1]
  unfold kindM at this
  cases hc : (lo8 f &&& 1 == 0)
  · rw [hc] at this
    refine Ld_i c0 ?_
    rw [g4]
    cases hd : (lo8 f &&& 6 == 4)
    · rw [hd] at this
      refine Ld_i c0 ?_
      rw [g0, Br_Q]
      exact this
    · rw [hd] at this; exact this
  · rw [hc] at this; exact this

theorem C152 {f p : Int} {Q : Int → H → Prop} {h : H} (q : ∀ h', Kept h h' → Q (lo8 f : Nat) h') : F152 f p Q h := by
  rw [F152_eq]
  refine Nw_intro fun b h2 hb k e => ?_
  simp only [add_mk]
  have c0 : hcell h2 ⟨b, 0 + 0 + 0, none⟩ = some (.int .i64 f) := by rw [hcell_blk e]; rfl
  refine Ld_i c0 ?_
  have r2 : 0 ≤ IntKind.wrap .u64 f ∧ IntKind.wrap .u64 f < 18446744073709551616 := by rw [wrap_u64]; omega
  refine C151 (n := 8) (by omega) r2 ?_
  show Q _ h2
  have : IntKind.wrap .i64 (IntKind.wrap .u64 f % ((2 ^ 8 : Nat) : Int)) = ((lo8 f : Nat) : Int) := by
    unfold lo8; rw [wrap_i64' _ (by omega) (by omega), wrap_u64]; omega
  rw [this]; exact q h2 k

def bt (m : Nat) (c : Int) : Bool := m / c.toNat % 2 == 1
theorem C153L {m : Nat} {c : Int} {Q : Bool → H → Prop} {h : H} (hm : m < 256) (hc : 0 < c) (q : Q (bt m c) h) : F153 m c Q h := by
  obtain ⟨n, rfl⟩ := Int.eq_ofNat_of_zero_le (show 0 ≤ c by omega)
  exact C153 (by omega) (by omega) q
theorem key_kind : ∀ m, m < 256 → kindM m = cond (bt m 1) (cond (bt m 4) (cond (bt m 2) 2 0) (cond (bt m 2) 2 (cond (bt m 8) 2 1))) 0 := by decide +kernel

theorem C54 {f p : Int} {Q : Int → H → Prop} {h : H} (q : ∀ h', Kept h h' → Q (kindM (lo8 f)) h') : F54 f p Q h := by
  rw [F54_eq]
  refine Nw_intro fun b h2 hb k e => ?_
  simp only [add_mk]
  have c0 : hcell h2 ⟨b, 0 + 0, none⟩ = some (.int .i64 f) := by rw [hcell_blk e]; rfl
  have c1 : hcell h2 ⟨b, 0 + 1, none⟩ = some (.int .i64 p) := by rw [hcell_blk e]; rfl
  refine Ld_i c0 (Ld_i c1 (C152 fun h3 k3 => ?_))
  simp only [LetI]
  have hm := lo8_lt f
  have := q h3 (k.trans k3)
  rw [key_kind _ hm] at this
  generalize lo8 f = m at *
  refine C153L hm (by omega) ?_
  cases b1 : bt m 1 <;> rw [b1] at this
  · exact this
  refine C153L hm (by omega) ?_
  cases b4 : bt m 4 <;> rw [b4] at this
  · refine C153L hm (by omega) ?_
    cases b2 : bt m 2 <;> rw [b2] at this
    · refine C153L hm (by omega) ?_
      cases b8 : bt m 8 <;> rw [b8] at this <;> exact this
    · exact this
  · refine C153L hm (by omega) ?_
    cases b2 : bt m 2 <;> rw [b2] at this
    · exact this
    · refine C153L hm (by omega) ?_
      rw [b2]; exact this

/-- What kinds of access an entry's bits allow. -/
def wOf (a : Int) : Nat := if a = 1 then 2 else if a = 2 then 4 else if a = 4 then 8 else 0
def mayM (m w : Nat) (u : Bool) : Bool := (kindM m == 2) && (decide (0 < w) && (decide (0 < m &&& w) && (decide (0 < m &&& 16) == u)))
theorem wOf_lt (a : Int) : wOf a < 256 := by unfold wOf; repeat' split
                                             all_goals omega

theorem C55 {f p a : Int} {u : Bool} {Q : Bool → H → Prop} {h : H} (q : ∀ h', Kept h h' → Q (mayM (lo8 f) (wOf a) u) h') : F55 f p a u Q h := by
  rw [F55_eq]
  refine Nw_intro fun b h2 hb k e => ?_
  simp only [add_mk]
  have c0 : hcell h2 ⟨b, 0 + 0, none⟩ = some (.int .i64 f) := by rw [hcell_blk e]; rfl
  have c1 : hcell h2 ⟨b, 0 + 1, none⟩ = some (.int .i64 p) := by rw [hcell_blk e]; rfl
  have body : ∀ w : Nat, w < 256 → w = wOf a → Ld (.i .i64) h2 ⟨b, 0 + 0, none⟩ fun x6 => Ld (.i .i64) h2 ⟨b, 0 + 1, none⟩ fun x7 =>
      F53 x6 x7 (fun r8 h9 => Br (r8 == 2) (Br (decide ((w : Int) > 0)) (Ld (.i .i64) h9 ⟨b, 0 + 0 + 0, none⟩ fun x10 =>
        Br (decide ((bAnd .i64 x10 (w : Int)) > 0)) (Ld (.i .i64) h9 ⟨b, 0 + 0 + 0, none⟩ fun x11 => Q ((decide ((bAnd .i64 x11 16) > 0)) == u) h9) (Q false h9)) (Q false h9)) (Q false h9)) h2 := by
    intro w hw ew
    refine Ld_i c0 (Ld_i c1 (C53 fun h3 k3 => ?_))
    have c0' := k3.cell c0
    have := q h3 (k.trans k3)
    rw [← ew] at this
    unfold mayM at this
    have e16 : bAnd .i64 f 16 = ((lo8 f &&& 16 : Nat) : Int) := bA8 f 16 (by omega)
    cases hk : (kindM (lo8 f) == 2) <;> rw [hk] at this
    · exact this
    rw [gtN]
    cases h0 : decide (0 < w) <;> rw [h0] at this
    · exact this
    refine Ld_i c0' ?_
    rw [bA8 f w hw, gtN]
    cases h1 : decide (0 < lo8 f &&& w) <;> rw [h1] at this
    · exact this
    refine Ld_i c0' ?_
    rw [e16, gtN]
    exact this
  refine Br_beq_int (fun h1 => body 2 (by omega) (by simp [wOf, h1])) fun h1 => Br_beq_int (fun h2 => body 4 (by omega) (by simp [wOf, h2])) fun h2 =>
    Br_beq_int (fun h3 => body 8 (by omega) (by simp [wOf, h3])) fun h3 => body 0 (by omega) (by simp [wOf, h1, h2, h3])

theorem key_may : ∀ m, m < 256 → (0 < m &&& 2) = (bt m 2 = true) ∧ (0 < m &&& 4) = (bt m 4 = true) ∧ (0 < m &&& 8) = (bt m 8 = true) ∧ (0 < m &&& 16) = (bt m 16 = true) := by
  have : ∀ m, m < 256 → decide (0 < m &&& 2) = bt m 2 ∧ decide (0 < m &&& 4) = bt m 4 ∧ decide (0 < m &&& 8) = bt m 8 ∧ decide (0 < m &&& 16) = bt m 16 := by decide +kernel
  intro m hm
  obtain ⟨a, b, c, d⟩ := this m hm
  refine ⟨?_, ?_, ?_, ?_⟩ <;> simp only [← a, ← b, ← c, ← d, decide_eq_true_eq]
theorem C57 {f p a : Int} {u : Bool} {Q : Bool → H → Prop} {h : H} (q : ∀ h', Kept h h' → Q (mayM (lo8 f) (wOf a) u) h') : F57 f p a u Q h := by
  rw [F57_eq]
  refine Nw_intro fun b h2 hb k e => ?_
  simp only [add_mk]
  have c0 : hcell h2 ⟨b, 0 + 0, none⟩ = some (.int .i64 f) := by rw [hcell_blk e]; rfl
  have c1 : hcell h2 ⟨b, 0 + 1, none⟩ = some (.int .i64 p) := by rw [hcell_blk e]; rfl
  refine Ld_i c0 (Ld_i c1 (C152 fun h3 k3 => ?_))
  simp only [LetI, JoinM]
  refine Ld_i (k3.cell c0) (Ld_i (k3.cell c1) (C54 fun h4 k4 => ?_))
  have := q h4 ((k.trans k3).trans k4)
  have hm := lo8_lt f
  obtain ⟨t2, t4, t8, t16⟩ := key_may _ hm
  unfold mayM at this
  refine Br_bne_int (fun hk => ?_) fun hk => ?_
  · have hne : (kindM (lo8 f) == 2) = false := by simpa using hk
    rw [hne] at this; exact this
  have hk' : (kindM (lo8 f) == 2) = true := by simpa using hk
  rw [hk'] at this
  refine C153L hm (by omega) ?_
  have d16 : decide (0 < lo8 f &&& 16) = bt (lo8 f) 16 := by simp only [t16, Bool.decide_eq_true]
  have d2 : decide (0 < lo8 f &&& 2) = bt (lo8 f) 2 := by simp only [t2, Bool.decide_eq_true]
  have d4 : decide (0 < lo8 f &&& 4) = bt (lo8 f) 4 := by simp only [t4, Bool.decide_eq_true]
  have d8 : decide (0 < lo8 f &&& 8) = bt (lo8 f) 8 := by simp only [t8, Bool.decide_eq_true]
  rw [d16] at this
  cases hu : (bt (lo8 f) 16 == u) <;> rw [hu] at this
  · have this2 : Q false h4 := by simpa using this
    exact this2
  simp only [Bool.not_true, Br_false]
  refine Br_beq_int (fun h1 => C153L hm (by omega) ?_) fun h1 => Br_beq_int (fun h2 => C153L hm (by omega) ?_) fun h2 => Br_beq_int (fun h3 => C153L hm (by omega) ?_) fun h3 => ?_
  · rw [show wOf a = 2 by simp [wOf, h1], d2] at this; simpa using this
  · rw [show wOf a = 4 by simp [wOf, h2], d4] at this; simpa using this
  · rw [show wOf a = 8 by simp [wOf, h3], d8] at this; simpa using this
  · rw [show wOf a = 0 by simp [wOf, h1, h2, h3]] at this; simpa using this

def gstep (acc : Int) (x : Bool × Int) : Int := if x.1 then bOr .i64 acc x.2 else acc
theorem zero201 : zeroC Try.prog 201 = #[.bool false, .int .i64 0] := by kernel_rfl
theorem C154 {l : List (Bool × Int)} {b t : Nat} {cs : Array Value} {Q : Int → H → Prop} {h : H} (e : h[b]? = some (.cells cs t)) (hlen : l.length < 1000)
    (hl : ∀ i x, l[i]? = some x → cs[2 * i]? = some (.bool x.1) ∧ cs[2 * i + 1]? = some (.int .i64 x.2)) (q : ∀ h', Kept h h' → Q (l.foldl gstep 0) h') :
    F154 ⟨some ⟨b, 0, none⟩, l.length, l.length⟩ Q h := by
  rw [F154_eq]
  refine Loop_intro (fun k z h' => ∃ i : Nat, z.2.1 = (i : Int) ∧ k = l.length - i ∧ i ≤ l.length ∧ z.1 = (l.take i).foldl gstep 0 ∧ Kept h h') l.length ⟨0, rfl, rfl, by omega, rfl, Kept.refl h⟩ ?_
  rintro k ⟨acc, ii, u⟩ h' ⟨i, hi, hk, hil, ha, kk⟩
  simp only at hi ha
  subst hi ha
  refine Br_dec ?_ ?_
  · intro hlt
    have hlt : i < l.length := by simp at hlt; omega
    refine ⟨⟨by simp, by simpa using hlt⟩, ?_⟩
    obtain ⟨g1, g2⟩ := hl i l[i] (List.getElem?_eq_getElem hlt)
    have e' := kk.blk e
    simp only [add_mk, Int.toNat_natCast]
    refine Ld_b (x := (l[i]).1) (by rw [hcell_blk e', ← g1]; congr 1; omega) (Ld_i (x := (l[i]).2) (by rw [hcell_blk e', ← g2]; congr 1; omega) ?_)
    refine Nw_intro fun n h3 hn k3 e3 => ?_
    rw [zero201] at e3
    simp only [add_mk]
    refine St_intro e3 (by simp) fun h4 u4 e4 => ?_
    refine St_intro e4 (by simp) fun h5 u5 e5 => ?_
    have k5 : Kept h h5 := u5.kept (u4.kept (kk.trans k3) (by have := kk.1; omega)) (by have := kk.1; omega)
    have st : (l.take (i + 1)).foldl gstep 0 = gstep ((l.take i).foldl gstep 0) l[i] := by
      rw [List.take_add_one, List.getElem?_eq_getElem hlt, List.foldl_append]; rfl
    have w1 : IntKind.wrap .i64 ((i : Int) + 1) = ((i + 1 : Nat) : Int) := by rw [wrap_i64' _ (by omega) (by omega)]; omega
    refine Ld_b (x := (l[i]).1) (by rw [hcell_blk e5]; rfl) ?_
    cases hb : (l[i]).1
    · refine ⟨l.length - (i + 1), by omega, i + 1, w1, rfl, by omega, ?_, k5⟩
      rw [st]; simp [gstep, hb]
    · refine Ld_i (x := (l[i]).2) (by rw [hcell_blk e5]; rfl) ?_
      refine ⟨l.length - (i + 1), by omega, i + 1, w1, rfl, by omega, ?_, k5⟩
      rw [st]; simp [gstep, hb]
  · intro hge
    have : i = l.length := by simp at hge; omega
    subst this
    have := q h' kk
    rw [List.take_length]
    exact this

def lo3 (f : Int) : Nat := (f % 8).toNat
theorem lo3_lt (f : Int) : lo3 f < 8 := by unfold lo3; omega
theorem bA3 (f : Int) (c : Nat) (hc : c < 8) : bAnd .i64 f (c : Int) = ((lo3 f &&& c : Nat) : Int) := bAnd_low f 3 c (by omega) hc
def flagsN (n : Nat) (u : Bool) : Int :=
  if n = 0 then 0 else [(true, 1), (decide (((n &&& 3 : Nat) : Int) > 0), 2), (decide (((n &&& 2 : Nat) : Int) > 0), 4), (decide (((n &&& 4 : Nat) : Int) > 0), 8), (u, 16)].foldl gstep 0
theorem C58 {a : Int} {u : Bool} {Q : Int → H → Prop} {h : H} (q : ∀ h', Kept h h' → Q (flagsN (lo3 a) u) h') : F58 a u Q h := by
  rw [F58_eq]
  unfold B58
  have b7 : bAnd .i64 a 7 = ((lo3 a &&& 7 : Nat) : Int) := bA3 a 7 (by omega)
  have b3 : bAnd .i64 a 3 = ((lo3 a &&& 3 : Nat) : Int) := bA3 a 3 (by omega)
  have b2 : bAnd .i64 a 2 = ((lo3 a &&& 2 : Nat) : Int) := bA3 a 2 (by omega)
  have b4 : bAnd .i64 a 4 = ((lo3 a &&& 4 : Nat) : Int) := bA3 a 4 (by omega)
  have hm := lo3_lt a
  rw [b7, b3, b2, b4]
  generalize lo3 a = n at *
  refine Br_beq_int (fun h7 => ?_) fun h7 => ?_
  · have hn : n = 0 := by
      have : ∀ n, n < 8 → n &&& 7 = 0 → n = 0 := by decide
      exact this n hm (by omega)
    subst hn
    exact q h (Kept.refl h)
  · have hn : n ≠ 0 := by intro hn; subst hn; exact h7 rfl
    refine Nw_intro fun b h2 hb k e => ?_
    refine C154 (l := [(true, 1), (decide (((n &&& 3 : Nat) : Int) > 0), 2), (decide (((n &&& 2 : Nat) : Int) > 0), 4), (decide (((n &&& 4 : Nat) : Int) > 0), 8), (u, 16)]) e (by simp) ?_ ?_
    · intro i x hx
      have hi : i < 5 := (List.getElem?_eq_some_iff.1 hx).1
      have : i = 0 ∨ i = 1 ∨ i = 2 ∨ i = 3 ∨ i = 4 := by omega
      rcases this with rfl | rfl | rfl | rfl | rfl <;> (injection hx with hx; subst hx; exact ⟨rfl, rfl⟩)
    · intro h' k'
      have := q h' (k.trans k')
      unfold flagsN at this
      rw [if_neg hn] at this
      exact this

theorem C59 {a : Int} {u : Bool} {Q : Int → H → Prop} {h : H} (q : Q (flagsN (lo3 a) u) h) : F59 a u Q h := by
  rw [F59_eq]
  have r2 : 0 ≤ IntKind.wrap .u64 a ∧ IntKind.wrap .u64 a < 18446744073709551616 := by rw [wrap_u64]; omega
  refine C151 (n := 3) (by omega) r2 ?_
  have e : IntKind.wrap .i64 (IntKind.wrap .u64 a % ((2 ^ 3 : Nat) : Int)) = ((lo3 a : Nat) : Int) := by
    unfold lo3; rw [wrap_i64' _ (by omega) (by omega), wrap_u64]; omega
  rw [e]
  have hm := lo3_lt a
  generalize lo3 a = n at *
  have h8 : n = 0 ∨ n = 1 ∨ n = 2 ∨ n = 3 ∨ n = 4 ∨ n = 5 ∨ n = 6 ∨ n = 7 := by omega
  rcases h8 with rfl | rfl | rfl | rfl | rfl | rfl | rfl | rfl <;> cases u
  all_goals (repeat (refine C153L (by decide) (by decide) ?_))
  all_goals (exact q)

def protM (m : Nat) : Int := cond (kindM m == 2) ([(decide (((m &&& 2 : Nat) : Int) > 0), 1), (decide (((m &&& 4 : Nat) : Int) > 0), 2), (decide (((m &&& 8 : Nat) : Int) > 0), 4)].foldl gstep 0) 0
theorem C56 {f p : Int} {Q : Int → H → Prop} {h : H} (q : ∀ h', Kept h h' → Q (protM (lo8 f)) h') : F56 f p Q h := by
  rw [F56_eq]
  refine Nw_intro fun b h2 hb k e => ?_
  simp only [add_mk]
  have c0 : hcell h2 ⟨b, 0 + 0, none⟩ = some (.int .i64 f) := by rw [hcell_blk e]; rfl
  have c1 : hcell h2 ⟨b, 0 + 1, none⟩ = some (.int .i64 p) := by rw [hcell_blk e]; rfl
  refine Ld_i c0 (Ld_i c1 (C53 fun h3 k3 => ?_))
  have c0' := k3.cell c0
  refine Br_bne_int (fun hk => ?_) fun hk => ?_
  · have hne : (kindM (lo8 f) == 2) = false := by simpa using hk
    have := q h3 (k.trans k3)
    unfold protM at this
    rw [hne] at this; exact this
  · have he : (kindM (lo8 f) == 2) = true := by simpa using hk
    refine Ld_i c0' (Ld_i c0' (Ld_i c0' ?_))
    have b2 : bAnd .i64 f 2 = ((lo8 f &&& 2 : Nat) : Int) := bA8 f 2 (by omega)
    have b4 : bAnd .i64 f 4 = ((lo8 f &&& 4 : Nat) : Int) := bA8 f 4 (by omega)
    have b8 : bAnd .i64 f 8 = ((lo8 f &&& 8 : Nat) : Int) := bA8 f 8 (by omega)
    rw [b2, b4, b8]
    refine Nw_intro fun b' h4 hb' k4 e4 => ?_
    refine C154 (l := [(decide (((lo8 f &&& 2 : Nat) : Int) > 0), 1), (decide (((lo8 f &&& 4 : Nat) : Int) > 0), 2), (decide (((lo8 f &&& 8 : Nat) : Int) > 0), 4)]) e4 (by simp) ?_ ?_
    · intro i x hx
      have hi : i < 3 := (List.getElem?_eq_some_iff.1 hx).1
      have : i = 0 ∨ i = 1 ∨ i = 2 := by omega
      rcases this with rfl | rfl | rfl <;> (injection hx with hx; subst hx; exact ⟨rfl, rfl⟩)
    · intro h' k'
      have := q h' (((k.trans k3).trans k4).trans k')
      unfold protM at this
      rw [he] at this
      exact this
theorem key_prot : ∀ m, m < 256 → protM m = cond (kindM m == 2) (cond (bt m 2) 1 0 + cond (bt m 4) 2 0 + cond (bt m 8) 4 0) 0 := by decide +kernel
theorem C60 {f p : Int} {Q : Int → H → Prop} {h : H} (q : ∀ h', Kept h h' → Q (protM (lo8 f)) h') : F60 f p Q h := by
  rw [F60_eq]
  refine Nw_intro fun b h2 hb k e => ?_
  simp only [add_mk]
  have c0 : hcell h2 ⟨b, 0 + 0, none⟩ = some (.int .i64 f) := by rw [hcell_blk e]; rfl
  have c1 : hcell h2 ⟨b, 0 + 1, none⟩ = some (.int .i64 p) := by rw [hcell_blk e]; rfl
  refine Ld_i c0 (Ld_i c1 (C152 fun h3 k3 => ?_))
  simp only [LetI]
  refine Ld_i (k3.cell c0) (Ld_i (k3.cell c1) (C54 fun h4 k4 => ?_))
  have := q h4 ((k.trans k3).trans k4)
  have hm := lo8_lt f
  rw [key_prot _ hm] at this
  generalize lo8 f = m at *
  refine Br_bne_int (fun hk => ?_) fun hk => ?_
  · have hne : (kindM m == 2) = false := by simpa using hk
    rw [hne] at this; exact this
  · have he : (kindM m == 2) = true := by simpa using hk
    rw [he] at this
    refine C153L hm (by omega) ?_
    cases b2 : bt m 2 <;> rw [b2] at this
    all_goals
      refine C153L hm (by omega) ?_
      cases b4 : bt m 4 <;> rw [b4] at this
    all_goals
      refine C153L hm (by omega) ?_
      cases b8 : bt m 8 <;> rw [b8] at this
    all_goals exact this
end Go.Proofs.Ytfijchofplkcoaa
