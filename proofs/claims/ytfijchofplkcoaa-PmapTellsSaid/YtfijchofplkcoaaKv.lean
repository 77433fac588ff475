/-
  The leaves below a table, as the program's iterator gives them: each once, rising, until a round says no more.
-/
import Derived.Test.YtfijchofplkcoaaGn
import Derived.Test.YtfijchofplkcoaaJc
set_option linter.unusedVariables false
set_option linter.unusedSimpArgs false
set_option maxRecDepth 100000
namespace Go.Proofs.Ytfijchofplkcoaa

/-- The leaves below a table: pages with their entries. -/
def leavesS (n : Nat) (ws : List Int) : Nat → Nat → Int → List (Int × Int)
  | 0, f, a => (List.range 512).flatMap fun i => if kindM (lo8 (flg (wat ws f i))) = 2 then [(a * 512 + i, wat ws f i)] else []
  | lv + 1, f, a => (List.range 512).flatMap fun i => match lead n (wat ws f i) with
    | some m => leavesS n ws lv m (a * 512 + i)
    | none => []
/-- What one entry brings. -/
def entL (n : Nat) (ws : List Int) (lv f : Nat) (a : Int) (i : Nat) : List (Int × Int) :=
  match lv with
  | 0 => if kindM (lo8 (flg (wat ws f i))) = 2 then [(a * 512 + i, wat ws f i)] else []
  | lv + 1 => match lead n (wat ws f i) with
    | some m => leavesS n ws lv m (a * 512 + i)
    | none => []
theorem leavesS_eq (n : Nat) (ws : List Int) (lv f : Nat) (a : Int) : leavesS n ws lv f a = (List.range 512).flatMap (entL n ws lv f a) := by cases lv <;> rfl
def partL (n : Nat) (ws : List Int) (lv f : Nat) (a : Int) (i : Nat) : List (Int × Int) := (List.range i).flatMap (entL n ws lv f a)
theorem partL_succ (n : Nat) (ws : List Int) (lv f : Nat) (a : Int) (i : Nat) : partL n ws lv f a (i + 1) = partL n ws lv f a i ++ entL n ws lv f a i := by
  unfold partL
  rw [List.range_succ, List.flatMap_append]
  simp
theorem partL_split (n : Nat) (ws : List Int) (lv f : Nat) (a : Int) {i : Nat} (hi : i < 512) : ∃ r, leavesS n ws lv f a = partL n ws lv f a i ++ entL n ws lv f a i ++ r := by
  have h : ∀ k, ∃ r, partL n ws lv f a (i + 1 + k) = partL n ws lv f a i ++ entL n ws lv f a i ++ r := by
    intro k
    induction k with
    | zero => exact ⟨[], by rw [Nat.add_zero, partL_succ]; simp⟩
    | succ k ih =>
      obtain ⟨r, hr⟩ := ih
      exact ⟨r ++ entL n ws lv f a (i + 1 + k), by rw [show i + 1 + (k + 1) = (i + 1 + k) + 1 by omega, partL_succ, hr]; simp⟩
  obtain ⟨r, hr⟩ := h (511 - i)
  rw [show i + 1 + (511 - i) = 512 by omega] at hr
  exact ⟨r, by rw [leavesS_eq]; exact hr⟩
def clo187 (b3 b4 b5 : Nat) : Value := .func (.func 187) #[] #[.pointer (some ⟨b3, 0, none⟩), .pointer (some ⟨b4, 0, none⟩), .pointer (some ⟨b5, 0, none⟩)]
theorem call187 (Y : YY Try.prog) (m : Nat) (b3 b4 b5 : Nat) (x y z : Int) (h : H) (K : Value → H → Prop) :
    CallVY [E183, E53, E184, E187d Y (m + 1)] Y.sem (clo187 b3 b4 b5) [.int .i64 x, .int .i64 y, .int .i64 z] h K = F187 Y (E187d Y m) x y z ⟨b3, 0, none⟩ ⟨b4, 0, none⟩ ⟨b5, 0, none⟩ (fun r h' => K (.bool r) h') h := by kernel_rfl
theorem call186 (Y : YY Try.prog) (m : Nat) (b3 b4 b5 : Nat) (x y z : Int) (h : H) (K : Value → H → Prop) :
    CallVY [E93, E187d Y (m + 1)] Y.sem (clo187 b3 b4 b5) [.int .i64 x, .int .i64 y, .int .i64 z] h K = F187 Y (E187d Y m) x y z ⟨b3, 0, none⟩ ⟨b4, 0, none⟩ ⟨b5, 0, none⟩ (fun r h' => K (.bool r) h') h := by kernel_rfl
theorem callY (G : List (Ent Try.prog)) (Y : YY Try.prog) (l : Nat) (vs : List Value) (h : H) (K : Value → H → Prop) : CallVY G Y.sem (yV l) vs h K = Y.sem l vs K h := rfl
def eV (e : Int × Int) : List Value := [.int .i64 e.1, .agg #[.int .i64 (flg e.2), .int .i64 (ppn e.2)]]
/-- What the iterator's rounds promise: J: so much has come; X: no more is wanted. -/
structure RoundsOK (Y : YY Try.prog) (l bm bf n : Nat) (ws : List Int) (b3 b4 b5 : Nat) (T : List (Int × Int)) (J : List (Int × Int) → H → Prop) (X : H → Prop) : Prop where
  mw : ∀ d h, J d h → MW h bm bf n ws
  c3 : ∀ d h, J d h → hcell h ⟨b3, 0, none⟩ = some (.pointer (some ⟨bm, 0, none⟩))
  c4 : ∀ d h, J d h → hcell h ⟨b4, 0, none⟩ = some (yV l)
  c5 : ∀ d h, J d h → hcell h ⟨b5, 0, none⟩ = some (clo187 b3 b4 b5)
  kept : ∀ d h h', J d h → Kept h h' → J d h'
  step : ∀ d e r h K, T = d ++ e :: r → J d h → (∀ h', J (d ++ [e]) h' → K (.bool true) h') → (∀ h', X h' → K (.bool false) h') → Y.sem l (eV e) K h
theorem Ld_f {h : H} {a : Addr} {x : Value} {K : Value → Prop} (e : hcell h a = some x) (q : K x) : Ld .f h a K := ⟨x, e, q⟩
theorem zero25v : zeroC Try.prog 25 = #[.int .i64 0, .int .i64 0] := by kernel_rfl
theorem K187 {Y : YY Try.prog} {l bm bf n : Nat} {ws : List Int} {b3 b4 b5 : Nat} {T : List (Int × Int)} {J : List (Int × Int) → H → Prop} {X : H → Prop} (R : RoundsOK Y l bm bf n ws b3 b4 b5 T J X) :
    ∀ (lv m f : Nat) (a : Int) (d r : List (Int × Int)) (h : H) (Q : Bool → H → Prop), f < n → 0 ≤ a → ((lv = 0 ∧ a < 262144) ∨ (lv = 1 ∧ a < 512) ∨ (lv = 2 ∧ a = 0)) → T = d ++ leavesS n ws lv f a ++ r → J d h →
      (∀ h', J (d ++ leavesS n ws lv f a) h' → Q true h') → (∀ h', X h' → Q false h') → lv ≤ m → F187 Y (E187d Y m) f lv a ⟨b3, 0, none⟩ ⟨b4, 0, none⟩ ⟨b5, 0, none⟩ Q h := by
  intro lv
  induction lv with
  | zero =>
    intro m f a d r h Q hf ha hA hT hJ q1 q0 hm
    rw [F187_eq]
    refine Loop_intro (σ := Int × Unit) (x := (0, ())) (fun c z h' => ∃ i : Nat, z.1 = (i : Int) ∧ c = 512 - i ∧ i ≤ 512 ∧ J (d ++ partL n ws 0 f a i) h') 512 ⟨0, rfl, rfl, by omega, by simpa [partL] using hJ⟩ ?_
    rintro c ⟨zz, u⟩ h1 ⟨i, hi, hc, hi5, J1⟩
    simp only at hi
    subst hi
    refine Br_dec (fun hlt => ?_) fun hge => ?_
    · have hlt : i < 512 := by simp only at hlt; omega
      have hwi : IntKind.wrap .i64 ((i : Int) + 1) = ((i + 1 : Nat) : Int) := by rw [wrap_i64'] <;> omega
      have hwa : IntKind.wrap .i64 (IntKind.wrap .i64 (a * 512) + (i : Int)) = a * 512 + i := by rw [wrap_i64' (a * 512) (by omega) (by omega), wrap_i64'] <;> omega
      simp only [LetI]
      rw [hwa]
      simp only [show (((0 : Nat) : Int) == 0) = true from rfl, Br_true, add_mk, Nat.add_zero]
      have next : ∀ h', J (d ++ partL n ws 0 f a (i + 1)) h' → ∃ k', k' < c ∧ ∃ i' : Nat, IntKind.wrap .i64 ((i : Int) + 1) = (i' : Int) ∧ k' = 512 - i' ∧ i' ≤ 512 ∧ J (d ++ partL n ws 0 f a i') h' :=
        fun h' hj => ⟨512 - (i + 1), by omega, i + 1, hwi, rfl, by omega, hj⟩
      refine Ld_p (R.c3 _ _ J1) (M183 (R.mw _ _ J1) fun h2 k2 => ?_)
      rw [wordF_in hf hlt]
      refine Nw_intro fun b h3 hb k3 e3 => ?_
      rw [zero25v] at e3
      simp only [add_mk]
      refine put25 e3 fun h4 u4 e4 => ?_
      have k4 : Kept h1 h4 := u4.kept (k2.trans k3) (by have := k2.1; omega)
      refine Ld_i (x := flg (wat ws f i)) (by rw [hcell_blk e4]; rfl) (Ld_i (x := ppn (wat ws f i)) (by rw [hcell_blk e4]; rfl) (C53 fun h5 k5 => ?_))
      have e5 := k5.blk e4
      have J5 := R.kept _ _ _ J1 (k4.trans k5)
      refine Br_beq_int (fun hk => ?_) fun hk => ?_
      · have hk : kindM (lo8 (flg (wat ws f i))) = 2 := hk
        have ee : entL n ws 0 f a i = [(a * 512 + i, wat ws f i)] := by show (if _ then _ else _) = _; rw [if_pos hk]
        refine Ld_f (x := yV l) (R.c4 _ _ J5) (Ld_i (x := flg (wat ws f i)) (by rw [hcell_blk e5]; rfl) (Ld_i (x := ppn (wat ws f i)) (by rw [hcell_blk e5]; rfl) ?_))
        rw [callY]
        obtain ⟨r2, hr2⟩ := partL_split n ws 0 f a hlt
        refine R.step (d ++ partL n ws 0 f a i) (a * 512 + i, wat ws f i) (r2 ++ r) h5 _ (by rw [hT, hr2, ee]; simp) J5 (fun h6 J6 => ?_) fun h6 hx => ?_
        · exact next h6 (by rw [partL_succ, ee, ← List.append_assoc]; exact J6)
        · exact q0 h6 hx
      · have hk : ¬ kindM (lo8 (flg (wat ws f i))) = 2 := hk
        have ee : entL n ws 0 f a i = [] := by show (if _ then _ else _) = _; rw [if_neg hk]
        exact next h5 (by rw [partL_succ, ee, List.append_nil]; exact J5)
    · have : i = 512 := by simp only at hge; omega
      subst this
      exact q1 h1 (by rw [leavesS_eq]; exact J1)
  | succ lv ih =>
    intro m f a d r h Q hf ha hA hT hJ q1 q0 hm
    rw [F187_eq]
    refine Loop_intro (σ := Int × Unit) (x := (0, ())) (fun c z h' => ∃ i : Nat, z.1 = (i : Int) ∧ c = 512 - i ∧ i ≤ 512 ∧ J (d ++ partL n ws (lv + 1) f a i) h') 512 ⟨0, rfl, rfl, by omega, by simpa [partL] using hJ⟩ ?_
    rintro c ⟨zz, u⟩ h1 ⟨i, hi, hc, hi5, J1⟩
    simp only at hi
    subst hi
    refine Br_dec (fun hlt => ?_) fun hge => ?_
    · have hlt : i < 512 := by simp only at hlt; omega
      have hwi : IntKind.wrap .i64 ((i : Int) + 1) = ((i + 1 : Nat) : Int) := by rw [wrap_i64'] <;> omega
      have hwa : IntKind.wrap .i64 (IntKind.wrap .i64 (a * 512) + (i : Int)) = a * 512 + i := by rw [wrap_i64' (a * 512) (by omega) (by omega), wrap_i64'] <;> omega
      have hl0 : ((((lv + 1 : Nat)) : Int) == 0) = false := by rw [beq_eq_false_iff_ne]; omega
      have hl1 : IntKind.wrap .i64 (((lv + 1 : Nat) : Int) - 1) = (lv : Int) := by rw [wrap_i64'] <;> omega
      simp only [LetI]
      rw [hwa, hl0, hl1]
      simp only [Br_false, add_mk, Nat.add_zero]
      have next : ∀ h', J (d ++ partL n ws (lv + 1) f a (i + 1)) h' → ∃ k', k' < c ∧ ∃ i' : Nat, IntKind.wrap .i64 ((i : Int) + 1) = (i' : Int) ∧ k' = 512 - i' ∧ i' ≤ 512 ∧ J (d ++ partL n ws (lv + 1) f a i') h' :=
        fun h' hj => ⟨512 - (i + 1), by omega, i + 1, hwi, rfl, by omega, hj⟩
      refine Ld_p (R.c3 _ _ J1) (M184 (R.mw _ _ J1) hf hlt fun h2 k2 => ?_)
      have J2 := R.kept _ _ _ J1 k2
      cases hl : lead n (wat ws f i) with
      | none =>
        have ee : entL n ws (lv + 1) f a i = [] := by show (match lead n (wat ws f i) with | some m => leavesS n ws lv m (a * 512 + i) | none => []) = _; rw [hl]
        simp only [Option.isSome_none, Br_false]
        exact next h2 (by rw [partL_succ, ee, List.append_nil]; exact J2)
      | some t =>
        have ee : entL n ws (lv + 1) f a i = leavesS n ws lv t (a * 512 + i) := by show (match lead n (wat ws f i) with | some m => leavesS n ws lv m (a * 512 + i) | none => []) = _; rw [hl]
        simp only [Option.isSome_some, Br_true]
        rw [(lead_some hl).2]
        refine Ld_f (x := clo187 b3 b4 b5) (R.c5 _ _ J2) ?_
        obtain ⟨m', rfl⟩ : ∃ m', m = m' + 1 := ⟨m - 1, by omega⟩
        rw [call187]
        obtain ⟨r2, hr2⟩ := partL_split n ws (lv + 1) f a hlt
        refine ih m' t (a * 512 + i) (d ++ partL n ws (lv + 1) f a i) (r2 ++ r) h2 _ (lead_lt hl) (by omega) (by omega) (by rw [hT, hr2, ee]; simp) J2 (fun h6 J6 => ?_) (fun h6 hx => ?_) (by omega)
        · exact next h6 (by rw [partL_succ, ee, ← List.append_assoc]; exact J6)
        · exact q0 h6 hx
    · have : i = 512 := by simp only at hge; omega
      subst this
      exact q1 h1 (by rw [leavesS_eq]; exact J1)
/-- All leaves from a root. -/
def leavesT (n : Nat) (ws : List Int) (root : Int) : List (Int × Int) := if 0 ≤ root ∧ root < n then leavesS n ws 2 root.toNat 0 else []
theorem zero229 : zeroC Try.prog 229 = #[.nilFunc] := by kernel_rfl
theorem K186 {Y : YY Try.prog} {l bm bf n p1 p2 : Nat} {ws : List Int} {root : Int} {Lx : List Nat} {J0 : List (Int × Int) → H → Prop} {X : H → Prop} {Q : H → Prop} {h : H}
    (mw : ∀ d h, J0 d h → MW h bm bf n ws) (kept : ∀ d h h', J0 d h → Kept h h' → J0 d h') (e1 : h[p1]? = some (.cells #[.pointer (some ⟨bm, 0, none⟩)] 45)) (e2 : IL h p2 3 [root]) (hp : p1 ∉ Lx) (hL : ∀ b ∈ Lx, b < h.size)
    (step : ∀ d e r h' K, leavesT n ws root = d ++ e :: r → J0 d h' → (∀ h'', J0 (d ++ [e]) h'' → KL h' Lx h'' → K (.bool true) h'') → (∀ h'', X h'' → K (.bool false) h'') → Y.sem l (eV e) K h')
    (j0 : J0 [] h) (q1 : ∀ h', J0 (leavesT n ws root) h' → Q h') (q0 : ∀ h', X h' → Q h') : F186 Y (yV l) ⟨p1, 0, none⟩ ⟨p2, 0, none⟩ Q h := by
  rw [F186_eq]
  refine Nw_intro fun a1 h1 ha1 k1 f1 => Nw_intro fun a3 h2 ha3 k2 f2 => ?_
  have f1 : h1[a1]? = some (.cells #[yV l] 228) := f1
  rw [zero229] at f2
  have hk1 := k1.1
  have la1 := (Array.getElem?_eq_some_iff.1 f1).1
  have la3 := (Array.getElem?_eq_some_iff.1 f2).1
  simp only [add_mk, Nat.add_zero]
  refine St_intro f2 (by simp) fun h3 u3 f3 => ?_
  have f3 : h3[a3]? = some (.cells #[clo187 p1 a1 a3] 229) := f3
  have k3 : Kept h h3 := u3.kept (k1.trans k2) (by omega)
  have g1 : h3[a1]? = some (.cells #[yV l] 228) := u3.blk (k2.blk f1) (by omega)
  have E1 := k3.blk e1
  have E2 : IL h3 p2 3 [root] := k3.blk e2
  have J3 := kept _ _ _ j0 k3
  have c2 : hcell h3 ⟨p2, 0, none⟩ = some (.int .i64 root) := by rw [hcell_blk E2]; rfl
  have no : ¬ (0 ≤ root ∧ root < n) → Q h3 := fun hh => by
    refine q1 h3 ?_
    unfold leavesT; rw [if_neg hh]; exact J3
  refine Ld_i c2 (Br_dec (fun h0 => ?_) fun h0 => no (fun x => h0 x.1))
  refine Ld_i c2 (Ld_p (x := some ⟨bm, 0, none⟩) (by rw [hcell_blk E1]; rfl) ⟨((n : Int), ()), C93 (mw _ _ J3).mem ⟨rfl, rfl⟩, ?_⟩)
  refine Br_dec (fun hn => ?_) fun hn => no (fun x => hn x.2)
  have hn : root < (n : Int) := hn
  refine Ld_f (x := clo187 p1 a1 a3) (by rw [hcell_blk f3]; rfl) (Ld_i c2 ?_)
  rw [call186]
  obtain ⟨f, hf⟩ := Int.eq_ofNat_of_zero_le h0
  have hT : leavesT n ws root = leavesS n ws 2 f 0 := by unfold leavesT; rw [if_pos ⟨h0, hn⟩, hf, Int.toNat_natCast]
  have key : ∀ d h', (J0 d h' ∧ h'[p1]? = some (.cells #[.pointer (some ⟨bm, 0, none⟩)] 45) ∧ h'[a1]? = some (.cells #[yV l] 228) ∧ h'[a3]? = some (.cells #[clo187 p1 a1 a3] 229)) → True := fun _ _ _ => trivial
  have R : RoundsOK Y l bm bf n ws p1 a1 a3 (leavesT n ws root) (fun d h' => J0 d h' ∧ h'[p1]? = some (.cells #[.pointer (some ⟨bm, 0, none⟩)] 45) ∧ h'[a1]? = some (.cells #[yV l] 228) ∧ h'[a3]? = some (.cells #[clo187 p1 a1 a3] 229)) X := by
    refine ⟨fun d h j => mw d h j.1, fun d h j => by rw [hcell_blk j.2.1]; rfl, fun d h j => by rw [hcell_blk j.2.2.1]; rfl, fun d h j => by rw [hcell_blk j.2.2.2]; rfl, fun d h h' j k => ⟨kept d h h' j.1 k, k.blk j.2.1, k.blk j.2.2.1, k.blk j.2.2.2⟩, fun d e r h' K hT' j qt qf => ?_⟩
    refine step d e r h' K hT' j.1 (fun h'' jj kk => qt h'' ⟨jj, kk.blk j.2.1 hp, kk.blk j.2.2.1 (fun hm => by have := hL a1 hm; omega), kk.blk j.2.2.2 (fun hm => by have := hL a3 hm; omega)⟩) qf
  rw [hf]
  refine K187 R 2 3 f 0 [] [] h3 _ (by omega) (by omega) (by omega) (by rw [hT, List.nil_append, List.append_nil]) ⟨J3, E1, g1, f3⟩ (fun h' j => ?_) (fun h' hx => q0 h' hx) (by omega)
  have q1 := q1 h'
  rw [hT] at q1
  rw [List.nil_append] at j
  exact q1 j.1
end Go.Proofs.Ytfijchofplkcoaa
