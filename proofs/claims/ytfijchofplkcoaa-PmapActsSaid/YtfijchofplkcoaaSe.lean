/-
  Every operation that occurs: its predicate, and that the machine does so.
-/
import Derived.Test.YtfijchofplkcoaaSd
set_option linter.unusedVariables false
set_option linter.unusedSimpArgs false
namespace Go.Proofs.Ytfijchofplkcoaa

def callE {P : Program} : List (Ent P) → Nat → List Value → (Value → H → Prop) → H → Prop
  | [], _, _, _, _ => False
  | e :: r, n, args, K, h => bif Nat.beq e.num n then e.sem args K h else callE r n args K h
def pairs (s : Sto) : List (Nat × Operand) → Option (List (Nat × Value))
  | [] => some []
  | (i, x) :: r => match look s x, pairs s r with | some v, some vs => some ((i, v) :: vs) | _, _ => none
def opt (s : Sto) : Option Operand → Option (Option Value)
  | none => some none
  | some x => match look s x with | some v => some (some v) | none => none
def sl2 (x : Value) (K : Sl → Prop) : Prop := match x with | .slice a l c => K ⟨a, l, c⟩ | _ => False

def evCall {P : Program} (tb : Tab) (G : List (Ent P)) (s : Sto) (c : Call) (h : H) (K : Value → H → Prop) : Prop :=
  match c.callee with
  | .value f => (match look s f with
    | some (.func (.func n) first captured) => (match looks s c.args.toList with
      | some vs => callE G n (first.toList ++ vs ++ captured.toList) K h
      | none => False)
    | _ => False)
  | .builtin .len => (match c.argTypes.toList, c.args.toList with
    | [t], [x] => (match find1 tb.lk t with
      | some (.leaf .s) => ovl (look s x) fun v => sl2 v fun q => K (.int .i64 q.len) h
      | _ => False)
    | _, _ => False)
  | .builtin .append => (match c.argTypes.toList, c.args.toList with
    | [t, u], [x, y] => (bif Nat.beq t u then (match ixOf tb t with
      | some ⟨none, el, sz, by_⟩ => ovl (look s x) fun v => sl2 v fun a => ovl (look s y) fun u => sl2 u fun b => App P ⟨none, el, sz, by_⟩ h a b fun q h' => K (.slice q.a q.len q.cap) h'
      | _ => False) else False)
    | _, _ => False)
  | .builtin .copy => (match c.argTypes.toList, c.args.toList with
    | [t, _], [x, y] => (match ixOf tb t with
      | some ⟨none, el, sz, by_⟩ => ovl (look s x) fun v => sl2 v fun a => ovl (look s y) fun u => sl2 u fun b => Cpy ⟨none, el, sz, by_⟩ h a b fun n h' => K (.int .i64 n) h'
      | _ => False)
    | _, _ => False)
  | _ => False

def isStr (P : Program) (t : Nat) : Bool := match P.underlying t with | some .string => true | _ => false
def evOp {P : Program} (tb : Tab) (G : List (Ent P)) (s : Sto) (op : Op) (h : H) (K : Value → H → Prop) : Prop :=
  match op with
  | .move x => ovl (look s x) fun v => K v h
  | .assign x => (match x with
    | .const v => K v h
    | x => (match look s x with
      | none => False
      | some v => (match v with
        | .int k n => LetI n fun m => K (.int k m) h
        | v => K v h)))
  | .pick c a b => (match look s c with
    | some (.bool t) => Br t (ovl (look s a) fun v => K v h) (ovl (look s b) fun v => K v h)
    | _ => False)
  | .alloc t => (match find1 tb.lk t with | some _ => Nw h (zeroC P t) t fun a h' => K (.pointer (some a)) h' | none => False)
  | .box t x => ovl (look s x) fun v => Nw h v.cells t fun a h' => K (.pointer (some a)) h'
  | .build t ps => (match find1 tb.bd t, pairs s ps.toList with
    | some places, some vs => (match Instr.fill (places[·]?) (zeroC P t) vs with | some cells => K (.agg cells) h | none => False)
    | _, _ => False)
  | .buildSlice t len ps => (match ixOf tb t, pairs s ps.toList with
    | some ⟨none, el, sz, _⟩, some vs => (bif Nat.ble (len * sz) 16777216 then
        (match Instr.fill (fun i => some (i * sz, sz)) (zerosC P el len) vs with | some cells => Nw h cells el fun a h' => K (.slice (some a) len len) h' | none => False) else False)
    | _, _ => False)
  | .load t x => (match look s x with | some (.pointer (some a)) => evLd (find1 tb.lk t) h a fun v => K v h | _ => False)
  | .store t x y => (match look s x with | some (.pointer (some a)) => ovl (look s y) fun v => evSt (find1 tb.lk t) h a v fun h' => K undef h' | _ => False)
  | .nilCheck x => (match look s x with
    | some (.pointer p) => NilP p fun a => K (.pointer (some a)) h
    | some (.func (.func n) f c) => K (.func (.func n) f c) h
    | _ => False)
  | .binOp op t x y _ => ovl (look s x) fun v => ovl (look s y) fun u => evBin (find1 tb.eq t) op v u fun r => K r h
  | .unOp op _ x => (match op, look s x with | .not, some (.bool b) => K (.bool (!b)) h | .neg, some (.int k n) => K (.int k (k.wrap (0 - n))) h | _, _ => False)
  | .convert src dst x => (match find1 tb.lk src, find1 tb.lk dst with
    | some (.leaf (.i _)), some (.leaf (.i k)) => (match look s x with | some (.int _ n) => K (.int k (k.wrap n)) h | _ => False)
    | some (.leaf .s), none => (match ixOf tb src with
      | some ⟨none, el, _, _⟩ => (match find1 tb.lk el with
        | some (.leaf (.i .u8)) => (bif isStr P dst then ovl (look s x) fun v => sl2 v fun q => LdStr h q fun b => K (.string b) h else False)
        | _ => False)
      | _ => False)
    | _, _ => False)
  | .makeFunc fn first cap => (match looks s first.toList, looks s cap.toList with | some f, some c => K (.func fn f.toArray c.toArray) h | _, _ => False)
  | .makeSlice t l c => ovl (look s l) fun v => ovl (look s c) fun u => evMk P (ixOf tb t) h v u K
  | .slice t x lo hi mx => (match mx with
    | none => (match opt s lo, opt s hi with
      | some l, some u => ovl (look s x) fun v => evSlice (ixOf tb t) v l u fun r => K r h
      | _, _ => False)
    | some _ => False)
  | .fieldAddr t x f => (match look s x with | some (.pointer (some a)) => (match fld tb t f with | some o => K (.pointer (some (a.add o))) h | none => False) | _ => False)
  | .indexAddr t x i => ovl (look s x) fun v => ovl (look s i) fun u => evIdx (ixOf tb t) v u fun r => K r h
  | .index t x i => ovl (look s x) fun v => ovl (look s i) fun u => (match ixOf tb t with | some ix => evIxV (find1 tb.lk ix.el) (some ix) v u fun r => K r h | none => False)
  | .extract x i => (match look s x with | some (.tuple vs) => ovl vs.toList[i]? fun v => K v h | _ => False)
  | .call c => evCall tb G s c h K
  | _ => False

/-- What a run of one operation may come to. -/
def Good (P : Program) (r : Result Next) (w : World) (K : Value → H → Prop) : Prop :=
  match r with
  | .ok (.value v) w' => Same w w' ∧ K v w'.heap
  | .ok .skip w' => Same w w' ∧ K undef w'.heap
  | .ok (.enter f args) w' => w' = w ∧ Calls P f args w (fun e w'' => ∃ v, e = .returned v ∧ Same w w'' ∧ K v w''.heap)
  | _ => False

theorem Good.upon {P : Program} {o : Oper} {a : Act} {next : Act → World → Prop} {Q : Exit → Act → World → Prop} {r : Result Next} {w : World} {K : Value → H → Prop}
    (h : Good P r w K) (hK : ∀ v w', Same w w' → K v w'.heap → next (a.put o.dst v) w') : o.upon P a next Q r := by
  unfold Good at h
  split at h
  · exact hK _ _ h.1 h.2
  · exact hK _ _ h.1 h.2
  · obtain ⟨rfl, h⟩ := h
    simp only [Oper.upon]
    refine h.mono ?_
    rintro e w'' ⟨v, rfl, hs, hk⟩
    exact hK _ _ hs hk
  · exact h.elim

structure Agree (s : Sto) (ρ : Operand → Value) : Prop where
  at_ : ∀ x v, look s x = some v → ρ x = v

theorem ovl_some {o : Option Value} {f : Value → Prop} (h : ovl o f) : ∃ v, o = some v ∧ f v := by
  unfold ovl at h
  split at h
  · exact ⟨_, rfl, h⟩
  · exact h.elim

theorem looks_get {s : Sto} {ρ : Operand → Value} (ha : Agree s ρ) : ∀ {xs : List Operand} {vs : List Value}, looks s xs = some vs → xs.map ρ = vs
  | [], vs, h => by simp [looks] at h; subst h; rfl
  | x :: r, vs, h => by
    simp only [looks] at h
    split at h
    · rename_i v us hv hu
      simp only [Option.some.injEq] at h
      subst h
      rw [List.map_cons, ha.at_ _ _ hv, looks_get ha hu]
    · simp at h
theorem pairs_get {s : Sto} {ρ : Operand → Value} (ha : Agree s ρ) : ∀ {xs : List (Nat × Operand)} {vs : List (Nat × Value)}, pairs s xs = some vs → xs.map (fun (i, x) => (i, ρ x)) = vs
  | [], vs, h => by simp [pairs] at h; subst h; rfl
  | (i, x) :: r, vs, h => by
    simp only [pairs] at h
    split at h
    · rename_i v us hv hu
      simp only [Option.some.injEq] at h
      subst h
      have e := pairs_get ha hu
      show (i, ρ x) :: _ = _
      rw [ha.at_ _ _ hv, ← e]
    · simp at h
theorem opt_get {s : Sto} {ρ : Operand → Value} (ha : Agree s ρ) {x : Option Operand} {v : Option Value} (h : opt s x = some v) : x.map ρ = v := by
  cases x with
  | none => simp [opt] at h; subst h; rfl
  | some x =>
    simp only [opt] at h
    split at h
    · rename_i u hu
      simp only [Option.some.injEq] at h
      subst h
      rw [Option.map_some, ha.at_ _ _ hu]
    · simp at h

theorem Tab.lk_ok {P : Program} {tb : Tab} (hok : tb.ok P = true) {t : Nat} {k : LK} (h : find1 tb.lk t = some k) : lkOk P (t, k) = true := by
  unfold Tab.ok at hok
  simp only [Bool.and_eq_true, List.all_eq_true] at hok
  exact hok.1.1.1 _ (find1_mem h)
theorem Tab.fo_ok {P : Program} {tb : Tab} (hok : tb.ok P = true) {t f o : Nat} (h : fld tb t f = some o) : foOk P (t, f, o) = true := by
  unfold Tab.ok at hok
  simp only [Bool.and_eq_true, List.all_eq_true] at hok
  exact hok.1.1.2 _ (fld_mem h)
theorem Tab.bd_ok {P : Program} {tb : Tab} (hok : tb.ok P = true) {t : Nat} {k : List (Nat × Nat)} (h : find1 tb.bd t = some k) : bdOk P (t, k) = true := by
  unfold Tab.ok at hok
  simp only [Bool.and_eq_true, List.all_eq_true] at hok
  exact hok.2 _ (find1_mem h)

def Tab.full (P : Program) (tb : Tab) : Bool := tb.ok P && tb.eq.all fun e => lkOk P e && eqOk P e
theorem Tab.full_ok {P : Program} {tb : Tab} (h : tb.full P = true) : tb.ok P = true := by
  unfold Tab.full at h; simp only [Bool.and_eq_true] at h; exact h.1
theorem Tab.eq_ok {P : Program} {tb : Tab} (h : tb.full P = true) {t : Nat} {k : LK} (hf : find1 tb.eq t = some k) : lkOk P (t, k) = true ∧ eqOk P (t, k) = true := by
  unfold Tab.full at h
  simp only [Bool.and_eq_true, List.all_eq_true] at h
  exact h.2 _ (find1_mem hf)

theorem callE_ok {P : Program} {G : List (Ent P)} {n : Nat} {args : List Value} {K : Value → H → Prop} (w : World) (h : callE G n args K w.heap) :
    (∃ fn, P.funcs[n]? = some fn ∧ (fn.name == "runtime.NumGoroutine") = false ∧ fn.body.isNone = false) ∧ Calls P n args.toArray w (fun e w' => ∃ v, e = .returned v ∧ Same w w' ∧ K v w'.heap) := by
  induction G with
  | nil => exact h.elim
  | cons e r ih =>
    simp only [callE] at h
    cases hb : Nat.beq e.num n with
    | true =>
      rw [hb] at h
      have := Nat.eq_of_beq_eq_true hb
      subst this
      exact ⟨e.has, e.ok _ _ _ h⟩
    | false => rw [hb] at h; exact ih h

theorem fill_mono {p q : Nat → Option (Nat × Nat)} (hpq : ∀ i x, p i = some x → q i = some x) : ∀ (l : List (Nat × Value)) (c r : Array Value), Instr.fill p c l = some r → Instr.fill q c l = some r
  | [], c, r, h => h
  | (i, v) :: l, c, r, h => by
    simp only [Instr.fill] at h ⊢
    cases hp : p i with
    | none => rw [hp] at h; simp at h
    | some x =>
      obtain ⟨off, size⟩ := x
      rw [hp] at h
      rw [hpq i _ hp]
      simp only at h ⊢
      split at h
      · simp at h
      · rename_i hc
        rw [if_neg hc]
        exact fill_mono hpq l _ r h

theorem run_callFunc {P : Program} {n : Nat} {fn : Func} (w : World) (args : Array Value) (h1 : P.funcs[n]? = some fn) (h2 : (fn.name == "runtime.NumGoroutine") = false) (h3 : fn.body.isNone = false) :
    (callFunc n args).run P w = .ok (.enter n args) w := by
  simp only [callFunc, Sem.run_bind, run_program, Result.andThen_ok, h1, h2, h3, Bool.false_eq_true, if_false, Sem.run_pure]

theorem evCall_ok {P : Program} {tb : Tab} {G : List (Ent P)} {s : Sto} {ρ : Operand → Value} {K : Value → H → Prop} (hok : tb.ok P = true) (ha : Agree s ρ) (w : World) (o : Oper) (c : Call) (ho : o.op = .call c) (h : evCall tb G s c w.heap K) :
    Good P ((execOp ρ o).run P w) w K := by
  unfold evCall at h
  split at h
  · -- a function
    rename_i f hf
    split at h
    case h_2 => exact h.elim
    rename_i n first captured hl
    split at h
    case h_2 => exact h.elim
    rename_i vs hvs
    obtain ⟨⟨fn, h1, h2, h3⟩, hc⟩ := callE_ok w h
    have hargs : (first ++ c.args.map ρ ++ captured) = (first.toList ++ vs ++ captured.toList).toArray := by
      apply Array.ext'
      simp [← looks_get ha hvs]
    have hrun : (execOp ρ o).run P w = .ok (.enter n (first ++ c.args.map ρ ++ captured)) w := by
      have := run_callFunc w (first ++ c.args.map ρ ++ captured) h1 h2 h3
      simp only [execOp, ho, resolve, hf, ha.at_ _ _ hl, Deferred.ofValue, invoke, Sem.run_bind, Sem.run_pure, Result.andThen_ok, this]
    rw [hrun, hargs]
    exact ⟨rfl, hc⟩
  · rename_i hf
    split at h
    case h_2 => exact h.elim
    rename_i t x ht hx
    split at h
    case h_2 => exact h.elim
    rename_i hlk
    obtain ⟨v, hv, h⟩ := ovl_some h
    unfold sl2 at h
    split at h
    case h_2 => exact h.elim
    rename_i a l c'
    obtain ⟨d, i, hd, hk, _⟩ := lk_desc (Tab.lk_ok hok hlk)
    have hd2 : ∃ e, d = .slice e := by
      cases d <;> first | exact ⟨_, rfl⟩ | exact Bool.noConfusion (show false = true from hk)
    obtain ⟨e, rfl⟩ := hd2
    have e1 : c.argTypes = #[t] := by rw [← ht]
    have e2 : c.args = #[x] := by rw [← hx]
    have hrun : (execOp ρ o).run P w = .ok (.value (.int .i64 l)) w := by
      simp [execOp, ho, resolve, hf, invoke, builtin, Builtin.len_, e1, e2, ha.at_ _ _ hv, run_underlying hd, goInt]
    rw [hrun]
    exact ⟨Same.refl _, h⟩
  · rename_i hf
    split at h
    case h_2 => exact h.elim
    rename_i t u x y ht hx
    cases htu : Nat.beq t u with
    | false => rw [htu] at h; exact h.elim
    | true =>
    rw [htu] at h
    have := Nat.eq_of_beq_eq_true htu
    subst this
    simp only [cond_true] at h
    split at h
    case h_2 => exact h.elim
    rename_i el sz by_ hix
    obtain ⟨v, hv, h⟩ := ovl_some h
    unfold sl2 at h
    split at h
    case h_2 => exact h.elim
    rename_i a1 l1 c1
    obtain ⟨v2, hv2, h⟩ := ovl_some h
    split at h
    case h_2 => exact h.elim
    rename_i a2 l2 c2
    obtain ⟨hd, inf, hi, hs, hb, ⟨z, hz, hzc, hzs⟩, hs0, hb0⟩ := ix_facts hok hix
    obtain ⟨q, w', h1, h2, h3⟩ := run_append (t := t) (e := 0) w _ ⟨a1, l1, c1⟩ ⟨a2, l2, c2⟩ _ o.type hd hi hs hb hz hzc hs0 hb0 h
    have e1 : c.argTypes = #[t, t] := by rw [← ht]
    have e2 : c.args = #[x, y] := by rw [← hx]
    have hrun : (execOp ρ o).run P w = .ok (.value (.slice q.a q.len q.cap)) w' := by
      simp only at h1
      simp [execOp, ho, resolve, hf, invoke, builtin, e1, e2, ha.at_ _ _ hv, ha.at_ _ _ hv2, h1]
    rw [hrun]
    exact ⟨h2, h3⟩
  · rename_i hf
    split at h
    case h_2 => exact h.elim
    rename_i t u x y ht hx
    split at h
    case h_2 => exact h.elim
    rename_i el sz by_ hix
    obtain ⟨v, hv, h⟩ := ovl_some h
    unfold sl2 at h
    split at h
    case h_2 => exact h.elim
    rename_i a1 l1 c1
    obtain ⟨v2, hv2, h⟩ := ovl_some h
    split at h
    case h_2 => exact h.elim
    rename_i a2 l2 c2
    obtain ⟨hd, inf, hi, hs, hb, ⟨z, hz, hzc, hzs⟩, hs0, hb0⟩ := ix_facts hok hix
    obtain ⟨n, w', h1, h2, h3⟩ := run_cpy (t := t) (t2 := u) w _ ⟨a1, l1, c1⟩ ⟨a2, l2, c2⟩ _ o.type hd hi hs h
    have e1 : c.argTypes = #[t, u] := by rw [← ht]
    have e2 : c.args = #[x, y] := by rw [← hx]
    have hrun : (execOp ρ o).run P w = .ok (.value (.int .i64 n)) w' := by
      simp only at h1
      simp [execOp, ho, resolve, hf, invoke, builtin, e1, e2, ha.at_ _ _ hv, ha.at_ _ _ hv2, h1]
    rw [hrun]
    exact ⟨h2, h3⟩
  · exact h.elim

theorem good_value {P : Program} {ρ : Operand → Value} {o : Oper} {w w' : World} {K : Value → H → Prop} {v : Value} (hr : (execOp ρ o).run P w = .ok (.value v) w') (hs : Same w w') (hk : K v w'.heap) : Good P ((execOp ρ o).run P w) w K := by
  rw [hr]; exact ⟨hs, hk⟩

theorem run_fieldAt {P : Program} {t f off : Nat} (w : World) (h : foOk P (t, f, off) = true) (a : Addr) : (Instr.fieldAt t (.pointer (some a)) f).run P w = .ok (.pointer (some (a.add off))) w := by
  unfold foOk at h
  simp only at h
  split at h
  case h_2 => simp at h
  rename_i fs hd
  split at h
  case h_2 => simp at h
  rename_i fd hf
  simp only [Bool.and_eq_true] at h
  obtain ⟨h1, h2⟩ := h
  have h1 := Nat.eq_of_beq_eq_true h1
  split at h2
  case h_2 => simp at h2
  rename_i i hi
  simp only [Bool.not_eq_true'] at h2
  have hn : P.cellsOf fd.type ≠ 0 := by
    intro e
    simp [Program.cellsOf, hi] at e
    rw [e] at h2; simp at h2
  simp [Instr.fieldAt, run_underlying hd, hf, Instr.sureAddr, fieldPlace, run_sizeOf w hi, hn, h1]

theorem mapM_places {P : Program} (w : World) : ∀ (fs : List Field), (∀ f ∈ fs, (P.info? f.type).isSome = true) → (fs.mapM fun (f : Field) => (do pure (f.offset, ← sizeOf f.type) : Sem (Nat × Nat))).run P w = .ok (fs.map fun f => (f.offset, P.cellsOf f.type)) w
  | [], _ => by simp
  | f :: fs, h => by
    obtain ⟨i, hi⟩ := Option.isSome_iff_exists.1 (h f List.mem_cons_self)
    have ih := mapM_places (P := P) w fs (fun g hg => h g (List.mem_cons_of_mem _ hg))
    rw [List.mapM_cons]
    simp only [Sem.run_bind, run_sizeOf w hi, Result.andThen_ok, Sem.run_pure, ih, List.map_cons]

theorem run_build {P : Program} {tb : Tab} (hok : tb.ok P = true) {t : Nat} {places : List (Nat × Nat)} (w : World) (hb : find1 tb.bd t = some places) (vs : List (Nat × Value)) (cells : Array Value)
    (hf : Instr.fill (places[·]?) (zeroC P t) vs = some cells) : (Instr.build t vs.toArray).run P w = .ok (.agg cells) w := by
  have h := Tab.bd_ok hok hb
  unfold bdOk at h
  simp only [Bool.and_eq_true] at h
  obtain ⟨h0, h⟩ := h
  split at h0
  case h_2 => simp at h0
  rename_i i hi
  obtain ⟨z, hz⟩ := Option.isSome_iff_exists.1 h0
  have hzc : zeroC P t = z.cells := by simp [zeroC, hi, hz]
  have hzv : (zeroValue t).run P w = .ok z w := by simp [zeroValue, typeInfo, hi, hz]
  rw [hzc] at hf
  split at h
  · rename_i fs hd
    simp only [Bool.and_eq_true] at h
    obtain ⟨h1, h2⟩ := h
    have h1 : (fs.toList.map fun f => (f.offset, P.cellsOf f.type)) = places := by simpa using h1
    have h2 : ∀ f ∈ fs.toList, (P.info? f.type).isSome = true := by
      intro f hf'
      rw [Array.all_eq_true'] at h2
      exact h2 f (by simpa using hf')
    have hm := mapM_places (P := P) w fs.toList h2
    have hm2 : (fs.mapM fun (f : Field) => (do pure (f.offset, ← sizeOf f.type) : Sem (Nat × Nat))).run P w = .ok places.toArray w := by
      rw [Array.mapM_eq_mapM_toList, Sem.run_map, hm, h1]; rfl
    have hf2 : Instr.fill (places.toArray[·]?) z.cells vs = some cells := by
      have : (fun (x : Nat) => places.toArray[x]?) = fun (x : Nat) => places[x]? := by funext x; simp
      rw [this]; exact hf
    simp only [Instr.build, Sem.run_bind, hzv, Result.andThen_ok, run_underlying hd, hm2, hf2, Sem.run_pure]
  · rename_i n el hd
    simp only [Bool.and_eq_true, decide_eq_true_eq] at h
    obtain ⟨⟨h1, h2⟩, h3⟩ := h
    have h1 : (List.range n).map (fun i => (i * P.cellsOf el, P.cellsOf el)) = places := by simpa using h1
    obtain ⟨i2, hi2⟩ := Option.isSome_iff_exists.1 h2
    have hf2 : Instr.fill (fun i => some (i * P.cellsOf el, P.cellsOf el)) z.cells vs = some cells := by
      refine fill_mono (fun i x hx => ?_) vs _ _ hf
      rw [← h1, List.getElem?_map] at hx
      cases hr : (List.range n)[i]? with
      | none => rw [hr] at hx; simp at hx
      | some j =>
        rw [hr] at hx
        obtain ⟨hj, e⟩ := List.getElem?_eq_some_iff.1 hr
        simp at e; subst e
        simpa using hx
    simp only [Instr.build, Sem.run_bind, hzv, Result.andThen_ok, run_underlying hd, run_sizeOf w hi2, hf2, Sem.run_pure]
  · simp at h

theorem run_buildSlice {P : Program} {tb : Tab} (hok : tb.ok P = true) {t el sz by_ : Nat} (w : World) (hix : ixOf tb t = some ⟨none, el, sz, by_⟩) (len : Nat) (hlen : len * sz ≤ 16777216) (vs : List (Nat × Value)) (cells : Array Value)
    (hf : Instr.fill (fun i => some (i * sz, sz)) (zerosC P el len) vs = some cells) : (Instr.buildSlice t len vs.toArray).run P w = .ok (.slice (some ⟨w.heap.size, 0, none⟩) len len) { w with heap := newB w.heap cells el } := by
  obtain ⟨hd, inf, hi, hs, hb, ⟨z, hz, hzc, hzs⟩, hs0, hb0⟩ := ix_facts hok hix
  simp only at hd hi hs hzc hzs
  have hzv : (zeroValue el).run P w = .ok z w := by simp [zeroValue, typeInfo, hi, hz]
  have hsz : (sizeOf el).run P w = .ok sz w := by rw [run_sizeOf w hi]; simp [Program.cellsOf, hi, hs]
  have hcells : ((Array.range (len * sz)).map fun x => (if len * sz = 0 then #[] else z.cells)[x % (if len * sz = 0 then (#[] : Array Value) else z.cells).size]!) = zerosC P el len := by
    unfold zerosC
    rw [hzc, hzs]
    by_cases he : len * sz = 0
    · rw [he]; simp
    · rw [if_neg he, hzs]
  simp only [Instr.buildSlice, Sem.run_bind, run_underlying hd, Result.andThen_ok, hsz]
  rw [if_neg (by simpa using hlen)]
  by_cases he : len * sz = 0
  · rw [if_pos he]
    simp only [if_pos he] at hcells
    simp only [newRow, Sem.run_bind, run_newObj, Result.andThen_ok, Sem.run_pure, hcells, newB, hf]
  · rw [if_neg he]
    simp only [if_neg he] at hcells
    simp only [newRow, Sem.run_bind, hzv, run_newObj, Result.andThen_ok, Sem.run_pure, hcells, newB, hf]

set_option maxHeartbeats 1000000 in
theorem evOp_ok {P : Program} {tb : Tab} {G : List (Ent P)} {s : Sto} {ρ : Operand → Value} {K : Value → H → Prop} (hfull : tb.full P = true) (ha : Agree s ρ) (w : World) (o : Oper) (h : evOp tb G s o.op w.heap K) :
    Good P ((execOp ρ o).run P w) w K := by
  have hok := Tab.full_ok hfull
  cases ho : o.op <;> rw [ho] at h <;> simp only [evOp] at h
  case move x =>
    obtain ⟨v, hv, h⟩ := ovl_some h
    exact good_value (by simp [execOp, ho, ha.at_ _ _ hv]) (Same.refl _) h
  case assign x =>
    have h' : ovl (look s x) fun v => K v w.heap := by
      split at h
      · exact h
      · split at h
        · exact h.elim
        · rename_i v hv
          rw [hv]
          split at h
          · exact h
          · exact h
    obtain ⟨v, hv, h⟩ := ovl_some h'
    exact good_value (by simp [execOp, ho, ha.at_ _ _ hv]) (Same.refl _) h
  case pick c a b =>
    split at h
    case h_2 => exact h.elim
    rename_i t ht
    cases t with
    | true =>
      obtain ⟨v, hv, h⟩ := ovl_some h
      exact good_value (by simp [execOp, ho, ha.at_ _ _ ht, ha.at_ _ _ hv, asBool]) (Same.refl _) h
    | false =>
      obtain ⟨v, hv, h⟩ := ovl_some h
      exact good_value (by simp [execOp, ho, ha.at_ _ _ ht, ha.at_ _ _ hv, asBool]) (Same.refl _) h
  case alloc t =>
    split at h
    case h_2 => exact h.elim
    rename_i k hk
    obtain ⟨d, i, hd, _, hi, _, hz⟩ := lk_desc (Tab.lk_ok hok hk)
    obtain ⟨z, hz⟩ := Option.isSome_iff_exists.1 hz
    have hzc : zeroC P t = z.cells := by simp [zeroC, hi, hz]
    rw [hzc] at h
    have hzv : (zeroValue t).run P w = .ok z w := by simp [zeroValue, typeInfo, hi, hz]
    refine good_value (w' := { w with heap := newB w.heap z.cells t }) (v := .pointer (some ⟨w.heap.size, 0, none⟩)) ?_ ⟨rfl, rfl, rfl⟩ h
    simp [execOp, ho, Instr.alloc, hzv, newVar, newRow, newB]
  case box t x =>
    obtain ⟨v, hv, h⟩ := ovl_some h
    refine good_value (w' := { w with heap := newB w.heap v.cells t }) (v := .pointer (some ⟨w.heap.size, 0, none⟩)) ?_ ⟨rfl, rfl, rfl⟩ h
    simp [execOp, ho, Instr.box, ha.at_ _ _ hv, newVar, newRow, newB]
  case build t ps =>
    split at h
    case h_2 => exact h.elim
    rename_i places vs hb hvs
    split at h
    case h_2 => exact h.elim
    rename_i cells hc
    have h2 := run_build hok w hb vs cells hc
    have h3 : ps.map (fun (i, x) => (i, ρ x)) = vs.toArray := by
      apply Array.ext'; simp [← pairs_get ha hvs]
    refine good_value (v := .agg cells) ?_ (Same.refl _) h
    simp only [execOp, ho, h3, Sem.run_bind, h2, Result.andThen_ok, Sem.run_pure]
  case buildSlice t len ps =>
    split at h
    case h_2 => exact h.elim
    rename_i el sz by_ vs hix hvs
    cases hl : Nat.ble (len * sz) 16777216 with
    | false => rw [hl] at h; exact h.elim
    | true =>
      rw [hl] at h
      simp only [cond_true] at h
      split at h
      case h_2 => exact h.elim
      rename_i cells hc
      have h2 := run_buildSlice hok w hix len (Nat.le_of_ble_eq_true hl) vs cells hc
      have h3 : ps.map (fun (i, x) => (i, ρ x)) = vs.toArray := by
        apply Array.ext'; simp [← pairs_get ha hvs]
      refine good_value (w' := { w with heap := newB w.heap cells el }) (v := .slice (some ⟨w.heap.size, 0, none⟩) len len) ?_ ⟨rfl, rfl, rfl⟩ h
      simp only [execOp, ho, h3, Sem.run_bind, h2, Result.andThen_ok, Sem.run_pure]
  case load t x =>
    split at h
    case h_2 => exact h.elim
    rename_i a hx
    obtain ⟨v, hv, h⟩ := evLd_ok w (fun k hk => Tab.lk_ok hok hk) h
    exact good_value (by simp [execOp, ho, Instr.loadAt, Instr.sureAddr, ha.at_ _ _ hx, hv]) (Same.refl _) h
  case store t x y =>
    split at h
    case h_2 => exact h.elim
    rename_i a hx
    obtain ⟨v, hv, h⟩ := ovl_some h
    obtain ⟨w', h1, h2, h3⟩ := evSt_ok w (fun k hk => Tab.lk_ok hok hk) h
    have hr : (execOp ρ o).run P w = .ok .skip w' := by simp [execOp, ho, Instr.storeAt, Instr.sureAddr, ha.at_ _ _ hx, ha.at_ _ _ hv, h1]
    rw [hr]
    exact ⟨h2, h3⟩
  case nilCheck x =>
    split at h
    · rename_i p hx
      cases p with
      | none => exact h.elim
      | some a => exact good_value (by simp [execOp, ho, ha.at_ _ _ hx]) (Same.refl _) h
    · rename_i n f c hx
      exact good_value (by simp [execOp, ho, ha.at_ _ _ hx]) (Same.refl _) h
    · exact h.elim
  case binOp op t x y u =>
    obtain ⟨v, hv, h⟩ := ovl_some h
    obtain ⟨v2, hv2, h⟩ := ovl_some h
    obtain ⟨r, hr, h⟩ := evBin_ok w (fun k hk => Tab.eq_ok hfull hk) h
    have hr := hr x y
    refine good_value ?_ (Same.refl _) h
    simp only [execOp, ho, ha.at_ _ _ hv, ha.at_ _ _ hv2, Sem.run_bind, Sem.run_pure] at hr ⊢
    rw [hr]; rfl
  case unOp op t x =>
    split at h
    · rename_i b hx
      exact good_value (by simp [execOp, ho, ha.at_ _ _ hx, Op.unary]) (Same.refl _) h
    · rename_i k n hx
      exact good_value (v := .int k (k.wrap (0 - n))) (by simp only [execOp, ho, ha.at_ _ _ hx, Op.unary, Op.intArith, Sem.run_bind, Sem.run_pure, Result.andThen_ok]) (Same.refl _) h
    · exact h.elim
  case convert src dst x =>
    split at h
    · rename_i k1 k h1 h2
      split at h
      case h_2 => exact h.elim
      rename_i k2 n hx
      obtain ⟨d1, i1, hd1, hk1, _⟩ := lk_desc (Tab.lk_ok hok h1)
      obtain ⟨d2, i2, hd2, hk2, _⟩ := lk_desc (Tab.lk_ok hok h2)
      have e2 : d2 = .int k := by
        cases d2 <;> first | (have h9 : (k == _) = true := hk2; rw [eq_of_beq h9]) | exact Bool.noConfusion (show false = true from hk2)
      subst e2
      refine good_value (v := .int k (k.wrap n)) ?_ (Same.refl _) h
      simp only [execOp, ho, ha.at_ _ _ hx, convert, Sem.run_bind, run_underlying hd1, run_underlying hd2, Result.andThen_ok]
      cases d1 <;> rfl
    · rename_i h1 h2
      split at h
      case h_2 => exact h.elim
      rename_i el sz by_ hix
      split at h
      case h_2 => exact h.elim
      rename_i hel
      obtain ⟨hd, _⟩ := ix_facts hok hix
      simp only at hd
      obtain ⟨d2, i2, hd2, hk2, _⟩ := lk_desc (Tab.lk_ok hok hel)
      have e2 : d2 = .int .u8 := by
        cases d2 <;> first | (have h9 : (IntKind.u8 == _) = true := hk2; rw [← eq_of_beq h9]) | exact Bool.noConfusion (show false = true from hk2)
      subst e2
      cases hstr : isStr P dst with
      | false => rw [hstr] at h; exact h.elim
      | true =>
      rw [hstr] at h
      simp only [cond_true] at h
      have hds : P.underlying dst = some .string := by
        unfold isStr at hstr
        split at hstr
        · assumption
        · simp at hstr
      obtain ⟨v, hv, h⟩ := ovl_some h
      unfold sl2 at h
      split at h
      case h_2 => exact h.elim
      rename_i a l c
      obtain ⟨b, hb, h⟩ := run_str w _ src dst el hd hd2 hds ⟨a, l, c⟩ h
      refine good_value (v := .string b) ?_ (Same.refl _) h
      simp only [execOp, ho, ha.at_ _ _ hv, Sem.run_bind, Sem.run_pure] at hb ⊢
      rw [hb]; rfl
    · exact h.elim
  case makeFunc fn first cap =>
    split at h
    case h_2 => exact h.elim
    rename_i f c hf hc
    have e1 : first.map ρ = f.toArray := by apply Array.ext'; simp [← looks_get ha hf]
    have e2 : cap.map ρ = c.toArray := by apply Array.ext'; simp [← looks_get ha hc]
    exact good_value (by simp only [execOp, ho, Instr.makeFunc, e1, e2, Sem.run_bind, Sem.run_pure, Result.andThen_ok]) (Same.refl _) h
  case makeSlice t l c =>
    obtain ⟨v, hv, h⟩ := ovl_some h
    obtain ⟨v2, hv2, h⟩ := ovl_some h
    obtain ⟨r, w', h1, h2, h3⟩ := evMk_ok hok w h
    exact good_value (by simp [execOp, ho, ha.at_ _ _ hv, ha.at_ _ _ hv2, h1]) h2 h3
  case slice t x lo hi mx =>
    split at h
    case h_2 => exact h.elim
    split at h
    case h_2 => exact h.elim
    rename_i l u hl hu
    obtain ⟨v, hv, h⟩ := ovl_some h
    obtain ⟨r, h1, h⟩ := evSlice_ok hok w h
    exact good_value (by simp only [execOp, ho, ha.at_ _ _ hv, opt_get ha hl, opt_get ha hu, Option.map_none, h1, Sem.run_bind, Sem.run_pure, Result.andThen_ok]) (Same.refl _) h
  case fieldAddr t x f =>
    split at h
    case h_2 => exact h.elim
    rename_i a hx
    split at h
    case h_2 => exact h.elim
    rename_i off hf
    exact good_value (by simp only [execOp, ho, ha.at_ _ _ hx, run_fieldAt w (Tab.fo_ok hok hf), Sem.run_bind, Sem.run_pure, Result.andThen_ok]) (Same.refl _) h
  case indexAddr t x i =>
    obtain ⟨v, hv, h⟩ := ovl_some h
    obtain ⟨v2, hv2, h⟩ := ovl_some h
    obtain ⟨r, h1, h⟩ := evIdx_ok hok w h
    exact good_value (by simp [execOp, ho, ha.at_ _ _ hv, ha.at_ _ _ hv2, h1]) (Same.refl _) h
  case index t x i =>
    obtain ⟨v, hv, h⟩ := ovl_some h
    obtain ⟨v2, hv2, h⟩ := ovl_some h
    split at h
    case h_2 => exact h.elim
    rename_i ix hix
    obtain ⟨r, h1, h⟩ := evIxV_ok hok w (fun q hq => by simp only [Option.some.injEq] at hq; subst hq; exact hix) (fun q k hq hk => by simp only [Option.some.injEq] at hq; subst hq; exact Tab.lk_ok hok hk) h
    exact good_value (by simp [execOp, ho, ha.at_ _ _ hv, ha.at_ _ _ hv2, h1]) (Same.refl _) h
  case extract x i =>
    split at h
    case h_2 => exact h.elim
    rename_i vs hx
    obtain ⟨v, hv, h⟩ := ovl_some h
    have hv' : vs[i]? = some v := by rw [← hv]; simp
    exact good_value (by simp [execOp, ho, ha.at_ _ _ hx, Instr.extract, hv']) (Same.refl _) h
  case call c => exact evCall_ok hok ha w o c ho h

end Go.Proofs.Ytfijchofplkcoaa
