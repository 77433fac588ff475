/-
  Whole pieces of code: regions, branches, loops, functions.
  The soundness of the reading of whole pieces of code.
  Regions whose order is drawn: one walk in a chosen order serves every order, where what is read stays as it is.
  The reading of a region whose order is drawn.
  Code and functions: what they come to, as predicates; entries.
-/
import Derived.Test.YtfijchofplkcoaaSe
import Derived.Orders
set_option linter.unusedVariables false
set_option linter.unusedSimpArgs false
namespace Go.Proofs.Ytfijchofplkcoaa

def put (s : Sto) (d : Option Tmp) (v : Value) : Sto := match d with | some d => (d, v) :: s | none => s
def dstOf (ops : List Oper) (j : Nat) : Option Nat := (ops[j]?).bind (·.dst)

def evOps {P : Program} (tb : Tab) (G : List (Ent P)) (all : List Oper) : List Oper → Sto → H → (Sto → H → Prop) → Prop
  | [], s, h, K => K s h
  | o :: r, s, h, K =>
    match o.guard with
    | none => evOp tb G s o.op h fun v h' => evOps tb G all r (put s o.dst v) h' K
    | some (j, want) => match dstOf all j with
      | none => False
      | some d => match find1 s d with
        | none => False
        | some v => match v with
          | .bool b => Br b
              (match want with
                | true => evOp tb G ((d, .bool true) :: s) o.op h fun v h' => evOps tb G all r (put ((d, .bool true) :: s) o.dst v) h' K
                | false => evOps tb G all r (put ((d, .bool true) :: s) o.dst undef) h K)
              (match want with
                | true => evOps tb G all r (put ((d, .bool false) :: s) o.dst undef) h K
                | false => evOp tb G ((d, .bool false) :: s) o.op h fun v h' => evOps tb G all r (put ((d, .bool false) :: s) o.dst v) h' K)
          | _ => evOps tb G all r (put s o.dst undef) h K

/-! States at joins and loops -/
inductive Shape where
  | one (t : Ty)
  | agg (ts : List Ty)
  | fn (n : Nat) (ts : List Ty)
@[reducible] def TyL : List Ty → Type
  | [] => Unit
  | t :: r => t.T × TyL r
@[reducible] def Shape.T : Shape → Type
  | .one t => t.T
  | .agg ts => TyL ts
  | .fn _ ts => TyL ts
def TyL.vals : (ts : List Ty) → TyL ts → List Value
  | [], _ => []
  | t :: r, x => t.val x.1 :: TyL.vals r x.2
def Shape.val : (sh : Shape) → sh.T → Value
  | .one t, x => t.val x
  | .agg ts, x => .agg (TyL.vals ts x).toArray
  | .fn n ts, x => .func (.func n) #[] (TyL.vals ts x).toArray
def Ty.of (t : Ty) (v : Value) : Option t.T :=
  match t with
  | .i k => (match v with | .int k' n => if k' = k then some n else none | _ => none)
  | .b => (match v with | .bool x => some x | _ => none)
  | .p => (match v with | .pointer x => some x | _ => none)
  | .s => (match v with | .slice q l c => some ⟨q, l, c⟩ | _ => none)
  | .f => some v
  | .a => (match v with | .pointer x => x | _ => none)
def TyL.of : (ts : List Ty) → List Value → Option (TyL ts)
  | [], [] => some ()
  | t :: r, v :: vs => (match t.of v, TyL.of r vs with | some x, some y => some (x, y) | _, _ => none)
  | _, _ => none
def Shape.of (sh : Shape) (v : Value) : Option sh.T :=
  match sh with
  | .one t => t.of v
  | .agg ts => (match v with | .agg cs => TyL.of ts cs.toList | _ => none)
  | .fn n ts => (match v with | .func (.func m) first cs => (match first.toList with | [] => (bif Nat.beq m n then TyL.of ts cs.toList else none) | _ => none) | _ => none)
abbrev Sig := List (Nat × Shape)
@[reducible] def TupT : Sig → Type
  | [] => Unit
  | (_, sh) :: r => sh.T × TupT r
def TupS : (L : Sig) → TupT L → Sto
  | [], _ => []
  | (i, sh) :: r, x => (i, sh.val x.1) :: TupS r x.2
def TupG : (L : Sig) → Sto → Option (TupT L)
  | [], _ => some ()
  | (i, sh) :: r, s => match find1 s i with
    | some v => (match sh.of v, TupG r s with | some x, some y => some (x, y) | _, _ => none)
    | none => none

theorem Ty.of_val {t : Ty} {v : Value} {x : t.T} (h : t.of v = some x) : t.val x = v := by
  cases t <;> simp only [Ty.of] at h
  case i k =>
    cases v <;> simp only [reduceCtorEq] at h
    split at h
    · rename_i hk; simp only [Option.some.injEq] at h; subst h; subst hk; rfl
    · simp at h
  case b => cases v <;> simp only [reduceCtorEq, Option.some.injEq] at h; subst h; rfl
  case p => cases v <;> simp only [reduceCtorEq, Option.some.injEq] at h; subst h; rfl
  case s => cases v <;> simp only [reduceCtorEq, Option.some.injEq] at h; subst h; rfl
  case f => simp only [Option.some.injEq] at h; subst h; rfl
  case a => cases v <;> first | (simp only [reduceCtorEq] at h; done) | (simp only at h; subst h; rfl) | (subst h; rfl)
theorem TyL.of_vals : ∀ {ts : List Ty} {vs : List Value} {x : TyL ts}, TyL.of ts vs = some x → TyL.vals ts x = vs
  | [], [], x, h => rfl
  | [], _ :: _, x, h => by simp [TyL.of] at h
  | t :: r, [], x, h => by simp [TyL.of] at h
  | t :: r, v :: vs, x, h => by
    simp only [TyL.of] at h
    split at h
    · rename_i a b ha hb
      simp only [Option.some.injEq] at h
      subst h
      simp only [TyL.vals, Ty.of_val ha, TyL.of_vals hb]
    · simp at h
theorem Shape.of_val {sh : Shape} {v : Value} {x : sh.T} (h : sh.of v = some x) : sh.val x = v := by
  cases sh with
  | one t => exact Ty.of_val h
  | agg ts =>
    simp only [Shape.of] at h
    cases v <;> simp only [reduceCtorEq] at h
    simp only [Shape.val, TyL.of_vals h]
  | fn n ts =>
    simp only [Shape.of] at h
    split at h
    case h_2 => simp at h
    rename_i m first cs
    split at h
    case h_2 => simp at h
    rename_i hfirst
    cases hb : Nat.beq m n with
    | false => rw [hb] at h; simp at h
    | true =>
      rw [hb] at h
      have := Nat.eq_of_beq_eq_true hb
      subst this
      have e1 : first = #[] := by rw [← hfirst]
      have e2 := TyL.of_vals h
      simp only [Shape.val, e2, e1]
theorem TupG_find : ∀ {L : Sig} {s : Sto} {x : TupT L}, TupG L s = some x → ∀ i v, (i, v) ∈ TupS L x → find1 s i = some v
  | [], s, x, h, i, v, hm => by simp [TupS] at hm
  | (j, sh) :: r, s, x, h, i, v, hm => by
    simp only [TupG] at h
    split at h
    case h_2 => simp at h
    rename_i u hu
    split at h
    case h_2 => simp at h
    rename_i a b ha hb
    simp only [Option.some.injEq] at h
    subst h
    simp only [TupS, List.mem_cons, Prod.mk.injEq] at hm
    rcases hm with ⟨rfl, rfl⟩ | hm
    · rw [Shape.of_val ha]; exact hu
    · exact TupG_find hb i v hm

def JoinM {σ : Type} (A : (σ → H → Prop) → Prop) (B : σ → H → Prop) : Prop := A B
def LoopM {σ : Type} (body : (σ → H → Prop) → σ → H → Prop) (x : σ) (h : H) : Prop :=
  ∃ (I : Nat → σ → H → Prop) (k : Nat), I k x h ∧ ∀ k x h, I k x h → body (fun x' h' => ∃ k', k' < k ∧ I k' x' h') x h

def fid : Code → Option Nat
  | .region id _ _ => some id
  | .seq a b => (match fid a with | some i => some i | none => fid b)
  | .block _ c => fid c
  | .loop c => fid c
  | .scope c => fid c
  | _ => none
def dsts (ops : List Oper) : List Nat := ops.filterMap (·.dst)
def writes : Code → List Nat
  | .region _ ops _ => dsts ops.toList
  | .seq a b => writes a ++ writes b
  | .cond _ a b => writes a ++ writes b
  | .block _ c => writes c
  | .loop c => writes c
  | .scope c => writes c
  | _ => []
def hasN : List Nat → Nat → Bool
  | [], _ => false
  | j :: r, i => Nat.beq j i || hasN r i
def forget (ws : List Nat) : Sto → Sto
  | [] => []
  | (i, v) :: r => bif hasN ws i then forget ws r else (i, v) :: forget ws r
/-! Soundness -/
def Ag (s : Sto) (t : Array Value) : Prop := ∀ i v, find1 s i = some v → t[i]? = some v
theorem Ag.agree {s : Sto} {a : Act} (h : Ag s a.tmps) : Agree s a.eval := by
  refine ⟨fun x v hv => ?_⟩
  cases x with
  | tmp t =>
    have := h t v hv
    simp [Act.eval, Array.getD_eq_getD_getElem?, this]
  | const u => simp only [look, Option.some.injEq] at hv; subst hv; rfl
  | global g => simp only [look, Option.some.injEq] at hv; subst hv; rfl
  | func f => simp only [look, Option.some.injEq] at hv; subst hv; rfl
theorem Ag.cons {s : Sto} {t : Array Value} (h : Ag s t) {d : Nat} {v : Value} (hd : t[d]? = some v) : Ag ((d, v) :: s) t := by
  intro i u hu
  simp only [find1] at hu
  cases hb : Nat.beq d i with
  | true =>
    have := Nat.eq_of_beq_eq_true hb
    subst this
    rw [hb] at hu; simp only [cond_true, Option.some.injEq] at hu; subst hu
    exact hd
  | false => rw [hb] at hu; exact h i u hu
theorem Ag.put {s : Sto} {a : Act} (h : Ag s a.tmps) {d : Option Tmp} {v : Value} (hd : ∀ i, d = some i → i < a.tmps.size) : Ag (put s d v) (a.put d v).tmps := by
  cases d with
  | none => exact h
  | some d =>
    have hd := hd d rfl
    intro i u hu
    simp only [Ytfijchofplkcoaa.put, find1] at hu
    simp only [Act.put]
    cases hb : Nat.beq d i with
    | true =>
      have := Nat.eq_of_beq_eq_true hb
      subst this
      rw [hb] at hu; simp only [cond_true, Option.some.injEq] at hu; subst hu
      simp [hd]
    | false =>
      rw [hb] at hu
      have hne : d ≠ i := fun e => by subst e; simp at hb
      rw [Array.getElem?_setIfInBounds_ne hne]
      exact h i u hu
theorem put_size (a : Act) (d : Option Tmp) (v : Value) : (a.put d v).tmps.size = a.tmps.size := by
  cases d <;> simp [Act.put]
theorem put_defers (a : Act) (d : Option Tmp) (v : Value) : (a.put d v).defers = a.defers := by
  cases d <;> simp [Act.put]
theorem put_other (a : Act) (d : Option Tmp) (v : Value) (i : Nat) (h : ∀ j, d = some j → j ≠ i) : (a.put d v).tmps[i]? = a.tmps[i]? := by
  cases d with
  | none => rfl
  | some d => simp only [Act.put]; rw [Array.getElem?_setIfInBounds_ne (h d rfl)]

theorem yielded_of {all : Array Oper} {t : Array Value} {j d : Nat} {v : Value} (hd : dstOf all.toList j = some d) (hv : t[d]? = some v) : yielded all t j = (match v with | .bool b => some b | _ => none) := by
  unfold dstOf at hd
  unfold yielded
  have : (all[j]?).bind (·.dst) = some d := by rw [← hd]; simp
  rw [this]
  simp only [Option.bind_some, hv]
  cases v <;> rfl

def Fits (n : Nat) (ops : List Oper) : Prop := ∀ o ∈ ops, ∀ d, o.dst = some d → d < n

theorem evOps_ok {P : Program} {tb : Tab} {G : List (Ent P)} (hfull : tb.full P = true) {n : Nat} (all : Array Oper) {Q : Exit → Act → World → Prop} {K : Sto → H → Prop} : ∀ (l : List Oper) (s : Sto) (a : Act) (w : World),
    Ag s a.tmps → a.defers = [] → a.tmps.size = n → Fits n l → evOps tb G all.toList l s w.heap K →
    (∀ s' a' w', Ag s' a'.tmps → a'.defers = [] → a'.tmps.size = n → Same w w' → (∀ i, i ∉ dsts l → a'.tmps[i]? = a.tmps[i]?) → K s' w'.heap → Q .normal a' w') →
    wpList P all Q l a w
  | [], s, a, w, hag, hd, hn, hf, h, hK => hK s a w hag hd hn (Same.refl _) (fun _ _ => rfl) h
  | o :: r, s, a, w, hag, hd, hn, hf, h, hK => by
    have hdst : ∀ i, o.dst = some i → i < a.tmps.size := fun i hi => by rw [hn]; exact hf o List.mem_cons_self i hi
    have hfr : Fits n r := fun o' ho' => hf o' (List.mem_cons_of_mem _ ho')
    have hother : ∀ v i, i ∉ dsts (o :: r) → (a.put o.dst v).tmps[i]? = a.tmps[i]? := fun v i hi => put_other _ _ _ _ (fun j hj e => by
      subst e; exact hi (by simp [dsts, hj]))
    have hsub : ∀ i, i ∉ dsts (o :: r) → i ∉ dsts r := fun i hi hm => hi (by
      simp only [dsts, List.filterMap_cons]
      split
      · exact hm
      · exact List.mem_cons_of_mem _ hm)
    -- the two ways: the operation runs, or it is passed over
    have run : ∀ s, Ag s a.tmps → evOp tb G s o.op w.heap (fun v h' => evOps tb G all.toList r (put s o.dst v) h' K) → Region.wanted o (yielded all a.tmps) = true → wpList P all Q (o :: r) a w := by
      intro s hag h hw
      unfold wpList
      rw [if_pos hw]
      refine .inl ?_
      have hg := evOp_ok hfull hag.agree w o h
      refine hg.upon (fun v w' hs hk => ?_)
      exact evOps_ok hfull all r (put s o.dst v) (a.put o.dst v) w' (hag.put hdst) (by rw [put_defers]; exact hd) (by rw [put_size]; exact hn) hfr hk
        (fun s' a' w2 q1 q2 q3 q4 q5 q6 => hK s' a' w2 q1 q2 q3 (hs.trans q4) (fun i hi => (q5 i (hsub i hi)).trans (hother v i hi)) q6)
    have skip : ∀ s, Ag s a.tmps → evOps tb G all.toList r (put s o.dst undef) w.heap K → Region.wanted o (yielded all a.tmps) = false → wpList P all Q (o :: r) a w := by
      intro s hag h hw
      refine wpList_skip hw ?_
      exact evOps_ok hfull all r (put s o.dst undef) (a.put o.dst undef) w (hag.put hdst) (by rw [put_defers]; exact hd) (by rw [put_size]; exact hn) hfr h
        (fun s' a' w2 q1 q2 q3 q4 q5 q6 => hK s' a' w2 q1 q2 q3 q4 (fun i hi => (q5 i (hsub i hi)).trans (hother undef i hi)) q6)
    unfold evOps at h
    split at h
    · rename_i hg
      exact run s hag h (by simp [Region.wanted, hg])
    · rename_i j want hg
      split at h
      · exact h.elim
      rename_i d hdj
      split at h
      · exact h.elim
      rename_i v hv
      have hy := yielded_of (all := all) hdj (hag d v hv)
      split at h
      · rename_i b
        have ht : a.tmps[d]? = some (.bool b) := hag d _ hv
        cases b with
        | true =>
          have hag' : Ag ((d, .bool true) :: s) a.tmps := hag.cons ht
          simp only [Br_true] at h
          cases want with
          | true => exact run _ hag' h (by simp [Region.wanted, hg, hy])
          | false => exact skip _ hag' h (by simp [Region.wanted, hg, hy])
        | false =>
          have hag' : Ag ((d, .bool false) :: s) a.tmps := hag.cons ht
          simp only [Br_false] at h
          cases want with
          | true => exact skip _ hag' h (by simp [Region.wanted, hg, hy])
          | false => exact run _ hag' h (by simp [Region.wanted, hg, hy])
      · rename_i hnb
        exact skip s hag h (by
          cases v <;> first | exact absurd rfl (hnb _) | simp [Region.wanted, hg, hy])

/-- Where a piece of code may lead, and what it has left alone. -/
def Post (n : Nat) (w0 : World) (t0 : Array Value) (ws : List Nat) (Kn : Sto → H → Prop) (Kx : Nat → Sto → H → Prop) (Kr : Sto → H → Prop) : Exit → Act → World → Prop :=
  fun e a w => a.tmps.size = n ∧ a.defers = [] ∧ Same w0 w ∧ (∀ i, i ∉ ws → a.tmps[i]? = t0[i]?) ∧ ∃ s, Ag s a.tmps ∧
    (match e with
      | .normal => Kn s w.heap
      | .exit id => Kx id s w.heap
      | .ret => Kr s w.heap
      | _ => False)

def fitsC (n : Nat) : Code → Bool
  | .region _ ops _ => ops.toList.all fun o => match o.dst with | some d => Nat.blt d n | none => true
  | .seq a b => fitsC n a && fitsC n b
  | .cond _ a b => fitsC n a && fitsC n b
  | .block _ c => fitsC n c
  | .loop c => fitsC n c
  | .scope c => fitsC n c
  | _ => true

theorem hasN_mem {l : List Nat} {i : Nat} : hasN l i = true ↔ i ∈ l := by
  induction l with
  | nil => simp [hasN]
  | cons j r ih =>
    simp only [hasN, Bool.or_eq_true, ih, List.mem_cons]
    constructor
    · rintro (h | h)
      · exact .inl (Nat.eq_of_beq_eq_true h).symm
      · exact .inr h
    · rintro (rfl | h)
      · exact .inl (Nat.beq_refl _)
      · exact .inr h
theorem forget_find {ws : List Nat} : ∀ {s : Sto} {i : Nat} {v : Value}, find1 (forget ws s) i = some v → find1 s i = some v ∧ i ∉ ws
  | [], i, v, h => by simp [forget, find1] at h
  | (j, u) :: r, i, v, h => by
    simp only [forget] at h
    cases hw : hasN ws j with
    | true =>
      rw [hw] at h
      have ih := forget_find (s := r) h
      refine ⟨?_, ih.2⟩
      simp only [find1]
      cases hb : Nat.beq j i with
      | true =>
        have := Nat.eq_of_beq_eq_true hb
        subst this
        exact absurd (hasN_mem.1 hw) ih.2
      | false => exact ih.1
    | false =>
      rw [hw] at h
      simp only [cond_false, find1] at h ⊢
      cases hb : Nat.beq j i with
      | true =>
        have := Nat.eq_of_beq_eq_true hb
        subst this
        rw [hb] at h
        refine ⟨h, fun hm => ?_⟩
        rw [hasN_mem.2 hm] at hw; simp at hw
      | false =>
        rw [hb] at h
        exact forget_find h
theorem find1_append {α : Type} : ∀ {l r : List (Nat × α)} {i : Nat} {v : α}, find1 (l ++ r) i = some v → (i, v) ∈ l ∨ find1 r i = some v
  | [], r, i, v, h => .inr h
  | (j, u) :: l, r, i, v, h => by
    simp only [List.cons_append, find1] at h
    cases hb : Nat.beq j i with
    | true =>
      have := Nat.eq_of_beq_eq_true hb
      subst this
      rw [hb] at h; simp only [cond_true, Option.some.injEq] at h; subst h
      exact .inl List.mem_cons_self
    | false =>
      rw [hb] at h
      rcases find1_append (l := l) h with h | h
      · exact .inl (List.mem_cons_of_mem _ h)
      · exact .inr h

/-- The state that is kept at a join. -/
theorem Ag.tup {L : Sig} {s s1 : Sto} {t t1 : Array Value} {ws : List Nat} {x : TupT L} (h : Ag s t) (h1 : Ag s1 t1) (hx : TupG L s1 = some x) (ho : ∀ i, i ∉ ws → t1[i]? = t[i]?) : Ag (TupS L x ++ forget ws s) t1 := by
  intro i v hv
  rcases find1_append hv with hm | hf
  · exact h1 i v (TupG_find hx i v hm)
  · obtain ⟨hf, hn⟩ := forget_find hf
    rw [ho i hn]
    exact h i v hf

theorem wp_loop_ghost {P : Program} {Q : Exit → Act → World → Prop} {c : Code} (I : Nat → Act → World → Prop) (round : ∀ k a w, I k a w → c.wp P (Exit.then (fun a' w' => ∃ k', k' < k ∧ I k' a' w') Q) a w) :
    ∀ (k : Nat) (a : Act) (w : World), I k a w → (Code.loop c).wp P Q a w := by
  intro k a w hI b kk cs
  have key : ∀ n a w, I n a w → ∃ e a' w', Q e a' w' ∧ Arrives P (lone (b.at a (.code c :: .inLoop c :: kk)) cs w) b kk cs e a' w' := by
    intro n
    induction n using Nat.strongRecOn with
    | _ n ih =>
      intro a w hI
      obtain ⟨e, a₁, w₁, hq, harr⟩ := round n a w hI b (.inLoop c :: kk) cs
      cases e with
      | normal =>
        obtain ⟨k', hlt, hI₁⟩ := hq
        obtain ⟨e₂, a₂, w₂, hq₂, harr₂⟩ := ih k' hlt a₁ w₁ hI₁
        exact ⟨e₂, a₂, w₂, hq₂, .of_steps (Steps.trans harr (.one step_inLoop)) harr₂⟩
      | exit id => exact ⟨_, a₁, w₁, hq, .pass (x := .inLoop c) rfl (fun _ _ => .inl (by simp)) harr⟩
      | goto l => exact ⟨_, a₁, w₁, hq, .pass (x := .inLoop c) rfl (fun _ _ => .inl (by simp)) harr⟩
      | ret => exact ⟨_, a₁, w₁, hq, .pass (x := .inLoop c) rfl (fun _ _ => .inl (by simp)) harr⟩
      | panic ch => exact ⟨_, a₁, w₁, hq, .pass (x := .inLoop c) rfl (fun _ _ => .inl (by simp)) harr⟩
      | outgrown => exact ⟨_, a₁, w₁, hq, .pass (x := .inLoop c) rfl (fun _ _ => .inl (by simp)) harr⟩
  obtain ⟨e, a', w', hq, harr⟩ := key k a w hI
  exact ⟨e, a', w', hq, .of_steps (.one step_loop) harr⟩

theorem Post.mono {n : Nat} {w0 w1 : World} {t0 t1 : Array Value} {ws ws' : List Nat} {Kn Kn' : Sto → H → Prop} {Kx Kx' : Nat → Sto → H → Prop} {Kr Kr' : Sto → H → Prop} (hs : Same w1 w0) (ht : ∀ i, i ∉ ws' → t0[i]? = t1[i]?) (hsub : ∀ i, i ∈ ws → i ∈ ws')
    (hn : ∀ s h, Kn s h → Kn' s h) (hx : ∀ i s h, Kx i s h → Kx' i s h) (hr : ∀ s h, Kr s h → Kr' s h) (e : Exit) (a : Act) (w : World) (h : Post n w0 t0 ws Kn Kx Kr e a w) : Post n w1 t1 ws' Kn' Kx' Kr' e a w := by
  obtain ⟨h1, h2, h3, h4, s, h5, h6⟩ := h
  refine ⟨h1, h2, hs.trans h3, fun i hi => (h4 i (fun hm => hi (hsub i hm))).trans (ht i hi), s, h5, ?_⟩
  cases e <;> first | exact hn _ _ h6 | exact hx _ _ _ h6 | exact hr _ _ h6 | exact h6

abbrev TR := List (Nat × (H → Prop))
def Rall : TR → H → Prop
  | [], _ => True
  | (_, R) :: r, h => R h ∧ Rall r h
def dep (ops : Array Oper) : Nat → Nat → Nat → Bool
  | 0, _, _ => false
  | f + 1, j, i => match ops[j]? with
    | some o => o.after.toList.any fun e => Region.binds .any e && (Nat.beq e.on i || dep ops f e.on i)
    | none => false
def alive (ops : Array Oper) (j : Nat) : TR → TR
  | [] => []
  | (i, R) :: r => bif dep ops ops.size j i then alive ops j r else (i, R) :: alive ops j r
theorem Rall_alive {ops : Array Oper} {j : Nat} {h : H} : ∀ {T : TR}, Rall T h → Rall (alive ops j T) h
  | [], _ => trivial
  | (i, R) :: r, hr => by
    simp only [alive]
    cases dep ops ops.size j i with
    | true => exact Rall_alive (T := r) hr.2
    | false => exact ⟨hr.1, Rall_alive (T := r) hr.2⟩

def ClosedL (ops : Array Oper) (L : Array Bool) : Prop := ∀ j o, ops[j]? = some o → L.getD j false = true → ∀ e ∈ o.after, Region.binds .any e = true → L.getD e.on false = true

theorem dep_unlisted {ops : Array Oper} {L : Array Bool} (hc : ClosedL ops L) {i : Nat} (hi : L.getD i false = false) : ∀ (f j : Nat), dep ops f j i = true → j ∉ Region.ready .any ops L ∧ L.getD j false = false
  | 0, j, h => by simp [dep] at h
  | f + 1, j, h => by
    simp only [dep] at h
    split at h
    case h_2 => simp at h
    rename_i o ho
    rw [List.any_eq_true] at h
    obtain ⟨e, he, h⟩ := h
    simp only [Bool.and_eq_true, Bool.or_eq_true] at h
    obtain ⟨hb, h⟩ := h
    have hl : L.getD e.on false = false := by
      rcases h with h | h
      · rw [Nat.eq_of_beq_eq_true h]; exact hi
      · exact (dep_unlisted hc hi f e.on h).2
    have he' : e ∈ o.after := by simpa using he
    constructor
    · intro hr
      obtain ⟨_, o', ho', hall⟩ := mem_ready.1 hr
      rw [ho] at ho'; simp only [Option.some.injEq] at ho'; subst ho'
      rw [hall e he' hb] at hl; simp at hl
    · cases hj : L.getD j false with
      | false => rfl
      | true => rw [hc j o ho hj e he' hb] at hl; simp at hl

theorem ClosedL.step {ops : Array Oper} {L : Array Bool} (hc : ClosedL ops L) {i : Nat} (hi : i ∈ Region.ready .any ops L) : ClosedL ops (L.setIfInBounds i true) := by
  intro j o ho hj e he hb
  by_cases hij : i = j
  · subst hij
    obtain ⟨_, o', ho', hall⟩ := mem_ready.1 hi
    rw [ho] at ho'; simp only [Option.some.injEq] at ho'; subst ho'
    exact getD_set_true (hall e he hb)
  · rw [getD_set_ne false hij] at hj
    exact getD_set_true (hc j o ho hj e he hb)

theorem ready_false {ops : Array Oper} {L : Array Bool} {i : Nat} (hi : i ∈ Region.ready .any ops L) : L.getD i false = false := by
  have h0 := (mem_ready.1 hi).1
  rcases Nat.lt_or_ge i L.size with h' | h'
  · simp [h'] at h0 ⊢; exact h0
  · simp [Array.getElem?_eq_none h'] at h0

section
variable {P : Program} {ops : Array Oper}

def goodOp (P : Program) (ops : Array Oper) (j : Nat) (K : Act → H → Prop) (a : Act) (w : World) : Prop :=
  match ops[j]? with
  | none => False
  | some o => if Region.wanted o (yielded ops a.tmps) = true then Good P ((execOp a.eval o).run P w) w (fun v h' => K (a.put o.dst v) h') else K (a.put o.dst undef) w.heap

theorem Good.mono {r : Result Next} {w : World} {K K' : Value → H → Prop} (hk : ∀ v h, K v h → K' v h) (h : Good P r w K) : Good P r w K' := by
  unfold Good at h ⊢
  split at h
  · exact ⟨h.1, hk _ _ h.2⟩
  · exact ⟨h.1, hk _ _ h.2⟩
  · refine ⟨h.1, h.2.mono ?_⟩
    rintro e w'' ⟨v, h1, h2, h3⟩
    exact ⟨v, h1, h2, hk _ _ h3⟩
  · exact h
theorem goodOp_mono {j : Nat} {K K' : Act → H → Prop} {a : Act} {w : World} (hk : ∀ a h, K a h → K' a h) (h : goodOp P ops j K a w) : goodOp P ops j K' a w := by
  unfold goodOp at *
  split
  · rename_i hj; simp only [hj] at h
  · rename_i o hj
    simp only [hj] at h
    split
    · rename_i hw; rw [if_pos hw] at h; exact h.mono (fun v h' => hk _ _)
    · rename_i hw; rw [if_neg hw] at h; exact hk _ _ h

def wpT (P : Program) (ops : Array Oper) (Q : Act → H → Prop) : Nat → TR → Array Bool → Act → H → Prop
  | 0, T, L, a, h => Rall T h ∧ Region.ready .any ops L = [] ∧ Q a h
  | f + 1, T, L, a, h => Rall T h ∧ (Region.ready .any ops L = [] → Q a h) ∧
      ∀ w : World, w.heap = h → ∀ i ∈ Region.ready .any ops L, goodOp P ops i (fun a' h' => wpT P ops Q f (alive ops i T) (L.setIfInBounds i true) a' h') a w

theorem wpT_weaken {Q : Act → H → Prop} {i : Nat} {R : H → Prop} : ∀ (f : Nat) (T : TR) (L : Array Bool) (a : Act) (h : H), wpT P ops Q f ((i, R) :: T) L a h → wpT P ops Q f T L a h
  | 0, T, L, a, h, hh => ⟨hh.1.2, hh.2⟩
  | f + 1, T, L, a, h, hh => ⟨hh.1.2, hh.2.1, fun w hw j hj => goodOp_mono (fun a' h' hk => by
      simp only [alive] at hk
      cases hd : dep ops ops.size j i with
      | true => rw [hd] at hk; exact hk
      | false => rw [hd] at hk; exact wpT_weaken f _ _ _ _ hk) (hh.2.2 w hw j hj)⟩

/-- The operation hands back 'v' and leaves the heap alone, in every heap of which 'R' holds. -/
def YieldsR (P : Program) (ops : Array Oper) (o : Oper) (v : Value) (R : H → Prop) (a : Act) : Prop :=
  (Region.wanted o (yielded ops a.tmps) = true ∧ ∀ w : World, R w.heap → Good P ((execOp a.eval o).run P w) w (fun v' h' => v' = v ∧ h' = w.heap)) ∨
  (Region.wanted o (yielded ops a.tmps) = false ∧ v = undef)
theorem YieldsR.of_same {o : Oper} {v : Value} {R : H → Prop} {a a' : Act} (hy : YieldsR P ops o v R a) (he : execOp a'.eval o = execOp a.eval o)
    (hw : Region.wanted o (yielded ops a'.tmps) = Region.wanted o (yielded ops a.tmps)) : YieldsR P ops o v R a' := by
  unfold YieldsR at *
  rw [he, hw]
  exact hy
theorem YieldsR.goodOp {i : Nat} {o : Oper} {v : Value} {R : H → Prop} {a : Act} (hi : ops[i]? = some o) (hy : YieldsR P ops o v R a) {K : Act → H → Prop} {w : World} (hR : R w.heap) (h : K (a.put o.dst v) w.heap) : goodOp P ops i K a w := by
  unfold Ytfijchofplkcoaa.goodOp
  simp only [hi]
  rcases hy with ⟨hw, hv⟩ | ⟨hw, rfl⟩
  · rw [if_pos hw]
    exact (hv w hR).mono (fun v' h' ⟨e1, e2⟩ => by subst e1; subst e2; exact h)
  · rw [if_neg (by rw [hw]; simp)]; exact h

theorem goodOp_put {j : Nat} {oi oj : Oper} {v : Value} {R : H → Prop} (hj : ops[j]? = some oj) (hap : oi.apart ops oj = true)
    (hsi : ∀ cs b, oi.op ≠ .select cs b) (hsj : ∀ cs b, oj.op ≠ .select cs b) {K : Act → H → Prop} {a : Act} {w : World}
    (hy : YieldsR P ops oi v R a) (h : goodOp P ops j K (a.put oi.dst v) w) :
    goodOp P ops j (fun a' h' => YieldsR P ops oi v R a' ∧ K (a'.put oi.dst v) h') a w := by
  obtain ⟨h1, h2, h3⟩ := Oper.apart_spec hap
  have keep : ∀ u, YieldsR P ops oi v R (a.put oj.dst u) := fun u =>
    hy.of_same (execOp_put oi hsi a oj.dst u h3) (wanted_put oi a oj.dst u h3)
  unfold goodOp at *
  simp only [hj] at *
  rw [wanted_put oj a oi.dst v h1] at h
  split
  · rename_i hw
    rw [if_pos hw] at h
    rw [execOp_put oj hsj a oi.dst v h1] at h
    exact h.mono (fun u h' hk => ⟨keep u, by rw [← Act.put_comm a v u h2]; exact hk⟩)
  · rename_i hw
    rw [if_neg hw] at h
    exact ⟨keep _, by rw [← Act.put_comm a v undef h2]; exact h⟩

theorem wpT_first {Q : Act → H → Prop} {i : Nat} {oi : Oper} {v : Value} {R : H → Prop} (hi : ops[i]? = some oi) (hsel : ∀ (j : Nat) (o : Oper) cs b, ops[j]? = some o → o.op ≠ .select cs b) :
    ∀ (fuel : Nat) (T : TR) (L : Array Bool) (a : Act) (h : H),
      (∀ j oj, ops[j]? = some oj → j ≠ i → L.getD j true = false → (∀ e ∈ oj.after, Region.binds .any e = true → e.on ≠ i) → oi.apart ops oj = true) →
      ClosedL ops L → i ∈ Region.ready .any ops L → YieldsR P ops oi v R a →
      wpT P ops Q fuel ((i, R) :: T) (L.setIfInBounds i true) (a.put oi.dst v) h → wpT P ops Q (fuel + 1) T L a h := by
  intro fuel
  induction fuel with
  | zero =>
    intro T L a h _ _ hr hy H
    refine ⟨H.1.2, fun h => (by rw [h] at hr; cases hr), fun w hw j hj => ?_⟩
    by_cases hji : j = i
    · subst hji
      subst hw
      refine hy.goodOp hi H.1.1 ⟨Rall_alive H.1.2, H.2⟩
    · have := ready_mono hj hji
      rw [H.2.1] at this
      cases this
  | succ fuel ih =>
    intro T L a h hfree hcl hr hy H
    refine ⟨H.1.2, fun h => (by rw [h] at hr; cases hr), fun w hw j hj => ?_⟩
    by_cases hji : j = i
    · subst hji
      subst hw
      refine hy.goodOp hi H.1.1 ?_
      -- what is asked of T dwindles
      have hA : ∀ (f : Nat) (T : TR) (L : Array Bool) (a : Act) (h : Ytfijchofplkcoaa.H), wpT P ops Q f T L a h → wpT P ops Q f (alive ops j T) L a h := by
        intro f T
        induction T with
        | nil => exact fun L a h hh => hh
        | cons x T ihT =>
          intro L a h hh
          obtain ⟨k, Rk⟩ := x
          simp only [alive]
          cases dep ops ops.size j k with
          | true => exact ihT L a h (wpT_weaken f T L a h hh)
          | false =>
            -- keep the head
            clear ihT
            have gen : ∀ (f : Nat) (T T' : TR) (L : Array Bool) (a : Act) (h : Ytfijchofplkcoaa.H), (∀ x ∈ T', x ∈ T) → wpT P ops Q f T L a h → wpT P ops Q f T' L a h := by
              intro f
              have rall : ∀ (T T' : TR) (h : Ytfijchofplkcoaa.H), (∀ x ∈ T', x ∈ T) → Rall T h → Rall T' h := by
                intro T T' h hs hr
                have hm : ∀ (T : TR), Rall T h → ∀ x ∈ T, x.2 h := by
                  intro T
                  induction T with
                  | nil => intro _ x hx; cases hx
                  | cons y T ih =>
                    intro hr x hx
                    rcases List.mem_cons.1 hx with rfl | hx
                    · exact hr.1
                    · exact ih hr.2 x hx
                induction T' with
                | nil => trivial
                | cons y T' ih => exact ⟨hm T hr y (hs y List.mem_cons_self), ih (fun x hx => hs x (List.mem_cons_of_mem _ hx))⟩
              have al : ∀ (T : TR) (m : Nat) (x : Nat × (Ytfijchofplkcoaa.H → Prop)), x ∈ alive ops m T ↔ (x ∈ T ∧ dep ops ops.size m x.1 = false) := by
                intro T m x
                induction T with
                | nil => simp [alive]
                | cons y T ih =>
                  obtain ⟨y1, y2⟩ := y
                  simp only [alive]
                  cases hd : dep ops ops.size m y1 with
                  | true =>
                    simp only [cond_true, ih, List.mem_cons]
                    constructor
                    · rintro ⟨h1, h2⟩; exact ⟨.inr h1, h2⟩
                    · rintro ⟨rfl | h1, h2⟩
                      · rw [hd] at h2; simp at h2
                      · exact ⟨h1, h2⟩
                  | false =>
                    simp only [cond_false, List.mem_cons, ih]
                    constructor
                    · rintro (rfl | ⟨h1, h2⟩)
                      · exact ⟨.inl rfl, hd⟩
                      · exact ⟨.inr h1, h2⟩
                    · rintro ⟨rfl | h1, h2⟩
                      · exact .inl rfl
                      · exact .inr ⟨h1, h2⟩
              induction f with
              | zero => exact fun T T' L a h hs hh => ⟨rall T T' h hs hh.1, hh.2⟩
              | succ f ihf =>
                intro T T' L a h hs hh
                refine ⟨rall T T' h hs hh.1, hh.2.1, fun w hw m hm => goodOp_mono (fun a' h' hk => ihf _ _ _ _ _ (fun x hx => ?_) hk) (hh.2.2 w hw m hm)⟩
                rw [al] at hx ⊢
                exact ⟨hs x hx.1, hx.2⟩
            refine gen f ((k, Rk) :: T) _ L a h (fun x hx => ?_) hh
            rcases List.mem_cons.1 hx with rfl | hx
            · exact List.mem_cons_self
            · refine List.mem_cons_of_mem _ ?_
              have sub : ∀ (T : TR), x ∈ alive ops j T → x ∈ T := by
                intro T
                induction T with
                | nil => simp [alive]
                | cons y T ih =>
                  obtain ⟨y1, y2⟩ := y
                  simp only [alive]
                  cases dep ops ops.size j y1 with
                  | true => intro h; exact List.mem_cons_of_mem _ (ih h)
                  | false =>
                    intro h
                    rcases List.mem_cons.1 h with rfl | h
                    · exact List.mem_cons_self
                    · exact List.mem_cons_of_mem _ (ih h)
              exact sub T hx
      exact hA _ _ _ _ _ (wpT_weaken _ _ _ _ _ H)
    · have h1 := H.2.2 w hw j (ready_mono hj hji)
      obtain ⟨hjun, oj, hoj, hall⟩ := mem_ready.1 hj
      have hnot : ∀ e ∈ oj.after, Region.binds .any e = true → e.on ≠ i := fun e he hb heq => by
        have h1 := hall e he hb
        have h0 := (mem_ready.1 hr).1
        rw [heq] at h1
        rcases Nat.lt_or_ge i L.size with h' | h'
        · simp [h'] at h0 h1; rw [h0] at h1; cases h1
        · simp [Array.getElem?_eq_none h'] at h1
      have hdep : dep ops ops.size j i = false := by
        cases hd : dep ops ops.size j i with
        | false => rfl
        | true => exact absurd hj (dep_unlisted hcl (ready_false hr) _ j hd).1
      have h2 := goodOp_put hoj (hfree j oj hoj hji hjun hnot) (fun cs b => hsel i oi cs b hi) (fun cs b => hsel j oj cs b hoj) hy h1
      have hfree' : ∀ k ok, ops[k]? = some ok → k ≠ i → (L.setIfInBounds j true).getD k true = false →
          (∀ e ∈ ok.after, Region.binds .any e = true → e.on ≠ i) → oi.apart ops ok = true := fun k ok hk hki hun hno => by
        refine hfree k ok hk hki ?_ hno
        by_cases hjk : j = k
        · subst hjk; exact hjun
        · rw [getD_set_ne true hjk] at hun; exact hun
      refine goodOp_mono (fun a' h' h3 => ih (alive ops j T) (L.setIfInBounds j true) a' h' hfree' (hcl.step hj) (ready_mono hr (Ne.symm hji)) h3.1 ?_) h2
      rw [Array.setIfInBounds_comm _ _ hji]
      have h4 := h3.2
      simp only [alive, hdep, cond_false] at h4
      exact h4

theorem wpAny_of_T {Q : Act → H → Prop} {Q' : Exit → Act → World → Prop} {w0 : World} (hQ : ∀ a w, Same w0 w → Q a w.heap → Q' .normal a w) : ∀ (f : Nat) (T : TR) (L : Array Bool) (a : Act) (w : World),
    Same w0 w → wpT P ops Q f T L a w.heap → wpAny P .any ops Q' f L a w
  | 0, T, L, a, w, hs, h => ⟨h.2.1, hQ _ _ hs h.2.2⟩
  | f + 1, T, L, a, w, hs, h => ⟨fun h0 => hQ _ _ hs (h.2.1 h0), fun i hi => by
      have h1 := h.2.2 w rfl i hi
      unfold goodOp at h1
      unfold wpOp
      split at h1
      · exact h1.elim
      · rename_i o ho
        simp only [ho]
        split at h1
        · rename_i hw
          rw [if_pos hw]
          refine .inl (h1.upon (fun v w' hs' hk => wpAny_of_T hQ f _ _ _ _ (hs.trans hs') hk))
        · rename_i hw
          rw [if_neg hw]
          exact wpAny_of_T hQ f _ _ _ _ hs h1⟩
end

@[reducible] def ShL : List Shape → Type
  | [] => Unit
  | sh :: r => sh.T × ShL r
def ShL.vals : (L : List Shape) → ShL L → List Value
  | [], _ => []
  | sh :: r, x => sh.val x.1 :: ShL.vals r x.2
def ShL.of : (L : List Shape) → List Value → Option (ShL L)
  | [], [] => some ()
  | sh :: r, v :: vs => (match sh.of v, ShL.of r vs with | some x, some y => some (x, y) | _, _ => none)
  | _, _ => none
theorem ShL.of_vals : ∀ {L : List Shape} {vs : List Value} {x : ShL L}, ShL.of L vs = some x → ShL.vals L x = vs
  | [], [], x, h => rfl
  | [], _ :: _, x, h => by simp [ShL.of] at h
  | t :: r, [], x, h => by simp [ShL.of] at h
  | t :: r, v :: vs, x, h => by
    simp only [ShL.of] at h
    split at h
    · rename_i a b ha hb
      simp only [Option.some.injEq] at h
      subst h
      simp only [ShL.vals, Shape.of_val ha, ShL.of_vals hb]
    · simp at h
def tupV : List Value → Value
  | [v] => v
  | vs => .tuple vs.toArray

inductive DT where
  | done
  | q (i : Nat) (t : DT)
  | qc (i : Nat) (L : List Shape) (t : DT)
  | m1 (i : Nat) (t : DT)
  | m2 (i j : Nat) (t u : DT)

def RdL (h : H) (a : Addr) : Nat → List Value → Prop
  | _, [] => True
  | i, v :: vs => hcell h (a.add i) = some v ∧ RdL h a (i + 1) vs
def isPure : Op → Bool
  | .move _ | .assign _ | .pick .. | .nilCheck _ | .binOp .. | .unOp .. | .fieldAddr .. | .indexAddr .. | .index .. | .extract .. | .slice .. | .build .. | .makeFunc .. => true
  | .call c => (match c.callee with | .builtin .len => true | _ => false)
  | _ => false
def evQ {P : Program} (tb : Tab) (G : List (Ent P)) (s : Sto) (op : Op) (h : H) (K : Value → Option (H → Prop) → Prop) : Prop :=
  match op with
  | .load t x => (match look s x with
    | some (.pointer (some a)) => (match find1 tb.lk t with
      | some (.leaf ty) => Ld ty h (a.add 0) fun x => K (ty.val x) (some fun h' => hcell h' (a.add 0) = some (ty.val x))
      | some (.agg ts) => LdL ts h a 0 fun vs => K (.agg vs.toArray) (some fun h' => RdL h' a 0 vs)
      | some (.row k n) => LdRow k n h a fun xs => K (rowV k xs) (some fun h' => ∀ j, j < n → hcell h' (a.add j) = some (.int k (xs.getD j 0)))
      | none => False)
    | _ => False)
  | .convert src dst x => (match find1 tb.lk src, find1 tb.lk dst with
    | some (.leaf (.i _)), some (.leaf (.i k)) => (match look s x with | some (.int _ n) => K (.int k (k.wrap n)) none | _ => False)
    | some (.leaf .s), none => (match ixOf tb src with
      | some ⟨none, el, _, _⟩ => (match find1 tb.lk el with
        | some (.leaf (.i .u8)) => (bif isStr P dst then ovl (look s x) fun v => sl2 v fun q =>
            ∃ xs : List Int, (xs.length = q.len ∧ Reads h q.a (xs.map (Value.int .u8))) ∧ K (.string (strOfNums xs)) (some fun h' => Reads h' q.a (xs.map (Value.int .u8))) else False)
        | _ => False)
      | _ => False)
    | _, _ => False)
  | op => bif isPure op then evOp tb G s op h (fun v _ => K v none) else False
/-- A quiet call: it hands back x and leaves the heap alone. -/
def QC (L : List Shape) (h : H) (call : (Value → H → Prop) → H → Prop) (K : ShL L → Prop) : Prop := ∃ x : ShL L, call (fun v' h' => v' = tupV (ShL.vals L x) ∧ h' = h) h ∧ K x
def QR (L : List Shape) (call : (Value → H → Prop) → H → Prop) (x : ShL L) (h : H) : Prop := call (fun v' h' => v' = tupV (ShL.vals L x) ∧ h' = h) h
def evQC {P : Program} (G : List (Ent P)) (s : Sto) (op : Op) (L : List Shape) (h : H) (K : Value → Option (H → Prop) → Prop) : Prop :=
  match op with
  | .call c => (match c.callee with
    | .value f => (match look s f with
      | some (.func (.func n) first captured) => (match looks s c.args.toList with
        | some vs => QC L h (fun K' h' => callE G n (first.toList ++ vs ++ captured.toList) K' h') fun x =>
            K (tupV (ShL.vals L x)) (some fun h1 => QR L (fun K' h' => callE G n (first.toList ++ vs ++ captured.toList) K' h') x h1)
        | none => False)
      | _ => False)
    | _ => False)
  | _ => False

def gd (ops : List Oper) (i : Nat) (s : Sto) (run skip : Oper → Sto → Prop) : Prop :=
  match ops[i]? with
  | none => False
  | some o => match o.guard with
    | none => run o s
    | some (j, want) => match dstOf ops j with
      | none => False
      | some d => match find1 s d with
        | none => False
        | some v => match v with
          | .bool b => Br b
              (match want with | true => run o ((d, .bool true) :: s) | false => skip o ((d, .bool true) :: s))
              (match want with | true => skip o ((d, .bool false) :: s) | false => run o ((d, .bool false) :: s))
          | _ => skip o s
def consR (i : Nat) (R : Option (H → Prop)) (T : TR) : TR := match R with | some R => (i, R) :: T | none => T
def Rk : TR → H → Prop → Prop
  | [], _, X => X
  | (_, R) :: r, h, X => R h ∧ Rk r h X

def evD {P : Program} (tb : Tab) (G : List (Ent P)) (ops : Array Oper) : DT → TR → Sto → H → (Sto → H → Prop) → Prop
  | .done, _, s, h, K => K s h
  | .q i t, T, s, h, K => gd ops.toList i s (fun o s => evQ tb G s o.op h fun v R => evD tb G ops t (consR i R T) (put s o.dst v) h K) (fun o s => evD tb G ops t T (put s o.dst undef) h K)
  | .qc i L t, T, s, h, K => gd ops.toList i s (fun o s => evQC G s o.op L h fun v R => evD tb G ops t (consR i R T) (put s o.dst v) h K) (fun o s => evD tb G ops t T (put s o.dst undef) h K)
  | .m1 i t, T, s, h, K => gd ops.toList i s (fun o s => evOp tb G s o.op h fun v h' => Rk (alive ops i T) h' (evD tb G ops t (alive ops i T) (put s o.dst v) h' K)) (fun o s => evD tb G ops t (alive ops i T) (put s o.dst undef) h K)
  | .m2 i j t u, T, s, h, K =>
    gd ops.toList i s (fun o s => evOp tb G s o.op h fun v h' => Rk (alive ops i T) h' (evD tb G ops t (alive ops i T) (put s o.dst v) h' K)) (fun o s => evD tb G ops t (alive ops i T) (put s o.dst undef) h K) ∧
    gd ops.toList j s (fun o s => evOp tb G s o.op h fun v h' => Rk (alive ops j T) h' (evD tb G ops u (alive ops j T) (put s o.dst v) h' K)) (fun o s => evD tb G ops u (alive ops j T) (put s o.dst undef) h K)

def canonB (ops : Array Oper) : DT → Nat → Array Bool → Bool
  | .done, f, L => Nat.beq f 0 && (Region.ready .any ops L).isEmpty
  | .q i t, f, L => Nat.blt 0 f && (Region.ready .any ops L).contains i && Region.free .any ops L i && canonB ops t (f - 1) (L.setIfInBounds i true)
  | .qc i _ t, f, L => Nat.blt 0 f && (Region.ready .any ops L).contains i && Region.free .any ops L i && canonB ops t (f - 1) (L.setIfInBounds i true)
  | .m1 i t, f, L => Nat.blt 0 f && (Region.ready .any ops L == [i]) && canonB ops t (f - 1) (L.setIfInBounds i true)
  | .m2 i j t u, f, L => Nat.blt 0 f && (Region.ready .any ops L == [i, j]) && canonB ops t (f - 1) (L.setIfInBounds i true) && canonB ops u (f - 1) (L.setIfInBounds j true)

/-! What is worked out without the heap comes to one value, whatever the heap. -/
def Pin (F : (Value → Prop) → Prop) : Prop := ∀ K, F K → ∃ v, K v ∧ F (fun u => u = v)
theorem Pin.ovl {o : Option Value} {F : Value → (Value → Prop) → Prop} (h : ∀ v, Pin (F v)) : Pin (fun K => Ytfijchofplkcoaa.ovl o fun v => F v K) := by
  intro K hk
  obtain ⟨v, hv, hk⟩ := ovl_some hk
  obtain ⟨u, h1, h2⟩ := h v K hk
  exact ⟨u, h1, by simp only [hv, Ytfijchofplkcoaa.ovl]; exact h2⟩
theorem pin_one (v : Value) : Pin (fun K => K v) := fun K hk => ⟨v, hk, rfl⟩
theorem pin_false : Pin (fun _ => False) := fun K hk => hk.elim
theorem pin_asr {c : Prop} {v : Value} : Pin (fun K => Asr c (K v)) := fun K hk => ⟨v, hk.2, hk.1, rfl⟩
theorem pin_int (op : BinOp) (k k' : IntKind) (a b : Int) : Pin (evInt op k k' a b) := by
  intro K hk
  cases op <;> simp only [evInt] at hk ⊢
  case shl => exact ⟨_, hk.2, hk.1, rfl⟩
  case shr => exact ⟨_, hk.2, hk.1, rfl⟩
  all_goals
    split at hk
    case isFalse => exact hk.elim
    rename_i hkk
    simp only [if_pos hkk]
    first
      | exact ⟨_, hk, rfl⟩
      | exact ⟨_, hk.2, hk.1, rfl⟩
theorem pin_eq (lk : Option LK) (x y : Value) (g : Bool → Value) : Pin (fun K => evEq lk x y fun b => K (g b)) := by
  intro K hk
  unfold evEq at hk ⊢
  split at hk
  all_goals try exact hk.elim
  all_goals
    split at hk
    case h_2 => exact hk.elim
  all_goals try exact ⟨_, hk, rfl⟩
  · exact ⟨_, hk.2, hk.1, rfl⟩
  · rename_i ts _ _ as bs
    cases hc : (Nat.beq as.toList.length ts.length && Nat.beq bs.toList.length ts.length && i64s as.toList && i64s bs.toList) with
    | false => rw [hc] at hk; exact hk.elim
    | true => rw [hc] at hk; exact ⟨_, hk, rfl⟩
theorem pin_bin (lk : Option LK) (op : BinOp) (x y : Value) : Pin (evBin lk op x y) := by
  intro K hk
  unfold evBin at hk ⊢
  split at hk
  · split at hk
    case h_2 => exact hk.elim
    exact pin_int _ _ _ _ _ K hk
  · split at hk
    · exact pin_eq lk _ y (fun b => .bool b) K hk
    · exact pin_eq lk _ y (fun b => .bool (!b)) K hk
    · exact hk.elim
theorem pin_idx (ix : Option Ix) (x i : Value) : Pin (evIdx ix x i) := by
  intro K hk
  unfold evIdx at hk ⊢
  split at hk
  case h_2 => exact hk.elim
  split at hk
  case h_2 => exact hk.elim
  split at hk
  · split at hk
    case h_2 => exact hk.elim
    rename_i base len cap
    cases base with
    | none => exact hk.elim
    | some a => exact ⟨_, hk.2, hk.1, rfl⟩
  · split at hk
    case h_2 => exact hk.elim
    exact ⟨_, hk.2, hk.1, rfl⟩
theorem pin_ixv (el : Option LK) (ix : Option Ix) (x i : Value) : Pin (evIxV el ix x i) := by
  intro K hk
  unfold evIxV at hk ⊢
  split at hk
  case h_2 => exact hk.elim
  rename_i n _ _ _ _ _
  split at hk
  · split at hk
    case h_2 => exact hk.elim
    rename_i ps hps
    cases hc : Nat.beq ps.length n with
    | false => rw [hc] at hk; exact hk.elim
    | true => rw [hc] at hk; exact ⟨_, hk.2, hk.1, rfl⟩
  · split at hk
    case h_2 => exact hk.elim
    rename_i ps hps
    cases hc : Nat.beq ps.length n with
    | false => rw [hc] at hk; exact hk.elim
    | true => rw [hc] at hk; exact ⟨_, hk.2, hk.1, rfl⟩
  · exact hk.elim
theorem pin_slice (ix : Option Ix) (x : Value) (lo hi : Option Value) : Pin (evSlice ix x lo hi) := by
  intro K hk
  unfold evSlice at hk ⊢
  split at hk
  case h_2 => exact hk.elim
  split at hk
  · split at hk
    case h_2 => exact hk.elim
    split at hk
    case h_2 => exact hk.elim
    exact ⟨_, hk.2, hk.1, rfl⟩
  · split at hk
    case h_2 => exact hk.elim
    split at hk
    case h_2 => exact hk.elim
    exact ⟨_, hk.2, hk.1, rfl⟩

theorem pure_ev {P : Program} {tb : Tab} {G : List (Ent P)} {s : Sto} {op : Op} {h : H} {K : Value → Prop} (hp : isPure op = true) (hk : evOp tb G s op h (fun v _ => K v)) :
    ∃ v, K v ∧ ∀ h', evOp tb G s op h' (fun u h'' => u = v ∧ h'' = h') := by
  cases op <;> simp only [isPure, Bool.false_eq_true] at hp <;> simp only [evOp] at hk ⊢
  case move x =>
    obtain ⟨v, h1, h2⟩ := Pin.ovl (o := look s x) (F := fun v K => K v) pin_one K hk
    exact ⟨v, h1, fun h' => by simp only [and_true]; exact h2⟩
  case assign x =>
    split at hk
    · exact ⟨_, hk, fun h' => ⟨rfl, trivial⟩⟩
    · split at hk
      · exact hk.elim
      · split at hk
        · exact ⟨_, hk, fun h' => ⟨rfl, trivial⟩⟩
        · exact ⟨_, hk, fun h' => ⟨rfl, trivial⟩⟩
  case pick c a b =>
    split at hk
    case h_2 => exact hk.elim
    rename_i t ht
    cases t with
    | true =>
      obtain ⟨v, h1, h2⟩ := Pin.ovl (o := look s a) (F := fun v K => K v) pin_one K hk
      exact ⟨v, h1, fun h' => by simp only [and_true]; exact h2⟩
    | false =>
      obtain ⟨v, h1, h2⟩ := Pin.ovl (o := look s b) (F := fun v K => K v) pin_one K hk
      exact ⟨v, h1, fun h' => by simp only [and_true]; exact h2⟩
  case build t ps =>
    split at hk
    case h_2 => exact hk.elim
    split at hk
    case h_2 => exact hk.elim
    rename_i cells hc
    exact ⟨_, hk, fun h' => ⟨rfl, trivial⟩⟩
  case nilCheck x =>
    split at hk
    · rename_i p hx
      cases p with
      | none => exact hk.elim
      | some a => exact ⟨_, hk, fun h' => ⟨rfl, trivial⟩⟩
    · exact ⟨_, hk, fun h' => ⟨rfl, trivial⟩⟩
    · exact hk.elim
  case binOp op t x y u =>
    obtain ⟨v, h1, h2⟩ := Pin.ovl (o := look s x) (F := fun v K => ovl (look s y) fun u => evBin (find1 tb.eq t) op v u K) (fun v => Pin.ovl (fun u => pin_bin _ _ _ _)) K hk
    exact ⟨v, h1, fun h' => by simp only [and_true]; exact h2⟩
  case unOp op t x =>
    split at hk
    · exact ⟨_, hk, fun h' => ⟨rfl, trivial⟩⟩
    · exact ⟨_, hk, fun h' => ⟨rfl, trivial⟩⟩
    · exact hk.elim
  case makeFunc fn first cap =>
    split at hk
    case h_2 => exact hk.elim
    exact ⟨_, hk, fun h' => ⟨rfl, trivial⟩⟩
  case slice t x lo hi mx =>
    split at hk
    case h_2 => exact hk.elim
    split at hk
    case h_2 => exact hk.elim
    rename_i l u hl hu
    obtain ⟨v, h1, h2⟩ := Pin.ovl (o := look s x) (F := fun v K => evSlice (ixOf tb t) v l u K) (fun v => pin_slice _ _ _ _) K hk
    exact ⟨v, h1, fun h' => by simp only [and_true]; exact h2⟩
  case fieldAddr t x f =>
    split at hk
    case h_2 => exact hk.elim
    split at hk
    case h_2 => exact hk.elim
    exact ⟨_, hk, fun h' => ⟨rfl, trivial⟩⟩
  case indexAddr t x i =>
    obtain ⟨v, h1, h2⟩ := Pin.ovl (o := look s x) (F := fun v K => ovl (look s i) fun u => evIdx (ixOf tb t) v u K) (fun v => Pin.ovl (fun u => pin_idx _ _ _)) K hk
    exact ⟨v, h1, fun h' => by simp only [and_true]; exact h2⟩
  case index t x i =>
    obtain ⟨v, h1, h2⟩ := Pin.ovl (o := look s x) (F := fun v K => ovl (look s i) fun u => (match ixOf tb t with | some ix => evIxV (find1 tb.lk ix.el) (some ix) v u K | none => False)) (fun v => Pin.ovl (fun u => by
      cases ixOf tb t with
      | none => exact pin_false
      | some ix => exact pin_ixv _ _ _ _)) K hk
    exact ⟨v, h1, fun h' => by simp only [and_true]; exact h2⟩
  case extract x i =>
    split at hk
    case h_2 => exact hk.elim
    rename_i vs hx
    obtain ⟨v, h1, h2⟩ := Pin.ovl (o := vs.toList[i]?) (F := fun v K => K v) pin_one K hk
    exact ⟨v, h1, fun h' => by simp only [and_true]; exact h2⟩
  case call c =>
    unfold evCall at hk ⊢
    split at hp
    case h_2 => simp at hp
    rename_i hc
    simp only [hc] at hk ⊢
    split at hk
    case h_2 => exact hk.elim
    split at hk
    case h_2 => exact hk.elim
    obtain ⟨v, h1, h2⟩ := Pin.ovl (F := fun v K => sl2 v fun q => K (.int .i64 q.len)) (fun v => by
      intro K hk
      unfold sl2 at hk ⊢
      split at hk
      · exact ⟨_, hk, rfl⟩
      · exact hk.elim) K hk
    exact ⟨v, h1, fun h' => by simp only [and_true]; exact h2⟩

theorem LdL_rd : ∀ (ts : List Ty) (h : H) (a : Addr) (i : Nat) (K : List Value → Prop), LdL ts h a i K → ∃ vs, K vs ∧ RdL h a i vs ∧ ∀ h', RdL h' a i vs → LdL ts h' a i (fun us => us = vs)
  | [], h, a, i, K, hk => ⟨[], hk, trivial, fun _ _ => rfl⟩
  | t :: ts, h, a, i, K, ⟨x, hx, hk⟩ => by
    obtain ⟨vs, h1, h2, h3⟩ := LdL_rd ts h a (i + 1) _ hk
    refine ⟨t.val x :: vs, h1, ⟨hx, h2⟩, fun h' ⟨q1, q2⟩ => ⟨x, q1, ?_⟩⟩
    have h4 := h3 h' q2
    have mono : ∀ (ts : List Ty) (i : Nat) (K K' : List Value → Prop), (∀ vs, K vs → K' vs) → LdL ts h' a i K → LdL ts h' a i K' := by
      intro ts
      induction ts with
      | nil => exact fun i K K' hm hk => hm _ hk
      | cons t ts ih => exact fun i K K' hm ⟨x, hx, hk⟩ => ⟨x, hx, ih _ _ _ (fun vs => hm _) hk⟩
    exact mono ts (i + 1) _ _ (fun us e => by rw [e]) h4

theorem evQ_ok {P : Program} {tb : Tab} {G : List (Ent P)} {s : Sto} {a : Act} {o : Oper} {ops : Array Oper} {h : H} {K : Value → Option (H → Prop) → Prop} (hfull : tb.full P = true) (ha : Agree s a.eval) (hw : Region.wanted o (yielded ops a.tmps) = true) (hk : evQ tb G s o.op h K) :
    ∃ v R, K v R ∧ (∀ R0, R = some R0 → R0 h) ∧ YieldsR P ops o v (R.getD fun _ => True) a := by
  have hok := Tab.full_ok hfull
  have fin : ∀ (v : Value) (R : H → Prop), (∀ w : World, R w.heap → evOp tb G s o.op w.heap (fun u h' => u = v ∧ h' = w.heap)) → YieldsR P ops o v R a :=
    fun v R hq => .inl ⟨hw, fun w hR => evOp_ok hfull ha w o (hq w hR)⟩
  unfold evQ at hk
  split at hk
  · rename_i t x ho
    split at hk
    case h_2 => exact hk.elim
    rename_i ad hx
    split at hk
    · rename_i ty hl
      obtain ⟨y, hy, hk⟩ := hk
      refine ⟨_, _, hk, fun R0 e => by simp only [Option.some.injEq] at e; subst e; exact hy, fin _ _ (fun w hR => ?_)⟩
      simp only [Option.getD_some] at hR
      simp only [ho, evOp, hx, evLd, hl]
      exact ⟨y, hR, rfl, trivial⟩
    · rename_i ts hl
      obtain ⟨vs, h1, h2, h3⟩ := LdL_rd ts h ad 0 _ hk
      refine ⟨_, _, h1, fun R0 e => by simp only [Option.some.injEq] at e; subst e; exact h2, fin _ _ (fun w hR => ?_)⟩
      simp only [Option.getD_some] at hR
      simp only [ho, evOp, hx, evLd, hl]
      have h4 := h3 _ hR
      have mono : ∀ (ts : List Ty) (i : Nat) (K K' : List Value → Prop), (∀ vs, K vs → K' vs) → LdL ts w.heap ad i K → LdL ts w.heap ad i K' := by
        intro ts
        induction ts with
        | nil => exact fun i K K' hm hk => hm _ hk
        | cons t ts ih => exact fun i K K' hm ⟨x, hx, hk⟩ => ⟨x, hx, ih _ _ _ (fun vs => hm _) hk⟩
      exact mono ts 0 _ _ (fun us e => by rw [e]; exact ⟨rfl, trivial⟩) h4
    · rename_i k n hl
      obtain ⟨xs, h1, h2, h3⟩ := hk
      refine ⟨_, _, h3, fun R0 e => by simp only [Option.some.injEq] at e; subst e; exact h2, fin _ _ (fun w hR => ?_)⟩
      simp only [Option.getD_some] at hR
      simp only [ho, evOp, hx, evLd, hl]
      exact ⟨xs, h1, hR, rfl, trivial⟩
    · exact hk.elim
  · rename_i src dst x ho
    split at hk
    · rename_i k1 k h1 h2
      split at hk
      case h_2 => exact hk.elim
      rename_i k2 n hx
      exact ⟨_, _, hk, fun R0 e => by simp at e, fin _ _ (fun w _ => by simp [ho, evOp, h1, h2, hx])⟩
    · rename_i h1 h2
      split at hk
      case h_2 => exact hk.elim
      rename_i el _ _ hix
      split at hk
      case h_2 => exact hk.elim
      rename_i hel
      cases hstr : isStr P dst with
      | false => rw [hstr] at hk; exact hk.elim
      | true =>
      rw [hstr] at hk
      simp only [cond_true] at hk
      obtain ⟨v, hv, hk⟩ := ovl_some hk
      unfold sl2 at hk
      split at hk
      case h_2 => exact hk.elim
      rename_i a1 l1 c1
      obtain ⟨xs, ⟨q1, q2⟩, hk⟩ := hk
      refine ⟨_, _, hk, fun R0 e => by simp only [Option.some.injEq] at e; subst e; exact q2, fin _ _ (fun w hR => ?_)⟩
      simp only [Option.getD_some] at hR
      simp only [ho, evOp, h1, h2, hix, hel, hstr, cond_true, hv, ovl, sl2]
      exact ⟨xs, q1, hR, rfl, trivial⟩
    · exact hk.elim
  · cases hp : isPure o.op with
    | false => rw [hp] at hk; exact hk.elim
    | true =>
      rw [hp] at hk
      obtain ⟨v, h1, h2⟩ := pure_ev (K := fun v => K v none) hp hk
      exact ⟨v, none, h1, fun R0 e => by simp at e, fin _ _ (fun w _ => h2 w.heap)⟩

theorem evQC_ok {P : Program} {tb : Tab} {G : List (Ent P)} {s : Sto} {a : Act} {o : Oper} {ops : Array Oper} {h : H} {L : List Shape} {K : Value → Option (H → Prop) → Prop} (hfull : tb.full P = true) (ha : Agree s a.eval) (hw : Region.wanted o (yielded ops a.tmps) = true) (hk : evQC G s o.op L h K) :
    ∃ v R, K v R ∧ (∀ R0, R = some R0 → R0 h) ∧ YieldsR P ops o v (R.getD fun _ => True) a := by
  unfold evQC at hk
  split at hk
  case h_2 => exact hk.elim
  rename_i c ho
  split at hk
  case h_2 => exact hk.elim
  rename_i f hf
  split at hk
  case h_2 => exact hk.elim
  rename_i n first captured hl
  split at hk
  case h_2 => exact hk.elim
  rename_i vs hvs
  obtain ⟨x, h1, h2⟩ := hk
  refine ⟨_, _, h2, fun R0 e => by simp only [Option.some.injEq] at e; subst e; exact h1, .inl ⟨hw, fun w hR => evOp_ok (tb := tb) (G := G) (s := s) hfull ha w o (by
    simp only [Option.getD_some] at hR
    simp only [ho, evOp, evCall, hf, hl, hvs]
    exact hR)⟩⟩


theorem wpT_true {P : Program} {ops : Array Oper} {Q : Act → H → Prop} {i : Nat} {R : H → Prop} (hR : ∀ h, R h) : ∀ (f : Nat) (T : TR) (L : Array Bool) (a : Act) (h : H), wpT P ops Q f T L a h → wpT P ops Q f ((i, R) :: T) L a h
  | 0, T, L, a, h, hh => ⟨⟨hR h, hh.1⟩, hh.2⟩
  | f + 1, T, L, a, h, hh => ⟨⟨hR h, hh.1⟩, hh.2.1, fun w hw j hj => goodOp_mono (fun a' h' hk => by
      simp only [alive]
      cases dep ops ops.size j i with
      | true => exact hk
      | false => exact wpT_true hR f _ _ _ _ hk) (hh.2.2 w hw j hj)⟩

theorem Rk_all {T : TR} {h : H} {X : Prop} : Rk T h X → Rall T h ∧ X := by
  induction T with
  | nil => exact fun hx => ⟨trivial, hx⟩
  | cons y T ih =>
    obtain ⟨i, R⟩ := y
    rintro ⟨h1, h2⟩
    exact ⟨⟨h1, (ih h2).1⟩, (ih h2).2⟩

/-- What holds of the frame all along. -/
structure Fr (n : Nat) (ops : Array Oper) (t0 : Array Value) (a : Act) : Prop where
  size : a.tmps.size = n
  defers : a.defers = []
  rest : ∀ i, i ∉ dsts ops.toList → a.tmps[i]? = t0[i]?
theorem Fr.put {n : Nat} {ops : Array Oper} {t0 : Array Value} {a : Act} (h : Fr n ops t0 a) {i : Nat} {o : Oper} (ho : ops.toList[i]? = some o) (v : Value) : Fr n ops t0 (a.put o.dst v) :=
  ⟨by rw [put_size]; exact h.size, by rw [put_defers]; exact h.defers, fun j hj => (put_other _ _ _ _ (fun d hd e => by
    subst e
    exact hj (List.mem_filterMap.2 ⟨o, List.mem_of_getElem? ho, hd⟩))).trans (h.rest j hj)⟩

theorem gd_ok {ops : Array Oper} {i : Nat} {s : Sto} {run skip : Oper → Sto → Prop} {a : Act} (hag : Ag s a.tmps) (h : gd ops.toList i s run skip) :
    ∃ o s', ops.toList[i]? = some o ∧ Ag s' a.tmps ∧ ((Region.wanted o (yielded ops a.tmps) = true ∧ run o s') ∨ (Region.wanted o (yielded ops a.tmps) = false ∧ skip o s')) := by
  unfold gd at h
  split at h
  · exact h.elim
  rename_i o ho
  split at h
  · rename_i hg
    exact ⟨o, s, ho, hag, .inl ⟨by simp [Region.wanted, hg], h⟩⟩
  · rename_i j want hg
    split at h
    · exact h.elim
    rename_i d hdj
    split at h
    · exact h.elim
    rename_i v hv
    have hy := yielded_of (all := ops) hdj (hag d v hv)
    split at h
    · rename_i b
      have ht : a.tmps[d]? = some (.bool b) := hag d _ hv
      cases b with
      | true =>
        simp only [Br_true] at h
        cases want with
        | true => exact ⟨o, _, ho, hag.cons ht, .inl ⟨by simp [Region.wanted, hg, hy], h⟩⟩
        | false => exact ⟨o, _, ho, hag.cons ht, .inr ⟨by simp [Region.wanted, hg, hy], h⟩⟩
      | false =>
        simp only [Br_false] at h
        cases want with
        | true => exact ⟨o, _, ho, hag.cons ht, .inr ⟨by simp [Region.wanted, hg, hy], h⟩⟩
        | false => exact ⟨o, _, ho, hag.cons ht, .inl ⟨by simp [Region.wanted, hg, hy], h⟩⟩
    · rename_i hnb
      exact ⟨o, s, ho, hag, .inr ⟨by
        cases v <;> first | exact absurd rfl (hnb _) | simp [Region.wanted, hg, hy], h⟩⟩

section
variable {P : Program} {tb : Tab} {G : List (Ent P)} {ops : Array Oper} {n : Nat} {t0 : Array Value} {K : Sto → H → Prop}

def QD (n : Nat) (ops : Array Oper) (t0 : Array Value) (K : Sto → H → Prop) (a : Act) (h : H) : Prop := Fr n ops t0 a ∧ ∃ s, Ag s a.tmps ∧ K s h

theorem step_quiet (hsel : Region.noSelect ops = true) {i f : Nat} {o : Oper} {v : Value} {R : Option (H → Prop)} {T : TR} {L : Array Bool} {a : Act} {h : H} {Q : Act → H → Prop}
    (ho : ops.toList[i]? = some o) (hr : (Region.ready .any ops L).contains i = true) (hf : Region.free .any ops L i = true) (hcl : ClosedL ops L) (hy : YieldsR P ops o v (R.getD fun _ => True) a)
    (h2 : wpT P ops Q f (consR i R T) (L.setIfInBounds i true) (a.put o.dst v) h) : wpT P ops Q (f + 1) T L a h := by
  have ho' : ops[i]? = some o := by rw [← ho]; simp
  have hr' : i ∈ Region.ready .any ops L := by simpa using hr
  refine wpT_first (R := R.getD fun _ => True) (v := v) ho' (Region.noSelect_spec hsel) f T L a h (Region.free_spec ho' hf) hcl hr' hy ?_
  cases R with
  | none => exact wpT_true (fun _ => trivial) _ _ _ _ _ h2
  | some R => exact h2

theorem step_mut {i f : Nat} {T : TR} {a : Act} {w : World} {s : Sto} {L : Array Bool} {Q : Act → H → Prop} {X : Sto → H → Prop} (hfull : tb.full P = true) (hag : Ag s a.tmps) (hfr : Fr n ops t0 a) (hfit : Fits n ops.toList) (hT : Rall T w.heap)
    (h : gd ops.toList i s (fun o s => evOp tb G s o.op w.heap fun v h' => Rk (alive ops i T) h' (X (put s o.dst v) h')) (fun o s => X (put s o.dst undef) w.heap))
    (hX : ∀ s' a' h', Ag s' a'.tmps → Fr n ops t0 a' → Rall (alive ops i T) h' → X s' h' → wpT P ops Q f (alive ops i T) (L.setIfInBounds i true) a' h') :
    goodOp P ops i (fun a' h' => wpT P ops Q f (alive ops i T) (L.setIfInBounds i true) a' h') a w := by
  obtain ⟨o, s', ho, hag', hcase⟩ := gd_ok hag h
  have ho' : ops[i]? = some o := by rw [← ho]; simp
  have hdst : ∀ j, o.dst = some j → j < a.tmps.size := fun j hj => by rw [hfr.size]; exact hfit o (List.mem_of_getElem? ho) j hj
  unfold goodOp
  simp only [ho']
  rcases hcase with ⟨hw, h⟩ | ⟨hw, h⟩
  · rw [if_pos hw]
    refine (evOp_ok hfull hag'.agree w o h).mono (fun v h' hk => ?_)
    obtain ⟨h1, h2⟩ := Rk_all hk
    exact hX _ _ _ (hag'.put hdst) (hfr.put ho v) h1 h2
  · rw [if_neg (by rw [hw]; simp)]
    exact hX _ _ _ (hag'.put hdst) (hfr.put ho _) (Rall_alive hT) h

theorem evD_ok (hfull : tb.full P = true) (hsel : Region.noSelect ops = true) (hfit : Fits n ops.toList) (d : DT) : ∀ (T : TR) (s : Sto) (a : Act) (h : H) (f : Nat) (L : Array Bool),
    Ag s a.tmps → Fr n ops t0 a → canonB ops d f L = true → ClosedL ops L → Rall T h → evD tb G ops d T s h K → wpT P ops (QD n ops t0 K) f T L a h := by
  induction d with
  | done =>
    intro T s a h f L hag hfr hc hcl hT hk
    simp only [canonB, Bool.and_eq_true] at hc
    have hf := Nat.eq_of_beq_eq_true hc.1
    subst hf
    exact ⟨hT, by simpa using hc.2, hfr, s, hag, hk⟩
  | q i t ih =>
    intro T s a h f L hag hfr hc hcl hT hk
    simp only [canonB, Bool.and_eq_true] at hc
    obtain ⟨⟨⟨h0, h1⟩, h2⟩, h3⟩ := hc
    obtain ⟨f, rfl⟩ : ∃ m, f = m + 1 := ⟨f - 1, by have : 0 < f := Nat.le_of_ble_eq_true h0; omega⟩
    obtain ⟨o, s', ho, hag', hcase⟩ := gd_ok hag hk
    have hdst : ∀ j, o.dst = some j → j < a.tmps.size := fun j hj => by rw [hfr.size]; exact hfit o (List.mem_of_getElem? ho) j hj
    have hr' : i ∈ Region.ready .any ops L := by simpa using h1
    rcases hcase with ⟨hw, hk⟩ | ⟨hw, hk⟩
    · obtain ⟨v, R, hk, hR, hy⟩ := evQ_ok hfull hag'.agree hw hk
      refine step_quiet hsel ho h1 h2 hcl hy (ih _ _ _ _ f _ (hag'.put hdst) (hfr.put ho v) h3 (hcl.step hr') ?_ hk)
      cases R with
      | none => exact hT
      | some R => exact ⟨hR R rfl, hT⟩
    · exact step_quiet hsel (R := none) ho h1 h2 hcl (.inr ⟨hw, rfl⟩) (ih _ _ _ _ f _ (hag'.put hdst) (hfr.put ho _) h3 (hcl.step hr') hT hk)
  | qc i S t ih =>
    intro T s a h f L hag hfr hc hcl hT hk
    simp only [canonB, Bool.and_eq_true] at hc
    obtain ⟨⟨⟨h0, h1⟩, h2⟩, h3⟩ := hc
    obtain ⟨f, rfl⟩ : ∃ m, f = m + 1 := ⟨f - 1, by have : 0 < f := Nat.le_of_ble_eq_true h0; omega⟩
    obtain ⟨o, s', ho, hag', hcase⟩ := gd_ok hag hk
    have hdst : ∀ j, o.dst = some j → j < a.tmps.size := fun j hj => by rw [hfr.size]; exact hfit o (List.mem_of_getElem? ho) j hj
    have hr' : i ∈ Region.ready .any ops L := by simpa using h1
    rcases hcase with ⟨hw, hk⟩ | ⟨hw, hk⟩
    · obtain ⟨v, R, hk, hR, hy⟩ := evQC_ok hfull hag'.agree hw hk
      refine step_quiet hsel ho h1 h2 hcl hy (ih _ _ _ _ f _ (hag'.put hdst) (hfr.put ho v) h3 (hcl.step hr') ?_ hk)
      cases R with
      | none => exact hT
      | some R => exact ⟨hR R rfl, hT⟩
    · exact step_quiet hsel (R := none) ho h1 h2 hcl (.inr ⟨hw, rfl⟩) (ih _ _ _ _ f _ (hag'.put hdst) (hfr.put ho _) h3 (hcl.step hr') hT hk)
  | m1 i t ih =>
    intro T s a h f L hag hfr hc hcl hT hk
    simp only [canonB, Bool.and_eq_true, beq_iff_eq] at hc
    obtain ⟨⟨h0, h1⟩, h3⟩ := hc
    obtain ⟨f, rfl⟩ : ∃ m, f = m + 1 := ⟨f - 1, by have : 0 < f := Nat.le_of_ble_eq_true h0; omega⟩
    refine ⟨hT, fun h => (by rw [h] at h1; cases h1), fun w hw j hj => ?_⟩
    have hj' := hj
    rw [h1] at hj
    obtain rfl : j = i := by simpa using hj
    subst hw
    exact step_mut (X := fun s h => evD tb G ops t (alive ops j T) s h K) hfull hag hfr hfit hT hk (fun s' a' h' q1 q2 q3 q4 => ih _ _ _ _ f _ q1 q2 h3 (hcl.step hj') q3 q4)
  | m2 i k t u iht ihu =>
    intro T s a h f L hag hfr hc hcl hT hk
    simp only [canonB, Bool.and_eq_true, beq_iff_eq] at hc
    obtain ⟨⟨⟨h0, h1⟩, h3⟩, h4⟩ := hc
    obtain ⟨f, rfl⟩ : ∃ m, f = m + 1 := ⟨f - 1, by have : 0 < f := Nat.le_of_ble_eq_true h0; omega⟩
    refine ⟨hT, fun h => (by rw [h] at h1; cases h1), fun w hw j hj => ?_⟩
    have hj' := hj
    rw [h1] at hj
    subst hw
    rcases (by simpa using hj : j = i ∨ j = k) with rfl | rfl
    · exact step_mut (X := fun s h => evD tb G ops t (alive ops j T) s h K) hfull hag hfr hfit hT hk.1 (fun s' a' h' q1 q2 q3 q4 => iht _ _ _ _ f _ q1 q2 h3 (hcl.step hj') q3 q4)
    · exact step_mut (X := fun s h => evD tb G ops u (alive ops j T) s h K) hfull hag hfr hfit hT hk.2 (fun s' a' h' q1 q2 q3 q4 => ihu _ _ _ _ f _ q1 q2 h4 (hcl.step hj') q3 q4)
end

structure Plan where
  join : List (Nat × Sig)
  loop : List (Nat × Sig)
  draw : List (Nat × DT)
def planAt (l : List (Nat × Sig)) (i : Option Nat) : Option Sig := match i with | some i => find1 l i | none => none

def evC {P : Program} (tb : Tab) (G : List (Ent P)) (pl : Plan) : Code → (Sto → H → Prop) → (Nat → Sto → H → Prop) → (Sto → H → Prop) → Sto → H → Prop
  | .skip, Kn, _, _, s, h => Kn s h
  | .label _, Kn, _, _, s, h => Kn s h
  | .ret, _, _, Kr, s, h => Kr s h
  | .exit id, _, Kx, _, s, h => Kx id s h
  | .region id ops draw, Kn, _, _, s, h => bif draw then (match find1 pl.draw id with
      | none => False
      | some d => bif P.follows .mixedOrders && Region.noSelect ops && canonB ops d ops.size (Array.replicate ops.size false) then evD tb G ops d [] s h Kn else False)
    else evOps tb G ops.toList ops.toList s h Kn
  | .cond c x y, Kn, Kx, Kr, s, h => (match look s c with
    | some (.bool b) => Br b (evC tb G pl x Kn Kx Kr s h) (evC tb G pl y Kn Kx Kr s h)
    | _ => False)
  | .block id c, Kn, Kx, Kr, s, h => evC tb G pl c Kn (fun i s h => bif Nat.beq i id then Kn s h else Kx i s h) Kr s h
  | .scope c, Kn, Kx, Kr, s, h => evC tb G pl c Kn Kx Kr s h
  | .seq a b, Kn, Kx, Kr, s, h => (match planAt pl.join (fid b) with
    | none => evC tb G pl a (fun s h => evC tb G pl b Kn Kx Kr s h) Kx Kr s h
    | some L => JoinM (σ := TupT L) (fun J => evC tb G pl a (fun s1 h1 => match TupG L s1 with | some x => J x h1 | none => False) Kx Kr s h)
        (fun x h' => evC tb G pl b Kn Kx Kr (TupS L x ++ forget (writes a) s) h'))
  | .loop c, Kn, Kx, Kr, s, h => (match planAt pl.loop (fid c) with
    | none => False
    | some L => (match TupG L s with
      | none => False
      | some x0 => LoopM (σ := TupT L) (fun self x h' => evC tb G pl c (fun s1 h1 => match TupG L s1 with | some x => self x h1 | none => False) Kx Kr (TupS L x ++ forget (writes c) s) h') x0 h))
  | _, _, _, _, _, _ => False


theorem evC_ok {P : Program} {tb : Tab} {G : List (Ent P)} {pl : Plan} (hfull : tb.full P = true) {n : Nat} (c : Code) : ∀ (Kn : Sto → H → Prop) (Kx : Nat → Sto → H → Prop) (Kr : Sto → H → Prop) (s : Sto) (a : Act) (w : World),
    a.tmps.size = n → a.defers = [] → Ag s a.tmps → fitsC n c = true → evC tb G pl c Kn Kx Kr s w.heap → c.wp P (Post n w a.tmps (writes c) Kn Kx Kr) a w := by
  induction c with
  | skip => exact fun Kn Kx Kr s a w h1 h2 h3 _ h => wp_skip ⟨h1, h2, Same.refl _, fun _ _ => rfl, s, h3, h⟩
  | label l => exact fun Kn Kx Kr s a w h1 h2 h3 _ h => wp_label ⟨h1, h2, Same.refl _, fun _ _ => rfl, s, h3, h⟩
  | ret => exact fun Kn Kx Kr s a w h1 h2 h3 _ h => wp_ret ⟨h1, h2, Same.refl _, fun _ _ => rfl, s, h3, h⟩
  | exit id => exact fun Kn Kx Kr s a w h1 h2 h3 _ h => wp_exit ⟨h1, h2, Same.refl _, fun _ _ => rfl, s, h3, h⟩
  | region id ops draw =>
    intro Kn Kx Kr s a w h1 h2 h3 hf h
    have hfit : Fits n ops.toList := by
      intro o ho d hd
      simp only [fitsC, List.all_eq_true] at hf
      have := hf o ho
      rw [hd] at this
      exact Nat.le_of_ble_eq_true this
    cases draw with
    | true =>
      simp only [evC, cond_true] at h
      split at h
      · exact h.elim
      rename_i d hd
      cases hc : (P.follows .mixedOrders && Region.noSelect ops && canonB ops d ops.size (Array.replicate ops.size false)) with
      | false => rw [hc] at h; exact h.elim
      | true =>
        rw [hc] at h
        simp only [cond_true] at h
        simp only [Bool.and_eq_true] at hc
        obtain ⟨⟨hmix, hsel⟩, hcan⟩ := hc
        have hcl : ClosedL ops (Array.replicate ops.size false) := by
          intro j o ho hj
          simp [Array.getD_eq_getD_getElem?, Array.getElem?_replicate] at hj
          split at hj <;> simp at hj
        have h5 := evD_ok (t0 := a.tmps) hfull hsel hfit d [] s a w.heap ops.size _ h3 ⟨h1, h2, fun _ _ => rfl⟩ hcan hcl trivial h
        refine wp_region_any hmix (wpAny_of_T (w0 := w) (fun a' w' hs' hq => ?_) ops.size [] _ a { w with drawn := w.drawn + 1 } ⟨rfl, rfl, rfl⟩ h5)
        obtain ⟨hfr, s', q1, q2⟩ := hq
        exact ⟨hfr.size, hfr.defers, hs', hfr.rest, s', q1, q2⟩
    | false =>
      refine wp_region_list (evOps_ok hfull ops ops.toList s a w h3 h2 h1 hfit h ?_)
      intro s' a' w' q1 q2 q3 q4 q5 q6
      exact ⟨q3, q2, q4, q5, s', q1, q6⟩
  | seq x y ihx ihy =>
    intro Kn Kx Kr s a w h1 h2 h3 hf h
    simp only [fitsC, Bool.and_eq_true] at hf
    simp only [evC] at h
    split at h
    · refine wp_seq (wp_mono (ihx _ _ _ s a w h1 h2 h3 hf.1 h) ?_)
      intro e a1 w1 hp
      cases e with
      | normal =>
        obtain ⟨q1, q2, q3, q4, s1, q5, q6⟩ := hp
        refine wp_mono (ihy _ _ _ s1 a1 w1 q1 q2 q5 hf.2 q6) ?_
        exact Post.mono q3 (fun i hi => q4 i (fun hm => hi (by simp [writes, hm]))) (fun i hm => by simp [writes, hm]) (fun _ _ h => h) (fun _ _ _ h => h) (fun _ _ h => h)
      | _ =>
        obtain ⟨q1, q2, q3, q4, s1, q5, q6⟩ := hp
        exact ⟨q1, q2, q3, fun i hi => q4 i (fun hm => hi (List.mem_append_left _ hm)), s1, q5, q6⟩
    · rename_i L hL
      refine wp_seq (wp_mono (ihx _ _ _ s a w h1 h2 h3 hf.1 h) ?_)
      intro e a1 w1 hp
      cases e with
      | normal =>
        obtain ⟨q1, q2, q3, q4, s1, q5, q6⟩ := hp
        simp only at q6
        split at q6
        case h_2 => exact q6.elim
        rename_i x hx
        refine wp_mono (ihy _ _ _ _ a1 w1 q1 q2 (h3.tup q5 hx q4) hf.2 q6) ?_
        exact Post.mono q3 (fun i hi => q4 i (fun hm => hi (by simp [writes, hm]))) (fun i hm => by simp [writes, hm]) (fun _ _ h => h) (fun _ _ _ h => h) (fun _ _ h => h)
      | _ =>
        obtain ⟨q1, q2, q3, q4, s1, q5, q6⟩ := hp
        exact ⟨q1, q2, q3, fun i hi => q4 i (fun hm => hi (List.mem_append_left _ hm)), s1, q5, q6⟩
  | cond c x y ihx ihy =>
    intro Kn Kx Kr s a w h1 h2 h3 hf h
    simp only [fitsC, Bool.and_eq_true] at hf
    simp only [evC] at h
    split at h
    case h_2 => exact h.elim
    rename_i b hb
    have he := h3.agree.at_ _ _ hb
    cases b with
    | true =>
      refine wp_cond_true he (wp_mono (ihx _ _ _ s a w h1 h2 h3 hf.1 h) ?_)
      exact Post.mono (Same.refl _) (fun _ _ => rfl) (fun i hm => by simp [writes, hm]) (fun _ _ h => h) (fun _ _ _ h => h) (fun _ _ h => h)
    | false =>
      refine wp_cond_false he (wp_mono (ihy _ _ _ s a w h1 h2 h3 hf.2 h) ?_)
      exact Post.mono (Same.refl _) (fun _ _ => rfl) (fun i hm => by simp [writes, hm]) (fun _ _ h => h) (fun _ _ _ h => h) (fun _ _ h => h)
  | block id c ih =>
    intro Kn Kx Kr s a w h1 h2 h3 hf h
    refine wp_block (wp_mono (ih _ _ _ s a w h1 h2 h3 hf h) ?_)
    intro e a1 w1 hp
    obtain ⟨q1, q2, q3, q4, s1, q5, q6⟩ := hp
    cases e with
    | exit i =>
      simp only [Exit.inBlock]
      split
      · rename_i hi
        subst hi
        refine ⟨q1, q2, q3, q4, s1, q5, ?_⟩
        simpa using q6
      · rename_i hi
        refine ⟨q1, q2, q3, q4, s1, q5, ?_⟩
        have : Nat.beq i id = false := by
          cases hb : Nat.beq i id with
          | true => exact absurd (Nat.eq_of_beq_eq_true hb) hi
          | false => rfl
        simpa [this] using q6
    | _ => exact ⟨q1, q2, q3, q4, s1, q5, q6⟩
  | scope c ih =>
    intro Kn Kx Kr s a w h1 h2 h3 hf h
    refine wp_scope_straight (wp_mono (ih _ _ _ s a w h1 h2 h3 hf h) ?_)
    intro e a1 w1 hp
    cases e with
    | goto l => obtain ⟨_, _, _, _, _, _, q6⟩ := hp; exact q6.elim
    | _ => exact hp
  | loop c ih =>
    intro Kn Kx Kr s a w h1 h2 h3 hf h
    simp only [evC] at h
    split at h
    · exact h.elim
    rename_i L hL
    split at h
    · exact h.elim
    rename_i x0 hx0
    obtain ⟨I, k, hI, hround⟩ := h
    refine wp_loop_ghost (fun k a1 w1 => ∃ x, a1.tmps.size = n ∧ a1.defers = [] ∧ Same w w1 ∧ (∀ i, i ∉ writes c → a1.tmps[i]? = a.tmps[i]?) ∧ Ag (TupS L x ++ forget (writes c) s) a1.tmps ∧ I k x w1.heap) ?_ k a w ⟨x0, h1, h2, Same.refl _, fun _ _ => rfl, h3.tup h3 hx0 (fun _ _ => rfl), hI⟩
    rintro k a1 w1 ⟨x, p1, p2, p3, p4, p5, p6⟩
    refine wp_mono (ih _ _ _ _ a1 w1 p1 p2 p5 hf (hround k x _ p6)) ?_
    intro e a2 w2 hp
    cases e with
    | normal =>
      obtain ⟨q1, q2, q3, q4, s1, q5, q6⟩ := hp
      simp only at q6
      split at q6
      case h_2 => exact q6.elim
      rename_i x2 hx2
      obtain ⟨k', hk', hI'⟩ := q6
      exact ⟨k', hk', x2, q1, q2, p3.trans q3, fun i hi => (q4 i hi).trans (p4 i hi), h3.tup q5 hx2 (fun i hi => (q4 i hi).trans (p4 i hi)), hI'⟩
    | _ =>
      obtain ⟨q1, q2, q3, q4, s1, q5, q6⟩ := hp
      exact ⟨q1, q2, p3.trans q3, fun i hi => (q4 i hi).trans (p4 i hi), s1, q5, q6⟩
  | rangeFunc f p as b _ _ => exact fun Kn Kx Kr s a w h1 h2 h3 _ h => h.elim
  | goto l => exact fun Kn Kx Kr s a w h1 h2 h3 _ h => h.elim
  | refuse w => exact fun Kn Kx Kr s a w h1 h2 h3 _ h => h.elim


/-! Functions -/
def evRes {P : Program} (tb : Tab) : List ResultVar → Sto → H → (List Value → Prop) → Prop
  | [], _, _, K => K []
  | .tmp t :: r, s, h, K => ovl (find1 s t) fun v => evRes (P := P) tb r s h fun vs => K (v :: vs)
  | .cell a t :: r, s, h, K => (match find1 s a with
    | some (.pointer (some ad)) => evLd (find1 tb.lk t) h ad fun v => evRes (P := P) tb r s h fun vs => K (v :: vs)
    | _ => False)
def args0 : Nat → List Value → Sto
  | _, [] => []
  | i, v :: r => (i, v) :: args0 (i + 1) r
def evFn {P : Program} (tb : Tab) (G : List (Ent P)) (pl : Plan) (rs : List ResultVar) (c : Code) (args : List Value) (K : Value → H → Prop) (h : H) : Prop :=
  evC tb G pl c (fun s h => evRes (P := P) tb rs s h fun vs => K (tupV vs) h) (fun _ _ _ => False) (fun s h => evRes (P := P) tb rs s h fun vs => K (tupV vs) h) (args0 0 args) h

def resOne (tmps : Array Value) : ResultVar → Sem Value
  | .tmp t => pure (tmps.getD t undef)
  | .cell a t => do loadVar t (← asAddr (tmps.getD a undef))
theorem evRes_ok {P : Program} {tb : Tab} (hok : tb.ok P = true) (w : World) : ∀ (rs : List ResultVar) (s : Sto) (a : Act) (K : List Value → Prop), Ag s a.tmps → evRes (P := P) tb rs s w.heap K →
    ∃ vs, (rs.mapM (resOne a.tmps)).run P w = .ok vs w ∧ K vs
  | [], s, a, K, hag, h => ⟨[], by simp, h⟩
  | .tmp t :: r, s, a, K, hag, h => by
    simp only [evRes] at h
    obtain ⟨v, hv, h⟩ := ovl_some h
    obtain ⟨vs, h1, h2⟩ := evRes_ok hok w r s a _ hag h
    refine ⟨v :: vs, ?_, h2⟩
    have := hag t v hv
    rw [List.mapM_cons]
    simp [resOne, Array.getD_eq_getD_getElem?, this, h1]
  | .cell ad t :: r, s, a, K, hag, h => by
    simp only [evRes] at h
    split at h
    case h_2 => exact h.elim
    rename_i b hb
    obtain ⟨v, h3, h⟩ := evLd_ok (P := P) (t := t) w (fun k hk => Tab.lk_ok hok hk) h
    obtain ⟨vs, h1, h2⟩ := evRes_ok hok w r s a _ hag h
    refine ⟨v :: vs, ?_, h2⟩
    have := hag ad _ hb
    rw [List.mapM_cons]
    simp [resOne, Array.getD_eq_getD_getElem?, this, h1, asAddr, h3]

theorem run_results {P : Program} (fn : Func) (tmps : Array Value) (w : World) (vs : List Value) (h : (fn.results.toList.mapM (resOne tmps)).run P w = .ok vs w) : (results fn tmps).run P w = .ok (tupV vs) w := by
  have h1 : (fn.results.mapM (resOne tmps)).run P w = .ok vs.toArray w := by
    rw [Array.mapM_eq_mapM_toList, Sem.run_map, h]; rfl
  have h2 : results fn tmps = (do
      let vs ← fn.results.mapM (resOne tmps)
      pure (if h : vs.size = 1 then vs[0] else .tuple vs)) := by
    unfold results
    congr 1
  rw [h2, Sem.run_bind, h1]
  simp only [Result.andThen_ok, Sem.run_pure]
  cases vs with
  | nil => rfl
  | cons v r =>
    cases r with
    | nil => rfl
    | cons u r => simp [tupV]

theorem args0_find : ∀ (vs : List Value) (i j : Nat) (v : Value), find1 (args0 i vs) j = some v → i ≤ j ∧ vs[j - i]? = some v
  | [], i, j, v, h => by simp [args0, find1] at h
  | u :: r, i, j, v, h => by
    simp only [args0, find1] at h
    cases hb : Nat.beq i j with
    | true =>
      have := Nat.eq_of_beq_eq_true hb
      subst this
      rw [hb] at h; simp only [cond_true, Option.some.injEq] at h; subst h
      simp
    | false =>
      rw [hb] at h
      obtain ⟨h1, h2⟩ := args0_find r (i + 1) j v h
      refine ⟨by omega, ?_⟩
      rw [show j - i = (j - (i + 1)) + 1 by omega]
      simpa using h2

theorem evFn_ok {P : Program} {tb : Tab} (hfull : tb.full P = true) {G : List (Ent P)} {pl : Plan} {num : Nat} {fn : Func} {c : Code} (hf : P.funcs[num]? = some fn) (hb : fn.body = some c) (hfit : fitsC fn.ntmps c = true)
    (args : List Value) (hlen : args.length ≤ fn.ntmps) (K : Value → H → Prop) (w : World) (h : evFn tb G pl fn.results.toList c args K w.heap) :
    Calls P num args.toArray w (fun e w' => ∃ v, e = .returned v ∧ Same w w' ∧ K v w'.heap) := by
  refine calls_of_wp hf hb ?_
  have hsz : (args.toArray ++ Array.replicate (fn.ntmps - args.toArray.size) undef).size = fn.ntmps := by simp; omega
  refine wp_mono (evC_ok hfull c _ _ _ (args0 0 args) _ w hsz rfl ?_ hfit h) ?_
  · intro i v hv
    obtain ⟨_, h2⟩ := args0_find args 0 i v hv
    rw [Nat.sub_zero] at h2
    have hi : i < args.length := (List.getElem?_eq_some_iff.1 h2).1
    rw [Array.getElem?_append_left (by simpa using hi)]
    simpa using h2
  · intro e a w' hp
    obtain ⟨q1, q2, q3, q4, s, q5, q6⟩ := hp
    have fin : evRes (P := P) tb fn.results.toList s w'.heap (fun vs => K (tupV vs) w'.heap) → a.defers = [] ∧ ∃ v, (results fn a.tmps).run P w' = .ok v w' ∧ ∃ v', Ending.returned v = .returned v' ∧ Same w w' ∧ K v' w'.heap := by
      intro hr
      obtain ⟨vs, h1, h2⟩ := evRes_ok (Tab.full_ok hfull) w' _ s a _ q5 hr
      exact ⟨q2, tupV vs, run_results fn a.tmps w' vs h1, _, rfl, q3, h2⟩
    cases e with
    | normal => exact fin q6
    | ret => exact fin q6
    | exit id => exact q6.elim
    | goto l => exact q6.elim
    | panic ch => exact q6.elim
    | outgrown => exact q6.elim

/-! Entries -/
theorem Seal.ex {α : Sort _} (f : α) : ∃ g : α, g = f := ⟨f, rfl⟩
noncomputable def Seal {α : Sort _} (f : α) : α := Classical.choose (Seal.ex f)
theorem Seal_eq {α : Sort _} (f : α) : Seal f = f := Classical.choose_spec (Seal.ex f)

def entSem {L : List Shape} (F : ShL L → (Value → H → Prop) → H → Prop) (args : List Value) (K : Value → H → Prop) (h : H) : Prop :=
  match ShL.of L args with | some x => F x K h | none => False
/-- What is checked of a function's body. -/
def bodyOk (fn : Func) (c : Code) (k : Nat) : Bool :=
  (match fn.body with | some _ => true | none => false) && !(fn.name == "runtime.NumGoroutine") && fitsC fn.ntmps c && Nat.ble k fn.ntmps
theorem ShL.length : ∀ (L : List Shape) (x : ShL L), (ShL.vals L x).length = L.length
  | [], _ => rfl
  | sh :: r, x => by simp [ShL.vals, ShL.length r x.2]
def mkEnt {P : Program} {tb : Tab} (hfull : tb.full P = true) (num : Nat) (fn : Func) (c : Code) (hf : P.funcs[num]? = some fn) (hc : fn.body = some c) (G : List (Ent P)) (pl : Plan) (L : List Shape) (hb : bodyOk fn c L.length = true)
    (F F0 : ShL L → (Value → H → Prop) → H → Prop) (hs : F = F0) (hF : ∀ x K h, F0 x K h = evFn tb G pl fn.results.toList c (ShL.vals L x) K h) : Ent P where
  num := num
  sem := entSem F
  has := by
    unfold bodyOk at hb
    simp only [Bool.and_eq_true, Bool.not_eq_true'] at hb
    exact ⟨fn, hf, hb.1.1.2, by rw [hc]; rfl⟩
  ok := by
    intro args K w h
    unfold bodyOk at hb
    simp only [Bool.and_eq_true] at hb
    unfold entSem at h
    split at h
    case h_2 => exact h.elim
    rename_i x hx
    have hv := ShL.of_vals hx
    subst hs
    rw [hF] at h
    rw [← hv]
    exact evFn_ok hfull hf hc hb.1.2 _ (by rw [ShL.length]; exact Nat.le_of_ble_eq_true hb.2) K w h

end Go.Proofs.Ytfijchofplkcoaa
