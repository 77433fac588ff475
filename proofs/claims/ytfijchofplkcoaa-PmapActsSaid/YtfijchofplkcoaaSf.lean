/-
  Whole pieces of code: regions, branches, loops, functions.
-/
import Derived.Test.YtfijchofplkcoaaSe
set_option linter.unusedVariables false
set_option linter.unusedSimpArgs false
namespace Go.Proofs.Ytfijchofplkcoaa

def put (s : Sto) (d : Option Tmp) (v : Value) : Sto := match d with | some d => (d, v) :: s | none => s
def dstOf (ops : List Oper) (j : Nat) : Option Nat := (ops[j]?).bind (·.dst)

def evOps {P : Program} (tb : Tab) (G : List (Ent P)) (all : List Oper) : List Oper → Sto → H → (Sto → H → Prop) → Prop
  | [], s, h, K => K s h
  | o :: r, s, h, K =>
    match o.guard with
    | none => evOp tb G s o.op h fun v h' => evOps tb G all r (put s o.dst v) h' K
    | some (j, want) => match dstOf all j with
      | none => False
      | some d => match find1 s d with
        | none => False
        | some v => match v with
          | .bool b => Br b
              (match want with
                | true => evOp tb G ((d, .bool true) :: s) o.op h fun v h' => evOps tb G all r (put ((d, .bool true) :: s) o.dst v) h' K
                | false => evOps tb G all r (put ((d, .bool true) :: s) o.dst undef) h K)
              (match want with
                | true => evOps tb G all r (put ((d, .bool false) :: s) o.dst undef) h K
                | false => evOp tb G ((d, .bool false) :: s) o.op h fun v h' => evOps tb G all r (put ((d, .bool false) :: s) o.dst v) h' K)
          | _ => evOps tb G all r (put s o.dst undef) h K

/-! States at joins and loops -/
inductive Shape where
  | one (t : Ty)
  | agg (ts : List Ty)
  | fn (n : Nat) (ts : List Ty)
@[reducible] def TyL : List Ty → Type
  | [] => Unit
  | t :: r => t.T × TyL r
@[reducible] def Shape.T : Shape → Type
  | .one t => t.T
  | .agg ts => TyL ts
  | .fn _ ts => TyL ts
def TyL.vals : (ts : List Ty) → TyL ts → List Value
  | [], _ => []
  | t :: r, x => t.val x.1 :: TyL.vals r x.2
def Shape.val : (sh : Shape) → sh.T → Value
  | .one t, x => t.val x
  | .agg ts, x => .agg (TyL.vals ts x).toArray
  | .fn n ts, x => .func (.func n) #[] (TyL.vals ts x).toArray
def Ty.of (t : Ty) (v : Value) : Option t.T :=
  match t with
  | .i k => (match v with | .int k' n => if k' = k then some n else none | _ => none)
  | .b => (match v with | .bool x => some x | _ => none)
  | .p => (match v with | .pointer x => some x | _ => none)
  | .s => (match v with | .slice q l c => some ⟨q, l, c⟩ | _ => none)
  | .f => some v
  | .a => (match v with | .pointer x => x | _ => none)
def TyL.of : (ts : List Ty) → List Value → Option (TyL ts)
  | [], [] => some ()
  | t :: r, v :: vs => (match t.of v, TyL.of r vs with | some x, some y => some (x, y) | _, _ => none)
  | _, _ => none
def Shape.of (sh : Shape) (v : Value) : Option sh.T :=
  match sh with
  | .one t => t.of v
  | .agg ts => (match v with | .agg cs => TyL.of ts cs.toList | _ => none)
  | .fn n ts => (match v with | .func (.func m) first cs => (match first.toList with | [] => (bif Nat.beq m n then TyL.of ts cs.toList else none) | _ => none) | _ => none)
abbrev Sig := List (Nat × Shape)
@[reducible] def TupT : Sig → Type
  | [] => Unit
  | (_, sh) :: r => sh.T × TupT r
def TupS : (L : Sig) → TupT L → Sto
  | [], _ => []
  | (i, sh) :: r, x => (i, sh.val x.1) :: TupS r x.2
def TupG : (L : Sig) → Sto → Option (TupT L)
  | [], _ => some ()
  | (i, sh) :: r, s => match find1 s i with
    | some v => (match sh.of v, TupG r s with | some x, some y => some (x, y) | _, _ => none)
    | none => none

theorem Ty.of_val {t : Ty} {v : Value} {x : t.T} (h : t.of v = some x) : t.val x = v := by
  cases t <;> simp only [Ty.of] at h
  case i k =>
    cases v <;> simp only [reduceCtorEq] at h
    split at h
    · rename_i hk; simp only [Option.some.injEq] at h; subst h; subst hk; rfl
    · simp at h
  case b => cases v <;> simp only [reduceCtorEq, Option.some.injEq] at h; subst h; rfl
  case p => cases v <;> simp only [reduceCtorEq, Option.some.injEq] at h; subst h; rfl
  case s => cases v <;> simp only [reduceCtorEq, Option.some.injEq] at h; subst h; rfl
  case f => simp only [Option.some.injEq] at h; subst h; rfl
  case a => cases v <;> first | (simp only [reduceCtorEq] at h; done) | (simp only at h; subst h; rfl) | (subst h; rfl)
theorem TyL.of_vals : ∀ {ts : List Ty} {vs : List Value} {x : TyL ts}, TyL.of ts vs = some x → TyL.vals ts x = vs
  | [], [], x, h => rfl
  | [], _ :: _, x, h => by simp [TyL.of] at h
  | t :: r, [], x, h => by simp [TyL.of] at h
  | t :: r, v :: vs, x, h => by
    simp only [TyL.of] at h
    split at h
    · rename_i a b ha hb
      simp only [Option.some.injEq] at h
      subst h
      simp only [TyL.vals, Ty.of_val ha, TyL.of_vals hb]
    · simp at h
theorem Shape.of_val {sh : Shape} {v : Value} {x : sh.T} (h : sh.of v = some x) : sh.val x = v := by
  cases sh with
  | one t => exact Ty.of_val h
  | agg ts =>
    simp only [Shape.of] at h
    cases v <;> simp only [reduceCtorEq] at h
    simp only [Shape.val, TyL.of_vals h]
  | fn n ts =>
    simp only [Shape.of] at h
    split at h
    case h_2 => simp at h
    rename_i m first cs
    split at h
    case h_2 => simp at h
    rename_i hfirst
    cases hb : Nat.beq m n with
    | false => rw [hb] at h; simp at h
    | true =>
      rw [hb] at h
      have := Nat.eq_of_beq_eq_true hb
      subst this
      have e1 : first = #[] := by rw [← hfirst]
      have e2 := TyL.of_vals h
      simp only [Shape.val, e2, e1]
theorem TupG_find : ∀ {L : Sig} {s : Sto} {x : TupT L}, TupG L s = some x → ∀ i v, (i, v) ∈ TupS L x → find1 s i = some v
  | [], s, x, h, i, v, hm => by simp [TupS] at hm
  | (j, sh) :: r, s, x, h, i, v, hm => by
    simp only [TupG] at h
    split at h
    case h_2 => simp at h
    rename_i u hu
    split at h
    case h_2 => simp at h
    rename_i a b ha hb
    simp only [Option.some.injEq] at h
    subst h
    simp only [TupS, List.mem_cons, Prod.mk.injEq] at hm
    rcases hm with ⟨rfl, rfl⟩ | hm
    · rw [Shape.of_val ha]; exact hu
    · exact TupG_find hb i v hm

def JoinM {σ : Type} (A : (σ → H → Prop) → Prop) (B : σ → H → Prop) : Prop := A B
def LoopM {σ : Type} (body : (σ → H → Prop) → σ → H → Prop) (x : σ) (h : H) : Prop :=
  ∃ (I : Nat → σ → H → Prop) (k : Nat), I k x h ∧ ∀ k x h, I k x h → body (fun x' h' => ∃ k', k' < k ∧ I k' x' h') x h

def fid : Code → Option Nat
  | .region id _ _ => some id
  | .seq a b => (match fid a with | some i => some i | none => fid b)
  | .block _ c => fid c
  | .loop c => fid c
  | .scope c => fid c
  | _ => none
def dsts (ops : List Oper) : List Nat := ops.filterMap (·.dst)
def writes : Code → List Nat
  | .region _ ops _ => dsts ops.toList
  | .seq a b => writes a ++ writes b
  | .cond _ a b => writes a ++ writes b
  | .block _ c => writes c
  | .loop c => writes c
  | .scope c => writes c
  | _ => []
def hasN : List Nat → Nat → Bool
  | [], _ => false
  | j :: r, i => Nat.beq j i || hasN r i
def forget (ws : List Nat) : Sto → Sto
  | [] => []
  | (i, v) :: r => bif hasN ws i then forget ws r else (i, v) :: forget ws r
/-! Soundness -/
def Ag (s : Sto) (t : Array Value) : Prop := ∀ i v, find1 s i = some v → t[i]? = some v
theorem Ag.agree {s : Sto} {a : Act} (h : Ag s a.tmps) : Agree s a.eval := by
  refine ⟨fun x v hv => ?_⟩
  cases x with
  | tmp t =>
    have := h t v hv
    simp [Act.eval, Array.getD_eq_getD_getElem?, this]
  | const u => simp only [look, Option.some.injEq] at hv; subst hv; rfl
  | global g => simp only [look, Option.some.injEq] at hv; subst hv; rfl
  | func f => simp only [look, Option.some.injEq] at hv; subst hv; rfl
theorem Ag.cons {s : Sto} {t : Array Value} (h : Ag s t) {d : Nat} {v : Value} (hd : t[d]? = some v) : Ag ((d, v) :: s) t := by
  intro i u hu
  simp only [find1] at hu
  cases hb : Nat.beq d i with
  | true =>
    have := Nat.eq_of_beq_eq_true hb
    subst this
    rw [hb] at hu; simp only [cond_true, Option.some.injEq] at hu; subst hu
    exact hd
  | false => rw [hb] at hu; exact h i u hu
theorem Ag.put {s : Sto} {a : Act} (h : Ag s a.tmps) {d : Option Tmp} {v : Value} (hd : ∀ i, d = some i → i < a.tmps.size) : Ag (put s d v) (a.put d v).tmps := by
  cases d with
  | none => exact h
  | some d =>
    have hd := hd d rfl
    intro i u hu
    simp only [Ytfijchofplkcoaa.put, find1] at hu
    simp only [Act.put]
    cases hb : Nat.beq d i with
    | true =>
      have := Nat.eq_of_beq_eq_true hb
      subst this
      rw [hb] at hu; simp only [cond_true, Option.some.injEq] at hu; subst hu
      simp [hd]
    | false =>
      rw [hb] at hu
      have hne : d ≠ i := fun e => by subst e; simp at hb
      rw [Array.getElem?_setIfInBounds_ne hne]
      exact h i u hu
theorem put_size (a : Act) (d : Option Tmp) (v : Value) : (a.put d v).tmps.size = a.tmps.size := by
  cases d <;> simp [Act.put]
theorem put_defers (a : Act) (d : Option Tmp) (v : Value) : (a.put d v).defers = a.defers := by
  cases d <;> simp [Act.put]
theorem put_other (a : Act) (d : Option Tmp) (v : Value) (i : Nat) (h : ∀ j, d = some j → j ≠ i) : (a.put d v).tmps[i]? = a.tmps[i]? := by
  cases d with
  | none => rfl
  | some d => simp only [Act.put]; rw [Array.getElem?_setIfInBounds_ne (h d rfl)]

theorem yielded_of {all : Array Oper} {t : Array Value} {j d : Nat} {v : Value} (hd : dstOf all.toList j = some d) (hv : t[d]? = some v) : yielded all t j = (match v with | .bool b => some b | _ => none) := by
  unfold dstOf at hd
  unfold yielded
  have : (all[j]?).bind (·.dst) = some d := by rw [← hd]; simp
  rw [this]
  simp only [Option.bind_some, hv]
  cases v <;> rfl

end Go.Proofs.Ytfijchofplkcoaa
