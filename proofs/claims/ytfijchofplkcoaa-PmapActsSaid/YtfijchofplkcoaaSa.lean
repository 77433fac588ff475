/-
  The heap alone, and what each operation of the translated program does to it, as plain predicates.
-/
import Derived.WalkKit
import Derived.KernelRfl
set_option linter.unusedVariables false
set_option linter.unusedSimpArgs false
namespace Go.Proofs.Ytfijchofplkcoaa

abbrev H := Array Obj
def hcell (h : H) (a : Addr) : Option Value :=
  match h[a.block]? with
  | some (.cells c _ _) => if a.spot.isSome then none else c[a.off]?
  | _ => none
def hfroz (h : H) (a : Addr) : Bool :=
  match h[a.block]? with
  | some (.cells _ _ (lo, hi)) => lo ≤ a.off && a.off < hi
  | _ => false
def hset (h : H) (a : Addr) (v : Value) : H :=
  h.modify a.block fun
      | .cells c elem frozen => .cells (if a.spot.isSome then c else c.setIfInBounds a.off v) elem frozen
      | o => o
theorem cell_h (w : World) (a : Addr) : w.cell? a = hcell w.heap a := rfl
theorem froz_h (w : World) (a : Addr) : w.frozen? a = hfroz w.heap a := rfl
theorem set_h (w : World) (a : Addr) (v : Value) : w.setCell a v = { w with heap := hset w.heap a v } := rfl

/-- All but the heap and the count of what was drawn. -/
def Same (w w' : World) : Prop := w'.os = w.os ∧ w'.tape = w.tape ∧ w'.output = w.output
theorem Same.refl (w : World) : Same w w := ⟨rfl, rfl, rfl⟩
theorem Same.trans {w w1 w2 : World} (a : Same w w1) (b : Same w1 w2) : Same w w2 :=
  ⟨b.1.trans a.1, b.2.1.trans a.2.1, b.2.2.trans a.2.2⟩

/-! Values by their types -/
structure Sl where
  a : Option Addr
  len : Nat
  cap : Nat
inductive Ty where
  | i (k : IntKind) | b | p | s | f | a
@[reducible] def Ty.T : Ty → Type
  | .i _ => Int
  | .b => Bool
  | .p => Option Addr
  | .s => Sl
  | .f => Value
  | .a => Addr
def Ty.val : (t : Ty) → t.T → Value
  | .i k, x => .int k x
  | .b, x => .bool x
  | .p, x => .pointer x
  | .s, x => .slice x.a x.len x.cap
  | .f, x => x
  | .a, x => .pointer (some x)
inductive LK where
  | leaf (t : Ty)
  | agg (ts : List Ty)
  | row (k : IntKind) (n : Nat)
def LK.size : LK → Nat
  | .leaf _ => 1
  | .agg ts => ts.length
  | .row _ n => n
def LK.isAgg : LK → Bool
  | .leaf _ => false
  | _ => true

def Br (b : Bool) (x y : Prop) : Prop := match b with | true => x | false => y
theorem Br_true (x y : Prop) : Br true x y = x := rfl
theorem Br_false (x y : Prop) : Br false x y = y := rfl
def NilP (p : Option Addr) (K : Addr → Prop) : Prop := match p with | some a => K a | none => False
def Asr (c x : Prop) : Prop := c ∧ x

def Ld (t : Ty) (h : H) (a : Addr) (K : t.T → Prop) : Prop := ∃ x : t.T, hcell h a = some (t.val x) ∧ K x
def LdL : List Ty → H → Addr → Nat → (List Value → Prop) → Prop
  | [], _, _, _, K => K []
  | t :: ts, h, a, i, K => Ld t h (a.add i) fun x => LdL ts h a (i + 1) fun vs => K (t.val x :: vs)
def rowV (k : IntKind) (xs : List Int) : Value := .agg (xs.map (Value.int k)).toArray
def LdRow (k : IntKind) (n : Nat) (h : H) (a : Addr) (K : List Int → Prop) : Prop :=
  ∃ xs : List Int, xs.length = n ∧ (∀ j, j < n → hcell h (a.add j) = some (.int k (xs.getD j 0))) ∧ K xs
def St (h : H) (a : Addr) (v : Value) (K : H → Prop) : Prop := (∃ u, hcell h a = some u) ∧ hfroz h a = false ∧ K (hset h a v)
def StL : H → Addr → Nat → List Value → (H → Prop) → Prop
  | h, _, _, [], K => K h
  | h, a, i, v :: vs, K => St h (a.add i) v fun h' => StL h' a (i + 1) vs K
/-- Cells set one behind the other. -/
def hsetL : H → Addr → Nat → List Value → H
  | h, _, _, [] => h
  | h, a, i, v :: vs => hsetL (hset h (a.add i) v) a (i + 1) vs
def Wr (h : H) (a : Addr) (n : Nat) : Prop := ∀ j, j < n → (∃ u, hcell h (a.add j) = some u) ∧ hfroz h (a.add j) = false
def StRow (h : H) (a : Addr) (n : Nat) (cs : Array Value) (K : H → Prop) : Prop :=
  cs.size = n ∧ (∀ v ∈ cs.toList, v.oneCell' = true) ∧ Wr h a n ∧ K (hsetL h a 0 cs.toList)
def Reads (h : H) (a : Option Addr) (vs : List Value) : Prop := ∀ j v, vs[j]? = some v → ∃ ad, a = some ad ∧ hcell h (ad.add j) = some v

def zeroC (P : Program) (t : TypeId) : Array Value := match (P.info? t).bind (·.zero) with | some v => v.cells | none => #[]
def newB (h : H) (cs : Array Value) (t : TypeId) : H := h.push (.cells cs t)
/-- A new block. -/
def Nw (h : H) (cs : Array Value) (t : TypeId) (K : Addr → H → Prop) : Prop := K ⟨h.size, 0, none⟩ (newB h cs t)
def LetI (n : Int) (K : Int → Prop) : Prop := K n

/-! How much is asked of the program's table of types -/
structure Tab where
  lk : List (Nat × LK)
  fo : List (Nat × Nat × Nat)
  ix : List (Nat × Option Nat × Nat × Nat × Nat)
  bd : List (Nat × List (Nat × Nat))
  eq : List (Nat × LK)
def find1 {α : Type} : List (Nat × α) → Nat → Option α
  | [], _ => none
  | (j, v) :: r, i => bif Nat.beq j i then some v else find1 r i
theorem find1_mem {α : Type} {l : List (Nat × α)} {i : Nat} {v : α} (h : find1 l i = some v) : (i, v) ∈ l := by
  induction l with
  | nil => simp [find1] at h
  | cons x r ih =>
    obtain ⟨j, u⟩ := x
    simp only [find1] at h
    cases hb : Nat.beq j i with
    | true =>
      rw [hb] at h; simp at h; subst h
      have : j = i := Nat.eq_of_beq_eq_true hb
      subst this; exact List.mem_cons_self
    | false => rw [hb] at h; simp at h; exact List.mem_cons_of_mem _ (ih h)
def fld (tb : Tab) (t f : Nat) : Option Nat := go tb.fo
where go : List (Nat × Nat × Nat) → Option Nat
  | [] => none
  | (a, b, o) :: r => bif (Nat.beq a t && Nat.beq b f) then some o else go r
theorem fld_mem {tb : Tab} {t f o : Nat} (h : fld tb t f = some o) : (t, f, o) ∈ tb.fo := by
  unfold fld at h
  generalize tb.fo = l at h
  induction l with
  | nil => simp [fld.go] at h
  | cons x r ih =>
    obtain ⟨a, b, u⟩ := x
    simp only [fld.go] at h
    cases hb : (Nat.beq a t && Nat.beq b f) with
    | true =>
      rw [hb] at h; simp at h; subst h
      simp only [Bool.and_eq_true] at hb
      have h1 : a = t := Nat.eq_of_beq_eq_true hb.1
      have h2 : b = f := Nat.eq_of_beq_eq_true hb.2
      subst h1; subst h2; exact List.mem_cons_self
    | false => rw [hb] at h; simp at h; exact List.mem_cons_of_mem _ (ih h)

def lkDesc : LK → TypeDesc → Bool
  | .leaf (.i k), .int k' => k == k'
  | .leaf .b, .bool => true
  | .leaf .p, .pointer _ => true
  | .leaf .s, .slice _ => true
  | .leaf .f, .func .. => true
  | .agg _, .struct _ => true
  | .agg _, .array .. => true
  | .row .., .array .. => true
  | _, _ => false
def lkOk (P : Program) (e : Nat × LK) : Bool :=
  (match P.underlying e.1 with | some d => lkDesc e.2 d | none => false) && (match P.info? e.1 with | some i => Nat.beq i.size e.2.size && i.zero.isSome | none => false)
def foOk (P : Program) (e : Nat × Nat × Nat) : Bool :=
  match P.underlying e.1 with
  | some (.struct fs) => (match fs[e.2.1]? with | some fd => Nat.beq fd.offset e.2.2 && (match P.info? fd.type with | some i => !Nat.beq i.size 0 | none => false) | none => false)
  | _ => false
def ixOk (P : Program) (e : Nat × Option Nat × Nat × Nat × Nat) : Bool :=
  (match P.underlying e.1, e.2.1 with
   | some (.slice el), none => Nat.beq el e.2.2.1
   | some (.array n el), some m => Nat.beq n m && Nat.beq el e.2.2.1
   | _, _ => false) && (match P.info? e.2.2.1 with | some i => Nat.beq i.size e.2.2.2.1 && Nat.beq i.bytes e.2.2.2.2 && (match i.zero with | some z => Nat.beq z.cells.size i.size | none => false) && !Nat.beq i.size 0 && !Nat.beq i.bytes 0 | none => false)
def bdOk (P : Program) (e : Nat × List (Nat × Nat)) : Bool :=
  (match P.info? e.1 with | some i => i.zero.isSome | none => false) &&
  match P.underlying e.1 with
  | some (.struct fs) => (fs.toList.map fun f => (f.offset, P.cellsOf f.type)) == e.2 && fs.all fun f => (P.info? f.type).isSome
  | some (.array n el) => (List.range n).map (fun i => (i * P.cellsOf el, P.cellsOf el)) == e.2 && (P.info? el).isSome && decide (0 < n)
  | _ => false
def Tab.ok (P : Program) (tb : Tab) : Bool := tb.lk.all (lkOk P) && tb.fo.all (foOk P) && tb.ix.all (ixOk P) && tb.bd.all (bdOk P)

end Go.Proofs.Ytfijchofplkcoaa
