/-
  The heap alone, and what each operation of the translated program does to it, as plain predicates.
  What one operation of the translated program does, as a predicate over the heap; and that it does so.
  One operation: its predicate over the heap, and that the machine does so.
  Slices, append, copy, make: what they do to the heap.
  Every operation that occurs: its predicate, and that the machine does so.
-/
import Derived.WalkKit
import Derived.KernelRfl
set_option linter.unusedVariables false
set_option linter.unusedSimpArgs false
namespace Go.Proofs.Ytfijchofplkcoaa

abbrev H := Array Obj
def hcell (h : H) (a : Addr) : Option Value :=
  match h[a.block]? with
  | some (.cells c _ _) => if a.spot.isSome then none else c[a.off]?
  | _ => none
def hfroz (h : H) (a : Addr) : Bool :=
  match h[a.block]? with
  | some (.cells _ _ (lo, hi)) => lo ≤ a.off && a.off < hi
  | _ => false
def hset (h : H) (a : Addr) (v : Value) : H :=
  h.modify a.block fun
      | .cells c elem frozen => .cells (if a.spot.isSome then c else c.setIfInBounds a.off v) elem frozen
      | o => o
theorem cell_h (w : World) (a : Addr) : w.cell? a = hcell w.heap a := rfl
theorem froz_h (w : World) (a : Addr) : w.frozen? a = hfroz w.heap a := rfl
theorem set_h (w : World) (a : Addr) (v : Value) : w.setCell a v = { w with heap := hset w.heap a v } := rfl

/-- All but the heap and the count of what was drawn. -/
def Same (w w' : World) : Prop := w'.os = w.os ∧ w'.tape = w.tape ∧ w'.output = w.output
theorem Same.refl (w : World) : Same w w := ⟨rfl, rfl, rfl⟩
theorem Same.trans {w w1 w2 : World} (a : Same w w1) (b : Same w1 w2) : Same w w2 :=
  ⟨b.1.trans a.1, b.2.1.trans a.2.1, b.2.2.trans a.2.2⟩

/-! Values by their types -/
structure Sl where
  a : Option Addr
  len : Nat
  cap : Nat
inductive Ty where
  | i (k : IntKind) | b | p | s | f | a
@[reducible] def Ty.T : Ty → Type
  | .i _ => Int
  | .b => Bool
  | .p => Option Addr
  | .s => Sl
  | .f => Value
  | .a => Addr
def Ty.val : (t : Ty) → t.T → Value
  | .i k, x => .int k x
  | .b, x => .bool x
  | .p, x => .pointer x
  | .s, x => .slice x.a x.len x.cap
  | .f, x => x
  | .a, x => .pointer (some x)
inductive LK where
  | leaf (t : Ty)
  | agg (ts : List Ty)
  | row (k : IntKind) (n : Nat)
def LK.size : LK → Nat
  | .leaf _ => 1
  | .agg ts => ts.length
  | .row _ n => n
def LK.isAgg : LK → Bool
  | .leaf _ => false
  | _ => true

def Br (b : Bool) (x y : Prop) : Prop := match b with | true => x | false => y
theorem Br_true (x y : Prop) : Br true x y = x := rfl
theorem Br_false (x y : Prop) : Br false x y = y := rfl
def NilP (p : Option Addr) (K : Addr → Prop) : Prop := match p with | some a => K a | none => False
def Asr (c x : Prop) : Prop := c ∧ x

def Ld (t : Ty) (h : H) (a : Addr) (K : t.T → Prop) : Prop := ∃ x : t.T, hcell h a = some (t.val x) ∧ K x
def LdL : List Ty → H → Addr → Nat → (List Value → Prop) → Prop
  | [], _, _, _, K => K []
  | t :: ts, h, a, i, K => Ld t h (a.add i) fun x => LdL ts h a (i + 1) fun vs => K (t.val x :: vs)
def rowV (k : IntKind) (xs : List Int) : Value := .agg (xs.map (Value.int k)).toArray
def LdRow (k : IntKind) (n : Nat) (h : H) (a : Addr) (K : List Int → Prop) : Prop :=
  ∃ xs : List Int, xs.length = n ∧ (∀ j, j < n → hcell h (a.add j) = some (.int k (xs.getD j 0))) ∧ K xs
def St (h : H) (a : Addr) (v : Value) (K : H → Prop) : Prop := (∃ u, hcell h a = some u) ∧ hfroz h a = false ∧ K (hset h a v)
def StL : H → Addr → Nat → List Value → (H → Prop) → Prop
  | h, _, _, [], K => K h
  | h, a, i, v :: vs, K => St h (a.add i) v fun h' => StL h' a (i + 1) vs K
/-- Cells set one behind the other. -/
def hsetL : H → Addr → Nat → List Value → H
  | h, _, _, [] => h
  | h, a, i, v :: vs => hsetL (hset h (a.add i) v) a (i + 1) vs
def Wr (h : H) (a : Addr) (n : Nat) : Prop := ∀ j, j < n → (∃ u, hcell h (a.add j) = some u) ∧ hfroz h (a.add j) = false
def StRow (h : H) (a : Addr) (n : Nat) (cs : Array Value) (K : H → Prop) : Prop :=
  cs.size = n ∧ (∀ v ∈ cs.toList, v.oneCell' = true) ∧ Wr h a n ∧ K (hsetL h a 0 cs.toList)
def Reads (h : H) (a : Option Addr) (vs : List Value) : Prop := ∀ j v, vs[j]? = some v → ∃ ad, a = some ad ∧ hcell h (ad.add j) = some v

def zeroC (P : Program) (t : TypeId) : Array Value := match (P.info? t).bind (·.zero) with | some v => v.cells | none => #[]
def newB (h : H) (cs : Array Value) (t : TypeId) : H := h.push (.cells cs t)
/-- A new block. -/
def Nw (h : H) (cs : Array Value) (t : TypeId) (K : Addr → H → Prop) : Prop := K ⟨h.size, 0, none⟩ (newB h cs t)
def LetI (n : Int) (K : Int → Prop) : Prop := K n

/-! How much is asked of the program's table of types -/
structure Tab where
  lk : List (Nat × LK)
  fo : List (Nat × Nat × Nat)
  ix : List (Nat × Option Nat × Nat × Nat × Nat)
  bd : List (Nat × List (Nat × Nat))
  eq : List (Nat × LK)
def find1 {α : Type} : List (Nat × α) → Nat → Option α
  | [], _ => none
  | (j, v) :: r, i => bif Nat.beq j i then some v else find1 r i
theorem find1_mem {α : Type} {l : List (Nat × α)} {i : Nat} {v : α} (h : find1 l i = some v) : (i, v) ∈ l := by
  induction l with
  | nil => simp [find1] at h
  | cons x r ih =>
    obtain ⟨j, u⟩ := x
    simp only [find1] at h
    cases hb : Nat.beq j i with
    | true =>
      rw [hb] at h; simp at h; subst h
      have : j = i := Nat.eq_of_beq_eq_true hb
      subst this; exact List.mem_cons_self
    | false => rw [hb] at h; simp at h; exact List.mem_cons_of_mem _ (ih h)
def fld (tb : Tab) (t f : Nat) : Option Nat := go tb.fo
  where go : List (Nat × Nat × Nat) → Option Nat
  | [] => none
  | (a, b, o) :: r => bif (Nat.beq a t && Nat.beq b f) then some o else go r
theorem fld_mem {tb : Tab} {t f o : Nat} (h : fld tb t f = some o) : (t, f, o) ∈ tb.fo := by
  unfold fld at h
  generalize tb.fo = l at h
  induction l with
  | nil => simp [fld.go] at h
  | cons x r ih =>
    obtain ⟨a, b, u⟩ := x
    simp only [fld.go] at h
    cases hb : (Nat.beq a t && Nat.beq b f) with
    | true =>
      rw [hb] at h; simp at h; subst h
      simp only [Bool.and_eq_true] at hb
      have h1 : a = t := Nat.eq_of_beq_eq_true hb.1
      have h2 : b = f := Nat.eq_of_beq_eq_true hb.2
      subst h1; subst h2; exact List.mem_cons_self
    | false => rw [hb] at h; simp at h; exact List.mem_cons_of_mem _ (ih h)

def lkDesc : LK → TypeDesc → Bool
  | .leaf (.i k), .int k' => k == k'
  | .leaf .b, .bool => true
  | .leaf .p, .pointer _ => true
  | .leaf .s, .slice _ => true
  | .leaf .f, .func .. => true
  | .agg _, .struct _ => true
  | .agg _, .array .. => true
  | .row .., .array .. => true
  | _, _ => false
def lkOk (P : Program) (e : Nat × LK) : Bool :=
  (match P.underlying e.1 with | some d => lkDesc e.2 d | none => false) && (match P.info? e.1 with | some i => Nat.beq i.size e.2.size && i.zero.isSome | none => false)
def foOk (P : Program) (e : Nat × Nat × Nat) : Bool :=
  match P.underlying e.1 with
  | some (.struct fs) => (match fs[e.2.1]? with | some fd => Nat.beq fd.offset e.2.2 && (match P.info? fd.type with | some i => !Nat.beq i.size 0 | none => false) | none => false)
  | _ => false
def ixOk (P : Program) (e : Nat × Option Nat × Nat × Nat × Nat) : Bool :=
  (match P.underlying e.1, e.2.1 with
   | some (.slice el), none => Nat.beq el e.2.2.1
   | some (.array n el), some m => Nat.beq n m && Nat.beq el e.2.2.1
   | _, _ => false) && (match P.info? e.2.2.1 with | some i => Nat.beq i.size e.2.2.2.1 && Nat.beq i.bytes e.2.2.2.2 && (match i.zero with | some z => Nat.beq z.cells.size i.size | none => false) && !Nat.beq i.size 0 && !Nat.beq i.bytes 0 | none => false)
def bdOk (P : Program) (e : Nat × List (Nat × Nat)) : Bool :=
  (match P.info? e.1 with | some i => i.zero.isSome | none => false) &&
  match P.underlying e.1 with
  | some (.struct fs) => (fs.toList.map fun f => (f.offset, P.cellsOf f.type)) == e.2 && fs.all fun f => (P.info? f.type).isSome
  | some (.array n el) => (List.range n).map (fun i => (i * P.cellsOf el, P.cellsOf el)) == e.2 && (P.info? el).isSome && decide (0 < n)
  | _ => false
def Tab.ok (P : Program) (tb : Tab) : Bool := tb.lk.all (lkOk P) && tb.fo.all (foOk P) && tb.ix.all (ixOk P) && tb.bd.all (bdOk P)

structure Ent (P : Program) where
  num : Nat
  sem : List Value → (Value → H → Prop) → H → Prop
  has : ∃ fn, P.funcs[num]? = some fn ∧ (fn.name == "runtime.NumGoroutine") = false ∧ fn.body.isNone = false
  ok : ∀ args K w, sem args K w.heap → Calls P num args.toArray w (fun e w' => ∃ v, e = .returned v ∧ Same w w' ∧ K v w'.heap)

abbrev Sto := List (Nat × Value)
def look (s : Sto) (x : Operand) : Option Value :=
  match x with
  | .tmp t => find1 s t
  | .const v => some v
  | .global g => some (.pointer (some ⟨g, 0, none⟩))
  | .func f => some (.func (.func f) #[] #[])
def ovl (o : Option Value) (f : Value → Prop) : Prop := match o with | some v => f v | none => False
def looks (s : Sto) : List Operand → Option (List Value)
  | [] => some []
  | x :: r => match look s x, looks s r with | some v, some vs => some (v :: vs) | _, _ => none

def bAnd (k : IntKind) (a b : Int) : Int := k.wrap ((BitVec.ofInt k.bits a &&& BitVec.ofInt k.bits b).toNat : Int)
def bOr (k : IntKind) (a b : Int) : Int := k.wrap ((BitVec.ofInt k.bits a ||| BitVec.ofInt k.bits b).toNat : Int)
def bXor (k : IntKind) (a b : Int) : Int := k.wrap ((BitVec.ofInt k.bits a ^^^ BitVec.ofInt k.bits b).toNat : Int)
def bAndNot (k : IntKind) (a b : Int) : Int := k.wrap ((BitVec.ofInt k.bits a &&& ~~~ BitVec.ofInt k.bits b).toNat : Int)
def shL (k : IntKind) (a b : Int) : Int := k.wrap (a * 2 ^ (min b.toNat k.bits))
def shR (k : IntKind) (a b : Int) : Int := a.fdiv (2 ^ (min b.toNat k.bits))

def evInt (op : BinOp) (k k' : IntKind) (a b : Int) (K : Value → Prop) : Prop :=
  match op with
  | .shl => Asr (0 ≤ b) (K (.int k (shL k a b)))
  | .shr => Asr (0 ≤ b) (K (.int k (shR k a b)))
  | op => if k = k' then
    match op with
    | .add => K (.int k (k.wrap (a + b)))
    | .sub => K (.int k (k.wrap (a - b)))
    | .mul => K (.int k (k.wrap (a * b)))
    | .quo => Asr (b ≠ 0) (K (.int k (k.wrap (a.tdiv b))))
    | .rem => Asr (b ≠ 0) (K (.int k (a.tmod b)))
    | .and => K (.int k (bAnd k a b))
    | .or => K (.int k (bOr k a b))
    | .xor => K (.int k (bXor k a b))
    | .andNot => K (.int k (bAndNot k a b))
    | .eql => K (.bool (a == b))
    | .neq => K (.bool (a != b))
    | .lss => K (.bool (decide (a < b)))
    | .leq => K (.bool (decide (a ≤ b)))
    | .gtr => K (.bool (decide (a > b)))
    | .geq => K (.bool (decide (a ≥ b)))
    | _ => False
    else False

theorem evInt_ok {P : Program} {op : BinOp} {k k' : IntKind} {a b : Int} {K : Value → Prop} (t : TypeId) (w : World) (h : evInt op k k' a b K) :
    ∃ v, (binOp op t (.int k a) (.int k' b)).run P w = .ok v w ∧ K v := by
  cases op <;> simp only [evInt] at h
  case shl => exact ⟨_, by simp [binOp, Op.shift, Int.not_lt.2 h.1]; rfl, h.2⟩
  case shr => exact ⟨_, by simp [binOp, Op.shift, Int.not_lt.2 h.1]; rfl, h.2⟩
  all_goals
    split at h
    case isFalse => exact h.elim
    rename_i hk
    subst hk
    first
      | (refine ⟨_, ?_, h⟩; (first | rfl | (simp [binOp, Op.intArith, Op.intBits, Op.intCmp, bAnd, bOr, bXor, bAndNot]; done)))
      | (refine ⟨_, ?_, h.2⟩; simp [binOp, Op.intDiv, h.1]; done)


/-! Equality -/
def i64s : List Value → Bool
  | [] => true
  | .int .i64 _ :: r => i64s r
  | _ :: _ => false
def eqL : List Value → List Value → Bool
  | .int _ a :: r, .int _ b :: q => (a == b) && eqL r q
  | _, _ => true
def nOf : Value → Int
  | .int _ n => n
  | _ => 0
def eqR (xs ys : Array Value) : Bool := xs.toList.map nOf == ys.toList.map nOf
def IsRow (k : IntKind) (n : Nat) (xs : Array Value) : Prop := ∃ l : List Int, l.length = n ∧ xs = (l.map (Value.int k)).toArray

/-- Two values held against each other; 'lk': how their type lies in cells. -/
def evEq (lk : Option LK) (x y : Value) (K : Bool → Prop) : Prop :=
  match lk with
  | some (.leaf .b) => (match x, y with | .bool a, .bool b => K (a == b) | _, _ => False)
  | some (.leaf .p) => (match x, y with | .pointer p, .pointer none => K p.isNone | _, _ => False)
  | some (.leaf .s) => (match x, y with | .slice a _ _, .slice none _ _ => K a.isNone | _, _ => False)
  | some (.leaf .f) => (match x, y with | .func _ _ _, .nilFunc => K false | _, _ => False)
  | some (.row k n) => (match x, y with | .agg as, .agg bs => Asr (IsRow k n as ∧ IsRow k n bs) (K (eqR as bs)) | _, _ => False)
  | some (.agg ts) => (match x, y with | .agg as, .agg bs => (bif Nat.beq as.toList.length ts.length && Nat.beq bs.toList.length ts.length && i64s as.toList && i64s bs.toList then K (eqL as.toList bs.toList) else False) | _, _ => False)
  | none => (match x, y with | .string a, .string b => K (a.toList == b.toList) | _, _ => False)
  | _ => False

def isInt : Value → Bool
  | .int .. => true
  | _ => false
def evBin (lk : Option LK) (op : BinOp) (x y : Value) (K : Value → Prop) : Prop :=
  match x with
  | .int k a => (match y with | .int k' b => evInt op k k' a b K | _ => False)
  | x => match op with
    | .eql => evEq lk x y fun b => K (.bool b)
    | .neq => evEq lk x y fun b => K (.bool (!b))
    | _ => False

/-- What the table of types says of a type whose values are held against each other. -/
def eqOk (P : Program) (e : Nat × LK) : Bool :=
  match e.2 with
  | .agg ts => (match P.underlying e.1 with
    | some (.struct fs) => !P.stoodInHeld e.1 && (fs.toList.map (·.offset) == List.range ts.length) && fs.toList.all (fun f => f.name != "_" && (match P.underlying f.type with | some (.int _) => true | _ => false) && (match P.info? f.type with | some _ => true | none => false)) && !P.eqGuardType P.depth e.1
    | _ => false)
  | .row k n => (match P.underlying e.1 with
    | some (.array m el) => Nat.beq n m && (match P.underlying el with | some (.int _) => true | _ => false) && (match P.info? el with | some i => Nat.beq i.size 1 | none => false) && !P.eqGuardType P.depth e.1
    | _ => false)
  | _ => true

theorem i64s_get {l : List Value} (h : i64s l = true) {i : Nat} {v : Value} (hv : l[i]? = some v) : ∃ n, v = .int .i64 n := by
  induction l generalizing i with
  | nil => simp at hv
  | cons x r ih =>
    unfold i64s at h
    split at h
    · rename_i heq; simp at heq
    · rename_i n r' heq
      simp only [List.cons.injEq] at heq
      obtain ⟨rfl, rfl⟩ := heq
      cases i with
      | zero => simp at hv; exact ⟨_, hv.symm⟩
      | succ i => exact ih h (by simpa using hv)
    · simp at h

theorem run_part_int {P : Program} {e : TypeId} {k : IntKind} {cs : Array Value} {off : Nat} {v : Value} (w : World) (he : P.underlying e = some (.int k)) (hv : cs[off]? = some v) :
    (part e cs off).run P w = .ok v w := by
  simp [part, isAgg, run_underlying he, hv]

theorem run_eqFields {P : Program} (w : World) (d : Nat) (xs ys : Array Value) : ∀ (fs : List Field) (k : Nat) (xl yl : List Value),
    xl.length = fs.length → yl.length = fs.length → i64s xl = true → i64s yl = true →
    (∀ i, i < fs.length → xs[k + i]? = xl[i]?) → (∀ i, i < fs.length → ys[k + i]? = yl[i]?) →
    (∀ i f, fs[i]? = some f → f.offset = k + i) → (∀ f ∈ fs, (f.name != "_") = true ∧ ∃ kk, P.underlying f.type = some (.int kk)) →
    (Op.eqFields (d + 1) xs ys fs).run P w = .ok (eqL xl yl) w
  | [], k, xl, yl, hx, hy, _, _, _, _, _, _ => by
    have h1 := List.eq_nil_of_length_eq_zero hx
    have h2 := List.eq_nil_of_length_eq_zero hy
    subst h1; subst h2
    simp [Op.eqFields, eqL]
  | f :: fs, k, [], yl, hx, hy, _, _, _, _, _, _ => by simp at hx
  | f :: fs, k, _, [], hx, hy, _, _, _, _, _, _ => by simp at hy
  | f :: fs, k, x :: xl, y :: yl, hx, hy, ix, iy, gx, gy, ho, hf => by
    obtain ⟨a, rfl⟩ := i64s_get ix (i := 0) (by rfl)
    obtain ⟨b, rfl⟩ := i64s_get iy (i := 0) (by rfl)
    obtain ⟨hn, kk, hu⟩ := hf f List.mem_cons_self
    have h0 := ho 0 f (by rfl)
    have px := run_part_int (P := P) w hu (cs := xs) (off := f.offset) (v := .int .i64 a) (by rw [h0]; simpa using gx 0 (by simp))
    have py := run_part_int (P := P) w hu (cs := ys) (off := f.offset) (v := .int .i64 b) (by rw [h0]; simpa using gy 0 (by simp))
    have he := run_equalIn_int w d f.type .i64 kk a b hu
    have hn' : f.name ≠ "_" := by simpa using hn
    have ih := run_eqFields w d xs ys fs (k + 1) xl yl (by simpa using hx) (by simpa using hy) (by simpa [i64s] using ix) (by simpa [i64s] using iy)
      (fun i hi => by have := gx (i + 1) (by simp; omega); simpa [Nat.add_assoc, Nat.add_comm 1 i] using this)
      (fun i hi => by have := gy (i + 1) (by simp; omega); simpa [Nat.add_assoc, Nat.add_comm 1 i] using this)
      (fun i g hg => by have := ho (i + 1) g (by simpa using hg); omega)
      (fun g hg => hf g (List.mem_cons_of_mem _ hg))
    simp only [Op.eqFields, if_pos hn', Sem.run_bind, px, py, he, Result.andThen_ok, Sem.run_ite, Sem.run_pure, ih, eqL]
    cases (a == b) <;> simp


theorem run_eqItems {P : Program} (w : World) (d : Nat) (e : TypeId) (kk k : IntKind) (hu : P.underlying e = some (.int kk)) (xs ys : List Int) (o : Nat) (hl : xs.length = ys.length) :
    ∀ (m i : Nat), i + m = xs.length → (Op.eqItems (d + 1) e 1 (xs.map (Value.int k)).toArray (ys.map (Value.int k)).toArray (List.range' i m)).run P w = .ok (xs.drop i == ys.drop i) w
  | 0, i, h => by
    have h1 : xs.drop i = [] := List.drop_eq_nil_of_le (by omega)
    have h2 : ys.drop i = [] := List.drop_eq_nil_of_le (by omega)
    simp [Op.eqItems, h1, h2]
  | m + 1, i, h => by
    have hx : i < xs.length := by omega
    have hy : i < ys.length := by omega
    have px := run_part_int (P := P) w hu (cs := (xs.map (Value.int k)).toArray) (off := i * 1) (v := .int k xs[i]) (by simp [hx])
    have py := run_part_int (P := P) w hu (cs := (ys.map (Value.int k)).toArray) (off := i * 1) (v := .int k ys[i]) (by simp [hy])
    have he := run_equalIn_int w d e k kk xs[i] ys[i] hu
    have ih := run_eqItems w d e kk k hu xs ys o hl m (i + 1) (by omega)
    rw [List.drop_eq_getElem_cons hx, List.drop_eq_getElem_cons hy, List.cons_beq_cons]
    simp only [List.range'_succ, Op.eqItems, Sem.run_bind, px, py, he, Result.andThen_ok, Sem.run_ite, Sem.run_pure, ih]
    cases hb : (xs[i] == ys[i]) <;> simp only [Bool.not_true, Bool.not_false, Bool.false_eq_true, if_true, if_false, Bool.true_and, Bool.false_and]

theorem eqR_rows (k : IntKind) (xs ys : List Int) : eqR (xs.map (Value.int k)).toArray (ys.map (Value.int k)).toArray = (xs == ys) := by
  have : ∀ l : List Int, (l.map (Value.int k)).map nOf = l := fun l => by simp [nOf, Function.comp_def]
  simp only [eqR, this]

/-- The table's word on one type, as facts. -/
theorem lk_desc {P : Program} {t : Nat} {lk : LK} (h : lkOk P (t, lk) = true) : ∃ d i, P.underlying t = some d ∧ lkDesc lk d = true ∧ P.info? t = some i ∧ i.size = lk.size ∧ i.zero.isSome = true := by
  unfold lkOk at h
  simp only [Bool.and_eq_true] at h
  obtain ⟨h1, h2⟩ := h
  split at h1
  case h_2 => simp at h1
  rename_i d hd
  split at h2
  case h_2 => simp at h2
  rename_i i hi
  simp only [Bool.and_eq_true] at h2
  exact ⟨d, i, hd, h1, hi, Nat.eq_of_beq_eq_true h2.1, h2.2⟩

theorem run_eql_any {P : Program} (w : World) (t : TypeId) (x y : Value) (b : Bool) (hx : (∃ q, x = .bool q) ∨ (∃ q, x = .pointer q ∧ y = .pointer none) ∨ (∃ p q r, x = .slice p q r) ∨ (∃ p q r, x = .func p q r) ∨ (∃ p, x = .agg p)) (h : ∀ d, (Op.equalIn (d + 2) t x y).run P w = .ok b w) :
    (binOp .eql t x y).run P w = .ok (.bool b) w ∧ (binOp .neq t x y).run P w = .ok (.bool (!b)) w := by
  have h' : (Op.equal t x y).run P w = .ok b w := by simpa [Op.equal, Op.maxDepth] using h 9998
  rcases hx with ⟨q, rfl⟩ | ⟨q, rfl, rfl⟩ | ⟨p, q, r, rfl⟩ | ⟨p, q, r, rfl⟩ | ⟨p, rfl⟩ <;>
    (simp only [binOp, Sem.run_bind, h', Result.andThen_ok, Sem.run_pure, and_self])

theorem run_eq_ptr {P : Program} (w : World) (d : Nat) (t e : TypeId) (p : Option Addr) (h : P.underlying t = some (.pointer e)) : (Op.equalIn (d + 1) t (.pointer p) (.pointer none)).run P w = .ok p.isNone w := by
  cases p <;> simp only [Op.equalIn, Sem.run_bind, run_underlying h, Result.andThen_ok] <;> rfl
theorem run_eq_sl {P : Program} (w : World) (d : Nat) (t e : TypeId) (a : Option Addr) (l1 c1 l2 c2 : Nat) (h : P.underlying t = some (.slice e)) : (Op.equalIn (d + 1) t (.slice a l1 c1) (.slice none l2 c2)).run P w = .ok a.isNone w := by
  cases a <;> simp only [Op.equalIn, Sem.run_bind, run_underlying h, Result.andThen_ok] <;> rfl
theorem run_eq_fn {P : Program} (w : World) (d : Nat) (t : TypeId) (x y : Array TypeId) (v : Bool) (f1 : Fn) (f2 f3 : Array Value) (h : P.underlying t = some (.func x y v)) : (Op.equalIn (d + 1) t (.func f1 f2 f3) .nilFunc).run P w = .ok false w := by
  simp only [Op.equalIn, Sem.run_bind, run_underlying h, Result.andThen_ok]; rfl
set_option maxHeartbeats 1000000 in
theorem evEq_ok {P : Program} {lk : Option LK} {t : Nat} {x y : Value} {K : Bool → Prop} (w : World) (hlk : ∀ k, lk = some k → lkOk P (t, k) = true ∧ eqOk P (t, k) = true) (h : evEq lk x y K) :
    ∃ b, (binOp .eql t x y).run P w = .ok (.bool b) w ∧ (binOp .neq t x y).run P w = .ok (.bool (!b)) w ∧ K b ∧
      (∀ op X Y, (eqGuard op t X Y x y).run P w = .ok () w) := by
  unfold evEq at h
  split at h
  · -- bools
    split at h
    case h_2 => exact h.elim
    rename_i a b
    obtain ⟨d, i, hd, hk, _⟩ := lk_desc (hlk _ rfl).1
    cases d <;> simp [lkDesc] at hk
    have e := run_eql_any (P := P) w t (.bool a) (.bool b) (a == b) (.inl ⟨_, rfl⟩) (fun dd => run_equalIn_bool w (dd + 1) t _ _ hd)
    exact ⟨_, e.1, e.2, h, fun op X Y => by cases op <;> simp [eqGuard]⟩
  · split at h
    case h_2 => exact h.elim
    rename_i p
    obtain ⟨d, i, hd, hk, _⟩ := lk_desc (hlk _ rfl).1
    cases d <;> simp [lkDesc] at hk
    have e := run_eql_any (P := P) w t (.pointer p) (.pointer none) p.isNone (.inr (.inl ⟨_, rfl, rfl⟩)) (fun dd => run_eq_ptr w (dd + 1) t _ p hd)
    exact ⟨_, e.1, e.2, h, fun op X Y => by cases op <;> simp [eqGuard]⟩
  · split at h
    case h_2 => exact h.elim
    rename_i a l1 c1 l2 c2
    obtain ⟨d, i, hd, hk, _⟩ := lk_desc (hlk _ rfl).1
    cases d <;> simp [lkDesc] at hk
    have e := run_eql_any (P := P) w t (.slice a l1 c1) (.slice none l2 c2) a.isNone (.inr (.inr (.inl ⟨_, _, _, rfl⟩))) (fun dd => run_eq_sl w (dd + 1) t _ a l1 c1 l2 c2 hd)
    exact ⟨_, e.1, e.2, h, fun op X Y => by cases op <;> simp [eqGuard]⟩
  · split at h
    case h_2 => exact h.elim
    rename_i f1 f2 f3
    obtain ⟨d, i, hd, hk, _⟩ := lk_desc (hlk _ rfl).1
    cases d <;> simp [lkDesc] at hk
    have e := run_eql_any (P := P) w t (.func f1 f2 f3) .nilFunc false (.inr (.inr (.inr (.inl ⟨_, _, _, rfl⟩)))) (fun dd => run_eq_fn w (dd + 1) t _ _ _ f1 f2 f3 hd)
    exact ⟨_, e.1, e.2, h, fun op X Y => by cases op <;> simp [eqGuard]⟩
  · -- rows
    split at h
    case h_2 => exact h.elim
    rename_i k n _ _ as bs
    obtain ⟨⟨⟨xs, hx, rfl⟩, ⟨ys, hy, rfl⟩⟩, hK⟩ := h
    have hq := (hlk _ rfl).2
    unfold eqOk at hq
    simp only at hq
    split at hq
    case h_2 => simp at hq
    rename_i m el hd
    simp only [Bool.and_eq_true, Bool.not_eq_true'] at hq
    obtain ⟨⟨⟨hm, hu⟩, hsz⟩, hg⟩ := hq
    have hm' : n = m := Nat.eq_of_beq_eq_true hm
    subst hm'
    split at hu
    case h_2 => simp at hu
    rename_i kk hu'
    split at hsz
    case h_2 => simp at hsz
    rename_i i hi
    have hsz' : i.size = 1 := Nat.eq_of_beq_eq_true hsz
    have hc : P.cellsOf el = 1 := by simp [Program.cellsOf, hi, hsz']
    have e := run_eql_any (P := P) w t (.agg (xs.map (Value.int k)).toArray) (.agg (ys.map (Value.int k)).toArray) (xs == ys) (.inr (.inr (.inr (.inr ⟨_, rfl⟩)))) (fun dd => by
      rw [run_equalIn_array w (dd + 1) _ _ hd hi, hc, List.range_eq_range', run_eqItems w dd el kk k hu' xs ys 0 (by omega) n 0 (by omega)]
      simp)
    rw [eqR_rows] at hK
    exact ⟨_, e.1, e.2, hK, fun op X Y => run_eqGuard_agg w op t X Y _ _ hg⟩
  · -- structs
    split at h
    case h_2 => exact h.elim
    rename_i ts _ _ as bs
    cases hc : (Nat.beq as.toList.length ts.length && Nat.beq bs.toList.length ts.length && i64s as.toList && i64s bs.toList) with
    | false => rw [hc] at h; exact h.elim
    | true =>
    rw [hc] at h
    simp only [Bool.and_eq_true] at hc
    obtain ⟨⟨⟨ha, hb⟩, hia⟩, hib⟩ := hc
    have ha' := Nat.eq_of_beq_eq_true ha
    have hb' := Nat.eq_of_beq_eq_true hb
    have hq := (hlk _ rfl).2
    unfold eqOk at hq
    simp only at hq
    split at hq
    case h_2 => simp at hq
    rename_i fs hd
    simp only [Bool.and_eq_true, Bool.not_eq_true', List.all_eq_true] at hq
    obtain ⟨⟨⟨hst, hof⟩, hall⟩, hg⟩ := hq
    have hof' : fs.toList.map (·.offset) = List.range ts.length := by simpa using hof
    have hlen : fs.toList.length = ts.length := by have := congrArg List.length hof'; simpa using this
    have hfo : P.fieldsOf t = fs := by simp [Program.fieldsOf, hd]
    have e := run_eql_any (P := P) w t (.agg as) (.agg bs) (eqL as.toList bs.toList) (.inr (.inr (.inr (.inr ⟨_, rfl⟩)))) (fun dd => by
      rw [run_equalIn_struct w (dd + 1) t as bs (by rw [hfo]; exact hd) hst, hfo]
      refine run_eqFields w dd as bs fs.toList 0 as.toList bs.toList (by omega) (by omega) hia hib (fun i _ => by simp) (fun i _ => by simp) (fun i f hf => ?_) (fun f hf => ?_)
      · have h1 : (fs.toList.map (·.offset))[i]? = some f.offset := by rw [List.getElem?_map, hf]; rfl
        rw [hof', List.getElem?_range] at h1
        · simp at h1; omega
        · rw [← hlen]; exact (List.getElem?_eq_some_iff.1 hf).1
      · have h1 := hall f hf
        obtain ⟨⟨h1, h2⟩, h3⟩ := h1
        refine ⟨h1, ?_⟩
        split at h2
        · rename_i kk hk; exact ⟨kk, hk⟩
        · simp at h2)
    exact ⟨_, e.1, e.2, h, fun op X Y => run_eqGuard_agg w op t X Y _ _ hg⟩
  · split at h
    case h_2 => exact h.elim
    exact ⟨_, by simp [binOp, Op.stringOp], by simp [binOp, Op.stringOp], h, fun op X Y => by cases op <;> simp [eqGuard]⟩
  · exact h.elim

theorem evBin_ok {P : Program} {lk : Option LK} {op : BinOp} {t : Nat} {x y : Value} {K : Value → Prop} (w : World) (hlk : ∀ k, lk = some k → lkOk P (t, k) = true ∧ eqOk P (t, k) = true) (h : evBin lk op x y K) :
    ∃ v, (∀ X Y, (do eqGuard op t X Y x y; binOp op t x y : Sem Value).run P w = .ok v w) ∧ K v := by
  unfold evBin at h
  split at h
  · split at h
    case h_2 => exact h.elim
    obtain ⟨v, hv, hK⟩ := evInt_ok (P := P) t w h
    refine ⟨v, fun X Y => ?_, hK⟩
    have hg : ∀ k a k' b, (eqGuard op t X Y (.int k a) (.int k' b)).run P w = .ok () w := fun k a k' b => by cases op <;> simp [eqGuard]
    rw [Sem.run_bind, hg, Result.andThen_ok, hv]
  · split at h
    · obtain ⟨b, h1, _, hK, hg⟩ := evEq_ok w hlk h
      exact ⟨_, fun X Y => by rw [Sem.run_bind, hg, Result.andThen_ok, h1], hK⟩
    · obtain ⟨b, _, h1, hK, hg⟩ := evEq_ok w hlk h
      exact ⟨_, fun X Y => by rw [Sem.run_bind, hg, Result.andThen_ok, h1], hK⟩
    · exact h.elim

/-! Loads and stores -/
def aggD (d : TypeDesc) : Bool := match d with | .struct _ | .array _ _ => true | _ => false
def evLd (lk : Option LK) (h : H) (a : Addr) (K : Value → Prop) : Prop :=
  match lk with
  | some (.leaf t) => Ld t h (a.add 0) fun x => K (t.val x)
  | some (.agg ts) => LdL ts h a 0 fun vs => K (.agg vs.toArray)
  | some (.row k n) => LdRow k n h a fun xs => K (rowV k xs)
  | none => False
def evSt (lk : Option LK) (h : H) (a : Addr) (v : Value) (K : H → Prop) : Prop :=
  match lk with
  | some (.row _ n) => (match v with | .agg cs => StRow h a n cs K | _ => False)
  | some lk => (bif Nat.beq v.cells.toList.length lk.size && v.cells.toList.all Value.oneCell' then StL h a 0 v.cells.toList K else False)
  | none => False

theorem add0 (a : Addr) : a.add 0 = a := by simp [Addr.add]

theorem run_isAgg_plain' {P : Program} {t : TypeId} {d : TypeDesc} (h : P.underlying t = some d) (hd : aggD d = false) (w : World) : (isAgg t).run P w = .ok false w := by
  cases d <;> simp_all [isAgg, run_underlying h, aggD]
theorem run_ldv_plain {P : Program} (w : World) {t : Nat} {d : TypeDesc} (hd : P.underlying t = some d) (hn : aggD d = false) {a : Addr} {v : Value} (hc : hcell w.heap a = some v) :
    (loadVar t a).run P w = .ok v w := by
  have hc' : w.cell? a = some v := hc
  have : (isAgg t).run P w = .ok false w := run_isAgg_plain' hd hn w
  simp [loadVar, this, hc']

theorem lkDesc_plain {ty : Ty} {d : TypeDesc} (h : lkDesc (.leaf ty) d = true) : aggD d = false := by
  cases ty <;> cases d <;> first | rfl | exact Bool.noConfusion (show false = true from h)
theorem lkDesc_agg {lk : LK} {d : TypeDesc} (ha : lk.isAgg = true) (h : lkDesc lk d = true) : aggD d = true := by
  cases lk <;> cases d <;> first | rfl | exact Bool.noConfusion (show false = true from h) | exact Bool.noConfusion (show false = true from ha)

theorem run_isAgg_agg {P : Program} {t : TypeId} {d : TypeDesc} (h : P.underlying t = some d) (hd : aggD d = true) (w : World) : (isAgg t).run P w = .ok true w := by
  cases d <;> simp_all [isAgg, run_underlying h, aggD]

theorem LdL_reads : ∀ (ts : List Ty) (h : H) (a : Addr) (i : Nat) (K : List Value → Prop), LdL ts h a i K → ∃ vs : List Value, vs.length = ts.length ∧ (∀ j v, vs[j]? = some v → hcell h (a.add (i + j)) = some v) ∧ K vs
  | [], h, a, i, K, hk => ⟨[], rfl, by simp, hk⟩
  | t :: ts, h, a, i, K, ⟨x, hx, hk⟩ => by
    obtain ⟨vs, hl, hr, hK⟩ := LdL_reads ts h a (i + 1) _ hk
    refine ⟨t.val x :: vs, by simp [hl], fun j v hv => ?_, hK⟩
    cases j with
    | zero => simp at hv; subst hv; exact hx
    | succ j => have := hr j v (by simpa using hv); rwa [show i + 1 + j = i + (j + 1) by omega] at this

theorem evLd_ok {P : Program} {lk : Option LK} {t : Nat} {a : Addr} {K : Value → Prop} (w : World) (hlk : ∀ k, lk = some k → lkOk P (t, k) = true) (h : evLd lk w.heap a K) :
    ∃ v, (loadVar t a).run P w = .ok v w ∧ K v := by
  unfold evLd at h
  split at h
  · rename_i ty
    obtain ⟨d, i, hd, hk, _⟩ := lk_desc (hlk _ rfl)
    obtain ⟨x, hx, hK⟩ := h
    rw [add0] at hx
    exact ⟨_, run_ldv_plain w hd (lkDesc_plain hk) hx, hK⟩
  · rename_i ts
    obtain ⟨d, i, hd, hk, hi, hs, _⟩ := lk_desc (hlk _ rfl)
    obtain ⟨vs, hl, hr, hK⟩ := LdL_reads ts w.heap a 0 _ h
    refine ⟨_, ?_, hK⟩
    have h1 := run_isAgg_agg hd (lkDesc_agg rfl hk) w
    have h2 := run_loadCells_list (P := P) w a vs (fun j v hv => by have := hr j v hv; rw [Nat.zero_add] at this; exact this)
    have h3 : (sizeOf t).run P w = .ok vs.length w := by rw [run_sizeOf w hi]; simp [Program.cellsOf, hi, hs, LK.size, hl]
    simp [loadVar, h1, h2, h3]
  · rename_i k n
    obtain ⟨d, i, hd, hk, hi, hs, _⟩ := lk_desc (hlk _ rfl)
    obtain ⟨xs, hl, hr, hK⟩ := h
    refine ⟨_, ?_, hK⟩
    have h1 := run_isAgg_agg hd (lkDesc_agg rfl hk) w
    have h2 := run_loadCells_list (P := P) w a (xs.map (Value.int k)) (fun j v hv => by
      rw [List.getElem?_map] at hv
      cases hx : xs[j]? with
      | none => rw [hx] at hv; simp at hv
      | some x =>
        rw [hx] at hv; simp at hv; subst hv
        have hj : j < xs.length := (List.getElem?_eq_some_iff.1 hx).1
        have := hr j (by omega)
        rw [List.getD_eq_getElem?_getD, hx] at this
        exact this)
    have h3 : (sizeOf t).run P w = .ok (xs.map (Value.int k)).length w := by rw [run_sizeOf w hi]; simp [Program.cellsOf, hi, hs, LK.size, hl]
    simp only [loadVar, Sem.run_bind, h1, h2, h3, Result.andThen_ok, if_true, Sem.run_pure, rowV, Sem.run_map]
  · exact h.elim

theorem run_storeL {P : Program} : ∀ (vs : List Value) (a : Addr) (i : Nat) (w : World) (K : H → Prop), (∀ v ∈ vs, v.oneCell' = true) → StL w.heap a i vs K →
    ∃ w', (storeCells a vs i).run P w = .ok () w' ∧ Same w w' ∧ K w'.heap
  | [], a, i, w, K, _, hk => ⟨w, rfl, Same.refl _, hk⟩
  | v :: vs, a, i, w, K, h1, ⟨⟨u, hu⟩, hf, hk⟩ => by
    have hst : (store (a.add i) v).run P w = .ok () (w.setCell (a.add i) v) := by
      have hu' : w.cell? (a.add i) = some u := hu
      have hf' : w.frozen? (a.add i) = false := hf
      rw [run_store P w _ v _ (h1 v List.mem_cons_self)]
      simp [hu', hf']
    obtain ⟨w', h2, h3, h4⟩ := run_storeL (P := P) vs a (i + 1) (w.setCell (a.add i) v) K (fun x hx => h1 x (List.mem_cons_of_mem _ hx)) hk
    refine ⟨w', ?_, h3, h4⟩
    simp only [storeCells, Sem.run_bind, hst, Result.andThen_ok, h2]

theorem hcell_same (h : H) (a : Addr) (v u : Value) (hu : hcell h a = some u) : hcell (hset h a v) a = some v :=
  World.cell?_setCell_same { (default : World) with heap := h } a v hu
theorem hcell_other (h : H) (a b : Addr) (v : Value) (hn : a ≠ b) : hcell (hset h a v) b = hcell h b :=
  World.cell?_setCell_other { (default : World) with heap := h } a b v hn
theorem hcell_hset (h : H) (a b : Addr) (v : Value) : (∃ u, hcell h b = some u) → ∃ u, hcell (hset h a v) b = some u := by
  rintro ⟨u, hu⟩
  by_cases e : a = b
  · subst e; exact ⟨v, hcell_same h a v u hu⟩
  · exact ⟨u, by rw [hcell_other h a b v e]; exact hu⟩
theorem hfroz_hset (h : H) (a b : Addr) (v : Value) : hfroz (hset h a v) b = hfroz h b :=
  World.frozen?_setCell { (default : World) with heap := h } a b v

theorem Wr_StL : ∀ (vs : List Value) (h : H) (a : Addr) (i : Nat) (K : H → Prop), (∀ j, j < vs.length → (∃ u, hcell h (a.add (i + j)) = some u) ∧ hfroz h (a.add (i + j)) = false) → K (hsetL h a i vs) → StL h a i vs K
  | [], h, a, i, K, _, hk => hk
  | v :: vs, h, a, i, K, hw, hk => by
    have h0 := hw 0 (by simp)
    refine ⟨h0.1, h0.2, Wr_StL vs _ a (i + 1) K (fun j hj => ?_) hk⟩
    have := hw (j + 1) (by simp; omega)
    rw [show i + (j + 1) = i + 1 + j by omega] at this
    exact ⟨hcell_hset _ _ _ _ this.1, by rw [hfroz_hset]; exact this.2⟩

theorem evSt_ok {P : Program} {lk : Option LK} {t : Nat} {a : Addr} {v : Value} {K : H → Prop} (w : World) (hlk : ∀ k, lk = some k → lkOk P (t, k) = true) (h : evSt lk w.heap a v K) :
    ∃ w', (storeVar t a v).run P w = .ok () w' ∧ Same w w' ∧ K w'.heap := by
  unfold evSt at h
  split at h
  · split at h
    case h_2 => exact h.elim
    rename_i k n _ cs
    obtain ⟨d, i, hd, hk, hi, hs, _⟩ := lk_desc (hlk _ rfl)
    obtain ⟨hn, h1, hw, hK⟩ := h
    obtain ⟨w', h2, h3, h4⟩ := run_storeL (P := P) cs.toList a 0 w K h1 (Wr_StL cs.toList w.heap a 0 K (fun j hj => by rw [Nat.zero_add]; exact hw j (by simpa [hn] using hj)) hK)
    refine ⟨w', ?_, h3, h4⟩
    have h5 : (sizeOf t).run P w = .ok cs.size w := by rw [run_sizeOf w hi]; simp [Program.cellsOf, hi, hs, LK.size, hn]
    simp [storeVar, Value.cells, h5, h2]
  · rename_i lk _
    cases hc : (Nat.beq v.cells.toList.length lk.size && v.cells.toList.all Value.oneCell') with
    | false => rw [hc] at h; exact h.elim
    | true =>
      rw [hc] at h
      simp only [Bool.and_eq_true, List.all_eq_true] at hc
      have hs' := Nat.eq_of_beq_eq_true hc.1
      obtain ⟨d, i, hd, hk, hi, hs, _⟩ := lk_desc (hlk _ rfl)
      obtain ⟨w', h2, h3, h4⟩ := run_storeL (P := P) v.cells.toList a 0 w K hc.2 h
      refine ⟨w', ?_, h3, h4⟩
      have h5 : (sizeOf t).run P w = .ok v.cells.size w := by rw [run_sizeOf w hi]; simp [Program.cellsOf, hi, hs, ← hs']
      simp [storeVar, h5, h2]
  · exact h.elim

/-- What is known of a slice's or an array's type: the array's length; the element's type, its cells, its bytes. -/
structure Ix where
  n : Option Nat
  el : Nat
  size : Nat
  bytes : Nat
def ixOf (tb : Tab) (t : Nat) : Option Ix := match find1 tb.ix t with | some (n, el, sz, by_) => some ⟨n, el, sz, by_⟩ | none => none

def IdxS (base : Option Addr) (len : Nat) (i : Int) (K : Addr → Prop) : Prop := match base with | some a => (0 ≤ i ∧ i < len) ∧ K a | none => False
def IdxA (n : Nat) (i : Int) (K : Prop) : Prop := (0 ≤ i ∧ i < n) ∧ K
def evIdx (ix : Option Ix) (x i : Value) (K : Value → Prop) : Prop :=
  match ix with
  | some ix => (match i with
    | .int _ i => (match ix.n with
      | none => (match x with | .slice base len _ => IdxS base len i fun a => K (.pointer (some (a.add (i.toNat * ix.size)))) | _ => False)
      | some n => (match x with | .pointer (some a) => IdxA n i (K (.pointer (some (a.add (i.toNat * ix.size))))) | _ => False))
    | _ => False)
  | none => False

def ptrsOf : List Value → Option (List (Option Addr))
  | [] => some []
  | .pointer p :: r => (match ptrsOf r with | some l => some (p :: l) | none => none)
  | _ :: _ => none
def intsOf (k : IntKind) : List Value → Option (List Int)
  | [] => some []
  | .int k' n :: r => (match intsOf k r with | some l => if k = k' then some (n :: l) else none | none => none)
  | _ :: _ => none
/-- An element of an array's value. -/
def evIxV (el : Option LK) (ix : Option Ix) (x i : Value) (K : Value → Prop) : Prop :=
  match ix, i, x with
  | some ⟨some n, _, 1, _⟩, .int _ i, .agg cs => (match el with
    | some (.leaf .p) => (match ptrsOf cs.toList with | some ps => (bif Nat.beq ps.length n then IdxA n i (K (.pointer (ps.getD i.toNat none))) else False) | none => False)
    | some (.leaf (.i k)) => (match intsOf k cs.toList with | some ps => (bif Nat.beq ps.length n then IdxA n i (K (.int k (ps.getD i.toNat 0))) else False) | none => False)
    | _ => False)
  | _, _, _ => False

/-- A slice's part; the array's own address is kept where nothing is behind. -/
def subA (a : Option Addr) (l m size : Nat) : Option Addr := if m = l then a else a.map (·.add (l * size))
def SlP (s : Sl) (lo hi : Int) (size : Nat) (K : Sl → Prop) : Prop :=
  (0 ≤ lo ∧ lo ≤ hi ∧ hi ≤ s.cap) ∧ K ⟨subA s.a lo.toNat s.cap size, hi.toNat - lo.toNat, s.cap - lo.toNat⟩
def bound (v : Option Value) (d : Int) : Option Int := match v with | none => some d | some (.int _ n) => some n | some _ => none
def evSlice (ix : Option Ix) (x : Value) (lo hi : Option Value) (K : Value → Prop) : Prop :=
  match ix with
  | some ix => (match ix.n with
    | none => (match x with
      | .slice a len cap => (match bound lo 0, bound hi len with | some l, some h => SlP ⟨a, len, cap⟩ l h ix.size fun s => K (.slice s.a s.len s.cap) | _, _ => False)
      | _ => False)
    | some n => (match x with
      | .pointer (some a) => (match bound lo 0, bound hi n with | some l, some h => SlP ⟨some a, n, n⟩ l h ix.size fun s => K (.slice s.a s.len s.cap) | _, _ => False)
      | _ => False))
  | none => False

/-- Cells of a zero value, n times over. -/
def zerosC (P : Program) (el n : Nat) : Array Value := (Array.range (n * (zeroC P el).size)).map fun i => (zeroC P el)[i % (zeroC P el).size]!
def Mk (P : Program) (ix : Ix) (h : H) (n c : Int) (K : Sl → H → Prop) : Prop :=
  (0 ≤ n ∧ n ≤ c ∧ ix.bytes * c ≤ 140737488355328) ∧ Nw h (zerosC P ix.el c.toNat) ix.el fun a h' => K ⟨some a, n.toNat, c.toNat⟩ h'
def evMk (P : Program) (ix : Option Ix) (h : H) (n c : Value) (K : Value → H → Prop) : Prop :=
  match ix with
  | some ix => (match ix.n with
    | none => (match n with | .int _ n => (match c with | .int _ c => Mk P ix h n c fun s h' => K (.slice s.a s.len s.cap) h' | _ => False) | _ => False)
    | some _ => False)
  | none => False

/-- Reading a slice's first cells. -/
def RdSl (h : H) (a : Option Addr) (n : Nat) (vs : List Value) : Prop := vs.length = n ∧ Reads h a vs ∧ (∀ v ∈ vs, v.oneCell' = true)
def App (P : Program) (ix : Ix) (h : H) (s x : Sl) (K : Sl → H → Prop) : Prop :=
  ∃ news : List Value, RdSl h x.a (x.len * ix.size) news ∧
    ((s.len + x.len ≤ s.cap ∧ (∀ a, s.a = some a → (∀ j, j < news.length → (∃ u, hcell h ((a.add (s.len * ix.size)).add j) = some u) ∧ hfroz h ((a.add (s.len * ix.size)).add j) = false)) ∧
        K ⟨s.a, s.len + x.len, s.cap⟩ (match s.a with | some a => hsetL h (a.add (s.len * ix.size)) 0 news | none => h)) ∨
     (s.cap < s.len + x.len ∧ (s.len + x.len) * ix.bytes ≤ 140737488355328 ∧ ∃ olds : List Value, RdSl h s.a (s.len * ix.size) olds ∧
        ∀ cap, s.len + x.len ≤ cap → K ⟨some ⟨h.size, 0, none⟩, s.len + x.len, cap⟩ (newB h (olds.toArray ++ news.toArray ++ zerosC P ix.el (cap - (s.len + x.len))) ix.el)))
def Cpy (ix : Ix) (h : H) (d s : Sl) (K : Int → H → Prop) : Prop :=
  ∃ cs : List Value, RdSl h s.a (min s.len d.len * ix.size) cs ∧ (∀ a, d.a = some a → Wr h a cs.length) ∧
    K (min s.len d.len : Nat) (match d.a with | some a => hsetL h a 0 cs | none => h)

/-- The bytes of a slice as a string. -/
def LdStr (h : H) (s : Sl) (K : ByteArray → Prop) : Prop :=
  ∃ xs : List Int, xs.length = s.len ∧ Reads h s.a (xs.map (Value.int .u8)) ∧ K (strOfNums xs)

theorem ix_facts {P : Program} {tb : Tab} (hok : tb.ok P = true) {t : Nat} {ix : Ix} (h : ixOf tb t = some ix) :
    (match ix.n with | none => P.underlying t = some (.slice ix.el) | some n => P.underlying t = some (.array n ix.el)) ∧
    ∃ i, P.info? ix.el = some i ∧ i.size = ix.size ∧ i.bytes = ix.bytes ∧ (∃ z, i.zero = some z ∧ zeroC P ix.el = z.cells ∧ z.cells.size = ix.size) ∧ ix.size ≠ 0 ∧ ix.bytes ≠ 0 := by
  unfold ixOf at h
  split at h
  case h_2 => simp at h
  rename_i n el sz by_ hf
  simp only [Option.some.injEq] at h
  subst h
  have hm := find1_mem hf
  unfold Tab.ok at hok
  simp only [Bool.and_eq_true, List.all_eq_true] at hok
  have h1 := hok.1.2 _ hm
  unfold ixOk at h1
  simp only [Bool.and_eq_true] at h1
  obtain ⟨h1, h2⟩ := h1
  split at h2
  case h_2 => simp at h2
  rename_i i hi
  simp only [Bool.and_eq_true, Bool.not_eq_true'] at h2
  obtain ⟨⟨⟨⟨q1, q2⟩, q3⟩, q4⟩, q5⟩ := h2
  refine ⟨?_, i, hi, Nat.eq_of_beq_eq_true q1, Nat.eq_of_beq_eq_true q2, ?_, ?_, ?_⟩
  · cases n with
    | none =>
      cases hd : P.underlying t with
      | none => rw [hd] at h1; simp at h1
      | some d =>
        rw [hd] at h1
        cases d <;> first | (simp at h1; done) | (have he := Nat.eq_of_beq_eq_true h1; simp only at he ⊢; rw [he])
    | some n =>
      cases hd : P.underlying t with
      | none => rw [hd] at h1; simp at h1
      | some d =>
        rw [hd] at h1
        cases d <;> first | (simp at h1; done) | (simp only [Bool.and_eq_true] at h1; have he := Nat.eq_of_beq_eq_true h1.2; have hm := Nat.eq_of_beq_eq_true h1.1; simp only at he hm ⊢; rw [he, hm])
  · split at q3
    case h_2 => simp at q3
    rename_i z hz
    exact ⟨z, hz, by simp [zeroC, hi, hz], (Nat.eq_of_beq_eq_true q3).trans (Nat.eq_of_beq_eq_true q1)⟩
  · intro e
    have := Nat.eq_of_beq_eq_true q1
    rw [this, show sz = 0 from e] at q4; simp at q4
  · intro e
    have := Nat.eq_of_beq_eq_true q2
    rw [this, show by_ = 0 from e] at q5; simp at q5

theorem evIdx_ok {P : Program} {tb : Tab} (hok : tb.ok P = true) {t : Nat} {x i : Value} {K : Value → Prop} (w : World) (h : evIdx (ixOf tb t) x i K) :
    ∃ v, (Instr.indexAt t x i).run P w = .ok v w ∧ K v := by
  unfold evIdx at h
  split at h
  case h_2 => exact h.elim
  rename_i ix hix
  obtain ⟨hd, inf, hi, hs, hb, _⟩ := ix_facts hok hix
  have hsz : (sizeOf ix.el).run P w = .ok ix.size w := by rw [run_sizeOf w hi]; simp [Program.cellsOf, hi, hs]
  split at h
  case h_2 => exact h.elim
  rename_i k n
  split at h
  · rename_i hn
    rw [hn] at hd
    split at h
    case h_2 => exact h.elim
    rename_i base len cap
    cases base with
    | none => exact h.elim
    | some a =>
      obtain ⟨hr, hK⟩ := h
      exact ⟨_, by simp [Instr.indexAt, asIntOf, run_underlying hd, hr, hsz], hK⟩
  · rename_i m hn
    rw [hn] at hd
    split at h
    case h_2 => exact h.elim
    rename_i a
    obtain ⟨hr, hK⟩ := h
    exact ⟨_, by simp [Instr.indexAt, asIntOf, run_underlying hd, hr, hsz, Instr.sureAddr], hK⟩

theorem sliceBound_run {P : Program} (w : World) (k : IntKind) (n : Int) (y : Nat) (c : BoundsCode) (h0 : 0 ≤ n) (h1 : n ≤ y) : (Instr.sliceBound (.int k n) y c).run P w = .ok n.toNat w := by
  simp [Instr.sliceBound, asIntOf, h0, h1]

theorem sliceBounds_run {P : Program} (w : World) (b : Bool) (len cap : Nat) (lo hi : Option Value) (l h : Int) (hl : bound lo 0 = some l) (hh : bound hi len = some h) (h0 : 0 ≤ l) (h1 : l ≤ h) (h2 : h ≤ cap) :
    (Instr.sliceBounds b len cap lo hi none).run P w = .ok (l.toNat, h.toNat, cap) w := by
  cases lo with
  | none =>
    simp only [bound, Option.some.injEq] at hl
    subst hl
    cases hi with
    | none =>
      simp only [bound, Option.some.injEq] at hh
      subst hh
      simp [Instr.sliceBounds]
    | some v =>
      cases v <;> simp only [bound, Option.some.injEq, reduceCtorEq] at hh
      subst hh
      rename_i k n
      have h5 := fun c => sliceBound_run (P := P) w k n cap c (by omega) h2
      simp [Instr.sliceBounds, h5]
  | some u =>
    cases u <;> simp only [bound, Option.some.injEq, reduceCtorEq] at hl
    subst hl
    rename_i k2 n2
    cases hi with
    | none =>
      simp only [bound, Option.some.injEq] at hh
      subst hh
      have h6 := fun c => sliceBound_run (P := P) w k2 n2 len c h0 h1
      simp [Instr.sliceBounds, h6]
    | some v =>
      cases v <;> simp only [bound, Option.some.injEq, reduceCtorEq] at hh
      subst hh
      rename_i k n
      have h5 := fun c => sliceBound_run (P := P) w k n cap c (by omega) h2
      have h6 := fun c => sliceBound_run (P := P) w k2 n2 n.toNat c h0 (by omega)
      simp [Instr.sliceBounds, h5, h6]

theorem evSlice_ok {P : Program} {tb : Tab} (hok : tb.ok P = true) {t : Nat} {x : Value} {lo hi : Option Value} {K : Value → Prop} (w : World) (h : evSlice (ixOf tb t) x lo hi K) :
    ∃ v, (Instr.sliceAt t x lo hi none).run P w = .ok v w ∧ K v := by
  unfold evSlice at h
  split at h
  case h_2 => exact h.elim
  rename_i ix hix
  obtain ⟨hd, inf, hinf, hs, hb, _⟩ := ix_facts hok hix
  have hsz : (sizeOf ix.el).run P w = .ok ix.size w := by rw [run_sizeOf w hinf]; simp [Program.cellsOf, hinf, hs]
  split at h
  · rename_i hn
    rw [hn] at hd
    split at h
    case h_2 => exact h.elim
    rename_i a len cap
    split at h
    case h_2 => exact h.elim
    rename_i l hh hl hhh
    obtain ⟨⟨h0, h1, h2⟩, hK⟩ := h
    refine ⟨_, ?_, hK⟩
    have hb := sliceBounds_run (P := P) w true len cap lo hi l hh hl hhh h0 h1 h2
    simp [Instr.sliceAt, Instr.slice, run_underlying hd, hb, hsz, subA]
  · rename_i n hn
    rw [hn] at hd
    split at h
    case h_2 => exact h.elim
    rename_i a
    split at h
    case h_2 => exact h.elim
    rename_i l hh hl hhh
    obtain ⟨⟨h0, h1, h2⟩, hK⟩ := h
    refine ⟨_, ?_, hK⟩
    have hb := sliceBounds_run (P := P) w false n n lo hi l hh hl hhh h0 h1 h2
    simp only [Instr.sliceAt, Sem.run_bind, run_underlying hd, Result.andThen_ok, Instr.sureAddr, Sem.run_pure, hb, hsz, subA]
    split <;> simp_all

theorem wrap_small (n : Int) (h0 : 0 ≤ n) (h1 : n ≤ 140737488355328) : IntKind.i64.wrap n = n := by
  rw [IntKind.wrap_i64]; omega

theorem evMk_ok {P : Program} {tb : Tab} (hok : tb.ok P = true) {t : Nat} {n c : Value} {K : Value → H → Prop} (w : World) (h : evMk P (ixOf tb t) w.heap n c K) :
    ∃ v w', (Instr.makeSlice t n c).run P w = .ok v w' ∧ Same w w' ∧ K v w'.heap := by
  unfold evMk at h
  split at h
  case h_2 => exact h.elim
  rename_i ix hix
  obtain ⟨hd, inf, hi, hs, hb, ⟨z, hz, hzc, hzs⟩, hs0, hb0⟩ := ix_facts hok hix
  split at h
  case h_2 => exact h.elim
  rename_i hn
  rw [hn] at hd
  split at h
  case h_2 => exact h.elim
  rename_i k1 n
  split at h
  case h_2 => exact h.elim
  rename_i k2 c
  obtain ⟨⟨h0, h1, h2⟩, hK⟩ := h
  have hc : c ≤ 140737488355328 := by
    have : (1 : Int) * c ≤ ix.bytes * c := Int.mul_le_mul_of_nonneg_right (by omega) (by omega)
    omega
  have hwn := wrap_small n h0 (by omega)
  have hwc := wrap_small c (by omega) hc
  have hbyt : (inf.bytes : Int) * c ≤ 281474976710656 := by rw [hb]; omega
  refine ⟨_, { w with heap := newB w.heap (zerosC P ix.el c.toNat) ix.el }, ?_, ⟨rfl, rfl, rfl⟩, hK⟩
  have hzv : (zeroValue ix.el).run P w = .ok z w := by simp [zeroValue, typeInfo, hi, hz]
  have hcells : ((Array.range (c.toNat * inf.size)).map fun i => (if c.toNat * inf.size = 0 then #[] else z.cells)[i % (if c.toNat * inf.size = 0 then (#[] : Array Value) else z.cells).size]!) = zerosC P ix.el c.toNat := by
    unfold zerosC
    rw [hzc, hzs, hs]
    by_cases he : c.toNat * ix.size = 0
    · rw [he]; simp
    · rw [if_neg he, hzs]
  simp only [Instr.makeSlice, Sem.run_bind, run_underlying hd, Result.andThen_ok, asInt, asIntOf, Sem.run_pure, Sem.run_map, typeInfo, run_program, hi, hwn, hwc]
  rw [if_neg (by simp; omega)]
  simp only [Sem.run_bind, run_askRoom, Result.andThen_ok, sizeOf, typeInfo, run_program, hi, Sem.run_pure]
  by_cases he : c.toNat * inf.size = 0
  · rw [if_pos he]
    simp only [if_pos he] at hcells
    simp only [newRow, Sem.run_bind, run_newObj, Result.andThen_ok, Sem.run_pure, hcells, newB]
  · rw [if_neg he]
    simp only [if_neg he] at hcells
    simp only [newRow, Sem.run_bind, hzv, run_newObj, Result.andThen_ok, Sem.run_pure, hcells, newB]

theorem hsetL_nil (h : H) (a : Addr) (i : Nat) : hsetL h a i [] = h := rfl
theorem run_storeCells_w {P : Program} (w : World) (a : Addr) (vs : List Value) (h1 : ∀ v ∈ vs, v.oneCell' = true) (hw : ∀ j, j < vs.length → (∃ u, hcell w.heap (a.add j) = some u) ∧ hfroz w.heap (a.add j) = false) :
    ∃ w', (storeCells a vs).run P w = .ok () w' ∧ Same w w' ∧ w'.heap = hsetL w.heap a 0 vs := by
  obtain ⟨w', h2, h3, h4⟩ := run_storeL (P := P) vs a 0 w (fun h => h = hsetL w.heap a 0 vs) h1 (Wr_StL vs w.heap a 0 _ (fun j hj => by rw [Nat.zero_add]; exact hw j hj) rfl)
  exact ⟨w', h2, h3, h4⟩

theorem run_first {P : Program} (w : World) (size n : Nat) (a : Option Addr) (len cap : Nat) (vs : List Value) (h : RdSl w.heap a (n * size) vs) :
    (Builtin.firstCells size n (.slice a len cap)).run P w = .ok vs.toArray w := by
  obtain ⟨hl, hr, _⟩ := h
  cases a with
  | none =>
    have : vs = [] := by
      cases vs with
      | nil => rfl
      | cons v r => obtain ⟨ad, h1, _⟩ := hr 0 v rfl; simp at h1
    subst this
    simp [Builtin.firstCells]
  | some a =>
    refine run_firstCells_some w size n a len cap vs hl (fun j v hv => ?_)
    obtain ⟨ad, h1, h2⟩ := hr j v hv
    simp only [Option.some.injEq] at h1
    subst h1
    exact h2

theorem nextslicecap_two (n c : Nat) (h : c < n) : Builtin.nextslicecap n c ≤ 2 * n := by
  unfold Builtin.nextslicecap
  split
  · omega
  split
  · omega
  rw [growBy_four]
  repeat' split
  all_goals omega

theorem run_append {P : Program} {t e : Nat} {inf : TypeInfo} {z : Value} (w : World) (K : Sl → H → Prop) (s x : Sl) (ix : Ix) (ty : TypeId) (hd : P.underlying t = some (.slice ix.el)) (hi : P.info? ix.el = some inf) (hs : inf.size = ix.size) (hb : inf.bytes = ix.bytes)
    (hz : inf.zero = some z) (hzc : zeroC P ix.el = z.cells) (hs0 : ix.size ≠ 0) (hb0 : ix.bytes ≠ 0) (h : App P ix w.heap s x K) :
    ∃ v w', (Builtin.append_ #[t, t] ty #[.slice s.a s.len s.cap, .slice x.a x.len x.cap]).run P w = .ok (.slice v.a v.len v.cap) w' ∧ Same w w' ∧ K v w'.heap := by
  obtain ⟨news, hnews, h⟩ := h
  have hfx := run_first (P := P) w ix.size x.len x.a x.len x.cap news hnews
  rcases h with ⟨hroom, hw, hK⟩ | ⟨hfull, hbyt, olds, holds, hK⟩
  · cases ha : s.a with
    | none =>
      rw [ha] at hK
      refine ⟨⟨none, s.len + x.len, s.cap⟩, w, ?_, Same.refl _, hK⟩
      simp [Builtin.append_, run_underlying hd, sizeOf, typeInfo, hi, hs, Builtin.lenOf, hroom, hfx]
    | some a =>
      rw [ha] at hK
      obtain ⟨w', h2, h3, h4⟩ := run_storeCells_w (P := P) w (a.add (s.len * ix.size)) news hnews.2.2 (hw a ha)
      refine ⟨⟨some a, s.len + x.len, s.cap⟩, w', ?_, h3, by rw [h4]; exact hK⟩
      simp [Builtin.append_, run_underlying hd, sizeOf, typeInfo, hi, hs, Builtin.lenOf, hroom, hfx, h2]
  · have hn : ¬ (s.len + x.len ≤ s.cap) := by omega
    have hlen : s.len + x.len ≤ 140737488355328 := Nat.le_trans (Nat.le_mul_of_pos_right _ (by omega)) hbyt
    have h63' : ¬ (9223372036854775807 < ((s.len : Int) + (x.len : Int))) := by omega
    have h48 : Builtin.nextslicecap (s.len + x.len) s.cap * inf.bytes ≤ 281474976710656 := by
      have h1 := Nat.mul_le_mul_right ix.bytes (nextslicecap_two (s.len + x.len) s.cap hfull)
      rw [Nat.mul_assoc] at h1
      rw [hb]; omega
    have h48' : ¬ (281474976710656 < Builtin.nextslicecap (s.len + x.len) s.cap * inf.bytes) := by omega
    have hold := run_first (P := P) w.drew ix.size s.len s.a s.len s.cap olds holds
    have hfx' := run_first (P := P) w.drew ix.size x.len x.a x.len x.cap news hnews
    have hcap : s.len + x.len ≤ grownCap w (s.len + x.len) s.cap ix.el := by simp [grownCap, Question.cut]
    have hz' : Builtin.zeroCells z.cells (grownCap w (s.len + x.len) s.cap ix.el - (s.len + x.len)) = zerosC P ix.el (grownCap w (s.len + x.len) s.cap ix.el - (s.len + x.len)) := by
      unfold Builtin.zeroCells zerosC
      rw [hzc]
    refine ⟨⟨some ⟨w.heap.size, 0, none⟩, s.len + x.len, grownCap w (s.len + x.len) s.cap ix.el⟩,
      w.drew.alloc (.cells (olds.toArray ++ news.toArray ++ zerosC P ix.el (grownCap w (s.len + x.len) s.cap ix.el - (s.len + x.len))) ix.el), ?_, ⟨rfl, rfl, rfl⟩, hK _ hcap⟩
    rw [← hz']
    simp [Builtin.append_, run_underlying hd, sizeOf, typeInfo, zeroValue, hi, hs, hz, Builtin.lenOf, hn, h63', h48', Question.forced, hold, hfx', newRow, grownCap]
    congr 2
    apply Array.ext'
    simp [List.append_assoc]

theorem run_cpy {P : Program} {t t2 : Nat} {inf : TypeInfo} (w : World) (K : Int → H → Prop) (d s : Sl) (ix : Ix) (ty : TypeId) (hd : P.underlying t = some (.slice ix.el)) (hi : P.info? ix.el = some inf) (hs : inf.size = ix.size) (h : Cpy ix w.heap d s K) :
    ∃ (n : Int) (w' : World), (Builtin.copy_ #[t, t2] ty #[.slice d.a d.len d.cap, .slice s.a s.len s.cap]).run P w = .ok (.int .i64 n) w' ∧ Same w w' ∧ K n w'.heap := by
  obtain ⟨cs, hcs, hw, hK⟩ := h
  have hmin : Nat.min s.len d.len = min s.len d.len := rfl
  have hfx := run_first (P := P) w ix.size (min s.len d.len) s.a s.len s.cap cs hcs
  cases ha : d.a with
  | none =>
    rw [ha] at hK
    refine ⟨_, w, ?_, Same.refl _, hK⟩
    simp [Builtin.copy_, run_underlying hd, sizeOf, typeInfo, hi, hs, Builtin.lenOf, hfx, hmin, goInt]
  | some a =>
    rw [ha] at hK
    obtain ⟨w', h2, h3, h4⟩ := run_storeCells_w (P := P) w a cs hcs.2.2 (hw a ha)
    refine ⟨_, w', ?_, h3, by rw [h4]; exact hK⟩
    simp [Builtin.copy_, run_underlying hd, sizeOf, typeInfo, hi, hs, Builtin.lenOf, hfx, hmin, goInt, h2]

theorem run_str {P : Program} (w : World) (K : ByteArray → Prop) (src dst e : Nat) (hs : P.underlying src = some (.slice e)) (he : P.underlying e = some (.int .u8)) (hd : P.underlying dst = some .string) (s : Sl) (h : LdStr w.heap s K) :
    ∃ b, (convert src dst (.slice s.a s.len s.cap)).run P w = .ok (.string b) w ∧ K b := by
  obtain ⟨xs, hl, hr, hK⟩ := h
  refine ⟨_, ?_, hK⟩
  cases ha : s.a with
  | none =>
    rw [ha] at hr
    have : xs = [] := by
      cases xs with
      | nil => rfl
      | cons v r => obtain ⟨ad, h1, _⟩ := hr 0 _ rfl; simp at h1
    subst this
    rw [run_convert_bytes_nil w src e hs he s.len s.cap dst hd]
    rfl
  | some a =>
    rw [ha] at hr
    have hl2 : (loadCells a s.len).run P w = .ok (xs.map (Value.int .u8)).toArray w := by
      have := run_loadCells_list (P := P) w a (xs.map (Value.int .u8)) (fun j v hj => by
        obtain ⟨ad, h1, h2⟩ := hr j v hj
        simp only [Option.some.injEq] at h1
        subst h1; exact h2)
      simpa [hl] using this
    rw [run_convert_bytes_string w src dst e _ s.len s.cap hs he hd, run_bytesToString w _ s.len s.cap xs hl2, foldl_push_bytes]
    simp [strOfNums, ByteArray.empty, ByteArray.emptyWithCapacity]
    rfl

theorem ptrsOf_get {l : List Value} {ps : List (Option Addr)} (h : ptrsOf l = some ps) : l = ps.map Value.pointer := by
  induction l generalizing ps with
  | nil => simp [ptrsOf] at h; subst h; rfl
  | cons x r ih =>
    cases x <;> simp only [ptrsOf, reduceCtorEq] at h
    split at h
    · rename_i l' hl'
      simp only [Option.some.injEq] at h; subst h
      rw [ih hl']; rfl
    · simp at h
theorem intsOf_get {k : IntKind} {l : List Value} {ps : List Int} (h : intsOf k l = some ps) : l = ps.map (Value.int k) := by
  induction l generalizing ps with
  | nil => simp [intsOf] at h; subst h; rfl
  | cons x r ih =>
    cases x <;> simp only [intsOf, reduceCtorEq] at h
    split at h
    · rename_i l' hl'
      split at h
      · rename_i hk
        simp only [Option.some.injEq] at h; subst h; subst hk
        rw [ih hl']; rfl
      · simp at h
    · simp at h

theorem run_part_leaf {P : Program} {e : TypeId} {d : TypeDesc} {cs : Array Value} {off : Nat} {v : Value} (w : World) (he : P.underlying e = some d) (hn : aggD d = false) (hv : cs[off]? = some v) :
    (part e cs off).run P w = .ok v w := by
  simp [part, run_isAgg_plain' he hn w, hv]

theorem evIxV_ok {P : Program} {tb : Tab} (hok : tb.ok P = true) {t : Nat} {ix : Option Ix} {el : Option LK} {x i : Value} {K : Value → Prop} (w : World) (hix : ∀ q, ix = some q → ixOf tb t = some q) (hel : ∀ q k, ix = some q → el = some k → lkOk P (q.el, k) = true) (h : evIxV el ix x i K) :
    ∃ v, (Instr.index t x i).run P w = .ok v w ∧ K v := by
  unfold evIxV at h
  split at h
  case h_2 => exact h.elim
  rename_i _ _ n el' by_ k i cs
  obtain ⟨hd, inf, hi, hs, hb, _⟩ := ix_facts hok (hix _ rfl)
  simp only at hd hi hs
  have hsz : (sizeOf el').run P w = .ok 1 w := by rw [run_sizeOf w hi]; simp [Program.cellsOf, hi, hs]
  split at h
  · obtain ⟨d, i2, hd2, hk2, _⟩ := lk_desc (hel _ _ rfl rfl)
    split at h
    case h_2 => exact h.elim
    rename_i ps hps
    cases hc : Nat.beq ps.length n with
    | false => rw [hc] at h; exact h.elim
    | true =>
      rw [hc] at h
      have hlen := Nat.eq_of_beq_eq_true hc
      obtain ⟨hr, hK⟩ := h
      refine ⟨_, ?_, hK⟩
      have hv : cs[i.toNat * 1]? = some (.pointer (ps.getD i.toNat none)) := by
        have h1 : cs.toList[i.toNat]? = some (.pointer (ps.getD i.toNat none)) := by
          rw [ptrsOf_get hps, List.getElem?_map, List.getD_eq_getElem?_getD, List.getElem?_eq_getElem (show i.toNat < ps.length by omega)]; rfl
        rw [Nat.mul_one, ← h1]; simp
      have hp := run_part_leaf (P := P) w hd2 (lkDesc_plain hk2) hv
      rw [Nat.mul_one, List.getD_eq_getElem?_getD] at hp
      simp only at hp
      simp [Instr.index, asIntOf, run_underlying hd, hr, hsz, hp]
  · rename_i kk
    obtain ⟨d, i2, hd2, hk2, _⟩ := lk_desc (hel _ _ rfl rfl)
    split at h
    case h_2 => exact h.elim
    rename_i ps hps
    cases hc : Nat.beq ps.length n with
    | false => rw [hc] at h; exact h.elim
    | true =>
      rw [hc] at h
      have hlen := Nat.eq_of_beq_eq_true hc
      obtain ⟨hr, hK⟩ := h
      refine ⟨_, ?_, hK⟩
      have hv : cs[i.toNat * 1]? = some (.int kk (ps.getD i.toNat 0)) := by
        have h1 : cs.toList[i.toNat]? = some (.int kk (ps.getD i.toNat 0)) := by
          rw [intsOf_get hps, List.getElem?_map, List.getD_eq_getElem?_getD, List.getElem?_eq_getElem (show i.toNat < ps.length by omega)]; rfl
        rw [Nat.mul_one, ← h1]; simp
      have hp := run_part_leaf (P := P) w hd2 (lkDesc_plain hk2) hv
      rw [Nat.mul_one, List.getD_eq_getElem?_getD] at hp
      simp only at hp
      simp [Instr.index, asIntOf, run_underlying hd, hr, hsz, hp]
  · exact h.elim

def callE {P : Program} : List (Ent P) → Nat → List Value → (Value → H → Prop) → H → Prop
  | [], _, _, _, _ => False
  | e :: r, n, args, K, h => bif Nat.beq e.num n then e.sem args K h else callE r n args K h
def pairs (s : Sto) : List (Nat × Operand) → Option (List (Nat × Value))
  | [] => some []
  | (i, x) :: r => match look s x, pairs s r with | some v, some vs => some ((i, v) :: vs) | _, _ => none
def opt (s : Sto) : Option Operand → Option (Option Value)
  | none => some none
  | some x => match look s x with | some v => some (some v) | none => none
def sl2 (x : Value) (K : Sl → Prop) : Prop := match x with | .slice a l c => K ⟨a, l, c⟩ | _ => False

def evCall {P : Program} (tb : Tab) (G : List (Ent P)) (s : Sto) (c : Call) (h : H) (K : Value → H → Prop) : Prop :=
  match c.callee with
  | .value f => (match look s f with
    | some (.func (.func n) first captured) => (match looks s c.args.toList with
      | some vs => callE G n (first.toList ++ vs ++ captured.toList) K h
      | none => False)
    | _ => False)
  | .builtin .len => (match c.argTypes.toList, c.args.toList with
    | [t], [x] => (match find1 tb.lk t with
      | some (.leaf .s) => ovl (look s x) fun v => sl2 v fun q => K (.int .i64 q.len) h
      | _ => False)
    | _, _ => False)
  | .builtin .append => (match c.argTypes.toList, c.args.toList with
    | [t, u], [x, y] => (bif Nat.beq t u then (match ixOf tb t with
      | some ⟨none, el, sz, by_⟩ => ovl (look s x) fun v => sl2 v fun a => ovl (look s y) fun u => sl2 u fun b => App P ⟨none, el, sz, by_⟩ h a b fun q h' => K (.slice q.a q.len q.cap) h'
      | _ => False) else False)
    | _, _ => False)
  | .builtin .copy => (match c.argTypes.toList, c.args.toList with
    | [t, _], [x, y] => (match ixOf tb t with
      | some ⟨none, el, sz, by_⟩ => ovl (look s x) fun v => sl2 v fun a => ovl (look s y) fun u => sl2 u fun b => Cpy ⟨none, el, sz, by_⟩ h a b fun n h' => K (.int .i64 n) h'
      | _ => False)
    | _, _ => False)
  | _ => False

def isStr (P : Program) (t : Nat) : Bool := match P.underlying t with | some .string => true | _ => false
def evOp {P : Program} (tb : Tab) (G : List (Ent P)) (s : Sto) (op : Op) (h : H) (K : Value → H → Prop) : Prop :=
  match op with
  | .move x => ovl (look s x) fun v => K v h
  | .assign x => (match x with
    | .const v => K v h
    | x => (match look s x with
      | none => False
      | some v => (match v with
        | .int k n => LetI n fun m => K (.int k m) h
        | v => K v h)))
  | .pick c a b => (match look s c with
    | some (.bool t) => Br t (ovl (look s a) fun v => K v h) (ovl (look s b) fun v => K v h)
    | _ => False)
  | .alloc t => (match find1 tb.lk t with | some _ => Nw h (zeroC P t) t fun a h' => K (.pointer (some a)) h' | none => False)
  | .box t x => ovl (look s x) fun v => Nw h v.cells t fun a h' => K (.pointer (some a)) h'
  | .build t ps => (match find1 tb.bd t, pairs s ps.toList with
    | some places, some vs => (match Instr.fill (places[·]?) (zeroC P t) vs with | some cells => K (.agg cells) h | none => False)
    | _, _ => False)
  | .buildSlice t len ps => (match ixOf tb t, pairs s ps.toList with
    | some ⟨none, el, sz, _⟩, some vs => (bif Nat.ble (len * sz) 16777216 then
        (match Instr.fill (fun i => some (i * sz, sz)) (zerosC P el len) vs with | some cells => Nw h cells el fun a h' => K (.slice (some a) len len) h' | none => False) else False)
    | _, _ => False)
  | .load t x => (match look s x with | some (.pointer (some a)) => evLd (find1 tb.lk t) h a fun v => K v h | _ => False)
  | .store t x y => (match look s x with | some (.pointer (some a)) => ovl (look s y) fun v => evSt (find1 tb.lk t) h a v fun h' => K undef h' | _ => False)
  | .nilCheck x => (match look s x with
    | some (.pointer p) => NilP p fun a => K (.pointer (some a)) h
    | some (.func (.func n) f c) => K (.func (.func n) f c) h
    | _ => False)
  | .binOp op t x y _ => ovl (look s x) fun v => ovl (look s y) fun u => evBin (find1 tb.eq t) op v u fun r => K r h
  | .unOp op _ x => (match op, look s x with | .not, some (.bool b) => K (.bool (!b)) h | .neg, some (.int k n) => K (.int k (k.wrap (0 - n))) h | _, _ => False)
  | .convert src dst x => (match find1 tb.lk src, find1 tb.lk dst with
    | some (.leaf (.i _)), some (.leaf (.i k)) => (match look s x with | some (.int _ n) => K (.int k (k.wrap n)) h | _ => False)
    | some (.leaf .s), none => (match ixOf tb src with
      | some ⟨none, el, _, _⟩ => (match find1 tb.lk el with
        | some (.leaf (.i .u8)) => (bif isStr P dst then ovl (look s x) fun v => sl2 v fun q => LdStr h q fun b => K (.string b) h else False)
        | _ => False)
      | _ => False)
    | _, _ => False)
  | .makeFunc fn first cap => (match looks s first.toList, looks s cap.toList with | some f, some c => K (.func fn f.toArray c.toArray) h | _, _ => False)
  | .makeSlice t l c => ovl (look s l) fun v => ovl (look s c) fun u => evMk P (ixOf tb t) h v u K
  | .slice t x lo hi mx => (match mx with
    | none => (match opt s lo, opt s hi with
      | some l, some u => ovl (look s x) fun v => evSlice (ixOf tb t) v l u fun r => K r h
      | _, _ => False)
    | some _ => False)
  | .fieldAddr t x f => (match look s x with | some (.pointer (some a)) => (match fld tb t f with | some o => K (.pointer (some (a.add o))) h | none => False) | _ => False)
  | .indexAddr t x i => ovl (look s x) fun v => ovl (look s i) fun u => evIdx (ixOf tb t) v u fun r => K r h
  | .index t x i => ovl (look s x) fun v => ovl (look s i) fun u => (match ixOf tb t with | some ix => evIxV (find1 tb.lk ix.el) (some ix) v u fun r => K r h | none => False)
  | .extract x i => (match look s x with | some (.tuple vs) => ovl vs.toList[i]? fun v => K v h | _ => False)
  | .call c => evCall tb G s c h K
  | _ => False

/-- What a run of one operation may come to. -/
def Good (P : Program) (r : Result Next) (w : World) (K : Value → H → Prop) : Prop :=
  match r with
  | .ok (.value v) w' => Same w w' ∧ K v w'.heap
  | .ok .skip w' => Same w w' ∧ K undef w'.heap
  | .ok (.enter f args) w' => w' = w ∧ Calls P f args w (fun e w'' => ∃ v, e = .returned v ∧ Same w w'' ∧ K v w''.heap)
  | _ => False

theorem Good.upon {P : Program} {o : Oper} {a : Act} {next : Act → World → Prop} {Q : Exit → Act → World → Prop} {r : Result Next} {w : World} {K : Value → H → Prop}
    (h : Good P r w K) (hK : ∀ v w', Same w w' → K v w'.heap → next (a.put o.dst v) w') : o.upon P a next Q r := by
  unfold Good at h
  split at h
  · exact hK _ _ h.1 h.2
  · exact hK _ _ h.1 h.2
  · obtain ⟨rfl, h⟩ := h
    simp only [Oper.upon]
    refine h.mono ?_
    rintro e w'' ⟨v, rfl, hs, hk⟩
    exact hK _ _ hs hk
  · exact h.elim

structure Agree (s : Sto) (ρ : Operand → Value) : Prop where
  at_ : ∀ x v, look s x = some v → ρ x = v

theorem ovl_some {o : Option Value} {f : Value → Prop} (h : ovl o f) : ∃ v, o = some v ∧ f v := by
  unfold ovl at h
  split at h
  · exact ⟨_, rfl, h⟩
  · exact h.elim

theorem looks_get {s : Sto} {ρ : Operand → Value} (ha : Agree s ρ) : ∀ {xs : List Operand} {vs : List Value}, looks s xs = some vs → xs.map ρ = vs
  | [], vs, h => by simp [looks] at h; subst h; rfl
  | x :: r, vs, h => by
    simp only [looks] at h
    split at h
    · rename_i v us hv hu
      simp only [Option.some.injEq] at h
      subst h
      rw [List.map_cons, ha.at_ _ _ hv, looks_get ha hu]
    · simp at h
theorem pairs_get {s : Sto} {ρ : Operand → Value} (ha : Agree s ρ) : ∀ {xs : List (Nat × Operand)} {vs : List (Nat × Value)}, pairs s xs = some vs → xs.map (fun (i, x) => (i, ρ x)) = vs
  | [], vs, h => by simp [pairs] at h; subst h; rfl
  | (i, x) :: r, vs, h => by
    simp only [pairs] at h
    split at h
    · rename_i v us hv hu
      simp only [Option.some.injEq] at h
      subst h
      have e := pairs_get ha hu
      show (i, ρ x) :: _ = _
      rw [ha.at_ _ _ hv, ← e]
    · simp at h
theorem opt_get {s : Sto} {ρ : Operand → Value} (ha : Agree s ρ) {x : Option Operand} {v : Option Value} (h : opt s x = some v) : x.map ρ = v := by
  cases x with
  | none => simp [opt] at h; subst h; rfl
  | some x =>
    simp only [opt] at h
    split at h
    · rename_i u hu
      simp only [Option.some.injEq] at h
      subst h
      rw [Option.map_some, ha.at_ _ _ hu]
    · simp at h

theorem Tab.lk_ok {P : Program} {tb : Tab} (hok : tb.ok P = true) {t : Nat} {k : LK} (h : find1 tb.lk t = some k) : lkOk P (t, k) = true := by
  unfold Tab.ok at hok
  simp only [Bool.and_eq_true, List.all_eq_true] at hok
  exact hok.1.1.1 _ (find1_mem h)
theorem Tab.fo_ok {P : Program} {tb : Tab} (hok : tb.ok P = true) {t f o : Nat} (h : fld tb t f = some o) : foOk P (t, f, o) = true := by
  unfold Tab.ok at hok
  simp only [Bool.and_eq_true, List.all_eq_true] at hok
  exact hok.1.1.2 _ (fld_mem h)
theorem Tab.bd_ok {P : Program} {tb : Tab} (hok : tb.ok P = true) {t : Nat} {k : List (Nat × Nat)} (h : find1 tb.bd t = some k) : bdOk P (t, k) = true := by
  unfold Tab.ok at hok
  simp only [Bool.and_eq_true, List.all_eq_true] at hok
  exact hok.2 _ (find1_mem h)

def Tab.full (P : Program) (tb : Tab) : Bool := tb.ok P && tb.eq.all fun e => lkOk P e && eqOk P e
theorem Tab.full_ok {P : Program} {tb : Tab} (h : tb.full P = true) : tb.ok P = true := by
  unfold Tab.full at h; simp only [Bool.and_eq_true] at h; exact h.1
theorem Tab.eq_ok {P : Program} {tb : Tab} (h : tb.full P = true) {t : Nat} {k : LK} (hf : find1 tb.eq t = some k) : lkOk P (t, k) = true ∧ eqOk P (t, k) = true := by
  unfold Tab.full at h
  simp only [Bool.and_eq_true, List.all_eq_true] at h
  exact h.2 _ (find1_mem hf)

theorem callE_ok {P : Program} {G : List (Ent P)} {n : Nat} {args : List Value} {K : Value → H → Prop} (w : World) (h : callE G n args K w.heap) :
    (∃ fn, P.funcs[n]? = some fn ∧ (fn.name == "runtime.NumGoroutine") = false ∧ fn.body.isNone = false) ∧ Calls P n args.toArray w (fun e w' => ∃ v, e = .returned v ∧ Same w w' ∧ K v w'.heap) := by
  induction G with
  | nil => exact h.elim
  | cons e r ih =>
    simp only [callE] at h
    cases hb : Nat.beq e.num n with
    | true =>
      rw [hb] at h
      have := Nat.eq_of_beq_eq_true hb
      subst this
      exact ⟨e.has, e.ok _ _ _ h⟩
    | false => rw [hb] at h; exact ih h

theorem fill_mono {p q : Nat → Option (Nat × Nat)} (hpq : ∀ i x, p i = some x → q i = some x) : ∀ (l : List (Nat × Value)) (c r : Array Value), Instr.fill p c l = some r → Instr.fill q c l = some r
  | [], c, r, h => h
  | (i, v) :: l, c, r, h => by
    simp only [Instr.fill] at h ⊢
    cases hp : p i with
    | none => rw [hp] at h; simp at h
    | some x =>
      obtain ⟨off, size⟩ := x
      rw [hp] at h
      rw [hpq i _ hp]
      simp only at h ⊢
      split at h
      · simp at h
      · rename_i hc
        rw [if_neg hc]
        exact fill_mono hpq l _ r h

theorem run_callFunc {P : Program} {n : Nat} {fn : Func} (w : World) (args : Array Value) (h1 : P.funcs[n]? = some fn) (h2 : (fn.name == "runtime.NumGoroutine") = false) (h3 : fn.body.isNone = false) :
    (callFunc n args).run P w = .ok (.enter n args) w := by
  simp only [callFunc, Sem.run_bind, run_program, Result.andThen_ok, h1, h2, h3, Bool.false_eq_true, if_false, Sem.run_pure]

theorem evCall_ok {P : Program} {tb : Tab} {G : List (Ent P)} {s : Sto} {ρ : Operand → Value} {K : Value → H → Prop} (hok : tb.ok P = true) (ha : Agree s ρ) (w : World) (o : Oper) (c : Call) (ho : o.op = .call c) (h : evCall tb G s c w.heap K) :
    Good P ((execOp ρ o).run P w) w K := by
  unfold evCall at h
  split at h
  · -- a function
    rename_i f hf
    split at h
    case h_2 => exact h.elim
    rename_i n first captured hl
    split at h
    case h_2 => exact h.elim
    rename_i vs hvs
    obtain ⟨⟨fn, h1, h2, h3⟩, hc⟩ := callE_ok w h
    have hargs : (first ++ c.args.map ρ ++ captured) = (first.toList ++ vs ++ captured.toList).toArray := by
      apply Array.ext'
      simp [← looks_get ha hvs]
    have hrun : (execOp ρ o).run P w = .ok (.enter n (first ++ c.args.map ρ ++ captured)) w := by
      have := run_callFunc w (first ++ c.args.map ρ ++ captured) h1 h2 h3
      simp only [execOp, ho, resolve, hf, ha.at_ _ _ hl, Deferred.ofValue, invoke, Sem.run_bind, Sem.run_pure, Result.andThen_ok, this]
    rw [hrun, hargs]
    exact ⟨rfl, hc⟩
  · rename_i hf
    split at h
    case h_2 => exact h.elim
    rename_i t x ht hx
    split at h
    case h_2 => exact h.elim
    rename_i hlk
    obtain ⟨v, hv, h⟩ := ovl_some h
    unfold sl2 at h
    split at h
    case h_2 => exact h.elim
    rename_i a l c'
    obtain ⟨d, i, hd, hk, _⟩ := lk_desc (Tab.lk_ok hok hlk)
    have hd2 : ∃ e, d = .slice e := by
      cases d <;> first | exact ⟨_, rfl⟩ | exact Bool.noConfusion (show false = true from hk)
    obtain ⟨e, rfl⟩ := hd2
    have e1 : c.argTypes = #[t] := by rw [← ht]
    have e2 : c.args = #[x] := by rw [← hx]
    have hrun : (execOp ρ o).run P w = .ok (.value (.int .i64 l)) w := by
      simp [execOp, ho, resolve, hf, invoke, builtin, Builtin.len_, e1, e2, ha.at_ _ _ hv, run_underlying hd, goInt]
    rw [hrun]
    exact ⟨Same.refl _, h⟩
  · rename_i hf
    split at h
    case h_2 => exact h.elim
    rename_i t u x y ht hx
    cases htu : Nat.beq t u with
    | false => rw [htu] at h; exact h.elim
    | true =>
    rw [htu] at h
    have := Nat.eq_of_beq_eq_true htu
    subst this
    simp only [cond_true] at h
    split at h
    case h_2 => exact h.elim
    rename_i el sz by_ hix
    obtain ⟨v, hv, h⟩ := ovl_some h
    unfold sl2 at h
    split at h
    case h_2 => exact h.elim
    rename_i a1 l1 c1
    obtain ⟨v2, hv2, h⟩ := ovl_some h
    split at h
    case h_2 => exact h.elim
    rename_i a2 l2 c2
    obtain ⟨hd, inf, hi, hs, hb, ⟨z, hz, hzc, hzs⟩, hs0, hb0⟩ := ix_facts hok hix
    obtain ⟨q, w', h1, h2, h3⟩ := run_append (t := t) (e := 0) w _ ⟨a1, l1, c1⟩ ⟨a2, l2, c2⟩ _ o.type hd hi hs hb hz hzc hs0 hb0 h
    have e1 : c.argTypes = #[t, t] := by rw [← ht]
    have e2 : c.args = #[x, y] := by rw [← hx]
    have hrun : (execOp ρ o).run P w = .ok (.value (.slice q.a q.len q.cap)) w' := by
      simp only at h1
      simp [execOp, ho, resolve, hf, invoke, builtin, e1, e2, ha.at_ _ _ hv, ha.at_ _ _ hv2, h1]
    rw [hrun]
    exact ⟨h2, h3⟩
  · rename_i hf
    split at h
    case h_2 => exact h.elim
    rename_i t u x y ht hx
    split at h
    case h_2 => exact h.elim
    rename_i el sz by_ hix
    obtain ⟨v, hv, h⟩ := ovl_some h
    unfold sl2 at h
    split at h
    case h_2 => exact h.elim
    rename_i a1 l1 c1
    obtain ⟨v2, hv2, h⟩ := ovl_some h
    split at h
    case h_2 => exact h.elim
    rename_i a2 l2 c2
    obtain ⟨hd, inf, hi, hs, hb, ⟨z, hz, hzc, hzs⟩, hs0, hb0⟩ := ix_facts hok hix
    obtain ⟨n, w', h1, h2, h3⟩ := run_cpy (t := t) (t2 := u) w _ ⟨a1, l1, c1⟩ ⟨a2, l2, c2⟩ _ o.type hd hi hs h
    have e1 : c.argTypes = #[t, u] := by rw [← ht]
    have e2 : c.args = #[x, y] := by rw [← hx]
    have hrun : (execOp ρ o).run P w = .ok (.value (.int .i64 n)) w' := by
      simp only at h1
      simp [execOp, ho, resolve, hf, invoke, builtin, e1, e2, ha.at_ _ _ hv, ha.at_ _ _ hv2, h1]
    rw [hrun]
    exact ⟨h2, h3⟩
  · exact h.elim

theorem good_value {P : Program} {ρ : Operand → Value} {o : Oper} {w w' : World} {K : Value → H → Prop} {v : Value} (hr : (execOp ρ o).run P w = .ok (.value v) w') (hs : Same w w') (hk : K v w'.heap) : Good P ((execOp ρ o).run P w) w K := by
  rw [hr]; exact ⟨hs, hk⟩

theorem run_fieldAt {P : Program} {t f off : Nat} (w : World) (h : foOk P (t, f, off) = true) (a : Addr) : (Instr.fieldAt t (.pointer (some a)) f).run P w = .ok (.pointer (some (a.add off))) w := by
  unfold foOk at h
  simp only at h
  split at h
  case h_2 => simp at h
  rename_i fs hd
  split at h
  case h_2 => simp at h
  rename_i fd hf
  simp only [Bool.and_eq_true] at h
  obtain ⟨h1, h2⟩ := h
  have h1 := Nat.eq_of_beq_eq_true h1
  split at h2
  case h_2 => simp at h2
  rename_i i hi
  simp only [Bool.not_eq_true'] at h2
  have hn : P.cellsOf fd.type ≠ 0 := by
    intro e
    simp [Program.cellsOf, hi] at e
    rw [e] at h2; simp at h2
  simp [Instr.fieldAt, run_underlying hd, hf, Instr.sureAddr, fieldPlace, run_sizeOf w hi, hn, h1]

theorem mapM_places {P : Program} (w : World) : ∀ (fs : List Field), (∀ f ∈ fs, (P.info? f.type).isSome = true) → (fs.mapM fun (f : Field) => (do pure (f.offset, ← sizeOf f.type) : Sem (Nat × Nat))).run P w = .ok (fs.map fun f => (f.offset, P.cellsOf f.type)) w
  | [], _ => by simp
  | f :: fs, h => by
    obtain ⟨i, hi⟩ := Option.isSome_iff_exists.1 (h f List.mem_cons_self)
    have ih := mapM_places (P := P) w fs (fun g hg => h g (List.mem_cons_of_mem _ hg))
    rw [List.mapM_cons]
    simp only [Sem.run_bind, run_sizeOf w hi, Result.andThen_ok, Sem.run_pure, ih, List.map_cons]

theorem run_build {P : Program} {tb : Tab} (hok : tb.ok P = true) {t : Nat} {places : List (Nat × Nat)} (w : World) (hb : find1 tb.bd t = some places) (vs : List (Nat × Value)) (cells : Array Value)
    (hf : Instr.fill (places[·]?) (zeroC P t) vs = some cells) : (Instr.build t vs.toArray).run P w = .ok (.agg cells) w := by
  have h := Tab.bd_ok hok hb
  unfold bdOk at h
  simp only [Bool.and_eq_true] at h
  obtain ⟨h0, h⟩ := h
  split at h0
  case h_2 => simp at h0
  rename_i i hi
  obtain ⟨z, hz⟩ := Option.isSome_iff_exists.1 h0
  have hzc : zeroC P t = z.cells := by simp [zeroC, hi, hz]
  have hzv : (zeroValue t).run P w = .ok z w := by simp [zeroValue, typeInfo, hi, hz]
  rw [hzc] at hf
  split at h
  · rename_i fs hd
    simp only [Bool.and_eq_true] at h
    obtain ⟨h1, h2⟩ := h
    have h1 : (fs.toList.map fun f => (f.offset, P.cellsOf f.type)) = places := by simpa using h1
    have h2 : ∀ f ∈ fs.toList, (P.info? f.type).isSome = true := by
      intro f hf'
      rw [Array.all_eq_true'] at h2
      exact h2 f (by simpa using hf')
    have hm := mapM_places (P := P) w fs.toList h2
    have hm2 : (fs.mapM fun (f : Field) => (do pure (f.offset, ← sizeOf f.type) : Sem (Nat × Nat))).run P w = .ok places.toArray w := by
      rw [Array.mapM_eq_mapM_toList, Sem.run_map, hm, h1]; rfl
    have hf2 : Instr.fill (places.toArray[·]?) z.cells vs = some cells := by
      have : (fun (x : Nat) => places.toArray[x]?) = fun (x : Nat) => places[x]? := by funext x; simp
      rw [this]; exact hf
    simp only [Instr.build, Sem.run_bind, hzv, Result.andThen_ok, run_underlying hd, hm2, hf2, Sem.run_pure]
  · rename_i n el hd
    simp only [Bool.and_eq_true, decide_eq_true_eq] at h
    obtain ⟨⟨h1, h2⟩, h3⟩ := h
    have h1 : (List.range n).map (fun i => (i * P.cellsOf el, P.cellsOf el)) = places := by simpa using h1
    obtain ⟨i2, hi2⟩ := Option.isSome_iff_exists.1 h2
    have hf2 : Instr.fill (fun i => some (i * P.cellsOf el, P.cellsOf el)) z.cells vs = some cells := by
      refine fill_mono (fun i x hx => ?_) vs _ _ hf
      rw [← h1, List.getElem?_map] at hx
      cases hr : (List.range n)[i]? with
      | none => rw [hr] at hx; simp at hx
      | some j =>
        rw [hr] at hx
        obtain ⟨hj, e⟩ := List.getElem?_eq_some_iff.1 hr
        simp at e; subst e
        simpa using hx
    simp only [Instr.build, Sem.run_bind, hzv, Result.andThen_ok, run_underlying hd, run_sizeOf w hi2, hf2, Sem.run_pure]
  · simp at h

theorem run_buildSlice {P : Program} {tb : Tab} (hok : tb.ok P = true) {t el sz by_ : Nat} (w : World) (hix : ixOf tb t = some ⟨none, el, sz, by_⟩) (len : Nat) (hlen : len * sz ≤ 16777216) (vs : List (Nat × Value)) (cells : Array Value)
    (hf : Instr.fill (fun i => some (i * sz, sz)) (zerosC P el len) vs = some cells) : (Instr.buildSlice t len vs.toArray).run P w = .ok (.slice (some ⟨w.heap.size, 0, none⟩) len len) { w with heap := newB w.heap cells el } := by
  obtain ⟨hd, inf, hi, hs, hb, ⟨z, hz, hzc, hzs⟩, hs0, hb0⟩ := ix_facts hok hix
  simp only at hd hi hs hzc hzs
  have hzv : (zeroValue el).run P w = .ok z w := by simp [zeroValue, typeInfo, hi, hz]
  have hsz : (sizeOf el).run P w = .ok sz w := by rw [run_sizeOf w hi]; simp [Program.cellsOf, hi, hs]
  have hcells : ((Array.range (len * sz)).map fun x => (if len * sz = 0 then #[] else z.cells)[x % (if len * sz = 0 then (#[] : Array Value) else z.cells).size]!) = zerosC P el len := by
    unfold zerosC
    rw [hzc, hzs]
    by_cases he : len * sz = 0
    · rw [he]; simp
    · rw [if_neg he, hzs]
  simp only [Instr.buildSlice, Sem.run_bind, run_underlying hd, Result.andThen_ok, hsz]
  rw [if_neg (by simpa using hlen)]
  by_cases he : len * sz = 0
  · rw [if_pos he]
    simp only [if_pos he] at hcells
    simp only [newRow, Sem.run_bind, run_newObj, Result.andThen_ok, Sem.run_pure, hcells, newB, hf]
  · rw [if_neg he]
    simp only [if_neg he] at hcells
    simp only [newRow, Sem.run_bind, hzv, run_newObj, Result.andThen_ok, Sem.run_pure, hcells, newB, hf]

set_option maxHeartbeats 1000000 in
theorem evOp_ok {P : Program} {tb : Tab} {G : List (Ent P)} {s : Sto} {ρ : Operand → Value} {K : Value → H → Prop} (hfull : tb.full P = true) (ha : Agree s ρ) (w : World) (o : Oper) (h : evOp tb G s o.op w.heap K) :
    Good P ((execOp ρ o).run P w) w K := by
  have hok := Tab.full_ok hfull
  cases ho : o.op <;> rw [ho] at h <;> simp only [evOp] at h
  case move x =>
    obtain ⟨v, hv, h⟩ := ovl_some h
    exact good_value (by simp [execOp, ho, ha.at_ _ _ hv]) (Same.refl _) h
  case assign x =>
    have h' : ovl (look s x) fun v => K v w.heap := by
      split at h
      · exact h
      · split at h
        · exact h.elim
        · rename_i v hv
          rw [hv]
          split at h
          · exact h
          · exact h
    obtain ⟨v, hv, h⟩ := ovl_some h'
    exact good_value (by simp [execOp, ho, ha.at_ _ _ hv]) (Same.refl _) h
  case pick c a b =>
    split at h
    case h_2 => exact h.elim
    rename_i t ht
    cases t with
    | true =>
      obtain ⟨v, hv, h⟩ := ovl_some h
      exact good_value (by simp [execOp, ho, ha.at_ _ _ ht, ha.at_ _ _ hv, asBool]) (Same.refl _) h
    | false =>
      obtain ⟨v, hv, h⟩ := ovl_some h
      exact good_value (by simp [execOp, ho, ha.at_ _ _ ht, ha.at_ _ _ hv, asBool]) (Same.refl _) h
  case alloc t =>
    split at h
    case h_2 => exact h.elim
    rename_i k hk
    obtain ⟨d, i, hd, _, hi, _, hz⟩ := lk_desc (Tab.lk_ok hok hk)
    obtain ⟨z, hz⟩ := Option.isSome_iff_exists.1 hz
    have hzc : zeroC P t = z.cells := by simp [zeroC, hi, hz]
    rw [hzc] at h
    have hzv : (zeroValue t).run P w = .ok z w := by simp [zeroValue, typeInfo, hi, hz]
    refine good_value (w' := { w with heap := newB w.heap z.cells t }) (v := .pointer (some ⟨w.heap.size, 0, none⟩)) ?_ ⟨rfl, rfl, rfl⟩ h
    simp [execOp, ho, Instr.alloc, hzv, newVar, newRow, newB]
  case box t x =>
    obtain ⟨v, hv, h⟩ := ovl_some h
    refine good_value (w' := { w with heap := newB w.heap v.cells t }) (v := .pointer (some ⟨w.heap.size, 0, none⟩)) ?_ ⟨rfl, rfl, rfl⟩ h
    simp [execOp, ho, Instr.box, ha.at_ _ _ hv, newVar, newRow, newB]
  case build t ps =>
    split at h
    case h_2 => exact h.elim
    rename_i places vs hb hvs
    split at h
    case h_2 => exact h.elim
    rename_i cells hc
    have h2 := run_build hok w hb vs cells hc
    have h3 : ps.map (fun (i, x) => (i, ρ x)) = vs.toArray := by
      apply Array.ext'; simp [← pairs_get ha hvs]
    refine good_value (v := .agg cells) ?_ (Same.refl _) h
    simp only [execOp, ho, h3, Sem.run_bind, h2, Result.andThen_ok, Sem.run_pure]
  case buildSlice t len ps =>
    split at h
    case h_2 => exact h.elim
    rename_i el sz by_ vs hix hvs
    cases hl : Nat.ble (len * sz) 16777216 with
    | false => rw [hl] at h; exact h.elim
    | true =>
      rw [hl] at h
      simp only [cond_true] at h
      split at h
      case h_2 => exact h.elim
      rename_i cells hc
      have h2 := run_buildSlice hok w hix len (Nat.le_of_ble_eq_true hl) vs cells hc
      have h3 : ps.map (fun (i, x) => (i, ρ x)) = vs.toArray := by
        apply Array.ext'; simp [← pairs_get ha hvs]
      refine good_value (w' := { w with heap := newB w.heap cells el }) (v := .slice (some ⟨w.heap.size, 0, none⟩) len len) ?_ ⟨rfl, rfl, rfl⟩ h
      simp only [execOp, ho, h3, Sem.run_bind, h2, Result.andThen_ok, Sem.run_pure]
  case load t x =>
    split at h
    case h_2 => exact h.elim
    rename_i a hx
    obtain ⟨v, hv, h⟩ := evLd_ok w (fun k hk => Tab.lk_ok hok hk) h
    exact good_value (by simp [execOp, ho, Instr.loadAt, Instr.sureAddr, ha.at_ _ _ hx, hv]) (Same.refl _) h
  case store t x y =>
    split at h
    case h_2 => exact h.elim
    rename_i a hx
    obtain ⟨v, hv, h⟩ := ovl_some h
    obtain ⟨w', h1, h2, h3⟩ := evSt_ok w (fun k hk => Tab.lk_ok hok hk) h
    have hr : (execOp ρ o).run P w = .ok .skip w' := by simp [execOp, ho, Instr.storeAt, Instr.sureAddr, ha.at_ _ _ hx, ha.at_ _ _ hv, h1]
    rw [hr]
    exact ⟨h2, h3⟩
  case nilCheck x =>
    split at h
    · rename_i p hx
      cases p with
      | none => exact h.elim
      | some a => exact good_value (by simp [execOp, ho, ha.at_ _ _ hx]) (Same.refl _) h
    · rename_i n f c hx
      exact good_value (by simp [execOp, ho, ha.at_ _ _ hx]) (Same.refl _) h
    · exact h.elim
  case binOp op t x y u =>
    obtain ⟨v, hv, h⟩ := ovl_some h
    obtain ⟨v2, hv2, h⟩ := ovl_some h
    obtain ⟨r, hr, h⟩ := evBin_ok w (fun k hk => Tab.eq_ok hfull hk) h
    have hr := hr x y
    refine good_value ?_ (Same.refl _) h
    simp only [execOp, ho, ha.at_ _ _ hv, ha.at_ _ _ hv2, Sem.run_bind, Sem.run_pure] at hr ⊢
    rw [hr]; rfl
  case unOp op t x =>
    split at h
    · rename_i b hx
      exact good_value (by simp [execOp, ho, ha.at_ _ _ hx, Op.unary]) (Same.refl _) h
    · rename_i k n hx
      exact good_value (v := .int k (k.wrap (0 - n))) (by simp only [execOp, ho, ha.at_ _ _ hx, Op.unary, Op.intArith, Sem.run_bind, Sem.run_pure, Result.andThen_ok]) (Same.refl _) h
    · exact h.elim
  case convert src dst x =>
    split at h
    · rename_i k1 k h1 h2
      split at h
      case h_2 => exact h.elim
      rename_i k2 n hx
      obtain ⟨d1, i1, hd1, hk1, _⟩ := lk_desc (Tab.lk_ok hok h1)
      obtain ⟨d2, i2, hd2, hk2, _⟩ := lk_desc (Tab.lk_ok hok h2)
      have e2 : d2 = .int k := by
        cases d2 <;> first | (have h9 : (k == _) = true := hk2; rw [eq_of_beq h9]) | exact Bool.noConfusion (show false = true from hk2)
      subst e2
      refine good_value (v := .int k (k.wrap n)) ?_ (Same.refl _) h
      simp only [execOp, ho, ha.at_ _ _ hx, convert, Sem.run_bind, run_underlying hd1, run_underlying hd2, Result.andThen_ok]
      cases d1 <;> rfl
    · rename_i h1 h2
      split at h
      case h_2 => exact h.elim
      rename_i el sz by_ hix
      split at h
      case h_2 => exact h.elim
      rename_i hel
      obtain ⟨hd, _⟩ := ix_facts hok hix
      simp only at hd
      obtain ⟨d2, i2, hd2, hk2, _⟩ := lk_desc (Tab.lk_ok hok hel)
      have e2 : d2 = .int .u8 := by
        cases d2 <;> first | (have h9 : (IntKind.u8 == _) = true := hk2; rw [← eq_of_beq h9]) | exact Bool.noConfusion (show false = true from hk2)
      subst e2
      cases hstr : isStr P dst with
      | false => rw [hstr] at h; exact h.elim
      | true =>
      rw [hstr] at h
      simp only [cond_true] at h
      have hds : P.underlying dst = some .string := by
        unfold isStr at hstr
        split at hstr
        · assumption
        · simp at hstr
      obtain ⟨v, hv, h⟩ := ovl_some h
      unfold sl2 at h
      split at h
      case h_2 => exact h.elim
      rename_i a l c
      obtain ⟨b, hb, h⟩ := run_str w _ src dst el hd hd2 hds ⟨a, l, c⟩ h
      refine good_value (v := .string b) ?_ (Same.refl _) h
      simp only [execOp, ho, ha.at_ _ _ hv, Sem.run_bind, Sem.run_pure] at hb ⊢
      rw [hb]; rfl
    · exact h.elim
  case makeFunc fn first cap =>
    split at h
    case h_2 => exact h.elim
    rename_i f c hf hc
    have e1 : first.map ρ = f.toArray := by apply Array.ext'; simp [← looks_get ha hf]
    have e2 : cap.map ρ = c.toArray := by apply Array.ext'; simp [← looks_get ha hc]
    exact good_value (by simp only [execOp, ho, Instr.makeFunc, e1, e2, Sem.run_bind, Sem.run_pure, Result.andThen_ok]) (Same.refl _) h
  case makeSlice t l c =>
    obtain ⟨v, hv, h⟩ := ovl_some h
    obtain ⟨v2, hv2, h⟩ := ovl_some h
    obtain ⟨r, w', h1, h2, h3⟩ := evMk_ok hok w h
    exact good_value (by simp [execOp, ho, ha.at_ _ _ hv, ha.at_ _ _ hv2, h1]) h2 h3
  case slice t x lo hi mx =>
    split at h
    case h_2 => exact h.elim
    split at h
    case h_2 => exact h.elim
    rename_i l u hl hu
    obtain ⟨v, hv, h⟩ := ovl_some h
    obtain ⟨r, h1, h⟩ := evSlice_ok hok w h
    exact good_value (by simp only [execOp, ho, ha.at_ _ _ hv, opt_get ha hl, opt_get ha hu, Option.map_none, h1, Sem.run_bind, Sem.run_pure, Result.andThen_ok]) (Same.refl _) h
  case fieldAddr t x f =>
    split at h
    case h_2 => exact h.elim
    rename_i a hx
    split at h
    case h_2 => exact h.elim
    rename_i off hf
    exact good_value (by simp only [execOp, ho, ha.at_ _ _ hx, run_fieldAt w (Tab.fo_ok hok hf), Sem.run_bind, Sem.run_pure, Result.andThen_ok]) (Same.refl _) h
  case indexAddr t x i =>
    obtain ⟨v, hv, h⟩ := ovl_some h
    obtain ⟨v2, hv2, h⟩ := ovl_some h
    obtain ⟨r, h1, h⟩ := evIdx_ok hok w h
    exact good_value (by simp [execOp, ho, ha.at_ _ _ hv, ha.at_ _ _ hv2, h1]) (Same.refl _) h
  case index t x i =>
    obtain ⟨v, hv, h⟩ := ovl_some h
    obtain ⟨v2, hv2, h⟩ := ovl_some h
    split at h
    case h_2 => exact h.elim
    rename_i ix hix
    obtain ⟨r, h1, h⟩ := evIxV_ok hok w (fun q hq => by simp only [Option.some.injEq] at hq; subst hq; exact hix) (fun q k hq hk => by simp only [Option.some.injEq] at hq; subst hq; exact Tab.lk_ok hok hk) h
    exact good_value (by simp [execOp, ho, ha.at_ _ _ hv, ha.at_ _ _ hv2, h1]) (Same.refl _) h
  case extract x i =>
    split at h
    case h_2 => exact h.elim
    rename_i vs hx
    obtain ⟨v, hv, h⟩ := ovl_some h
    have hv' : vs[i]? = some v := by rw [← hv]; simp
    exact good_value (by simp [execOp, ho, ha.at_ _ _ hx, Instr.extract, hv']) (Same.refl _) h
  case call c => exact evCall_ok hok ha w o c ho h

end Go.Proofs.Ytfijchofplkcoaa
