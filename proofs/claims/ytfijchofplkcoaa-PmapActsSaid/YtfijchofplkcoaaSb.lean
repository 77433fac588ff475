/-
  What one operation of the translated program does, as a predicate over the heap; and that it does so.
-/
import Derived.Test.YtfijchofplkcoaaSa
set_option linter.unusedVariables false
set_option linter.unusedSimpArgs false
namespace Go.Proofs.Ytfijchofplkcoaa

structure Ent (P : Program) where
  num : Nat
  sem : List Value → (Value → H → Prop) → H → Prop
  has : ∃ fn, P.funcs[num]? = some fn ∧ (fn.name == "runtime.NumGoroutine") = false ∧ fn.body.isNone = false
  ok : ∀ args K w, sem args K w.heap → Calls P num args.toArray w (fun e w' => ∃ v, e = .returned v ∧ Same w w' ∧ K v w'.heap)

abbrev Sto := List (Nat × Value)
def look (s : Sto) (x : Operand) : Option Value :=
  match x with
  | .tmp t => find1 s t
  | .const v => some v
  | .global g => some (.pointer (some ⟨g, 0, none⟩))
  | .func f => some (.func (.func f) #[] #[])
def ovl (o : Option Value) (f : Value → Prop) : Prop := match o with | some v => f v | none => False
def looks (s : Sto) : List Operand → Option (List Value)
  | [] => some []
  | x :: r => match look s x, looks s r with | some v, some vs => some (v :: vs) | _, _ => none

def bAnd (k : IntKind) (a b : Int) : Int := k.wrap ((BitVec.ofInt k.bits a &&& BitVec.ofInt k.bits b).toNat : Int)
def bOr (k : IntKind) (a b : Int) : Int := k.wrap ((BitVec.ofInt k.bits a ||| BitVec.ofInt k.bits b).toNat : Int)
def bXor (k : IntKind) (a b : Int) : Int := k.wrap ((BitVec.ofInt k.bits a ^^^ BitVec.ofInt k.bits b).toNat : Int)
def bAndNot (k : IntKind) (a b : Int) : Int := k.wrap ((BitVec.ofInt k.bits a &&& ~~~ BitVec.ofInt k.bits b).toNat : Int)
def shL (k : IntKind) (a b : Int) : Int := k.wrap (a * 2 ^ (min b.toNat k.bits))
def shR (k : IntKind) (a b : Int) : Int := a.fdiv (2 ^ (min b.toNat k.bits))

def evInt (op : BinOp) (k k' : IntKind) (a b : Int) (K : Value → Prop) : Prop :=
  match op with
  | .shl => Asr (0 ≤ b) (K (.int k (shL k a b)))
  | .shr => Asr (0 ≤ b) (K (.int k (shR k a b)))
  | op => if k = k' then
    match op with
    | .add => K (.int k (k.wrap (a + b)))
    | .sub => K (.int k (k.wrap (a - b)))
    | .mul => K (.int k (k.wrap (a * b)))
    | .quo => Asr (b ≠ 0) (K (.int k (k.wrap (a.tdiv b))))
    | .rem => Asr (b ≠ 0) (K (.int k (a.tmod b)))
    | .and => K (.int k (bAnd k a b))
    | .or => K (.int k (bOr k a b))
    | .xor => K (.int k (bXor k a b))
    | .andNot => K (.int k (bAndNot k a b))
    | .eql => K (.bool (a == b))
    | .neq => K (.bool (a != b))
    | .lss => K (.bool (decide (a < b)))
    | .leq => K (.bool (decide (a ≤ b)))
    | .gtr => K (.bool (decide (a > b)))
    | .geq => K (.bool (decide (a ≥ b)))
    | _ => False
    else False

theorem evInt_ok {P : Program} {op : BinOp} {k k' : IntKind} {a b : Int} {K : Value → Prop} (t : TypeId) (w : World) (h : evInt op k k' a b K) :
    ∃ v, (binOp op t (.int k a) (.int k' b)).run P w = .ok v w ∧ K v := by
  cases op <;> simp only [evInt] at h
  case shl => exact ⟨_, by simp [binOp, Op.shift, Int.not_lt.2 h.1]; rfl, h.2⟩
  case shr => exact ⟨_, by simp [binOp, Op.shift, Int.not_lt.2 h.1]; rfl, h.2⟩
  all_goals
    split at h
    case isFalse => exact h.elim
    rename_i hk
    subst hk
    first
      | (refine ⟨_, ?_, h⟩; (first | rfl | (simp [binOp, Op.intArith, Op.intBits, Op.intCmp, bAnd, bOr, bXor, bAndNot]; done)))
      | (refine ⟨_, ?_, h.2⟩; simp [binOp, Op.intDiv, h.1]; done)


/-! Equality -/
def i64s : List Value → Bool
  | [] => true
  | .int .i64 _ :: r => i64s r
  | _ :: _ => false
def eqL : List Value → List Value → Bool
  | .int _ a :: r, .int _ b :: q => (a == b) && eqL r q
  | _, _ => true
def nOf : Value → Int
  | .int _ n => n
  | _ => 0
def eqR (xs ys : Array Value) : Bool := xs.toList.map nOf == ys.toList.map nOf
def IsRow (k : IntKind) (n : Nat) (xs : Array Value) : Prop := ∃ l : List Int, l.length = n ∧ xs = (l.map (Value.int k)).toArray

/-- Two values held against each other; 'lk': how their type lies in cells. -/
def evEq (lk : Option LK) (x y : Value) (K : Bool → Prop) : Prop :=
  match lk with
  | some (.leaf .b) => (match x, y with | .bool a, .bool b => K (a == b) | _, _ => False)
  | some (.leaf .p) => (match x, y with | .pointer p, .pointer none => K p.isNone | _, _ => False)
  | some (.leaf .s) => (match x, y with | .slice a _ _, .slice none _ _ => K a.isNone | _, _ => False)
  | some (.leaf .f) => (match x, y with | .func _ _ _, .nilFunc => K false | _, _ => False)
  | some (.row k n) => (match x, y with | .agg as, .agg bs => Asr (IsRow k n as ∧ IsRow k n bs) (K (eqR as bs)) | _, _ => False)
  | some (.agg ts) => (match x, y with | .agg as, .agg bs => (bif Nat.beq as.toList.length ts.length && Nat.beq bs.toList.length ts.length && i64s as.toList && i64s bs.toList then K (eqL as.toList bs.toList) else False) | _, _ => False)
  | none => (match x, y with | .string a, .string b => K (a.toList == b.toList) | _, _ => False)
  | _ => False

def isInt : Value → Bool
  | .int .. => true
  | _ => false
def evBin (lk : Option LK) (op : BinOp) (x y : Value) (K : Value → Prop) : Prop :=
  match x with
  | .int k a => (match y with | .int k' b => evInt op k k' a b K | _ => False)
  | x => match op with
    | .eql => evEq lk x y fun b => K (.bool b)
    | .neq => evEq lk x y fun b => K (.bool (!b))
    | _ => False

/-- What the table of types says of a type whose values are held against each other. -/
def eqOk (P : Program) (e : Nat × LK) : Bool :=
  match e.2 with
  | .agg ts => (match P.underlying e.1 with
    | some (.struct fs) => !P.stoodInHeld e.1 && (fs.toList.map (·.offset) == List.range ts.length) && fs.toList.all (fun f => f.name != "_" && (match P.underlying f.type with | some (.int _) => true | _ => false) && (match P.info? f.type with | some _ => true | none => false)) && !P.eqGuardType P.depth e.1
    | _ => false)
  | .row k n => (match P.underlying e.1 with
    | some (.array m el) => Nat.beq n m && (match P.underlying el with | some (.int _) => true | _ => false) && (match P.info? el with | some i => Nat.beq i.size 1 | none => false) && !P.eqGuardType P.depth e.1
    | _ => false)
  | _ => true

theorem i64s_get {l : List Value} (h : i64s l = true) {i : Nat} {v : Value} (hv : l[i]? = some v) : ∃ n, v = .int .i64 n := by
  induction l generalizing i with
  | nil => simp at hv
  | cons x r ih =>
    unfold i64s at h
    split at h
    · rename_i heq; simp at heq
    · rename_i n r' heq
      simp only [List.cons.injEq] at heq
      obtain ⟨rfl, rfl⟩ := heq
      cases i with
      | zero => simp at hv; exact ⟨_, hv.symm⟩
      | succ i => exact ih h (by simpa using hv)
    · simp at h

theorem run_part_int {P : Program} {e : TypeId} {k : IntKind} {cs : Array Value} {off : Nat} {v : Value} (w : World) (he : P.underlying e = some (.int k)) (hv : cs[off]? = some v) :
    (part e cs off).run P w = .ok v w := by
  simp [part, isAgg, run_underlying he, hv]

theorem run_eqFields {P : Program} (w : World) (d : Nat) (xs ys : Array Value) : ∀ (fs : List Field) (k : Nat) (xl yl : List Value),
    xl.length = fs.length → yl.length = fs.length → i64s xl = true → i64s yl = true →
    (∀ i, i < fs.length → xs[k + i]? = xl[i]?) → (∀ i, i < fs.length → ys[k + i]? = yl[i]?) →
    (∀ i f, fs[i]? = some f → f.offset = k + i) → (∀ f ∈ fs, (f.name != "_") = true ∧ ∃ kk, P.underlying f.type = some (.int kk)) →
    (Op.eqFields (d + 1) xs ys fs).run P w = .ok (eqL xl yl) w
  | [], k, xl, yl, hx, hy, _, _, _, _, _, _ => by
    have h1 := List.eq_nil_of_length_eq_zero hx
    have h2 := List.eq_nil_of_length_eq_zero hy
    subst h1; subst h2
    simp [Op.eqFields, eqL]
  | f :: fs, k, [], yl, hx, hy, _, _, _, _, _, _ => by simp at hx
  | f :: fs, k, _, [], hx, hy, _, _, _, _, _, _ => by simp at hy
  | f :: fs, k, x :: xl, y :: yl, hx, hy, ix, iy, gx, gy, ho, hf => by
    obtain ⟨a, rfl⟩ := i64s_get ix (i := 0) (by rfl)
    obtain ⟨b, rfl⟩ := i64s_get iy (i := 0) (by rfl)
    obtain ⟨hn, kk, hu⟩ := hf f List.mem_cons_self
    have h0 := ho 0 f (by rfl)
    have px := run_part_int (P := P) w hu (cs := xs) (off := f.offset) (v := .int .i64 a) (by rw [h0]; simpa using gx 0 (by simp))
    have py := run_part_int (P := P) w hu (cs := ys) (off := f.offset) (v := .int .i64 b) (by rw [h0]; simpa using gy 0 (by simp))
    have he := run_equalIn_int w d f.type .i64 kk a b hu
    have hn' : f.name ≠ "_" := by simpa using hn
    have ih := run_eqFields w d xs ys fs (k + 1) xl yl (by simpa using hx) (by simpa using hy) (by simpa [i64s] using ix) (by simpa [i64s] using iy)
      (fun i hi => by have := gx (i + 1) (by simp; omega); simpa [Nat.add_assoc, Nat.add_comm 1 i] using this)
      (fun i hi => by have := gy (i + 1) (by simp; omega); simpa [Nat.add_assoc, Nat.add_comm 1 i] using this)
      (fun i g hg => by have := ho (i + 1) g (by simpa using hg); omega)
      (fun g hg => hf g (List.mem_cons_of_mem _ hg))
    simp only [Op.eqFields, if_pos hn', Sem.run_bind, px, py, he, Result.andThen_ok, Sem.run_ite, Sem.run_pure, ih, eqL]
    cases (a == b) <;> simp


theorem run_eqItems {P : Program} (w : World) (d : Nat) (e : TypeId) (kk k : IntKind) (hu : P.underlying e = some (.int kk)) (xs ys : List Int) (o : Nat) (hl : xs.length = ys.length) :
    ∀ (m i : Nat), i + m = xs.length → (Op.eqItems (d + 1) e 1 (xs.map (Value.int k)).toArray (ys.map (Value.int k)).toArray (List.range' i m)).run P w = .ok (xs.drop i == ys.drop i) w
  | 0, i, h => by
    have h1 : xs.drop i = [] := List.drop_eq_nil_of_le (by omega)
    have h2 : ys.drop i = [] := List.drop_eq_nil_of_le (by omega)
    simp [Op.eqItems, h1, h2]
  | m + 1, i, h => by
    have hx : i < xs.length := by omega
    have hy : i < ys.length := by omega
    have px := run_part_int (P := P) w hu (cs := (xs.map (Value.int k)).toArray) (off := i * 1) (v := .int k xs[i]) (by simp [hx])
    have py := run_part_int (P := P) w hu (cs := (ys.map (Value.int k)).toArray) (off := i * 1) (v := .int k ys[i]) (by simp [hy])
    have he := run_equalIn_int w d e k kk xs[i] ys[i] hu
    have ih := run_eqItems w d e kk k hu xs ys o hl m (i + 1) (by omega)
    rw [List.drop_eq_getElem_cons hx, List.drop_eq_getElem_cons hy, List.cons_beq_cons]
    simp only [List.range'_succ, Op.eqItems, Sem.run_bind, px, py, he, Result.andThen_ok, Sem.run_ite, Sem.run_pure, ih]
    cases hb : (xs[i] == ys[i]) <;> simp only [Bool.not_true, Bool.not_false, Bool.false_eq_true, if_true, if_false, Bool.true_and, Bool.false_and]

theorem eqR_rows (k : IntKind) (xs ys : List Int) : eqR (xs.map (Value.int k)).toArray (ys.map (Value.int k)).toArray = (xs == ys) := by
  have : ∀ l : List Int, (l.map (Value.int k)).map nOf = l := fun l => by simp [nOf, Function.comp_def]
  simp only [eqR, this]

/-- The table's word on one type, as facts. -/
theorem lk_desc {P : Program} {t : Nat} {lk : LK} (h : lkOk P (t, lk) = true) : ∃ d i, P.underlying t = some d ∧ lkDesc lk d = true ∧ P.info? t = some i ∧ i.size = lk.size ∧ i.zero.isSome = true := by
  unfold lkOk at h
  simp only [Bool.and_eq_true] at h
  obtain ⟨h1, h2⟩ := h
  split at h1
  case h_2 => simp at h1
  rename_i d hd
  split at h2
  case h_2 => simp at h2
  rename_i i hi
  simp only [Bool.and_eq_true] at h2
  exact ⟨d, i, hd, h1, hi, Nat.eq_of_beq_eq_true h2.1, h2.2⟩

theorem run_eql_any {P : Program} (w : World) (t : TypeId) (x y : Value) (b : Bool) (hx : (∃ q, x = .bool q) ∨ (∃ q, x = .pointer q ∧ y = .pointer none) ∨ (∃ p q r, x = .slice p q r) ∨ (∃ p q r, x = .func p q r) ∨ (∃ p, x = .agg p)) (h : ∀ d, (Op.equalIn (d + 2) t x y).run P w = .ok b w) :
    (binOp .eql t x y).run P w = .ok (.bool b) w ∧ (binOp .neq t x y).run P w = .ok (.bool (!b)) w := by
  have h' : (Op.equal t x y).run P w = .ok b w := by simpa [Op.equal, Op.maxDepth] using h 9998
  rcases hx with ⟨q, rfl⟩ | ⟨q, rfl, rfl⟩ | ⟨p, q, r, rfl⟩ | ⟨p, q, r, rfl⟩ | ⟨p, rfl⟩ <;>
    (simp only [binOp, Sem.run_bind, h', Result.andThen_ok, Sem.run_pure, and_self])

theorem run_eq_ptr {P : Program} (w : World) (d : Nat) (t e : TypeId) (p : Option Addr) (h : P.underlying t = some (.pointer e)) : (Op.equalIn (d + 1) t (.pointer p) (.pointer none)).run P w = .ok p.isNone w := by
  cases p <;> simp only [Op.equalIn, Sem.run_bind, run_underlying h, Result.andThen_ok] <;> rfl
theorem run_eq_sl {P : Program} (w : World) (d : Nat) (t e : TypeId) (a : Option Addr) (l1 c1 l2 c2 : Nat) (h : P.underlying t = some (.slice e)) : (Op.equalIn (d + 1) t (.slice a l1 c1) (.slice none l2 c2)).run P w = .ok a.isNone w := by
  cases a <;> simp only [Op.equalIn, Sem.run_bind, run_underlying h, Result.andThen_ok] <;> rfl
theorem run_eq_fn {P : Program} (w : World) (d : Nat) (t : TypeId) (x y : Array TypeId) (v : Bool) (f1 : Fn) (f2 f3 : Array Value) (h : P.underlying t = some (.func x y v)) : (Op.equalIn (d + 1) t (.func f1 f2 f3) .nilFunc).run P w = .ok false w := by
  simp only [Op.equalIn, Sem.run_bind, run_underlying h, Result.andThen_ok]; rfl
set_option maxHeartbeats 1000000 in
theorem evEq_ok {P : Program} {lk : Option LK} {t : Nat} {x y : Value} {K : Bool → Prop} (w : World) (hlk : ∀ k, lk = some k → lkOk P (t, k) = true ∧ eqOk P (t, k) = true) (h : evEq lk x y K) :
    ∃ b, (binOp .eql t x y).run P w = .ok (.bool b) w ∧ (binOp .neq t x y).run P w = .ok (.bool (!b)) w ∧ K b ∧
      (∀ op X Y, (eqGuard op t X Y x y).run P w = .ok () w) := by
  unfold evEq at h
  split at h
  · -- bools
    split at h
    case h_2 => exact h.elim
    rename_i a b
    obtain ⟨d, i, hd, hk, _⟩ := lk_desc (hlk _ rfl).1
    cases d <;> simp [lkDesc] at hk
    have e := run_eql_any (P := P) w t (.bool a) (.bool b) (a == b) (.inl ⟨_, rfl⟩) (fun dd => run_equalIn_bool w (dd + 1) t _ _ hd)
    exact ⟨_, e.1, e.2, h, fun op X Y => by cases op <;> simp [eqGuard]⟩
  · split at h
    case h_2 => exact h.elim
    rename_i p
    obtain ⟨d, i, hd, hk, _⟩ := lk_desc (hlk _ rfl).1
    cases d <;> simp [lkDesc] at hk
    have e := run_eql_any (P := P) w t (.pointer p) (.pointer none) p.isNone (.inr (.inl ⟨_, rfl, rfl⟩)) (fun dd => run_eq_ptr w (dd + 1) t _ p hd)
    exact ⟨_, e.1, e.2, h, fun op X Y => by cases op <;> simp [eqGuard]⟩
  · split at h
    case h_2 => exact h.elim
    rename_i a l1 c1 l2 c2
    obtain ⟨d, i, hd, hk, _⟩ := lk_desc (hlk _ rfl).1
    cases d <;> simp [lkDesc] at hk
    have e := run_eql_any (P := P) w t (.slice a l1 c1) (.slice none l2 c2) a.isNone (.inr (.inr (.inl ⟨_, _, _, rfl⟩))) (fun dd => run_eq_sl w (dd + 1) t _ a l1 c1 l2 c2 hd)
    exact ⟨_, e.1, e.2, h, fun op X Y => by cases op <;> simp [eqGuard]⟩
  · split at h
    case h_2 => exact h.elim
    rename_i f1 f2 f3
    obtain ⟨d, i, hd, hk, _⟩ := lk_desc (hlk _ rfl).1
    cases d <;> simp [lkDesc] at hk
    have e := run_eql_any (P := P) w t (.func f1 f2 f3) .nilFunc false (.inr (.inr (.inr (.inl ⟨_, _, _, rfl⟩)))) (fun dd => run_eq_fn w (dd + 1) t _ _ _ f1 f2 f3 hd)
    exact ⟨_, e.1, e.2, h, fun op X Y => by cases op <;> simp [eqGuard]⟩
  · -- rows
    split at h
    case h_2 => exact h.elim
    rename_i k n _ _ as bs
    obtain ⟨⟨⟨xs, hx, rfl⟩, ⟨ys, hy, rfl⟩⟩, hK⟩ := h
    have hq := (hlk _ rfl).2
    unfold eqOk at hq
    simp only at hq
    split at hq
    case h_2 => simp at hq
    rename_i m el hd
    simp only [Bool.and_eq_true, Bool.not_eq_true'] at hq
    obtain ⟨⟨⟨hm, hu⟩, hsz⟩, hg⟩ := hq
    have hm' : n = m := Nat.eq_of_beq_eq_true hm
    subst hm'
    split at hu
    case h_2 => simp at hu
    rename_i kk hu'
    split at hsz
    case h_2 => simp at hsz
    rename_i i hi
    have hsz' : i.size = 1 := Nat.eq_of_beq_eq_true hsz
    have hc : P.cellsOf el = 1 := by simp [Program.cellsOf, hi, hsz']
    have e := run_eql_any (P := P) w t (.agg (xs.map (Value.int k)).toArray) (.agg (ys.map (Value.int k)).toArray) (xs == ys) (.inr (.inr (.inr (.inr ⟨_, rfl⟩)))) (fun dd => by
      rw [run_equalIn_array w (dd + 1) _ _ hd hi, hc, List.range_eq_range', run_eqItems w dd el kk k hu' xs ys 0 (by omega) n 0 (by omega)]
      simp)
    rw [eqR_rows] at hK
    exact ⟨_, e.1, e.2, hK, fun op X Y => run_eqGuard_agg w op t X Y _ _ hg⟩
  · -- structs
    split at h
    case h_2 => exact h.elim
    rename_i ts _ _ as bs
    cases hc : (Nat.beq as.toList.length ts.length && Nat.beq bs.toList.length ts.length && i64s as.toList && i64s bs.toList) with
    | false => rw [hc] at h; exact h.elim
    | true =>
    rw [hc] at h
    simp only [Bool.and_eq_true] at hc
    obtain ⟨⟨⟨ha, hb⟩, hia⟩, hib⟩ := hc
    have ha' := Nat.eq_of_beq_eq_true ha
    have hb' := Nat.eq_of_beq_eq_true hb
    have hq := (hlk _ rfl).2
    unfold eqOk at hq
    simp only at hq
    split at hq
    case h_2 => simp at hq
    rename_i fs hd
    simp only [Bool.and_eq_true, Bool.not_eq_true', List.all_eq_true] at hq
    obtain ⟨⟨⟨hst, hof⟩, hall⟩, hg⟩ := hq
    have hof' : fs.toList.map (·.offset) = List.range ts.length := by simpa using hof
    have hlen : fs.toList.length = ts.length := by have := congrArg List.length hof'; simpa using this
    have hfo : P.fieldsOf t = fs := by simp [Program.fieldsOf, hd]
    have e := run_eql_any (P := P) w t (.agg as) (.agg bs) (eqL as.toList bs.toList) (.inr (.inr (.inr (.inr ⟨_, rfl⟩)))) (fun dd => by
      rw [run_equalIn_struct w (dd + 1) t as bs (by rw [hfo]; exact hd) hst, hfo]
      refine run_eqFields w dd as bs fs.toList 0 as.toList bs.toList (by omega) (by omega) hia hib (fun i _ => by simp) (fun i _ => by simp) (fun i f hf => ?_) (fun f hf => ?_)
      · have h1 : (fs.toList.map (·.offset))[i]? = some f.offset := by rw [List.getElem?_map, hf]; rfl
        rw [hof', List.getElem?_range] at h1
        · simp at h1; omega
        · rw [← hlen]; exact (List.getElem?_eq_some_iff.1 hf).1
      · have h1 := hall f hf
        obtain ⟨⟨h1, h2⟩, h3⟩ := h1
        refine ⟨h1, ?_⟩
        split at h2
        · rename_i kk hk; exact ⟨kk, hk⟩
        · simp at h2)
    exact ⟨_, e.1, e.2, h, fun op X Y => run_eqGuard_agg w op t X Y _ _ hg⟩
  · split at h
    case h_2 => exact h.elim
    exact ⟨_, by simp [binOp, Op.stringOp], by simp [binOp, Op.stringOp], h, fun op X Y => by cases op <;> simp [eqGuard]⟩
  · exact h.elim

theorem evBin_ok {P : Program} {lk : Option LK} {op : BinOp} {t : Nat} {x y : Value} {K : Value → Prop} (w : World) (hlk : ∀ k, lk = some k → lkOk P (t, k) = true ∧ eqOk P (t, k) = true) (h : evBin lk op x y K) :
    ∃ v, (∀ X Y, (do eqGuard op t X Y x y; binOp op t x y : Sem Value).run P w = .ok v w) ∧ K v := by
  unfold evBin at h
  split at h
  · split at h
    case h_2 => exact h.elim
    obtain ⟨v, hv, hK⟩ := evInt_ok (P := P) t w h
    refine ⟨v, fun X Y => ?_, hK⟩
    have hg : ∀ k a k' b, (eqGuard op t X Y (.int k a) (.int k' b)).run P w = .ok () w := fun k a k' b => by cases op <;> simp [eqGuard]
    rw [Sem.run_bind, hg, Result.andThen_ok, hv]
  · split at h
    · obtain ⟨b, h1, _, hK, hg⟩ := evEq_ok w hlk h
      exact ⟨_, fun X Y => by rw [Sem.run_bind, hg, Result.andThen_ok, h1], hK⟩
    · obtain ⟨b, _, h1, hK, hg⟩ := evEq_ok w hlk h
      exact ⟨_, fun X Y => by rw [Sem.run_bind, hg, Result.andThen_ok, h1], hK⟩
    · exact h.elim

end Go.Proofs.Ytfijchofplkcoaa
