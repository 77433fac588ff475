/-
  Slices, append, copy, make: what they do to the heap.
-/
import Derived.Test.YtfijchofplkcoaaSc
set_option linter.unusedVariables false
set_option linter.unusedSimpArgs false
namespace Go.Proofs.Ytfijchofplkcoaa

/-- What is known of a slice's or an array's type: the array's length; the element's type, its cells, its bytes. -/
structure Ix where
  n : Option Nat
  el : Nat
  size : Nat
  bytes : Nat
def ixOf (tb : Tab) (t : Nat) : Option Ix := match find1 tb.ix t with | some (n, el, sz, by_) => some ⟨n, el, sz, by_⟩ | none => none

def IdxS (base : Option Addr) (len : Nat) (i : Int) (K : Addr → Prop) : Prop := match base with | some a => (0 ≤ i ∧ i < len) ∧ K a | none => False
def IdxA (n : Nat) (i : Int) (K : Prop) : Prop := (0 ≤ i ∧ i < n) ∧ K
def evIdx (ix : Option Ix) (x i : Value) (K : Value → Prop) : Prop :=
  match ix with
  | some ix => (match i with
    | .int _ i => (match ix.n with
      | none => (match x with | .slice base len _ => IdxS base len i fun a => K (.pointer (some (a.add (i.toNat * ix.size)))) | _ => False)
      | some n => (match x with | .pointer (some a) => IdxA n i (K (.pointer (some (a.add (i.toNat * ix.size))))) | _ => False))
    | _ => False)
  | none => False

def ptrsOf : List Value → Option (List (Option Addr))
  | [] => some []
  | .pointer p :: r => (match ptrsOf r with | some l => some (p :: l) | none => none)
  | _ :: _ => none
def intsOf (k : IntKind) : List Value → Option (List Int)
  | [] => some []
  | .int k' n :: r => (match intsOf k r with | some l => if k = k' then some (n :: l) else none | none => none)
  | _ :: _ => none
/-- An element of an array's value. -/
def evIxV (el : Option LK) (ix : Option Ix) (x i : Value) (K : Value → Prop) : Prop :=
  match ix, i, x with
  | some ⟨some n, _, 1, _⟩, .int _ i, .agg cs => (match el with
    | some (.leaf .p) => (match ptrsOf cs.toList with | some ps => (bif Nat.beq ps.length n then IdxA n i (K (.pointer (ps.getD i.toNat none))) else False) | none => False)
    | some (.leaf (.i k)) => (match intsOf k cs.toList with | some ps => (bif Nat.beq ps.length n then IdxA n i (K (.int k (ps.getD i.toNat 0))) else False) | none => False)
    | _ => False)
  | _, _, _ => False

/-- A slice's part; the array's own address is kept where nothing is behind. -/
def subA (a : Option Addr) (l m size : Nat) : Option Addr := if m = l then a else a.map (·.add (l * size))
def SlP (s : Sl) (lo hi : Int) (size : Nat) (K : Sl → Prop) : Prop :=
  (0 ≤ lo ∧ lo ≤ hi ∧ hi ≤ s.cap) ∧ K ⟨subA s.a lo.toNat s.cap size, hi.toNat - lo.toNat, s.cap - lo.toNat⟩
def bound (v : Option Value) (d : Int) : Option Int := match v with | none => some d | some (.int _ n) => some n | some _ => none
def evSlice (ix : Option Ix) (x : Value) (lo hi : Option Value) (K : Value → Prop) : Prop :=
  match ix with
  | some ix => (match ix.n with
    | none => (match x with
      | .slice a len cap => (match bound lo 0, bound hi len with | some l, some h => SlP ⟨a, len, cap⟩ l h ix.size fun s => K (.slice s.a s.len s.cap) | _, _ => False)
      | _ => False)
    | some n => (match x with
      | .pointer (some a) => (match bound lo 0, bound hi n with | some l, some h => SlP ⟨some a, n, n⟩ l h ix.size fun s => K (.slice s.a s.len s.cap) | _, _ => False)
      | _ => False))
  | none => False

/-- Cells of a zero value, n times over. -/
def zerosC (P : Program) (el n : Nat) : Array Value := (Array.range (n * (zeroC P el).size)).map fun i => (zeroC P el)[i % (zeroC P el).size]!
def Mk (P : Program) (ix : Ix) (h : H) (n c : Int) (K : Sl → H → Prop) : Prop :=
  (0 ≤ n ∧ n ≤ c ∧ ix.bytes * c ≤ 140737488355328) ∧ Nw h (zerosC P ix.el c.toNat) ix.el fun a h' => K ⟨some a, n.toNat, c.toNat⟩ h'
def evMk (P : Program) (ix : Option Ix) (h : H) (n c : Value) (K : Value → H → Prop) : Prop :=
  match ix with
  | some ix => (match ix.n with
    | none => (match n with | .int _ n => (match c with | .int _ c => Mk P ix h n c fun s h' => K (.slice s.a s.len s.cap) h' | _ => False) | _ => False)
    | some _ => False)
  | none => False

/-- Reading a slice's first cells. -/
def RdSl (h : H) (a : Option Addr) (n : Nat) (vs : List Value) : Prop := vs.length = n ∧ Reads h a vs ∧ (∀ v ∈ vs, v.oneCell' = true)
def App (P : Program) (ix : Ix) (h : H) (s x : Sl) (K : Sl → H → Prop) : Prop :=
  ∃ news : List Value, RdSl h x.a (x.len * ix.size) news ∧
    ((s.len + x.len ≤ s.cap ∧ (∀ a, s.a = some a → (∀ j, j < news.length → (∃ u, hcell h ((a.add (s.len * ix.size)).add j) = some u) ∧ hfroz h ((a.add (s.len * ix.size)).add j) = false)) ∧
        K ⟨s.a, s.len + x.len, s.cap⟩ (match s.a with | some a => hsetL h (a.add (s.len * ix.size)) 0 news | none => h)) ∨
     (s.cap < s.len + x.len ∧ (s.len + x.len) * ix.bytes ≤ 140737488355328 ∧ ∃ olds : List Value, RdSl h s.a (s.len * ix.size) olds ∧
        ∀ cap, s.len + x.len ≤ cap → K ⟨some ⟨h.size, 0, none⟩, s.len + x.len, cap⟩ (newB h (olds.toArray ++ news.toArray ++ zerosC P ix.el (cap - (s.len + x.len))) ix.el)))
def Cpy (ix : Ix) (h : H) (d s : Sl) (K : Int → H → Prop) : Prop :=
  ∃ cs : List Value, RdSl h s.a (min s.len d.len * ix.size) cs ∧ (∀ a, d.a = some a → Wr h a cs.length) ∧
    K (min s.len d.len : Nat) (match d.a with | some a => hsetL h a 0 cs | none => h)

/-- The bytes of a slice as a string. -/
def LdStr (h : H) (s : Sl) (K : ByteArray → Prop) : Prop :=
  ∃ xs : List Int, xs.length = s.len ∧ Reads h s.a (xs.map (Value.int .u8)) ∧ K (strOfNums xs)

theorem ix_facts {P : Program} {tb : Tab} (hok : tb.ok P = true) {t : Nat} {ix : Ix} (h : ixOf tb t = some ix) :
    (match ix.n with | none => P.underlying t = some (.slice ix.el) | some n => P.underlying t = some (.array n ix.el)) ∧
    ∃ i, P.info? ix.el = some i ∧ i.size = ix.size ∧ i.bytes = ix.bytes ∧ (∃ z, i.zero = some z ∧ zeroC P ix.el = z.cells ∧ z.cells.size = ix.size) ∧ ix.size ≠ 0 ∧ ix.bytes ≠ 0 := by
  unfold ixOf at h
  split at h
  case h_2 => simp at h
  rename_i n el sz by_ hf
  simp only [Option.some.injEq] at h
  subst h
  have hm := find1_mem hf
  unfold Tab.ok at hok
  simp only [Bool.and_eq_true, List.all_eq_true] at hok
  have h1 := hok.1.2 _ hm
  unfold ixOk at h1
  simp only [Bool.and_eq_true] at h1
  obtain ⟨h1, h2⟩ := h1
  split at h2
  case h_2 => simp at h2
  rename_i i hi
  simp only [Bool.and_eq_true, Bool.not_eq_true'] at h2
  obtain ⟨⟨⟨⟨q1, q2⟩, q3⟩, q4⟩, q5⟩ := h2
  refine ⟨?_, i, hi, Nat.eq_of_beq_eq_true q1, Nat.eq_of_beq_eq_true q2, ?_, ?_, ?_⟩
  · cases n with
    | none =>
      cases hd : P.underlying t with
      | none => rw [hd] at h1; simp at h1
      | some d =>
        rw [hd] at h1
        cases d <;> first | (simp at h1; done) | (have he := Nat.eq_of_beq_eq_true h1; simp only at he ⊢; rw [he])
    | some n =>
      cases hd : P.underlying t with
      | none => rw [hd] at h1; simp at h1
      | some d =>
        rw [hd] at h1
        cases d <;> first | (simp at h1; done) | (simp only [Bool.and_eq_true] at h1; have he := Nat.eq_of_beq_eq_true h1.2; have hm := Nat.eq_of_beq_eq_true h1.1; simp only at he hm ⊢; rw [he, hm])
  · split at q3
    case h_2 => simp at q3
    rename_i z hz
    exact ⟨z, hz, by simp [zeroC, hi, hz], (Nat.eq_of_beq_eq_true q3).trans (Nat.eq_of_beq_eq_true q1)⟩
  · intro e
    have := Nat.eq_of_beq_eq_true q1
    rw [this, show sz = 0 from e] at q4; simp at q4
  · intro e
    have := Nat.eq_of_beq_eq_true q2
    rw [this, show by_ = 0 from e] at q5; simp at q5

theorem evIdx_ok {P : Program} {tb : Tab} (hok : tb.ok P = true) {t : Nat} {x i : Value} {K : Value → Prop} (w : World) (h : evIdx (ixOf tb t) x i K) :
    ∃ v, (Instr.indexAt t x i).run P w = .ok v w ∧ K v := by
  unfold evIdx at h
  split at h
  case h_2 => exact h.elim
  rename_i ix hix
  obtain ⟨hd, inf, hi, hs, hb, _⟩ := ix_facts hok hix
  have hsz : (sizeOf ix.el).run P w = .ok ix.size w := by rw [run_sizeOf w hi]; simp [Program.cellsOf, hi, hs]
  split at h
  case h_2 => exact h.elim
  rename_i k n
  split at h
  · rename_i hn
    rw [hn] at hd
    split at h
    case h_2 => exact h.elim
    rename_i base len cap
    cases base with
    | none => exact h.elim
    | some a =>
      obtain ⟨hr, hK⟩ := h
      exact ⟨_, by simp [Instr.indexAt, asIntOf, run_underlying hd, hr, hsz], hK⟩
  · rename_i m hn
    rw [hn] at hd
    split at h
    case h_2 => exact h.elim
    rename_i a
    obtain ⟨hr, hK⟩ := h
    exact ⟨_, by simp [Instr.indexAt, asIntOf, run_underlying hd, hr, hsz, Instr.sureAddr], hK⟩

theorem sliceBound_run {P : Program} (w : World) (k : IntKind) (n : Int) (y : Nat) (c : BoundsCode) (h0 : 0 ≤ n) (h1 : n ≤ y) : (Instr.sliceBound (.int k n) y c).run P w = .ok n.toNat w := by
  simp [Instr.sliceBound, asIntOf, h0, h1]

theorem sliceBounds_run {P : Program} (w : World) (b : Bool) (len cap : Nat) (lo hi : Option Value) (l h : Int) (hl : bound lo 0 = some l) (hh : bound hi len = some h) (h0 : 0 ≤ l) (h1 : l ≤ h) (h2 : h ≤ cap) :
    (Instr.sliceBounds b len cap lo hi none).run P w = .ok (l.toNat, h.toNat, cap) w := by
  cases lo with
  | none =>
    simp only [bound, Option.some.injEq] at hl
    subst hl
    cases hi with
    | none =>
      simp only [bound, Option.some.injEq] at hh
      subst hh
      simp [Instr.sliceBounds]
    | some v =>
      cases v <;> simp only [bound, Option.some.injEq, reduceCtorEq] at hh
      subst hh
      rename_i k n
      have h5 := fun c => sliceBound_run (P := P) w k n cap c (by omega) h2
      simp [Instr.sliceBounds, h5]
  | some u =>
    cases u <;> simp only [bound, Option.some.injEq, reduceCtorEq] at hl
    subst hl
    rename_i k2 n2
    cases hi with
    | none =>
      simp only [bound, Option.some.injEq] at hh
      subst hh
      have h6 := fun c => sliceBound_run (P := P) w k2 n2 len c h0 h1
      simp [Instr.sliceBounds, h6]
    | some v =>
      cases v <;> simp only [bound, Option.some.injEq, reduceCtorEq] at hh
      subst hh
      rename_i k n
      have h5 := fun c => sliceBound_run (P := P) w k n cap c (by omega) h2
      have h6 := fun c => sliceBound_run (P := P) w k2 n2 n.toNat c h0 (by omega)
      simp [Instr.sliceBounds, h5, h6]

theorem evSlice_ok {P : Program} {tb : Tab} (hok : tb.ok P = true) {t : Nat} {x : Value} {lo hi : Option Value} {K : Value → Prop} (w : World) (h : evSlice (ixOf tb t) x lo hi K) :
    ∃ v, (Instr.sliceAt t x lo hi none).run P w = .ok v w ∧ K v := by
  unfold evSlice at h
  split at h
  case h_2 => exact h.elim
  rename_i ix hix
  obtain ⟨hd, inf, hinf, hs, hb, _⟩ := ix_facts hok hix
  have hsz : (sizeOf ix.el).run P w = .ok ix.size w := by rw [run_sizeOf w hinf]; simp [Program.cellsOf, hinf, hs]
  split at h
  · rename_i hn
    rw [hn] at hd
    split at h
    case h_2 => exact h.elim
    rename_i a len cap
    split at h
    case h_2 => exact h.elim
    rename_i l hh hl hhh
    obtain ⟨⟨h0, h1, h2⟩, hK⟩ := h
    refine ⟨_, ?_, hK⟩
    have hb := sliceBounds_run (P := P) w true len cap lo hi l hh hl hhh h0 h1 h2
    simp [Instr.sliceAt, Instr.slice, run_underlying hd, hb, hsz, subA]
  · rename_i n hn
    rw [hn] at hd
    split at h
    case h_2 => exact h.elim
    rename_i a
    split at h
    case h_2 => exact h.elim
    rename_i l hh hl hhh
    obtain ⟨⟨h0, h1, h2⟩, hK⟩ := h
    refine ⟨_, ?_, hK⟩
    have hb := sliceBounds_run (P := P) w false n n lo hi l hh hl hhh h0 h1 h2
    simp only [Instr.sliceAt, Sem.run_bind, run_underlying hd, Result.andThen_ok, Instr.sureAddr, Sem.run_pure, hb, hsz, subA]
    split <;> simp_all

theorem wrap_small (n : Int) (h0 : 0 ≤ n) (h1 : n ≤ 140737488355328) : IntKind.i64.wrap n = n := by
  rw [IntKind.wrap_i64]; omega

theorem evMk_ok {P : Program} {tb : Tab} (hok : tb.ok P = true) {t : Nat} {n c : Value} {K : Value → H → Prop} (w : World) (h : evMk P (ixOf tb t) w.heap n c K) :
    ∃ v w', (Instr.makeSlice t n c).run P w = .ok v w' ∧ Same w w' ∧ K v w'.heap := by
  unfold evMk at h
  split at h
  case h_2 => exact h.elim
  rename_i ix hix
  obtain ⟨hd, inf, hi, hs, hb, ⟨z, hz, hzc, hzs⟩, hs0, hb0⟩ := ix_facts hok hix
  split at h
  case h_2 => exact h.elim
  rename_i hn
  rw [hn] at hd
  split at h
  case h_2 => exact h.elim
  rename_i k1 n
  split at h
  case h_2 => exact h.elim
  rename_i k2 c
  obtain ⟨⟨h0, h1, h2⟩, hK⟩ := h
  have hc : c ≤ 140737488355328 := by
    have : (1 : Int) * c ≤ ix.bytes * c := Int.mul_le_mul_of_nonneg_right (by omega) (by omega)
    omega
  have hwn := wrap_small n h0 (by omega)
  have hwc := wrap_small c (by omega) hc
  have hbyt : (inf.bytes : Int) * c ≤ 281474976710656 := by rw [hb]; omega
  refine ⟨_, { w with heap := newB w.heap (zerosC P ix.el c.toNat) ix.el }, ?_, ⟨rfl, rfl, rfl⟩, hK⟩
  have hzv : (zeroValue ix.el).run P w = .ok z w := by simp [zeroValue, typeInfo, hi, hz]
  have hcells : ((Array.range (c.toNat * inf.size)).map fun i => (if c.toNat * inf.size = 0 then #[] else z.cells)[i % (if c.toNat * inf.size = 0 then (#[] : Array Value) else z.cells).size]!) = zerosC P ix.el c.toNat := by
    unfold zerosC
    rw [hzc, hzs, hs]
    by_cases he : c.toNat * ix.size = 0
    · rw [he]; simp
    · rw [if_neg he, hzs]
  simp only [Instr.makeSlice, Sem.run_bind, run_underlying hd, Result.andThen_ok, asInt, asIntOf, Sem.run_pure, Sem.run_map, typeInfo, run_program, hi, hwn, hwc]
  rw [if_neg (by simp; omega)]
  simp only [Sem.run_bind, run_askRoom, Result.andThen_ok, sizeOf, typeInfo, run_program, hi, Sem.run_pure]
  by_cases he : c.toNat * inf.size = 0
  · rw [if_pos he]
    simp only [if_pos he] at hcells
    simp only [newRow, Sem.run_bind, run_newObj, Result.andThen_ok, Sem.run_pure, hcells, newB]
  · rw [if_neg he]
    simp only [if_neg he] at hcells
    simp only [newRow, Sem.run_bind, hzv, run_newObj, Result.andThen_ok, Sem.run_pure, hcells, newB]

theorem hsetL_nil (h : H) (a : Addr) (i : Nat) : hsetL h a i [] = h := rfl
theorem run_storeCells_w {P : Program} (w : World) (a : Addr) (vs : List Value) (h1 : ∀ v ∈ vs, v.oneCell' = true) (hw : ∀ j, j < vs.length → (∃ u, hcell w.heap (a.add j) = some u) ∧ hfroz w.heap (a.add j) = false) :
    ∃ w', (storeCells a vs).run P w = .ok () w' ∧ Same w w' ∧ w'.heap = hsetL w.heap a 0 vs := by
  obtain ⟨w', h2, h3, h4⟩ := run_storeL (P := P) vs a 0 w (fun h => h = hsetL w.heap a 0 vs) h1 (Wr_StL vs w.heap a 0 _ (fun j hj => by rw [Nat.zero_add]; exact hw j hj) rfl)
  exact ⟨w', h2, h3, h4⟩

theorem run_first {P : Program} (w : World) (size n : Nat) (a : Option Addr) (len cap : Nat) (vs : List Value) (h : RdSl w.heap a (n * size) vs) :
    (Builtin.firstCells size n (.slice a len cap)).run P w = .ok vs.toArray w := by
  obtain ⟨hl, hr, _⟩ := h
  cases a with
  | none =>
    have : vs = [] := by
      cases vs with
      | nil => rfl
      | cons v r => obtain ⟨ad, h1, _⟩ := hr 0 v rfl; simp at h1
    subst this
    simp [Builtin.firstCells]
  | some a =>
    refine run_firstCells_some w size n a len cap vs hl (fun j v hv => ?_)
    obtain ⟨ad, h1, h2⟩ := hr j v hv
    simp only [Option.some.injEq] at h1
    subst h1
    exact h2

theorem nextslicecap_two (n c : Nat) (h : c < n) : Builtin.nextslicecap n c ≤ 2 * n := by
  unfold Builtin.nextslicecap
  split
  · omega
  split
  · omega
  rw [growBy_four]
  repeat' split
  all_goals omega

theorem run_append {P : Program} {t e : Nat} {inf : TypeInfo} {z : Value} (w : World) (K : Sl → H → Prop) (s x : Sl) (ix : Ix) (ty : TypeId) (hd : P.underlying t = some (.slice ix.el)) (hi : P.info? ix.el = some inf) (hs : inf.size = ix.size) (hb : inf.bytes = ix.bytes)
    (hz : inf.zero = some z) (hzc : zeroC P ix.el = z.cells) (hs0 : ix.size ≠ 0) (hb0 : ix.bytes ≠ 0) (h : App P ix w.heap s x K) :
    ∃ v w', (Builtin.append_ #[t, t] ty #[.slice s.a s.len s.cap, .slice x.a x.len x.cap]).run P w = .ok (.slice v.a v.len v.cap) w' ∧ Same w w' ∧ K v w'.heap := by
  obtain ⟨news, hnews, h⟩ := h
  have hfx := run_first (P := P) w ix.size x.len x.a x.len x.cap news hnews
  rcases h with ⟨hroom, hw, hK⟩ | ⟨hfull, hbyt, olds, holds, hK⟩
  · cases ha : s.a with
    | none =>
      rw [ha] at hK
      refine ⟨⟨none, s.len + x.len, s.cap⟩, w, ?_, Same.refl _, hK⟩
      simp [Builtin.append_, run_underlying hd, sizeOf, typeInfo, hi, hs, Builtin.lenOf, hroom, hfx]
    | some a =>
      rw [ha] at hK
      obtain ⟨w', h2, h3, h4⟩ := run_storeCells_w (P := P) w (a.add (s.len * ix.size)) news hnews.2.2 (hw a ha)
      refine ⟨⟨some a, s.len + x.len, s.cap⟩, w', ?_, h3, by rw [h4]; exact hK⟩
      simp [Builtin.append_, run_underlying hd, sizeOf, typeInfo, hi, hs, Builtin.lenOf, hroom, hfx, h2]
  · have hn : ¬ (s.len + x.len ≤ s.cap) := by omega
    have hlen : s.len + x.len ≤ 140737488355328 := Nat.le_trans (Nat.le_mul_of_pos_right _ (by omega)) hbyt
    have h63' : ¬ (9223372036854775807 < ((s.len : Int) + (x.len : Int))) := by omega
    have h48 : Builtin.nextslicecap (s.len + x.len) s.cap * inf.bytes ≤ 281474976710656 := by
      have h1 := Nat.mul_le_mul_right ix.bytes (nextslicecap_two (s.len + x.len) s.cap hfull)
      rw [Nat.mul_assoc] at h1
      rw [hb]; omega
    have h48' : ¬ (281474976710656 < Builtin.nextslicecap (s.len + x.len) s.cap * inf.bytes) := by omega
    have hold := run_first (P := P) w.drew ix.size s.len s.a s.len s.cap olds holds
    have hfx' := run_first (P := P) w.drew ix.size x.len x.a x.len x.cap news hnews
    have hcap : s.len + x.len ≤ grownCap w (s.len + x.len) s.cap ix.el := by simp [grownCap, Question.cut]
    have hz' : Builtin.zeroCells z.cells (grownCap w (s.len + x.len) s.cap ix.el - (s.len + x.len)) = zerosC P ix.el (grownCap w (s.len + x.len) s.cap ix.el - (s.len + x.len)) := by
      unfold Builtin.zeroCells zerosC
      rw [hzc]
    refine ⟨⟨some ⟨w.heap.size, 0, none⟩, s.len + x.len, grownCap w (s.len + x.len) s.cap ix.el⟩,
      w.drew.alloc (.cells (olds.toArray ++ news.toArray ++ zerosC P ix.el (grownCap w (s.len + x.len) s.cap ix.el - (s.len + x.len))) ix.el), ?_, ⟨rfl, rfl, rfl⟩, hK _ hcap⟩
    rw [← hz']
    simp [Builtin.append_, run_underlying hd, sizeOf, typeInfo, zeroValue, hi, hs, hz, Builtin.lenOf, hn, h63', h48', Question.forced, hold, hfx', newRow, grownCap]
    congr 2
    apply Array.ext'
    simp [List.append_assoc]

theorem run_cpy {P : Program} {t t2 : Nat} {inf : TypeInfo} (w : World) (K : Int → H → Prop) (d s : Sl) (ix : Ix) (ty : TypeId) (hd : P.underlying t = some (.slice ix.el)) (hi : P.info? ix.el = some inf) (hs : inf.size = ix.size) (h : Cpy ix w.heap d s K) :
    ∃ (n : Int) (w' : World), (Builtin.copy_ #[t, t2] ty #[.slice d.a d.len d.cap, .slice s.a s.len s.cap]).run P w = .ok (.int .i64 n) w' ∧ Same w w' ∧ K n w'.heap := by
  obtain ⟨cs, hcs, hw, hK⟩ := h
  have hmin : Nat.min s.len d.len = min s.len d.len := rfl
  have hfx := run_first (P := P) w ix.size (min s.len d.len) s.a s.len s.cap cs hcs
  cases ha : d.a with
  | none =>
    rw [ha] at hK
    refine ⟨_, w, ?_, Same.refl _, hK⟩
    simp [Builtin.copy_, run_underlying hd, sizeOf, typeInfo, hi, hs, Builtin.lenOf, hfx, hmin, goInt]
  | some a =>
    rw [ha] at hK
    obtain ⟨w', h2, h3, h4⟩ := run_storeCells_w (P := P) w a cs hcs.2.2 (hw a ha)
    refine ⟨_, w', ?_, h3, by rw [h4]; exact hK⟩
    simp [Builtin.copy_, run_underlying hd, sizeOf, typeInfo, hi, hs, Builtin.lenOf, hfx, hmin, goInt, h2]

theorem run_str {P : Program} (w : World) (K : ByteArray → Prop) (src dst e : Nat) (hs : P.underlying src = some (.slice e)) (he : P.underlying e = some (.int .u8)) (hd : P.underlying dst = some .string) (s : Sl) (h : LdStr w.heap s K) :
    ∃ b, (convert src dst (.slice s.a s.len s.cap)).run P w = .ok (.string b) w ∧ K b := by
  obtain ⟨xs, hl, hr, hK⟩ := h
  refine ⟨_, ?_, hK⟩
  cases ha : s.a with
  | none =>
    rw [ha] at hr
    have : xs = [] := by
      cases xs with
      | nil => rfl
      | cons v r => obtain ⟨ad, h1, _⟩ := hr 0 _ rfl; simp at h1
    subst this
    rw [run_convert_bytes_nil w src e hs he s.len s.cap dst hd]
    rfl
  | some a =>
    rw [ha] at hr
    have hl2 : (loadCells a s.len).run P w = .ok (xs.map (Value.int .u8)).toArray w := by
      have := run_loadCells_list (P := P) w a (xs.map (Value.int .u8)) (fun j v hj => by
        obtain ⟨ad, h1, h2⟩ := hr j v hj
        simp only [Option.some.injEq] at h1
        subst h1; exact h2)
      simpa [hl] using this
    rw [run_convert_bytes_string w src dst e _ s.len s.cap hs he hd, run_bytesToString w _ s.len s.cap xs hl2, foldl_push_bytes]
    simp [strOfNums, ByteArray.empty, ByteArray.emptyWithCapacity]
    rfl

theorem ptrsOf_get {l : List Value} {ps : List (Option Addr)} (h : ptrsOf l = some ps) : l = ps.map Value.pointer := by
  induction l generalizing ps with
  | nil => simp [ptrsOf] at h; subst h; rfl
  | cons x r ih =>
    cases x <;> simp only [ptrsOf, reduceCtorEq] at h
    split at h
    · rename_i l' hl'
      simp only [Option.some.injEq] at h; subst h
      rw [ih hl']; rfl
    · simp at h
theorem intsOf_get {k : IntKind} {l : List Value} {ps : List Int} (h : intsOf k l = some ps) : l = ps.map (Value.int k) := by
  induction l generalizing ps with
  | nil => simp [intsOf] at h; subst h; rfl
  | cons x r ih =>
    cases x <;> simp only [intsOf, reduceCtorEq] at h
    split at h
    · rename_i l' hl'
      split at h
      · rename_i hk
        simp only [Option.some.injEq] at h; subst h; subst hk
        rw [ih hl']; rfl
      · simp at h
    · simp at h

theorem run_part_leaf {P : Program} {e : TypeId} {d : TypeDesc} {cs : Array Value} {off : Nat} {v : Value} (w : World) (he : P.underlying e = some d) (hn : aggD d = false) (hv : cs[off]? = some v) :
    (part e cs off).run P w = .ok v w := by
  simp [part, run_isAgg_plain' he hn w, hv]

theorem evIxV_ok {P : Program} {tb : Tab} (hok : tb.ok P = true) {t : Nat} {ix : Option Ix} {el : Option LK} {x i : Value} {K : Value → Prop} (w : World) (hix : ∀ q, ix = some q → ixOf tb t = some q) (hel : ∀ q k, ix = some q → el = some k → lkOk P (q.el, k) = true) (h : evIxV el ix x i K) :
    ∃ v, (Instr.index t x i).run P w = .ok v w ∧ K v := by
  unfold evIxV at h
  split at h
  case h_2 => exact h.elim
  rename_i _ _ n el' by_ k i cs
  obtain ⟨hd, inf, hi, hs, hb, _⟩ := ix_facts hok (hix _ rfl)
  simp only at hd hi hs
  have hsz : (sizeOf el').run P w = .ok 1 w := by rw [run_sizeOf w hi]; simp [Program.cellsOf, hi, hs]
  split at h
  · obtain ⟨d, i2, hd2, hk2, _⟩ := lk_desc (hel _ _ rfl rfl)
    split at h
    case h_2 => exact h.elim
    rename_i ps hps
    cases hc : Nat.beq ps.length n with
    | false => rw [hc] at h; exact h.elim
    | true =>
      rw [hc] at h
      have hlen := Nat.eq_of_beq_eq_true hc
      obtain ⟨hr, hK⟩ := h
      refine ⟨_, ?_, hK⟩
      have hv : cs[i.toNat * 1]? = some (.pointer (ps.getD i.toNat none)) := by
        have h1 : cs.toList[i.toNat]? = some (.pointer (ps.getD i.toNat none)) := by
          rw [ptrsOf_get hps, List.getElem?_map, List.getD_eq_getElem?_getD, List.getElem?_eq_getElem (show i.toNat < ps.length by omega)]; rfl
        rw [Nat.mul_one, ← h1]; simp
      have hp := run_part_leaf (P := P) w hd2 (lkDesc_plain hk2) hv
      rw [Nat.mul_one, List.getD_eq_getElem?_getD] at hp
      simp only at hp
      simp [Instr.index, asIntOf, run_underlying hd, hr, hsz, hp]
  · rename_i kk
    obtain ⟨d, i2, hd2, hk2, _⟩ := lk_desc (hel _ _ rfl rfl)
    split at h
    case h_2 => exact h.elim
    rename_i ps hps
    cases hc : Nat.beq ps.length n with
    | false => rw [hc] at h; exact h.elim
    | true =>
      rw [hc] at h
      have hlen := Nat.eq_of_beq_eq_true hc
      obtain ⟨hr, hK⟩ := h
      refine ⟨_, ?_, hK⟩
      have hv : cs[i.toNat * 1]? = some (.int kk (ps.getD i.toNat 0)) := by
        have h1 : cs.toList[i.toNat]? = some (.int kk (ps.getD i.toNat 0)) := by
          rw [intsOf_get hps, List.getElem?_map, List.getD_eq_getElem?_getD, List.getElem?_eq_getElem (show i.toNat < ps.length by omega)]; rfl
        rw [Nat.mul_one, ← h1]; simp
      have hp := run_part_leaf (P := P) w hd2 (lkDesc_plain hk2) hv
      rw [Nat.mul_one, List.getD_eq_getElem?_getD] at hp
      simp only at hp
      simp [Instr.index, asIntOf, run_underlying hd, hr, hsz, hp]
  · exact h.elim

end Go.Proofs.Ytfijchofplkcoaa
