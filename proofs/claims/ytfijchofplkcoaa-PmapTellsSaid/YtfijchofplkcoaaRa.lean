/-
  Arguments that came in, opened: what the cells of a datum of a flat type, or of a slice of such, hold; and from the walk over the heap to the row's end.
-/
import Derived.Test.YtfijchofplkcoaaSj
import Derived.ProofKit
import Derived.OpenShut
import Derived.ShutString
import Derived.ChangeOld
import Derived.Below
set_option linter.unusedVariables false
set_option linter.unusedSimpArgs false
namespace Go.Proofs.Ytfijchofplkcoaa
open Go.ChangeShapes Go.WideShapes Go.ChangeAt Go.RowKit

theorem add_add (a : Addr) (i j : Nat) : (a.add i).add j = a.add (i + j) := by
  unfold Addr.add
  repeat' split
  all_goals (first | rfl | omega | (simp_all; done) | (simp_all; omega))
inductive DTy where
  | int (k : IntKind) | bool | unit | pair (a b : DTy) | slice (e : DTy)
def DTy.size : DTy → Nat
  | .int _ => 1
  | .bool => 1
  | .unit => 0
  | .pair a b => a.size + b.size
  | .slice _ => 1

def dtFlds (P : Program) (ok : TypeId → DTy → Bool) : List (Nat × TypeId) → Nat → DTy → Bool
  | [], _, .unit => true
  | (o, t) :: r, off, .pair a b => Nat.beq o off && Nat.beq (P.cellsOf t) a.size && ok t a && dtFlds P ok r (off + a.size) b
  | _, _, _ => false
def dtOk (P : Program) : Nat → TypeId → DTy → Bool
  | 0, _, _ => false
  | n + 1, t, d => match P.underlying t, d with
    | some (.int k), .int k' => k == k'
    | some .bool, .bool => true
    | some (.slice e), .slice d' => dtOk P n e d' && Nat.beq (P.cellsOf e) d'.size
    | some (.struct fs), d => dtFlds P (dtOk P n) (fs.toList.map fun f => (f.offset, f.type)) 0 d && Nat.beq (P.cellsOf t) d.size
    | some (.array m e), d => dtFlds P (dtOk P n) ((List.range m).map fun i => (i * P.cellsOf e, e)) 0 d && Nat.beq (P.cellsOf t) d.size
    | _, _ => false

/-- What stands in the cells 'cs' of a datum. -/
def Opn (h : H) : DTy → List Value → Prop
  | .int k, cs => ∃ n, cs = [.int k n] ∧ (Lit.int k n).wf = true
  | .bool, cs => ∃ b, cs = [.bool b]
  | .unit, cs => cs = []
  | .pair a b, cs => ∃ x y, cs = x ++ y ∧ x.length = a.size ∧ Opn h a x ∧ Opn h b y
  | .slice e, cs => cs = [.slice none 0 0] ∨ ∃ (x : Addr) (l c : Nat), cs = [.slice (some x) l c] ∧ l ≤ c ∧ c ≤ maxLen ∧
      ∀ i, i < l → ∃ es, es.length = e.size ∧ Opn h e es ∧ ∀ j v, es[j]? = some v → hcell h (x.add (i * e.size + j)) = some v

section
variable {HH : Type} {enc : TypeId × Value → HH} {P : Program} {w : World} {base : Nat} {sp : Nat → Bool} {held : Bool}

theorem dtFlds_opn {ok : TypeId → DTy → Bool} {r : TypeId → List Value → Prop} (hok : ∀ t d cs, ok t d = true → r t cs → Opn w.heap d cs) (cs : List Value) :
    ∀ (l : List (Nat × TypeId)) (off : Nat) (d : DTy), dtFlds P ok l off d = true → cs.length = off + d.size →
      (∀ e ∈ l, r e.2 ((cs.drop e.1).take (P.cellsOf e.2))) → Opn w.heap d (cs.drop off) := by
  intro l
  induction l with
  | nil =>
    intro off d h hl hr
    cases d <;> simp [dtFlds] at h
    simp [DTy.size] at hl
    simp [Opn, hl]
  | cons e l ih =>
    intro off d h hl hr
    obtain ⟨o, t⟩ := e
    cases d <;> simp only [dtFlds] at h <;> try (simp at h; done)
    rename_i a b
    simp only [Bool.and_eq_true] at h
    obtain ⟨⟨⟨h1, h2⟩, h3⟩, h4⟩ := h
    have e1 : o = off := Nat.eq_of_beq_eq_true h1
    have e2 := Nat.eq_of_beq_eq_true h2
    subst e1
    simp only [DTy.size] at hl
    refine ⟨(cs.drop o).take a.size, cs.drop (o + a.size), ?_, ?_, ?_, ?_⟩
    · rw [← List.drop_drop, List.take_append_drop]
    · simp; omega
    · have := hr (o, t) List.mem_cons_self
      rw [e2] at this
      exact hok _ _ _ h3 this
    · exact ih _ _ h4 (by omega) (fun e he => hr e (List.mem_cons_of_mem _ he))

theorem opn_of : ∀ (n : Nat) (t : TypeId) (d : DTy), dtOk P n t d = true → ∀ (fuel : Nat) (cs : List Value) (x : DataW HH × List MemPlace),
    DataW.trod enc P w base sp held fuel t cs = some x → Opn w.heap d cs := by
  intro n
  induction n with
  | zero => intro t d h; simp [dtOk] at h
  | succ n ih =>
    intro t d h fuel cs x hx
    have flds : ∀ l d, dtFlds P (dtOk P n) l 0 d = true → cs.length = d.size → (∀ e ∈ l, ∃ fuel x, DataW.trod enc P w base sp held fuel e.2 ((cs.drop e.1).take (P.cellsOf e.2)) = some x) → Opn w.heap d cs := by
      intro l d h1 h2 h3
      have := dtFlds_opn (w := w) (P := P) (ok := dtOk P n) (r := fun t cs => ∃ fuel x, DataW.trod enc P w base sp held fuel t cs = some x)
        (fun t d cs a b => by obtain ⟨f, x, b⟩ := b; exact ih t d a f cs x b) cs l 0 d h1 (by omega) h3
      simpa using this
    unfold dtOk at h
    cases hu : P.underlying t with
    | none => simp [hu] at h
    | some u =>
      rw [hu] at h
      cases u <;> try (simp at h; done)
      case bool =>
        cases d <;> simp at h
        obtain ⟨b, h1, _⟩ := DataW.trod_bool hu hx
        exact ⟨b, h1⟩
      case int k =>
        cases d <;> simp at h
        subst h
        obtain ⟨m, h1, _, h2⟩ := DataW.trod_int hu hx
        exact ⟨m, h1, h2⟩
      case struct fs =>
        simp only [Bool.and_eq_true] at h
        obtain ⟨xs, m, _, _, hl, hxl, hg⟩ := DataW.trod_struct hu hx
        refine flds _ _ h.1 (hl.trans (Nat.eq_of_beq_eq_true h.2)) ?_
        intro e he
        simp only [List.mem_map] at he
        obtain ⟨f, hf, rfl⟩ := he
        obtain ⟨i, hi⟩ := List.getElem?_of_mem hf
        have hi' : fs[i]? = some f := by simpa using hi
        have hlt : i < xs.length := by rw [hxl]; exact (Array.getElem?_eq_some_iff.1 hi').1
        exact ⟨m, xs[i], (hg i f hi').trans (List.getElem?_eq_getElem hlt)⟩
      case array m e =>
        simp only [Bool.and_eq_true] at h
        obtain ⟨xs, k, _, _, hl, hxl, hg⟩ := DataW.trod_array hu hx
        refine flds _ _ h.1 (hl.trans (Nat.eq_of_beq_eq_true h.2)) ?_
        intro e' he
        simp only [List.mem_map, List.mem_range] at he
        obtain ⟨i, hi, rfl⟩ := he
        exact ⟨k, xs[i]'(by omega), (hg i hi).trans (List.getElem?_eq_getElem (by omega))⟩
      case slice e =>
        cases d <;> try (simp at h; done)
        rename_i d'
        simp only [Bool.and_eq_true] at h
        have hsz := Nat.eq_of_beq_eq_true h.2
        rcases DataW.trod_slice hu hx with h0 | ⟨a, len, cap, elems, rest, m, _, rfl, _, hb, hl, hm, hlen, hel, _, _⟩
        · exact .inl h0.1
        · refine .inr ⟨a, len, cap, rfl, hl, hm, ?_⟩
          intro i hi
          have := (hel i hi).trans (List.getElem?_eq_getElem (by omega))
          rw [hsz, Option.bind_eq_some_iff] at this
          obtain ⟨es, h1, h2⟩ := this
          obtain ⟨_, h3, h4⟩ := World.cells?_some h1
          refine ⟨es, h3, ih _ _ h.1 _ _ _ h2, ?_⟩
          intro j v hv
          have hj : j < d'.size := by rw [← h3]; exact (List.getElem?_eq_some_iff.1 hv).1
          have := h4 j hj
          rw [hv] at this
          rw [← cell_h, ← this, add_add]

theorem okWide_agg {r : Reach} {t : TypeId} {v : Value} (ht : (∃ fs, P.underlying t = some (.struct fs)) ∨ ∃ n e, P.underlying t = some (.array n e)) (h : Value.okWide P w r base t v) :
    ∃ cs : Array Value, v = .agg cs := by
  unfold Value.okWide at h
  rcases ht with ⟨fs, ht⟩ | ⟨n, e, ht⟩ <;> rw [ht] at h <;> exact ⟨h.choose, h.choose_spec.1⟩

theorem opn_trod {t : TypeId} {v : Value} {d : DataW HH} {ps : List MemPlace} {dt : DTy} (hd : dtOk P 5 t dt = true) (h : DataW.Trod enc P w base sp held t v d ps) : Opn w.heap dt v.cells.toList := by
  obtain ⟨fuel, hf⟩ := h
  exact opn_of 5 t dt hd fuel _ _ hf
end

/-- All that was there stays, on the heap alone. -/
def Kept (h h' : H) : Prop := h.size ≤ h'.size ∧ ∀ i, i < h.size → h'[i]? = h[i]?
theorem Kept.refl (h : H) : Kept h h := ⟨Nat.le_refl _, fun _ _ => rfl⟩
theorem Kept.trans {a b c : H} (x : Kept a b) (y : Kept b c) : Kept a c :=
  ⟨Nat.le_trans x.1 y.1, fun i hi => (y.2 i (Nat.lt_of_lt_of_le hi x.1)).trans (x.2 i hi)⟩
theorem below_of {w w' : World} (s : Same w w') (k : Kept w.heap w'.heap) : Below w.heap.size w w' :=
  ⟨s.1, s.2.1, s.2.2, k.1, k.2⟩

theorem walk_of {P : Program} (E : Ent P) {args : List Value} {w : World} (h : E.sem args (fun v h' => v = .bool true ∧ Kept w.heap h') w.heap) :
    Calls P E.num args.toArray w fun e w' => e = .returned (.bool true) ∧ Below w.heap.size w w' :=
  (E.ok args _ w h).mono fun e w' ⟨v, he, s, hv, k⟩ => ⟨by rw [he, hv], below_of s k⟩

section
variable {h : H} {cs : List Value}
theorem opn_II (o : Opn h (.pair (.int .i64) (.pair (.int .i64) .unit)) cs) : ∃ a b, cs = [.int .i64 a, .int .i64 b] ∧ (Lit.int .i64 a).wf = true ∧ (Lit.int .i64 b).wf = true := by
  obtain ⟨x, y, rfl, _, ⟨a, rfl, wa⟩, ⟨x, y, rfl, _, ⟨b, rfl, wb⟩, rfl⟩⟩ := o
  exact ⟨a, b, rfl, wa, wb⟩
theorem opn_UU (o : Opn h (.pair (.int .u64) (.pair (.int .u64) .unit)) cs) : ∃ a b, cs = [.int .u64 a, .int .u64 b] ∧ (Lit.int .u64 a).wf = true ∧ (Lit.int .u64 b).wf = true := by
  obtain ⟨x, y, rfl, _, ⟨a, rfl, wa⟩, ⟨x, y, rfl, _, ⟨b, rfl, wb⟩, rfl⟩⟩ := o
  exact ⟨a, b, rfl, wa, wb⟩
theorem opn_III (o : Opn h (.pair (.int .i64) (.pair (.int .i64) (.pair (.int .i64) .unit))) cs) :
    ∃ a b c, cs = [.int .i64 a, .int .i64 b, .int .i64 c] ∧ (Lit.int .i64 a).wf = true ∧ (Lit.int .i64 b).wf = true ∧ (Lit.int .i64 c).wf = true := by
  obtain ⟨x, y, rfl, _, ⟨a, rfl, wa⟩, ⟨x, y, rfl, _, ⟨b, rfl, wb⟩, ⟨x, y, rfl, _, ⟨c, rfl, wc⟩, rfl⟩⟩⟩ := o
  exact ⟨a, b, c, rfl, wa, wb, wc⟩
theorem opn_IIIB (o : Opn h (.pair (.int .i64) (.pair (.int .i64) (.pair (.int .i64) (.pair .bool .unit)))) cs) :
    ∃ a b c d, cs = [.int .i64 a, .int .i64 b, .int .i64 c, .bool d] ∧ (Lit.int .i64 a).wf = true ∧ (Lit.int .i64 b).wf = true ∧ (Lit.int .i64 c).wf = true := by
  obtain ⟨x, y, rfl, _, ⟨a, rfl, wa⟩, ⟨x, y, rfl, _, ⟨b, rfl, wb⟩, ⟨x, y, rfl, _, ⟨c, rfl, wc⟩, ⟨x, y, rfl, _, ⟨d, rfl⟩, rfl⟩⟩⟩⟩ := o
  exact ⟨a, b, c, d, rfl, wa, wb, wc⟩
theorem opn_IIIII (o : Opn h (.pair (.int .i64) (.pair (.int .i64) (.pair (.int .i64) (.pair (.int .i64) (.pair (.int .i64) .unit))))) cs) :
    ∃ a b c d e, cs = [.int .i64 a, .int .i64 b, .int .i64 c, .int .i64 d, .int .i64 e] ∧ (Lit.int .i64 a).wf = true ∧ (Lit.int .i64 b).wf = true ∧ (Lit.int .i64 c).wf = true ∧ (Lit.int .i64 d).wf = true ∧ (Lit.int .i64 e).wf = true := by
  obtain ⟨x, y, rfl, _, ⟨a, rfl, wa⟩, ⟨x, y, rfl, _, ⟨b, rfl, wb⟩, ⟨x, y, rfl, _, ⟨c, rfl, wc⟩, ⟨x, y, rfl, _, ⟨d, rfl, wd⟩, ⟨x, y, rfl, _, ⟨e, rfl, we⟩, rfl⟩⟩⟩⟩⟩ := o
  exact ⟨a, b, c, d, e, rfl, wa, wb, wc, wd, we⟩
theorem opn_IIIUS {e : DTy} (o : Opn h (.pair (.int .i64) (.pair (.int .i64) (.pair (.int .i64) (.pair (.int .u64) (.pair (.slice e) .unit))))) cs) :
    ∃ a b c d s l k, cs = [.int .i64 a, .int .i64 b, .int .i64 c, .int .u64 d, .slice s l k] ∧ (Lit.int .i64 a).wf = true ∧ (Lit.int .i64 b).wf = true ∧ (Lit.int .i64 c).wf = true ∧ (Lit.int .u64 d).wf = true ∧ Opn h (.slice e) [.slice s l k] := by
  obtain ⟨x, y, rfl, _, ⟨a, rfl, wa⟩, ⟨x, y, rfl, _, ⟨b, rfl, wb⟩, ⟨x, y, rfl, _, ⟨c, rfl, wc⟩, ⟨x, y, rfl, _, ⟨d, rfl, wd⟩, ⟨x, y, rfl, _, os, rfl⟩⟩⟩⟩⟩ := o
  rcases os with rfl | ⟨s, l, k, rfl, r⟩
  · exact ⟨a, b, c, d, none, 0, 0, rfl, wa, wb, wc, wd, .inl rfl⟩
  · exact ⟨a, b, c, d, some s, l, k, rfl, wa, wb, wc, wd, .inr ⟨s, l, k, rfl, r⟩⟩
end
end Go.Proofs.Ytfijchofplkcoaa
