/-
  One operation: its predicate over the heap, and that the machine does so.
-/
import Derived.Test.YtfijchofplkcoaaSb
set_option linter.unusedVariables false
set_option linter.unusedSimpArgs false
namespace Go.Proofs.Ytfijchofplkcoaa

/-! Loads and stores -/
def aggD (d : TypeDesc) : Bool := match d with | .struct _ | .array _ _ => true | _ => false
def evLd (lk : Option LK) (h : H) (a : Addr) (K : Value → Prop) : Prop :=
  match lk with
  | some (.leaf t) => Ld t h (a.add 0) fun x => K (t.val x)
  | some (.agg ts) => LdL ts h a 0 fun vs => K (.agg vs.toArray)
  | some (.row k n) => LdRow k n h a fun xs => K (rowV k xs)
  | none => False
def evSt (lk : Option LK) (h : H) (a : Addr) (v : Value) (K : H → Prop) : Prop :=
  match lk with
  | some (.row _ n) => (match v with | .agg cs => StRow h a n cs K | _ => False)
  | some lk => (bif Nat.beq v.cells.toList.length lk.size && v.cells.toList.all Value.oneCell' then StL h a 0 v.cells.toList K else False)
  | none => False

theorem add0 (a : Addr) : a.add 0 = a := by simp [Addr.add]

theorem run_isAgg_plain' {P : Program} {t : TypeId} {d : TypeDesc} (h : P.underlying t = some d) (hd : aggD d = false) (w : World) : (isAgg t).run P w = .ok false w := by
  cases d <;> simp_all [isAgg, run_underlying h, aggD]
theorem run_ldv_plain {P : Program} (w : World) {t : Nat} {d : TypeDesc} (hd : P.underlying t = some d) (hn : aggD d = false) {a : Addr} {v : Value} (hc : hcell w.heap a = some v) :
    (loadVar t a).run P w = .ok v w := by
  have hc' : w.cell? a = some v := hc
  have : (isAgg t).run P w = .ok false w := run_isAgg_plain' hd hn w
  simp [loadVar, this, hc']

theorem lkDesc_plain {ty : Ty} {d : TypeDesc} (h : lkDesc (.leaf ty) d = true) : aggD d = false := by
  cases ty <;> cases d <;> first | rfl | exact Bool.noConfusion (show false = true from h)
theorem lkDesc_agg {lk : LK} {d : TypeDesc} (ha : lk.isAgg = true) (h : lkDesc lk d = true) : aggD d = true := by
  cases lk <;> cases d <;> first | rfl | exact Bool.noConfusion (show false = true from h) | exact Bool.noConfusion (show false = true from ha)

theorem run_isAgg_agg {P : Program} {t : TypeId} {d : TypeDesc} (h : P.underlying t = some d) (hd : aggD d = true) (w : World) : (isAgg t).run P w = .ok true w := by
  cases d <;> simp_all [isAgg, run_underlying h, aggD]

theorem LdL_reads : ∀ (ts : List Ty) (h : H) (a : Addr) (i : Nat) (K : List Value → Prop), LdL ts h a i K → ∃ vs : List Value, vs.length = ts.length ∧ (∀ j v, vs[j]? = some v → hcell h (a.add (i + j)) = some v) ∧ K vs
  | [], h, a, i, K, hk => ⟨[], rfl, by simp, hk⟩
  | t :: ts, h, a, i, K, ⟨x, hx, hk⟩ => by
    obtain ⟨vs, hl, hr, hK⟩ := LdL_reads ts h a (i + 1) _ hk
    refine ⟨t.val x :: vs, by simp [hl], fun j v hv => ?_, hK⟩
    cases j with
    | zero => simp at hv; subst hv; exact hx
    | succ j => have := hr j v (by simpa using hv); rwa [show i + 1 + j = i + (j + 1) by omega] at this

theorem evLd_ok {P : Program} {lk : Option LK} {t : Nat} {a : Addr} {K : Value → Prop} (w : World) (hlk : ∀ k, lk = some k → lkOk P (t, k) = true) (h : evLd lk w.heap a K) :
    ∃ v, (loadVar t a).run P w = .ok v w ∧ K v := by
  unfold evLd at h
  split at h
  · rename_i ty
    obtain ⟨d, i, hd, hk, _⟩ := lk_desc (hlk _ rfl)
    obtain ⟨x, hx, hK⟩ := h
    rw [add0] at hx
    exact ⟨_, run_ldv_plain w hd (lkDesc_plain hk) hx, hK⟩
  · rename_i ts
    obtain ⟨d, i, hd, hk, hi, hs, _⟩ := lk_desc (hlk _ rfl)
    obtain ⟨vs, hl, hr, hK⟩ := LdL_reads ts w.heap a 0 _ h
    refine ⟨_, ?_, hK⟩
    have h1 := run_isAgg_agg hd (lkDesc_agg rfl hk) w
    have h2 := run_loadCells_list (P := P) w a vs (fun j v hv => by have := hr j v hv; rw [Nat.zero_add] at this; exact this)
    have h3 : (sizeOf t).run P w = .ok vs.length w := by rw [run_sizeOf w hi]; simp [Program.cellsOf, hi, hs, LK.size, hl]
    simp [loadVar, h1, h2, h3]
  · rename_i k n
    obtain ⟨d, i, hd, hk, hi, hs, _⟩ := lk_desc (hlk _ rfl)
    obtain ⟨xs, hl, hr, hK⟩ := h
    refine ⟨_, ?_, hK⟩
    have h1 := run_isAgg_agg hd (lkDesc_agg rfl hk) w
    have h2 := run_loadCells_list (P := P) w a (xs.map (Value.int k)) (fun j v hv => by
      rw [List.getElem?_map] at hv
      cases hx : xs[j]? with
      | none => rw [hx] at hv; simp at hv
      | some x =>
        rw [hx] at hv; simp at hv; subst hv
        have hj : j < xs.length := (List.getElem?_eq_some_iff.1 hx).1
        have := hr j (by omega)
        rw [List.getD_eq_getElem?_getD, hx] at this
        exact this)
    have h3 : (sizeOf t).run P w = .ok (xs.map (Value.int k)).length w := by rw [run_sizeOf w hi]; simp [Program.cellsOf, hi, hs, LK.size, hl]
    simp only [loadVar, Sem.run_bind, h1, h2, h3, Result.andThen_ok, if_true, Sem.run_pure, rowV, Sem.run_map]
  · exact h.elim

theorem run_storeL {P : Program} : ∀ (vs : List Value) (a : Addr) (i : Nat) (w : World) (K : H → Prop), (∀ v ∈ vs, v.oneCell' = true) → StL w.heap a i vs K →
    ∃ w', (storeCells a vs i).run P w = .ok () w' ∧ Same w w' ∧ K w'.heap
  | [], a, i, w, K, _, hk => ⟨w, rfl, Same.refl _, hk⟩
  | v :: vs, a, i, w, K, h1, ⟨⟨u, hu⟩, hf, hk⟩ => by
    have hst : (store (a.add i) v).run P w = .ok () (w.setCell (a.add i) v) := by
      have hu' : w.cell? (a.add i) = some u := hu
      have hf' : w.frozen? (a.add i) = false := hf
      rw [run_store P w _ v _ (h1 v List.mem_cons_self)]
      simp [hu', hf']
    obtain ⟨w', h2, h3, h4⟩ := run_storeL (P := P) vs a (i + 1) (w.setCell (a.add i) v) K (fun x hx => h1 x (List.mem_cons_of_mem _ hx)) hk
    refine ⟨w', ?_, h3, h4⟩
    simp only [storeCells, Sem.run_bind, hst, Result.andThen_ok, h2]

theorem hcell_same (h : H) (a : Addr) (v u : Value) (hu : hcell h a = some u) : hcell (hset h a v) a = some v :=
  World.cell?_setCell_same { (default : World) with heap := h } a v hu
theorem hcell_other (h : H) (a b : Addr) (v : Value) (hn : a ≠ b) : hcell (hset h a v) b = hcell h b :=
  World.cell?_setCell_other { (default : World) with heap := h } a b v hn
theorem hcell_hset (h : H) (a b : Addr) (v : Value) : (∃ u, hcell h b = some u) → ∃ u, hcell (hset h a v) b = some u := by
  rintro ⟨u, hu⟩
  by_cases e : a = b
  · subst e; exact ⟨v, hcell_same h a v u hu⟩
  · exact ⟨u, by rw [hcell_other h a b v e]; exact hu⟩
theorem hfroz_hset (h : H) (a b : Addr) (v : Value) : hfroz (hset h a v) b = hfroz h b :=
  World.frozen?_setCell { (default : World) with heap := h } a b v

theorem Wr_StL : ∀ (vs : List Value) (h : H) (a : Addr) (i : Nat) (K : H → Prop), (∀ j, j < vs.length → (∃ u, hcell h (a.add (i + j)) = some u) ∧ hfroz h (a.add (i + j)) = false) → K (hsetL h a i vs) → StL h a i vs K
  | [], h, a, i, K, _, hk => hk
  | v :: vs, h, a, i, K, hw, hk => by
    have h0 := hw 0 (by simp)
    refine ⟨h0.1, h0.2, Wr_StL vs _ a (i + 1) K (fun j hj => ?_) hk⟩
    have := hw (j + 1) (by simp; omega)
    rw [show i + (j + 1) = i + 1 + j by omega] at this
    exact ⟨hcell_hset _ _ _ _ this.1, by rw [hfroz_hset]; exact this.2⟩

theorem evSt_ok {P : Program} {lk : Option LK} {t : Nat} {a : Addr} {v : Value} {K : H → Prop} (w : World) (hlk : ∀ k, lk = some k → lkOk P (t, k) = true) (h : evSt lk w.heap a v K) :
    ∃ w', (storeVar t a v).run P w = .ok () w' ∧ Same w w' ∧ K w'.heap := by
  unfold evSt at h
  split at h
  · split at h
    case h_2 => exact h.elim
    rename_i k n _ cs
    obtain ⟨d, i, hd, hk, hi, hs, _⟩ := lk_desc (hlk _ rfl)
    obtain ⟨hn, h1, hw, hK⟩ := h
    obtain ⟨w', h2, h3, h4⟩ := run_storeL (P := P) cs.toList a 0 w K h1 (Wr_StL cs.toList w.heap a 0 K (fun j hj => by rw [Nat.zero_add]; exact hw j (by simpa [hn] using hj)) hK)
    refine ⟨w', ?_, h3, h4⟩
    have h5 : (sizeOf t).run P w = .ok cs.size w := by rw [run_sizeOf w hi]; simp [Program.cellsOf, hi, hs, LK.size, hn]
    simp [storeVar, Value.cells, h5, h2]
  · rename_i lk _
    cases hc : (Nat.beq v.cells.toList.length lk.size && v.cells.toList.all Value.oneCell') with
    | false => rw [hc] at h; exact h.elim
    | true =>
      rw [hc] at h
      simp only [Bool.and_eq_true, List.all_eq_true] at hc
      have hs' := Nat.eq_of_beq_eq_true hc.1
      obtain ⟨d, i, hd, hk, hi, hs, _⟩ := lk_desc (hlk _ rfl)
      obtain ⟨w', h2, h3, h4⟩ := run_storeL (P := P) v.cells.toList a 0 w K hc.2 h
      refine ⟨w', ?_, h3, h4⟩
      have h5 : (sizeOf t).run P w = .ok v.cells.size w := by rw [run_sizeOf w hi]; simp [Program.cellsOf, hi, hs, ← hs']
      simp [storeVar, h5, h2]
  · exact h.elim

end Go.Proofs.Ytfijchofplkcoaa
