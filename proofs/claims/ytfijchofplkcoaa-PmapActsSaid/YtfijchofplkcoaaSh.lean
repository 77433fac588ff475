/-
  Regions whose order is drawn: one walk in a chosen order serves every order, where what is read stays as it is.
-/
import Derived.Test.YtfijchofplkcoaaSg
import Derived.Orders
set_option linter.unusedVariables false
set_option linter.unusedSimpArgs false
namespace Go.Proofs.Ytfijchofplkcoaa

abbrev TR := List (Nat × (H → Prop))
def Rall : TR → H → Prop
  | [], _ => True
  | (_, R) :: r, h => R h ∧ Rall r h
def dep (ops : Array Oper) : Nat → Nat → Nat → Bool
  | 0, _, _ => false
  | f + 1, j, i => match ops[j]? with
    | some o => o.after.toList.any fun e => Region.binds .any e && (Nat.beq e.on i || dep ops f e.on i)
    | none => false
def alive (ops : Array Oper) (j : Nat) : TR → TR
  | [] => []
  | (i, R) :: r => bif dep ops ops.size j i then alive ops j r else (i, R) :: alive ops j r
theorem Rall_alive {ops : Array Oper} {j : Nat} {h : H} : ∀ {T : TR}, Rall T h → Rall (alive ops j T) h
  | [], _ => trivial
  | (i, R) :: r, hr => by
    simp only [alive]
    cases dep ops ops.size j i with
    | true => exact Rall_alive (T := r) hr.2
    | false => exact ⟨hr.1, Rall_alive (T := r) hr.2⟩

def ClosedL (ops : Array Oper) (L : Array Bool) : Prop := ∀ j o, ops[j]? = some o → L.getD j false = true → ∀ e ∈ o.after, Region.binds .any e = true → L.getD e.on false = true

theorem dep_unlisted {ops : Array Oper} {L : Array Bool} (hc : ClosedL ops L) {i : Nat} (hi : L.getD i false = false) : ∀ (f j : Nat), dep ops f j i = true → j ∉ Region.ready .any ops L ∧ L.getD j false = false
  | 0, j, h => by simp [dep] at h
  | f + 1, j, h => by
    simp only [dep] at h
    split at h
    case h_2 => simp at h
    rename_i o ho
    rw [List.any_eq_true] at h
    obtain ⟨e, he, h⟩ := h
    simp only [Bool.and_eq_true, Bool.or_eq_true] at h
    obtain ⟨hb, h⟩ := h
    have hl : L.getD e.on false = false := by
      rcases h with h | h
      · rw [Nat.eq_of_beq_eq_true h]; exact hi
      · exact (dep_unlisted hc hi f e.on h).2
    have he' : e ∈ o.after := by simpa using he
    constructor
    · intro hr
      obtain ⟨_, o', ho', hall⟩ := mem_ready.1 hr
      rw [ho] at ho'; simp only [Option.some.injEq] at ho'; subst ho'
      rw [hall e he' hb] at hl; simp at hl
    · cases hj : L.getD j false with
      | false => rfl
      | true => rw [hc j o ho hj e he' hb] at hl; simp at hl

theorem ClosedL.step {ops : Array Oper} {L : Array Bool} (hc : ClosedL ops L) {i : Nat} (hi : i ∈ Region.ready .any ops L) : ClosedL ops (L.setIfInBounds i true) := by
  intro j o ho hj e he hb
  by_cases hij : i = j
  · subst hij
    obtain ⟨_, o', ho', hall⟩ := mem_ready.1 hi
    rw [ho] at ho'; simp only [Option.some.injEq] at ho'; subst ho'
    exact getD_set_true (hall e he hb)
  · rw [getD_set_ne false hij] at hj
    exact getD_set_true (hc j o ho hj e he hb)

theorem ready_false {ops : Array Oper} {L : Array Bool} {i : Nat} (hi : i ∈ Region.ready .any ops L) : L.getD i false = false := by
  have h0 := (mem_ready.1 hi).1
  rcases Nat.lt_or_ge i L.size with h' | h'
  · simp [h'] at h0 ⊢; exact h0
  · simp [Array.getElem?_eq_none h'] at h0

section
variable {P : Program} {ops : Array Oper}

def goodOp (P : Program) (ops : Array Oper) (j : Nat) (K : Act → H → Prop) (a : Act) (w : World) : Prop :=
  match ops[j]? with
  | none => False
  | some o => if Region.wanted o (yielded ops a.tmps) = true then Good P ((execOp a.eval o).run P w) w (fun v h' => K (a.put o.dst v) h') else K (a.put o.dst undef) w.heap

theorem Good.mono {r : Result Next} {w : World} {K K' : Value → H → Prop} (hk : ∀ v h, K v h → K' v h) (h : Good P r w K) : Good P r w K' := by
  unfold Good at h ⊢
  split at h
  · exact ⟨h.1, hk _ _ h.2⟩
  · exact ⟨h.1, hk _ _ h.2⟩
  · refine ⟨h.1, h.2.mono ?_⟩
    rintro e w'' ⟨v, h1, h2, h3⟩
    exact ⟨v, h1, h2, hk _ _ h3⟩
  · exact h
theorem goodOp_mono {j : Nat} {K K' : Act → H → Prop} {a : Act} {w : World} (hk : ∀ a h, K a h → K' a h) (h : goodOp P ops j K a w) : goodOp P ops j K' a w := by
  unfold goodOp at *
  split
  · rename_i hj; simp only [hj] at h
  · rename_i o hj
    simp only [hj] at h
    split
    · rename_i hw; rw [if_pos hw] at h; exact h.mono (fun v h' => hk _ _)
    · rename_i hw; rw [if_neg hw] at h; exact hk _ _ h

def wpT (P : Program) (ops : Array Oper) (Q : Act → H → Prop) : Nat → TR → Array Bool → Act → H → Prop
  | 0, T, L, a, h => Rall T h ∧ Region.ready .any ops L = [] ∧ Q a h
  | f + 1, T, L, a, h => Rall T h ∧ (Region.ready .any ops L = [] → Q a h) ∧
      ∀ w : World, w.heap = h → ∀ i ∈ Region.ready .any ops L, goodOp P ops i (fun a' h' => wpT P ops Q f (alive ops i T) (L.setIfInBounds i true) a' h') a w

theorem wpT_weaken {Q : Act → H → Prop} {i : Nat} {R : H → Prop} : ∀ (f : Nat) (T : TR) (L : Array Bool) (a : Act) (h : H), wpT P ops Q f ((i, R) :: T) L a h → wpT P ops Q f T L a h
  | 0, T, L, a, h, hh => ⟨hh.1.2, hh.2⟩
  | f + 1, T, L, a, h, hh => ⟨hh.1.2, hh.2.1, fun w hw j hj => goodOp_mono (fun a' h' hk => by
      simp only [alive] at hk
      cases hd : dep ops ops.size j i with
      | true => rw [hd] at hk; exact hk
      | false => rw [hd] at hk; exact wpT_weaken f _ _ _ _ hk) (hh.2.2 w hw j hj)⟩

/-- The operation hands back 'v' and leaves the heap alone, in every heap of which 'R' holds. -/
def YieldsR (P : Program) (ops : Array Oper) (o : Oper) (v : Value) (R : H → Prop) (a : Act) : Prop :=
  (Region.wanted o (yielded ops a.tmps) = true ∧ ∀ w : World, R w.heap → Good P ((execOp a.eval o).run P w) w (fun v' h' => v' = v ∧ h' = w.heap)) ∨
  (Region.wanted o (yielded ops a.tmps) = false ∧ v = undef)
theorem YieldsR.of_same {o : Oper} {v : Value} {R : H → Prop} {a a' : Act} (hy : YieldsR P ops o v R a) (he : execOp a'.eval o = execOp a.eval o)
    (hw : Region.wanted o (yielded ops a'.tmps) = Region.wanted o (yielded ops a.tmps)) : YieldsR P ops o v R a' := by
  unfold YieldsR at *
  rw [he, hw]
  exact hy
theorem YieldsR.goodOp {i : Nat} {o : Oper} {v : Value} {R : H → Prop} {a : Act} (hi : ops[i]? = some o) (hy : YieldsR P ops o v R a) {K : Act → H → Prop} {w : World} (hR : R w.heap) (h : K (a.put o.dst v) w.heap) : goodOp P ops i K a w := by
  unfold Ytfijchofplkcoaa.goodOp
  simp only [hi]
  rcases hy with ⟨hw, hv⟩ | ⟨hw, rfl⟩
  · rw [if_pos hw]
    exact (hv w hR).mono (fun v' h' ⟨e1, e2⟩ => by subst e1; subst e2; exact h)
  · rw [if_neg (by rw [hw]; simp)]; exact h

theorem goodOp_put {j : Nat} {oi oj : Oper} {v : Value} {R : H → Prop} (hj : ops[j]? = some oj) (hap : oi.apart ops oj = true)
    (hsi : ∀ cs b, oi.op ≠ .select cs b) (hsj : ∀ cs b, oj.op ≠ .select cs b) {K : Act → H → Prop} {a : Act} {w : World}
    (hy : YieldsR P ops oi v R a) (h : goodOp P ops j K (a.put oi.dst v) w) :
    goodOp P ops j (fun a' h' => YieldsR P ops oi v R a' ∧ K (a'.put oi.dst v) h') a w := by
  obtain ⟨h1, h2, h3⟩ := Oper.apart_spec hap
  have keep : ∀ u, YieldsR P ops oi v R (a.put oj.dst u) := fun u =>
    hy.of_same (execOp_put oi hsi a oj.dst u h3) (wanted_put oi a oj.dst u h3)
  unfold goodOp at *
  simp only [hj] at *
  rw [wanted_put oj a oi.dst v h1] at h
  split
  · rename_i hw
    rw [if_pos hw] at h
    rw [execOp_put oj hsj a oi.dst v h1] at h
    exact h.mono (fun u h' hk => ⟨keep u, by rw [← Act.put_comm a v u h2]; exact hk⟩)
  · rename_i hw
    rw [if_neg hw] at h
    exact ⟨keep _, by rw [← Act.put_comm a v undef h2]; exact h⟩

theorem wpT_first {Q : Act → H → Prop} {i : Nat} {oi : Oper} {v : Value} {R : H → Prop} (hi : ops[i]? = some oi) (hsel : ∀ (j : Nat) (o : Oper) cs b, ops[j]? = some o → o.op ≠ .select cs b) :
    ∀ (fuel : Nat) (T : TR) (L : Array Bool) (a : Act) (h : H),
      (∀ j oj, ops[j]? = some oj → j ≠ i → L.getD j true = false → (∀ e ∈ oj.after, Region.binds .any e = true → e.on ≠ i) → oi.apart ops oj = true) →
      ClosedL ops L → i ∈ Region.ready .any ops L → YieldsR P ops oi v R a →
      wpT P ops Q fuel ((i, R) :: T) (L.setIfInBounds i true) (a.put oi.dst v) h → wpT P ops Q (fuel + 1) T L a h := by
  intro fuel
  induction fuel with
  | zero =>
    intro T L a h _ _ hr hy H
    refine ⟨H.1.2, fun h => (by rw [h] at hr; cases hr), fun w hw j hj => ?_⟩
    by_cases hji : j = i
    · subst hji
      subst hw
      refine hy.goodOp hi H.1.1 ⟨Rall_alive H.1.2, H.2⟩
    · have := ready_mono hj hji
      rw [H.2.1] at this
      cases this
  | succ fuel ih =>
    intro T L a h hfree hcl hr hy H
    refine ⟨H.1.2, fun h => (by rw [h] at hr; cases hr), fun w hw j hj => ?_⟩
    by_cases hji : j = i
    · subst hji
      subst hw
      refine hy.goodOp hi H.1.1 ?_
      -- what is asked of T dwindles
      have hA : ∀ (f : Nat) (T : TR) (L : Array Bool) (a : Act) (h : Ytfijchofplkcoaa.H), wpT P ops Q f T L a h → wpT P ops Q f (alive ops j T) L a h := by
        intro f T
        induction T with
        | nil => exact fun L a h hh => hh
        | cons x T ihT =>
          intro L a h hh
          obtain ⟨k, Rk⟩ := x
          simp only [alive]
          cases dep ops ops.size j k with
          | true => exact ihT L a h (wpT_weaken f T L a h hh)
          | false =>
            -- keep the head
            clear ihT
            have gen : ∀ (f : Nat) (T T' : TR) (L : Array Bool) (a : Act) (h : Ytfijchofplkcoaa.H), (∀ x ∈ T', x ∈ T) → wpT P ops Q f T L a h → wpT P ops Q f T' L a h := by
              intro f
              have rall : ∀ (T T' : TR) (h : Ytfijchofplkcoaa.H), (∀ x ∈ T', x ∈ T) → Rall T h → Rall T' h := by
                intro T T' h hs hr
                have hm : ∀ (T : TR), Rall T h → ∀ x ∈ T, x.2 h := by
                  intro T
                  induction T with
                  | nil => intro _ x hx; cases hx
                  | cons y T ih =>
                    intro hr x hx
                    rcases List.mem_cons.1 hx with rfl | hx
                    · exact hr.1
                    · exact ih hr.2 x hx
                induction T' with
                | nil => trivial
                | cons y T' ih => exact ⟨hm T hr y (hs y List.mem_cons_self), ih (fun x hx => hs x (List.mem_cons_of_mem _ hx))⟩
              have al : ∀ (T : TR) (m : Nat) (x : Nat × (Ytfijchofplkcoaa.H → Prop)), x ∈ alive ops m T ↔ (x ∈ T ∧ dep ops ops.size m x.1 = false) := by
                intro T m x
                induction T with
                | nil => simp [alive]
                | cons y T ih =>
                  obtain ⟨y1, y2⟩ := y
                  simp only [alive]
                  cases hd : dep ops ops.size m y1 with
                  | true =>
                    simp only [cond_true, ih, List.mem_cons]
                    constructor
                    · rintro ⟨h1, h2⟩; exact ⟨.inr h1, h2⟩
                    · rintro ⟨rfl | h1, h2⟩
                      · rw [hd] at h2; simp at h2
                      · exact ⟨h1, h2⟩
                  | false =>
                    simp only [cond_false, List.mem_cons, ih]
                    constructor
                    · rintro (rfl | ⟨h1, h2⟩)
                      · exact ⟨.inl rfl, hd⟩
                      · exact ⟨.inr h1, h2⟩
                    · rintro ⟨rfl | h1, h2⟩
                      · exact .inl rfl
                      · exact .inr ⟨h1, h2⟩
              induction f with
              | zero => exact fun T T' L a h hs hh => ⟨rall T T' h hs hh.1, hh.2⟩
              | succ f ihf =>
                intro T T' L a h hs hh
                refine ⟨rall T T' h hs hh.1, hh.2.1, fun w hw m hm => goodOp_mono (fun a' h' hk => ihf _ _ _ _ _ (fun x hx => ?_) hk) (hh.2.2 w hw m hm)⟩
                rw [al] at hx ⊢
                exact ⟨hs x hx.1, hx.2⟩
            refine gen f ((k, Rk) :: T) _ L a h (fun x hx => ?_) hh
            rcases List.mem_cons.1 hx with rfl | hx
            · exact List.mem_cons_self
            · refine List.mem_cons_of_mem _ ?_
              have sub : ∀ (T : TR), x ∈ alive ops j T → x ∈ T := by
                intro T
                induction T with
                | nil => simp [alive]
                | cons y T ih =>
                  obtain ⟨y1, y2⟩ := y
                  simp only [alive]
                  cases dep ops ops.size j y1 with
                  | true => intro h; exact List.mem_cons_of_mem _ (ih h)
                  | false =>
                    intro h
                    rcases List.mem_cons.1 h with rfl | h
                    · exact List.mem_cons_self
                    · exact List.mem_cons_of_mem _ (ih h)
              exact sub T hx
      exact hA _ _ _ _ _ (wpT_weaken _ _ _ _ _ H)
    · have h1 := H.2.2 w hw j (ready_mono hj hji)
      obtain ⟨hjun, oj, hoj, hall⟩ := mem_ready.1 hj
      have hnot : ∀ e ∈ oj.after, Region.binds .any e = true → e.on ≠ i := fun e he hb heq => by
        have h1 := hall e he hb
        have h0 := (mem_ready.1 hr).1
        rw [heq] at h1
        rcases Nat.lt_or_ge i L.size with h' | h'
        · simp [h'] at h0 h1; rw [h0] at h1; cases h1
        · simp [Array.getElem?_eq_none h'] at h1
      have hdep : dep ops ops.size j i = false := by
        cases hd : dep ops ops.size j i with
        | false => rfl
        | true => exact absurd hj (dep_unlisted hcl (ready_false hr) _ j hd).1
      have h2 := goodOp_put hoj (hfree j oj hoj hji hjun hnot) (fun cs b => hsel i oi cs b hi) (fun cs b => hsel j oj cs b hoj) hy h1
      have hfree' : ∀ k ok, ops[k]? = some ok → k ≠ i → (L.setIfInBounds j true).getD k true = false →
          (∀ e ∈ ok.after, Region.binds .any e = true → e.on ≠ i) → oi.apart ops ok = true := fun k ok hk hki hun hno => by
        refine hfree k ok hk hki ?_ hno
        by_cases hjk : j = k
        · subst hjk; exact hjun
        · rw [getD_set_ne true hjk] at hun; exact hun
      refine goodOp_mono (fun a' h' h3 => ih (alive ops j T) (L.setIfInBounds j true) a' h' hfree' (hcl.step hj) (ready_mono hr (Ne.symm hji)) h3.1 ?_) h2
      rw [Array.setIfInBounds_comm _ _ hji]
      have h4 := h3.2
      simp only [alive, hdep, cond_false] at h4
      exact h4

theorem wpAny_of_T {Q : Act → H → Prop} {Q' : Exit → Act → World → Prop} {w0 : World} (hQ : ∀ a w, Same w0 w → Q a w.heap → Q' .normal a w) : ∀ (f : Nat) (T : TR) (L : Array Bool) (a : Act) (w : World),
    Same w0 w → wpT P ops Q f T L a w.heap → wpAny P .any ops Q' f L a w
  | 0, T, L, a, w, hs, h => ⟨h.2.1, hQ _ _ hs h.2.2⟩
  | f + 1, T, L, a, w, hs, h => ⟨fun h0 => hQ _ _ hs (h.2.1 h0), fun i hi => by
      have h1 := h.2.2 w rfl i hi
      unfold goodOp at h1
      unfold wpOp
      split at h1
      · exact h1.elim
      · rename_i o ho
        simp only [ho]
        split at h1
        · rename_i hw
          rw [if_pos hw]
          refine .inl (h1.upon (fun v w' hs' hk => wpAny_of_T hQ f _ _ _ _ (hs.trans hs') hk))
        · rename_i hw
          rw [if_neg hw]
          exact wpAny_of_T hQ f _ _ _ _ hs h1⟩
end
end Go.Proofs.Ytfijchofplkcoaa
