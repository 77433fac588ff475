/-
  The soundness of the reading of whole pieces of code.
-/
import Derived.Test.YtfijchofplkcoaaSf
set_option linter.unusedVariables false
set_option linter.unusedSimpArgs false
namespace Go.Proofs.Ytfijchofplkcoaa

def Fits (n : Nat) (ops : List Oper) : Prop := ∀ o ∈ ops, ∀ d, o.dst = some d → d < n

theorem evOps_ok {P : Program} {tb : Tab} {G : List (Ent P)} (hfull : tb.full P = true) {n : Nat} (all : Array Oper) {Q : Exit → Act → World → Prop} {K : Sto → H → Prop} : ∀ (l : List Oper) (s : Sto) (a : Act) (w : World),
    Ag s a.tmps → a.defers = [] → a.tmps.size = n → Fits n l → evOps tb G all.toList l s w.heap K →
    (∀ s' a' w', Ag s' a'.tmps → a'.defers = [] → a'.tmps.size = n → Same w w' → (∀ i, i ∉ dsts l → a'.tmps[i]? = a.tmps[i]?) → K s' w'.heap → Q .normal a' w') →
    wpList P all Q l a w
  | [], s, a, w, hag, hd, hn, hf, h, hK => hK s a w hag hd hn (Same.refl _) (fun _ _ => rfl) h
  | o :: r, s, a, w, hag, hd, hn, hf, h, hK => by
    have hdst : ∀ i, o.dst = some i → i < a.tmps.size := fun i hi => by rw [hn]; exact hf o List.mem_cons_self i hi
    have hfr : Fits n r := fun o' ho' => hf o' (List.mem_cons_of_mem _ ho')
    have hother : ∀ v i, i ∉ dsts (o :: r) → (a.put o.dst v).tmps[i]? = a.tmps[i]? := fun v i hi => put_other _ _ _ _ (fun j hj e => by
      subst e; exact hi (by simp [dsts, hj]))
    have hsub : ∀ i, i ∉ dsts (o :: r) → i ∉ dsts r := fun i hi hm => hi (by
      simp only [dsts, List.filterMap_cons]
      split
      · exact hm
      · exact List.mem_cons_of_mem _ hm)
    -- the two ways: the operation runs, or it is passed over
    have run : ∀ s, Ag s a.tmps → evOp tb G s o.op w.heap (fun v h' => evOps tb G all.toList r (put s o.dst v) h' K) → Region.wanted o (yielded all a.tmps) = true → wpList P all Q (o :: r) a w := by
      intro s hag h hw
      unfold wpList
      rw [if_pos hw]
      refine .inl ?_
      have hg := evOp_ok hfull hag.agree w o h
      refine hg.upon (fun v w' hs hk => ?_)
      exact evOps_ok hfull all r (put s o.dst v) (a.put o.dst v) w' (hag.put hdst) (by rw [put_defers]; exact hd) (by rw [put_size]; exact hn) hfr hk
        (fun s' a' w2 q1 q2 q3 q4 q5 q6 => hK s' a' w2 q1 q2 q3 (hs.trans q4) (fun i hi => (q5 i (hsub i hi)).trans (hother v i hi)) q6)
    have skip : ∀ s, Ag s a.tmps → evOps tb G all.toList r (put s o.dst undef) w.heap K → Region.wanted o (yielded all a.tmps) = false → wpList P all Q (o :: r) a w := by
      intro s hag h hw
      refine wpList_skip hw ?_
      exact evOps_ok hfull all r (put s o.dst undef) (a.put o.dst undef) w (hag.put hdst) (by rw [put_defers]; exact hd) (by rw [put_size]; exact hn) hfr h
        (fun s' a' w2 q1 q2 q3 q4 q5 q6 => hK s' a' w2 q1 q2 q3 q4 (fun i hi => (q5 i (hsub i hi)).trans (hother undef i hi)) q6)
    unfold evOps at h
    split at h
    · rename_i hg
      exact run s hag h (by simp [Region.wanted, hg])
    · rename_i j want hg
      split at h
      · exact h.elim
      rename_i d hdj
      split at h
      · exact h.elim
      rename_i v hv
      have hy := yielded_of (all := all) hdj (hag d v hv)
      split at h
      · rename_i b
        have ht : a.tmps[d]? = some (.bool b) := hag d _ hv
        cases b with
        | true =>
          have hag' : Ag ((d, .bool true) :: s) a.tmps := hag.cons ht
          simp only [Br_true] at h
          cases want with
          | true => exact run _ hag' h (by simp [Region.wanted, hg, hy])
          | false => exact skip _ hag' h (by simp [Region.wanted, hg, hy])
        | false =>
          have hag' : Ag ((d, .bool false) :: s) a.tmps := hag.cons ht
          simp only [Br_false] at h
          cases want with
          | true => exact skip _ hag' h (by simp [Region.wanted, hg, hy])
          | false => exact run _ hag' h (by simp [Region.wanted, hg, hy])
      · rename_i hnb
        exact skip s hag h (by
          cases v <;> first | exact absurd rfl (hnb _) | simp [Region.wanted, hg, hy])

/-- Where a piece of code may lead, and what it has left alone. -/
def Post (n : Nat) (w0 : World) (t0 : Array Value) (ws : List Nat) (Kn : Sto → H → Prop) (Kx : Nat → Sto → H → Prop) (Kr : Sto → H → Prop) : Exit → Act → World → Prop :=
  fun e a w => a.tmps.size = n ∧ a.defers = [] ∧ Same w0 w ∧ (∀ i, i ∉ ws → a.tmps[i]? = t0[i]?) ∧ ∃ s, Ag s a.tmps ∧
    (match e with
      | .normal => Kn s w.heap
      | .exit id => Kx id s w.heap
      | .ret => Kr s w.heap
      | _ => False)

def fitsC (n : Nat) : Code → Bool
  | .region _ ops _ => ops.toList.all fun o => match o.dst with | some d => Nat.blt d n | none => true
  | .seq a b => fitsC n a && fitsC n b
  | .cond _ a b => fitsC n a && fitsC n b
  | .block _ c => fitsC n c
  | .loop c => fitsC n c
  | .scope c => fitsC n c
  | _ => true

theorem hasN_mem {l : List Nat} {i : Nat} : hasN l i = true ↔ i ∈ l := by
  induction l with
  | nil => simp [hasN]
  | cons j r ih =>
    simp only [hasN, Bool.or_eq_true, ih, List.mem_cons]
    constructor
    · rintro (h | h)
      · exact .inl (Nat.eq_of_beq_eq_true h).symm
      · exact .inr h
    · rintro (rfl | h)
      · exact .inl (Nat.beq_refl _)
      · exact .inr h
theorem forget_find {ws : List Nat} : ∀ {s : Sto} {i : Nat} {v : Value}, find1 (forget ws s) i = some v → find1 s i = some v ∧ i ∉ ws
  | [], i, v, h => by simp [forget, find1] at h
  | (j, u) :: r, i, v, h => by
    simp only [forget] at h
    cases hw : hasN ws j with
    | true =>
      rw [hw] at h
      have ih := forget_find (s := r) h
      refine ⟨?_, ih.2⟩
      simp only [find1]
      cases hb : Nat.beq j i with
      | true =>
        have := Nat.eq_of_beq_eq_true hb
        subst this
        exact absurd (hasN_mem.1 hw) ih.2
      | false => exact ih.1
    | false =>
      rw [hw] at h
      simp only [cond_false, find1] at h ⊢
      cases hb : Nat.beq j i with
      | true =>
        have := Nat.eq_of_beq_eq_true hb
        subst this
        rw [hb] at h
        refine ⟨h, fun hm => ?_⟩
        rw [hasN_mem.2 hm] at hw; simp at hw
      | false =>
        rw [hb] at h
        exact forget_find h
theorem find1_append {α : Type} : ∀ {l r : List (Nat × α)} {i : Nat} {v : α}, find1 (l ++ r) i = some v → (i, v) ∈ l ∨ find1 r i = some v
  | [], r, i, v, h => .inr h
  | (j, u) :: l, r, i, v, h => by
    simp only [List.cons_append, find1] at h
    cases hb : Nat.beq j i with
    | true =>
      have := Nat.eq_of_beq_eq_true hb
      subst this
      rw [hb] at h; simp only [cond_true, Option.some.injEq] at h; subst h
      exact .inl List.mem_cons_self
    | false =>
      rw [hb] at h
      rcases find1_append (l := l) h with h | h
      · exact .inl (List.mem_cons_of_mem _ h)
      · exact .inr h

/-- The state that is kept at a join. -/
theorem Ag.tup {L : Sig} {s s1 : Sto} {t t1 : Array Value} {ws : List Nat} {x : TupT L} (h : Ag s t) (h1 : Ag s1 t1) (hx : TupG L s1 = some x) (ho : ∀ i, i ∉ ws → t1[i]? = t[i]?) : Ag (TupS L x ++ forget ws s) t1 := by
  intro i v hv
  rcases find1_append hv with hm | hf
  · exact h1 i v (TupG_find hx i v hm)
  · obtain ⟨hf, hn⟩ := forget_find hf
    rw [ho i hn]
    exact h i v hf

theorem wp_loop_ghost {P : Program} {Q : Exit → Act → World → Prop} {c : Code} (I : Nat → Act → World → Prop) (round : ∀ k a w, I k a w → c.wp P (Exit.then (fun a' w' => ∃ k', k' < k ∧ I k' a' w') Q) a w) :
    ∀ (k : Nat) (a : Act) (w : World), I k a w → (Code.loop c).wp P Q a w := by
  intro k a w hI b kk cs
  have key : ∀ n a w, I n a w → ∃ e a' w', Q e a' w' ∧ Arrives P (lone (b.at a (.code c :: .inLoop c :: kk)) cs w) b kk cs e a' w' := by
    intro n
    induction n using Nat.strongRecOn with
    | _ n ih =>
      intro a w hI
      obtain ⟨e, a₁, w₁, hq, harr⟩ := round n a w hI b (.inLoop c :: kk) cs
      cases e with
      | normal =>
        obtain ⟨k', hlt, hI₁⟩ := hq
        obtain ⟨e₂, a₂, w₂, hq₂, harr₂⟩ := ih k' hlt a₁ w₁ hI₁
        exact ⟨e₂, a₂, w₂, hq₂, .of_steps (Steps.trans harr (.one step_inLoop)) harr₂⟩
      | exit id => exact ⟨_, a₁, w₁, hq, .pass (x := .inLoop c) rfl (fun _ _ => .inl (by simp)) harr⟩
      | goto l => exact ⟨_, a₁, w₁, hq, .pass (x := .inLoop c) rfl (fun _ _ => .inl (by simp)) harr⟩
      | ret => exact ⟨_, a₁, w₁, hq, .pass (x := .inLoop c) rfl (fun _ _ => .inl (by simp)) harr⟩
      | panic ch => exact ⟨_, a₁, w₁, hq, .pass (x := .inLoop c) rfl (fun _ _ => .inl (by simp)) harr⟩
      | outgrown => exact ⟨_, a₁, w₁, hq, .pass (x := .inLoop c) rfl (fun _ _ => .inl (by simp)) harr⟩
  obtain ⟨e, a', w', hq, harr⟩ := key k a w hI
  exact ⟨e, a', w', hq, .of_steps (.one step_loop) harr⟩

theorem Post.mono {n : Nat} {w0 w1 : World} {t0 t1 : Array Value} {ws ws' : List Nat} {Kn Kn' : Sto → H → Prop} {Kx Kx' : Nat → Sto → H → Prop} {Kr Kr' : Sto → H → Prop} (hs : Same w1 w0) (ht : ∀ i, i ∉ ws' → t0[i]? = t1[i]?) (hsub : ∀ i, i ∈ ws → i ∈ ws')
    (hn : ∀ s h, Kn s h → Kn' s h) (hx : ∀ i s h, Kx i s h → Kx' i s h) (hr : ∀ s h, Kr s h → Kr' s h) (e : Exit) (a : Act) (w : World) (h : Post n w0 t0 ws Kn Kx Kr e a w) : Post n w1 t1 ws' Kn' Kx' Kr' e a w := by
  obtain ⟨h1, h2, h3, h4, s, h5, h6⟩ := h
  refine ⟨h1, h2, hs.trans h3, fun i hi => (h4 i (fun hm => hi (hsub i hm))).trans (ht i hi), s, h5, ?_⟩
  cases e <;> first | exact hn _ _ h6 | exact hx _ _ _ h6 | exact hr _ _ h6 | exact h6

end Go.Proofs.Ytfijchofplkcoaa
