/-
  Code that calls yield, or that runs in a round: its predicate, and that the machine does so (the fenced walk, at the widest fence).
-/
import Derived.Test.YtfijchofplkcoaaSk
import Derived.OrdersIn
import Derived.TacticsIn
set_option linter.unusedVariables false
set_option linter.unusedSimpArgs false
namespace Go.Proofs.Ytfijchofplkcoaa

/-- The widest fence, in a round or not. -/
def Fw (ro : Option Nat) : Fence := { Fence.wide with round := ro }
theorem Fw_none : Fw none = Fence.wide := rfl
theorem Fw_some (l : Nat) : Fw (some l) = Fence.wide.inRound l := rfl
abbrev YSem := Nat → List Value → (Value → H → Prop) → H → Prop
/-- What a call of yield comes to, and that it does. -/
def YOk (P : Program) (Y : YSem) : Prop := ∀ l args K w, Y l args K w.heap → ∃ fn tmps assign body, (Instr.yield l args.toArray).run P w = .ok (.round l fn tmps assign body) w ∧
  RoundIn Fence.wide 0 P l fn tmps assign body w (fun e w' => ∃ v, e = .returned v ∧ Same w w' ∧ K v w'.heap)
def noY : YSem := fun _ _ _ _ => False
theorem noY_ok (P : Program) : YOk P noY := fun _ _ _ _ h => h.elim
def evOpY {P : Program} (tb : Tab) (G : List (Ent P)) (Y : YSem) (s : Sto) (op : Op) (h : H) (K : Value → H → Prop) : Prop :=
  match op with
  | .call c => (match c.callee with
    | .value f => (match look s f with
      | some (.func (.yield l) first captured) => (match looks s c.args.toList with
        | some vs => Y l (first.toList ++ vs) K h
        | none => False)
      | _ => evOp tb G s op h K)
    | _ => evOp tb G s op h K)
  | _ => evOp tb G s op h K
def GoodY (P : Program) (r : Result Next) (w : World) (K : Value → H → Prop) : Prop :=
  (∃ l fn tmps assign body, r = .ok (.round l fn tmps assign body) w ∧ RoundIn Fence.wide 0 P l fn tmps assign body w (fun e w'' => ∃ v, e = .returned v ∧ Same w w'' ∧ K v w''.heap)) ∨ Good P r w K
theorem Good.uponIn {P : Program} {ro : Option Nat} {o : Oper} {a : Act} {next : Act → World → Prop} {Q : Exit → Act → World → Prop} {r : Result Next} {w : World} {K : Value → H → Prop}
    (h : Good P r w K) (hK : ∀ v w', Same w w' → K v w'.heap → next (a.put o.dst v) w') : o.uponIn (Fw ro) 0 P a next Q r := by
  unfold Good at h
  split at h
  · exact hK _ _ h.1 h.2
  · exact hK _ _ h.1 h.2
  · obtain ⟨rfl, h⟩ := h
    rw [Oper.uponIn_enter]
    refine ⟨fun hd => by simp [Fw, Fence.wide] at hd, ?_⟩
    have h2 := (callsIn_wide (n := 0)).2 h
    have h3 : CallsIn (Fw ro) (0 - 1) P _ _ _ _ := h2
    refine h3.mono ?_
    rintro e w'' ⟨v, rfl, hs, hk⟩
    exact hK _ _ hs hk
  · exact h.elim
theorem GoodY.uponIn {P : Program} {ro : Option Nat} {o : Oper} {a : Act} {next : Act → World → Prop} {Q : Exit → Act → World → Prop} {r : Result Next} {w : World} {K : Value → H → Prop}
    (h : GoodY P r w K) (hK : ∀ v w', Same w w' → K v w'.heap → next (a.put o.dst v) w') : o.uponIn (Fw ro) 0 P a next Q r := by
  rcases h with ⟨l, fn, tmps, assign, body, rfl, h⟩ | h
  · rw [Oper.uponIn_round]
    refine ⟨fun hd => by simp [Fw, Fence.wide] at hd, ?_⟩
    have h3 : RoundIn (Fw ro) (0 - 1) P l fn tmps assign body w _ := h
    refine h3.mono ?_
    rintro e w'' ⟨v, rfl, hs, hk⟩
    exact hK _ _ hs hk
  · exact h.uponIn hK
theorem Good.noDefer {P : Program} {ρ : Operand → Value} {o : Oper} {w : World} {K : Value → H → Prop} (h : Good P ((execOp ρ o).run P w) w K) : ∀ c, o.op ≠ .defer c := by
  intro c hc
  have : (execOp ρ o).run P w = (do pure (.defer (← resolve ρ c o.type)) : Sem Next).run P w := by simp [execOp, hc]
  rw [this, Sem.run_bind] at h
  cases hr : (resolve ρ c o.type).run P w with
  | ok d w' => rw [hr] at h; simp [Result.andThen, Good] at h
  | halt _ _ => rw [hr] at h; simp [Result.andThen, Good] at h
theorem evOpY_ok {P : Program} {tb : Tab} {G : List (Ent P)} {Y : YSem} (hfull : tb.full P = true) (hY : YOk P Y) {s : Sto} {ρ : Operand → Value} {K : Value → H → Prop} (ha : Agree s ρ) (w : World) (o : Oper) (h : evOpY tb G Y s o.op w.heap K) :
    GoodY P ((execOp ρ o).run P w) w K ∧ ∀ c, o.op ≠ .defer c := by
  have plain : evOp tb G s o.op w.heap K → GoodY P ((execOp ρ o).run P w) w K ∧ ∀ c, o.op ≠ .defer c := fun h => by
    have hg := evOp_ok hfull ha w o h
    exact ⟨.inr hg, hg.noDefer⟩
  unfold evOpY at h
  split at h
  · rename_i c ho
    split at h
    · rename_i f hf
      split at h
      · rename_i l first captured hl
        split at h
        case h_2 => exact h.elim
        rename_i vs hvs
        obtain ⟨fn, tmps, assign, body, hy, hr⟩ := hY _ _ _ _ h
        have hargs : (first ++ c.args.map ρ) = (first.toList ++ vs).toArray := by
          apply Array.ext'
          simp [← looks_get ha hvs]
        have hrun : (execOp ρ o).run P w = .ok (.round l fn tmps assign body) w := by
          rw [← hargs] at hy
          simp only [execOp, ho, resolve, hf, ha.at_ _ _ hl, Deferred.ofValue, invoke, Sem.run_bind, Sem.run_pure, Result.andThen_ok, hy]
        exact ⟨.inl ⟨l, fn, tmps, assign, body, hrun, hr⟩, fun c' hc => by rw [ho] at hc; cases hc⟩
      · exact plain h
    · exact plain h
  · exact plain h
def evOpsY {P : Program} (tb : Tab) (G : List (Ent P)) (Y : YSem) (all : List Oper) : List Oper → Sto → H → (Sto → H → Prop) → Prop
  | [], s, h, K => K s h
  | o :: r, s, h, K =>
    match o.guard with
    | none => evOpY tb G Y s o.op h fun v h' => evOpsY tb G Y all r (put s o.dst v) h' K
    | some (j, want) => match dstOf all j with
      | none => False
      | some d => match find1 s d with
        | none => False
        | some v => match v with
          | .bool b => Br b
              (match want with
                | true => evOpY tb G Y ((d, .bool true) :: s) o.op h fun v h' => evOpsY tb G Y all r (put ((d, .bool true) :: s) o.dst v) h' K
                | false => evOpsY tb G Y all r (put ((d, .bool true) :: s) o.dst undef) h K)
              (match want with
                | true => evOpsY tb G Y all r (put ((d, .bool false) :: s) o.dst undef) h K
                | false => evOpY tb G Y ((d, .bool false) :: s) o.op h fun v h' => evOpsY tb G Y all r (put ((d, .bool false) :: s) o.dst v) h' K)
          | _ => evOpsY tb G Y all r (put s o.dst undef) h K
theorem wpIn_of_good {P : Program} {ro : Option Nat} {o : Oper} {a : Act} {w : World} {next : Act → World → Prop} {Q : Exit → Act → World → Prop} {K : Value → H → Prop} (h : GoodY P ((execOp a.eval o).run P w) w K) (hd : ∀ c, o.op ≠ .defer c)
    (hK : ∀ v w', Same w w' → K v w'.heap → next (a.put o.dst v) w') : o.wpIn (Fw ro) 0 P a w next Q := by
  refine ⟨fun _ _ => trivial, ?_⟩
  rw [Oper.semAt_eq _ _ _ hd]
  exact h.uponIn hK
theorem wpListIn_skip {P : Program} {ro : Option Nat} {all : Array Oper} {Q : Exit → Act → World → Prop} {o : Oper} {r : List Oper} {a : Act} {w : World} (hw : Region.wanted o (yielded all a.tmps) = false) (h : wpListIn (Fw ro) 0 P all Q r (a.put o.dst undef) w) : wpListIn (Fw ro) 0 P all Q (o :: r) a w := by
  unfold wpListIn
  rw [if_neg (by rw [hw]; simp)]
  exact ⟨fun _ _ => trivial, h⟩
theorem evOpsY_ok {P : Program} {tb : Tab} {G : List (Ent P)} {Y : YSem} (hfull : tb.full P = true) (hY : YOk P Y) {ro : Option Nat} {n : Nat} {dd : List Deferred} (all : Array Oper) {Q : Exit → Act → World → Prop} {K : Sto → H → Prop} : ∀ (l : List Oper) (s : Sto) (a : Act) (w : World),
    Ag s a.tmps → a.defers = dd → a.tmps.size = n → Fits n l → evOpsY tb G Y all.toList l s w.heap K →
    (∀ s' a' w', Ag s' a'.tmps → a'.defers = dd → a'.tmps.size = n → Same w w' → (∀ i, i ∉ dsts l → a'.tmps[i]? = a.tmps[i]?) → K s' w'.heap → Q .normal a' w') →
    wpListIn (Fw ro) 0 P all Q l a w
  | [], s, a, w, hag, hd, hn, hf, h, hK => hK s a w hag hd hn (Same.refl _) (fun _ _ => rfl) h
  | o :: r, s, a, w, hag, hd, hn, hf, h, hK => by
    have hdst : ∀ i, o.dst = some i → i < a.tmps.size := fun i hi => by rw [hn]; exact hf o List.mem_cons_self i hi
    have hfr : Fits n r := fun o' ho' => hf o' (List.mem_cons_of_mem _ ho')
    have hother : ∀ v i, i ∉ dsts (o :: r) → (a.put o.dst v).tmps[i]? = a.tmps[i]? := fun v i hi => put_other _ _ _ _ (fun j hj e => by
      subst e; exact hi (by simp [dsts, hj]))
    have hsub : ∀ i, i ∉ dsts (o :: r) → i ∉ dsts r := fun i hi hm => hi (by
      simp only [dsts, List.filterMap_cons]
      split
      · exact hm
      · exact List.mem_cons_of_mem _ hm)
    have run : ∀ s, Ag s a.tmps → evOpY tb G Y s o.op w.heap (fun v h' => evOpsY tb G Y all.toList r (put s o.dst v) h' K) → Region.wanted o (yielded all a.tmps) = true → wpListIn (Fw ro) 0 P all Q (o :: r) a w := by
      intro s hag h hw
      unfold wpListIn
      rw [if_pos hw]
      obtain ⟨hg, hnd⟩ := evOpY_ok hfull hY hag.agree w o h
      refine wpIn_of_good hg hnd (fun v w' hs hk => ?_)
      exact evOpsY_ok hfull hY all r (put s o.dst v) (a.put o.dst v) w' (hag.put hdst) (by rw [put_defers]; exact hd) (by rw [put_size]; exact hn) hfr hk
        (fun s' a' w2 q1 q2 q3 q4 q5 q6 => hK s' a' w2 q1 q2 q3 (hs.trans q4) (fun i hi => (q5 i (hsub i hi)).trans (hother v i hi)) q6)
    have skip : ∀ s, Ag s a.tmps → evOpsY tb G Y all.toList r (put s o.dst undef) w.heap K → Region.wanted o (yielded all a.tmps) = false → wpListIn (Fw ro) 0 P all Q (o :: r) a w := by
      intro s hag h hw
      refine wpListIn_skip hw ?_
      exact evOpsY_ok hfull hY all r (put s o.dst undef) (a.put o.dst undef) w (hag.put hdst) (by rw [put_defers]; exact hd) (by rw [put_size]; exact hn) hfr h
        (fun s' a' w2 q1 q2 q3 q4 q5 q6 => hK s' a' w2 q1 q2 q3 q4 (fun i hi => (q5 i (hsub i hi)).trans (hother undef i hi)) q6)
    unfold evOpsY at h
    split at h
    · rename_i hg
      exact run s hag h (by simp [Region.wanted, hg])
    · rename_i j want hg
      split at h
      · exact h.elim
      rename_i d hdj
      split at h
      · exact h.elim
      rename_i v hv
      have hy := yielded_of (all := all) hdj (hag d v hv)
      split at h
      · rename_i b
        have ht : a.tmps[d]? = some (.bool b) := hag d _ hv
        cases b with
        | true =>
          have hag' : Ag ((d, .bool true) :: s) a.tmps := hag.cons ht
          simp only [Br_true] at h
          cases want with
          | true => exact run _ hag' h (by simp [Region.wanted, hg, hy])
          | false => exact skip _ hag' h (by simp [Region.wanted, hg, hy])
        | false =>
          have hag' : Ag ((d, .bool false) :: s) a.tmps := hag.cons ht
          simp only [Br_false] at h
          cases want with
          | true => exact skip _ hag' h (by simp [Region.wanted, hg, hy])
          | false => exact run _ hag' h (by simp [Region.wanted, hg, hy])
      · rename_i hnb
        exact skip s hag h (by
          cases v <;> first | exact absurd rfl (hnb _) | simp [Region.wanted, hg, hy])
section
variable {P : Program} {ops : Array Oper}
theorem wpAnyIn_of_T {ro : Option Nat} {Q : Act → H → Prop} {Q' : Exit → Act → World → Prop} {w0 : World} (hQ : ∀ a w, Same w0 w → Q a w.heap → Q' .normal a w) : ∀ (f : Nat) (T : TR) (L : Array Bool) (a : Act) (w : World),
    Same w0 w → wpT P ops Q f T L a w.heap → wpAnyIn (Fw ro) 0 P .any ops Q' f L a w
  | 0, T, L, a, w, hs, h => ⟨h.2.1, hQ _ _ hs h.2.2⟩
  | f + 1, T, L, a, w, hs, h => ⟨fun h0 => hQ _ _ hs (h.2.1 h0), fun i hi => by
      have h1 := h.2.2 w rfl i hi
      unfold goodOp at h1
      unfold wpOpIn
      split at h1
      · exact h1.elim
      · rename_i o ho
        simp only [ho]
        split at h1
        · rename_i hw
          rw [if_pos hw]
          exact wpIn_of_good (.inr h1) h1.noDefer (fun v w' hs' hk => wpAnyIn_of_T hQ f _ _ _ _ (hs.trans hs') hk)
        · rename_i hw
          rw [if_neg hw]
          exact ⟨fun _ _ => trivial, wpAnyIn_of_T hQ f _ _ _ _ hs h1⟩⟩
end
theorem wpIn_loop_ghost {P : Program} {ro : Option Nat} {Q : Exit → Act → World → Prop} {c : Code} (I : Nat → Act → World → Prop) (round : ∀ k a w, I k a w → c.wpIn (Fw ro) 0 P (Exit.then (fun a' w' => ∃ k', k' < k ∧ I k' a' w') Q) a w) :
    ∀ (k : Nat) (a : Act) (w : World), I k a w → (Code.loop c).wpIn (Fw ro) 0 P Q a w := by
  intro k a w hI
  have least : ∀ (J : Nat → Prop), (∃ k, J k) → ∃ k, J k ∧ ∀ j, J j → k ≤ j := by
    intro J ⟨k, hk⟩
    induction k using Nat.strongRecOn with
    | _ k ih =>
      by_cases h : ∃ j, j < k ∧ J j
      · obtain ⟨j, hj, hJ⟩ := h; exact ih j hj hJ
      · exact ⟨k, hk, fun j hj => Classical.byContradiction fun hn => h ⟨j, by omega, hj⟩⟩
  haveI := fun p : Prop => Classical.propDecidable p
  let μ : Act → World → Nat := fun a w => if h : ∃ k, I k a w then Classical.choose (least (fun k => I k a w) h) else 0
  have hμ : ∀ a w k, I k a w → I (μ a w) a w ∧ μ a w ≤ k := fun a w k h => by
    have he : ∃ k, I k a w := ⟨k, h⟩
    have := Classical.choose_spec (least (fun k => I k a w) he)
    simp only [μ, dif_pos he]
    exact ⟨this.1, this.2 k h⟩
  refine wpIn_loop (fun a w => ∃ k, I k a w) μ ⟨k, hI⟩ ?_
  rintro a w ⟨k, hk⟩
  refine wpIn_mono (round (μ a w) a w (hμ a w k hk).1) ?_
  intro e a' w' hp
  cases e with
  | normal =>
    obtain ⟨k', hlt, hk'⟩ := hp
    exact ⟨⟨k', hk'⟩, Nat.lt_of_le_of_lt (hμ a' w' k' hk').2 hlt⟩
  | _ => exact hp

def evY {P : Program} (tb : Tab) (G : List (Ent P)) (Y : YSem) (pl : Plan) : Code → (Sto → H → Prop) → (Nat → Sto → H → Prop) → (Sto → H → Prop) → Sto → H → Prop
  | .skip, Kn, _, _, s, h => Kn s h
  | .label _, Kn, _, _, s, h => Kn s h
  | .ret, _, _, Kr, s, h => Kr s h
  | .exit id, _, Kx, _, s, h => Kx id s h
  | .region id ops draw, Kn, _, _, s, h => bif draw then (match find1 pl.draw id with
      | none => False
      | some d => bif P.follows .mixedOrders && Region.noSelect ops && canonB ops d ops.size (Array.replicate ops.size false) then evD tb G ops d [] s h Kn else False)
    else evOpsY tb G Y ops.toList ops.toList s h Kn
  | .cond c x y, Kn, Kx, Kr, s, h => (match look s c with
    | some (.bool b) => Br b (evY tb G Y pl x Kn Kx Kr s h) (evY tb G Y pl y Kn Kx Kr s h)
    | _ => False)
  | .block id c, Kn, Kx, Kr, s, h => evY tb G Y pl c Kn (fun i s h => bif Nat.beq i id then Kn s h else Kx i s h) Kr s h
  | .seq a b, Kn, Kx, Kr, s, h => (match planAt pl.join (fid b) with
    | none => evY tb G Y pl a (fun s h => evY tb G Y pl b Kn Kx Kr s h) Kx Kr s h
    | some L => JoinM (σ := TupT L) (fun J => evY tb G Y pl a (fun s1 h1 => match TupG L s1 with | some x => J x h1 | none => False) Kx Kr s h)
        (fun x h' => evY tb G Y pl b Kn Kx Kr (TupS L x ++ forget (writes a) s) h'))
  | .loop c, Kn, Kx, Kr, s, h => (match planAt pl.loop (fid c) with
    | none => False
    | some L => (match TupG L s with
      | none => False
      | some x0 => LoopM (σ := TupT L) (fun self x h' => evY tb G Y pl c (fun s1 h1 => match TupG L s1 with | some x => self x h1 | none => False) Kx Kr (TupS L x ++ forget (writes c) s) h') x0 h))
  | _, _, _, _, _, _ => False

theorem evY_ok {P : Program} {tb : Tab} {G : List (Ent P)} {Y : YSem} {pl : Plan} (hfull : tb.full P = true) (hY : YOk P Y) {ro : Option Nat} {n : Nat} (c : Code) : ∀ (Kn : Sto → H → Prop) (Kx : Nat → Sto → H → Prop) (Kr : Sto → H → Prop) (s : Sto) (a : Act) (w : World),
    a.tmps.size = n → a.defers = [] → Ag s a.tmps → fitsC n c = true → evY tb G Y pl c Kn Kx Kr s w.heap → c.wpIn (Fw ro) 0 P (Post n w a.tmps (writes c) Kn Kx Kr) a w := by
  induction c with
  | skip => exact fun Kn Kx Kr s a w h1 h2 h3 _ h => wpIn_skip ⟨h1, h2, Same.refl _, fun _ _ => rfl, s, h3, h⟩
  | label l => exact fun Kn Kx Kr s a w h1 h2 h3 _ h => wpIn_label ⟨h1, h2, Same.refl _, fun _ _ => rfl, s, h3, h⟩
  | ret => exact fun Kn Kx Kr s a w h1 h2 h3 _ h => wpIn_ret ⟨h1, h2, Same.refl _, fun _ _ => rfl, s, h3, h⟩
  | exit id => exact fun Kn Kx Kr s a w h1 h2 h3 _ h => wpIn_exit ⟨h1, h2, Same.refl _, fun _ _ => rfl, s, h3, h⟩
  | region id ops draw =>
    intro Kn Kx Kr s a w h1 h2 h3 hf h
    have hfit : Fits n ops.toList := by
      intro o ho d hd
      simp only [fitsC, List.all_eq_true] at hf
      have := hf o ho
      rw [hd] at this
      exact Nat.le_of_ble_eq_true this
    cases draw with
    | true =>
      simp only [evY, cond_true] at h
      split at h
      · exact h.elim
      rename_i d hd
      cases hc : (P.follows .mixedOrders && Region.noSelect ops && canonB ops d ops.size (Array.replicate ops.size false)) with
      | false => rw [hc] at h; exact h.elim
      | true =>
        rw [hc] at h
        simp only [cond_true] at h
        simp only [Bool.and_eq_true] at hc
        obtain ⟨⟨hmix, hsel⟩, hcan⟩ := hc
        have hcl : ClosedL ops (Array.replicate ops.size false) := by
          intro j o ho hj
          simp [Array.getD_eq_getD_getElem?, Array.getElem?_replicate] at hj
          split at hj <;> simp at hj
        have h5 := evD_ok (t0 := a.tmps) hfull hsel hfit d [] s a w.heap ops.size _ h3 ⟨h1, h2, fun _ _ => rfl⟩ hcan hcl trivial h
        refine wpIn_region_any hmix (wpAnyIn_of_T (w0 := w) (fun a' w' hs' hq => ?_) ops.size [] _ a { w with drawn := w.drawn + 1 } ⟨rfl, rfl, rfl⟩ h5)
        obtain ⟨hfr, s', q1, q2⟩ := hq
        exact ⟨hfr.size, hfr.defers, hs', hfr.rest, s', q1, q2⟩
    | false =>
      refine wpIn_region_list (evOpsY_ok hfull hY ops ops.toList s a w h3 h2 h1 hfit h ?_)
      intro s' a' w' q1 q2 q3 q4 q5 q6
      exact ⟨q3, q2, q4, q5, s', q1, q6⟩
  | seq x y ihx ihy =>
    intro Kn Kx Kr s a w h1 h2 h3 hf h
    simp only [fitsC, Bool.and_eq_true] at hf
    simp only [evY] at h
    split at h
    · refine wpIn_seq (wpIn_mono (ihx _ _ _ s a w h1 h2 h3 hf.1 h) ?_)
      intro e a1 w1 hp
      cases e with
      | normal =>
        obtain ⟨q1, q2, q3, q4, s1, q5, q6⟩ := hp
        refine wpIn_mono (ihy _ _ _ s1 a1 w1 q1 q2 q5 hf.2 q6) ?_
        exact Post.mono q3 (fun i hi => q4 i (fun hm => hi (by simp [writes, hm]))) (fun i hm => by simp [writes, hm]) (fun _ _ h => h) (fun _ _ _ h => h) (fun _ _ h => h)
      | _ =>
        obtain ⟨q1, q2, q3, q4, s1, q5, q6⟩ := hp
        exact ⟨q1, q2, q3, fun i hi => q4 i (fun hm => hi (List.mem_append_left _ hm)), s1, q5, q6⟩
    · rename_i L hL
      refine wpIn_seq (wpIn_mono (ihx _ _ _ s a w h1 h2 h3 hf.1 h) ?_)
      intro e a1 w1 hp
      cases e with
      | normal =>
        obtain ⟨q1, q2, q3, q4, s1, q5, q6⟩ := hp
        simp only at q6
        split at q6
        case h_2 => exact q6.elim
        rename_i x hx
        refine wpIn_mono (ihy _ _ _ _ a1 w1 q1 q2 (h3.tup q5 hx q4) hf.2 q6) ?_
        exact Post.mono q3 (fun i hi => q4 i (fun hm => hi (by simp [writes, hm]))) (fun i hm => by simp [writes, hm]) (fun _ _ h => h) (fun _ _ _ h => h) (fun _ _ h => h)
      | _ =>
        obtain ⟨q1, q2, q3, q4, s1, q5, q6⟩ := hp
        exact ⟨q1, q2, q3, fun i hi => q4 i (fun hm => hi (List.mem_append_left _ hm)), s1, q5, q6⟩
  | cond c x y ihx ihy =>
    intro Kn Kx Kr s a w h1 h2 h3 hf h
    simp only [fitsC, Bool.and_eq_true] at hf
    simp only [evY] at h
    split at h
    case h_2 => exact h.elim
    rename_i b hb
    have he := h3.agree.at_ _ _ hb
    cases b with
    | true =>
      refine wpIn_cond_true he (wpIn_mono (ihx _ _ _ s a w h1 h2 h3 hf.1 h) ?_)
      exact Post.mono (Same.refl _) (fun _ _ => rfl) (fun i hm => by simp [writes, hm]) (fun _ _ h => h) (fun _ _ _ h => h) (fun _ _ h => h)
    | false =>
      refine wpIn_cond_false he (wpIn_mono (ihy _ _ _ s a w h1 h2 h3 hf.2 h) ?_)
      exact Post.mono (Same.refl _) (fun _ _ => rfl) (fun i hm => by simp [writes, hm]) (fun _ _ h => h) (fun _ _ _ h => h) (fun _ _ h => h)
  | block id c ih =>
    intro Kn Kx Kr s a w h1 h2 h3 hf h
    refine wpIn_block (wpIn_mono (ih _ _ _ s a w h1 h2 h3 hf h) ?_)
    intro e a1 w1 hp
    obtain ⟨q1, q2, q3, q4, s1, q5, q6⟩ := hp
    cases e with
    | exit i =>
      simp only [Exit.inBlock]
      split
      · rename_i hi
        subst hi
        refine ⟨q1, q2, q3, q4, s1, q5, ?_⟩
        simpa using q6
      · rename_i hi
        refine ⟨q1, q2, q3, q4, s1, q5, ?_⟩
        have : Nat.beq i id = false := by
          cases hb : Nat.beq i id with
          | true => exact absurd (Nat.eq_of_beq_eq_true hb) hi
          | false => rfl
        simpa [this] using q6
    | _ => exact ⟨q1, q2, q3, q4, s1, q5, q6⟩
  | scope c ih => exact fun Kn Kx Kr s a w h1 h2 h3 _ h => h.elim
  | loop c ih =>
    intro Kn Kx Kr s a w h1 h2 h3 hf h
    simp only [evY] at h
    split at h
    · exact h.elim
    rename_i L hL
    split at h
    · exact h.elim
    rename_i x0 hx0
    obtain ⟨I, k, hI, hround⟩ := h
    refine wpIn_loop_ghost (fun k a1 w1 => ∃ x, a1.tmps.size = n ∧ a1.defers = [] ∧ Same w w1 ∧ (∀ i, i ∉ writes c → a1.tmps[i]? = a.tmps[i]?) ∧ Ag (TupS L x ++ forget (writes c) s) a1.tmps ∧ I k x w1.heap) ?_ k a w ⟨x0, h1, h2, Same.refl _, fun _ _ => rfl, h3.tup h3 hx0 (fun _ _ => rfl), hI⟩
    rintro k a1 w1 ⟨x, p1, p2, p3, p4, p5, p6⟩
    refine wpIn_mono (ih _ _ _ _ a1 w1 p1 p2 p5 hf (hround k x _ p6)) ?_
    intro e a2 w2 hp
    cases e with
    | normal =>
      obtain ⟨q1, q2, q3, q4, s1, q5, q6⟩ := hp
      simp only at q6
      split at q6
      case h_2 => exact q6.elim
      rename_i x2 hx2
      obtain ⟨k', hk', hI'⟩ := q6
      exact ⟨k', hk', x2, q1, q2, p3.trans q3, fun i hi => (q4 i hi).trans (p4 i hi), h3.tup q5 hx2 (fun i hi => (q4 i hi).trans (p4 i hi)), hI'⟩
    | _ =>
      obtain ⟨q1, q2, q3, q4, s1, q5, q6⟩ := hp
      exact ⟨q1, q2, p3.trans q3, fun i hi => (q4 i hi).trans (p4 i hi), s1, q5, q6⟩
  | rangeFunc f p as b _ _ => exact fun Kn Kx Kr s a w h1 h2 h3 _ h => h.elim
  | goto l => exact fun Kn Kx Kr s a w h1 h2 h3 _ h => h.elim
  | refuse w => exact fun Kn Kx Kr s a w h1 h2 h3 _ h => h.elim

/-! Functions that call yield -/
def evFnY {P : Program} (tb : Tab) (G : List (Ent P)) (Y : YSem) (pl : Plan) (rs : List ResultVar) (c : Code) (args : List Value) (K : Value → H → Prop) (h : H) : Prop :=
  evY tb G Y pl c (fun s h => evRes (P := P) tb rs s h fun vs => K (tupV vs) h) (fun _ _ _ => False) (fun s h => evRes (P := P) tb rs s h fun vs => K (tupV vs) h) (args0 0 args) h
theorem evFnY_ok {P : Program} {tb : Tab} (hfull : tb.full P = true) {G : List (Ent P)} {Y : YSem} (hY : YOk P Y) {pl : Plan} {num : Nat} {fn : Func} {c : Code} (hf : P.funcs[num]? = some fn) (hb : fn.body = some c) (hfit : fitsC fn.ntmps c = true)
    (args : List Value) (hlen : args.length ≤ fn.ntmps) (K : Value → H → Prop) (w : World) (h : evFnY tb G Y pl fn.results.toList c args K w.heap) :
    Calls P num args.toArray w (fun e w' => ∃ v, e = .returned v ∧ Same w w' ∧ K v w'.heap) := by
  refine calls_of_wp hf hb (wpIn_wide (n := 0).1 ?_)
  have hsz : (args.toArray ++ Array.replicate (fn.ntmps - args.toArray.size) undef).size = fn.ntmps := by simp; omega
  rw [← Fw_none]
  refine wpIn_mono (evY_ok hfull hY c _ _ _ (args0 0 args) _ w hsz rfl ?_ hfit h) ?_
  · intro i v hv
    obtain ⟨_, h2⟩ := args0_find args 0 i v hv
    rw [Nat.sub_zero] at h2
    have hi : i < args.length := (List.getElem?_eq_some_iff.1 h2).1
    rw [Array.getElem?_append_left (by simpa using hi)]
    simpa using h2
  · intro e a w' hp
    obtain ⟨q1, q2, q3, q4, s, q5, q6⟩ := hp
    have fin : evRes (P := P) tb fn.results.toList s w'.heap (fun vs => K (tupV vs) w'.heap) → a.defers = [] ∧ ∃ v, (results fn a.tmps).run P w' = .ok v w' ∧ ∃ v', Ending.returned v = .returned v' ∧ Same w w' ∧ K v' w'.heap := by
      intro hr
      obtain ⟨vs, h1, h2⟩ := evRes_ok (Tab.full_ok hfull) w' _ s a _ q5 hr
      exact ⟨q2, tupV vs, run_results fn a.tmps w' vs h1, _, rfl, q3, h2⟩
    cases e with
    | normal => exact fin q6
    | ret => exact fin q6
    | exit id => exact q6.elim
    | goto l => exact q6.elim
    | panic ch => exact q6.elim
    | outgrown => exact q6.elim
/-- An entry of a function that calls yield; its callees may be entries of this kind. -/
def mkEntY {P : Program} {tb : Tab} (hfull : tb.full P = true) (num : Nat) (fn : Func) (c : Code) (hf : P.funcs[num]? = some fn) (hc : fn.body = some c) (G : List (Ent P)) (Y : YSem) (hY : YOk P Y) (pl : Plan) (L : List Shape) (hb : bodyOk fn c L.length = true)
    (F F0 : ShL L → (Value → H → Prop) → H → Prop) (hs : F = F0) (hF : ∀ x K h, F0 x K h = evFnY tb G Y pl fn.results.toList c (ShL.vals L x) K h) : Ent P where
  num := num
  sem := entSem F
  has := by
    unfold bodyOk at hb
    simp only [Bool.and_eq_true, Bool.not_eq_true'] at hb
    exact ⟨fn, hf, hb.1.1.2, by rw [hc]; rfl⟩
  ok := by
    intro args K w h
    unfold bodyOk at hb
    simp only [Bool.and_eq_true] at hb
    unfold entSem at h
    split at h
    case h_2 => exact h.elim
    rename_i x hx
    have hv := ShL.of_vals hx
    subst hs
    rw [hF] at h
    rw [← hv]
    exact evFnY_ok hfull hY hf hc hb.1.2 _ (by rw [ShL.length]; exact Nat.le_of_ble_eq_true hb.2) K w h
end Go.Proofs.Ytfijchofplkcoaa
