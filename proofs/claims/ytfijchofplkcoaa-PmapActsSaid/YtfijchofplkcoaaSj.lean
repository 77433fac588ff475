/-
  Code and functions: what they come to, as predicates; entries.
-/
import Derived.Test.YtfijchofplkcoaaSi
set_option linter.unusedVariables false
set_option linter.unusedSimpArgs false
namespace Go.Proofs.Ytfijchofplkcoaa

structure Plan where
  join : List (Nat × Sig)
  loop : List (Nat × Sig)
  draw : List (Nat × DT)
def planAt (l : List (Nat × Sig)) (i : Option Nat) : Option Sig := match i with | some i => find1 l i | none => none

def evC {P : Program} (tb : Tab) (G : List (Ent P)) (pl : Plan) : Code → (Sto → H → Prop) → (Nat → Sto → H → Prop) → (Sto → H → Prop) → Sto → H → Prop
  | .skip, Kn, _, _, s, h => Kn s h
  | .label _, Kn, _, _, s, h => Kn s h
  | .ret, _, _, Kr, s, h => Kr s h
  | .exit id, _, Kx, _, s, h => Kx id s h
  | .region id ops draw, Kn, _, _, s, h => bif draw then (match find1 pl.draw id with
      | none => False
      | some d => bif P.follows .mixedOrders && Region.noSelect ops && canonB ops d ops.size (Array.replicate ops.size false) then evD tb G ops d [] s h Kn else False)
    else evOps tb G ops.toList ops.toList s h Kn
  | .cond c x y, Kn, Kx, Kr, s, h => (match look s c with
    | some (.bool b) => Br b (evC tb G pl x Kn Kx Kr s h) (evC tb G pl y Kn Kx Kr s h)
    | _ => False)
  | .block id c, Kn, Kx, Kr, s, h => evC tb G pl c Kn (fun i s h => bif Nat.beq i id then Kn s h else Kx i s h) Kr s h
  | .scope c, Kn, Kx, Kr, s, h => evC tb G pl c Kn Kx Kr s h
  | .seq a b, Kn, Kx, Kr, s, h => (match planAt pl.join (fid b) with
    | none => evC tb G pl a (fun s h => evC tb G pl b Kn Kx Kr s h) Kx Kr s h
    | some L => JoinM (σ := TupT L) (fun J => evC tb G pl a (fun s1 h1 => match TupG L s1 with | some x => J x h1 | none => False) Kx Kr s h)
        (fun x h' => evC tb G pl b Kn Kx Kr (TupS L x ++ forget (writes a) s) h'))
  | .loop c, Kn, Kx, Kr, s, h => (match planAt pl.loop (fid c) with
    | none => False
    | some L => (match TupG L s with
      | none => False
      | some x0 => LoopM (σ := TupT L) (fun self x h' => evC tb G pl c (fun s1 h1 => match TupG L s1 with | some x => self x h1 | none => False) Kx Kr (TupS L x ++ forget (writes c) s) h') x0 h))
  | _, _, _, _, _, _ => False


theorem evC_ok {P : Program} {tb : Tab} {G : List (Ent P)} {pl : Plan} (hfull : tb.full P = true) {n : Nat} (c : Code) : ∀ (Kn : Sto → H → Prop) (Kx : Nat → Sto → H → Prop) (Kr : Sto → H → Prop) (s : Sto) (a : Act) (w : World),
    a.tmps.size = n → a.defers = [] → Ag s a.tmps → fitsC n c = true → evC tb G pl c Kn Kx Kr s w.heap → c.wp P (Post n w a.tmps (writes c) Kn Kx Kr) a w := by
  induction c with
  | skip => exact fun Kn Kx Kr s a w h1 h2 h3 _ h => wp_skip ⟨h1, h2, Same.refl _, fun _ _ => rfl, s, h3, h⟩
  | label l => exact fun Kn Kx Kr s a w h1 h2 h3 _ h => wp_label ⟨h1, h2, Same.refl _, fun _ _ => rfl, s, h3, h⟩
  | ret => exact fun Kn Kx Kr s a w h1 h2 h3 _ h => wp_ret ⟨h1, h2, Same.refl _, fun _ _ => rfl, s, h3, h⟩
  | exit id => exact fun Kn Kx Kr s a w h1 h2 h3 _ h => wp_exit ⟨h1, h2, Same.refl _, fun _ _ => rfl, s, h3, h⟩
  | region id ops draw =>
    intro Kn Kx Kr s a w h1 h2 h3 hf h
    have hfit : Fits n ops.toList := by
      intro o ho d hd
      simp only [fitsC, List.all_eq_true] at hf
      have := hf o ho
      rw [hd] at this
      exact Nat.le_of_ble_eq_true this
    cases draw with
    | true =>
      simp only [evC, cond_true] at h
      split at h
      · exact h.elim
      rename_i d hd
      cases hc : (P.follows .mixedOrders && Region.noSelect ops && canonB ops d ops.size (Array.replicate ops.size false)) with
      | false => rw [hc] at h; exact h.elim
      | true =>
        rw [hc] at h
        simp only [cond_true] at h
        simp only [Bool.and_eq_true] at hc
        obtain ⟨⟨hmix, hsel⟩, hcan⟩ := hc
        have hcl : ClosedL ops (Array.replicate ops.size false) := by
          intro j o ho hj
          simp [Array.getD_eq_getD_getElem?, Array.getElem?_replicate] at hj
          split at hj <;> simp at hj
        have h5 := evD_ok (t0 := a.tmps) hfull hsel hfit d [] s a w.heap ops.size _ h3 ⟨h1, h2, fun _ _ => rfl⟩ hcan hcl trivial h
        refine wp_region_any hmix (wpAny_of_T (w0 := w) (fun a' w' hs' hq => ?_) ops.size [] _ a { w with drawn := w.drawn + 1 } ⟨rfl, rfl, rfl⟩ h5)
        obtain ⟨hfr, s', q1, q2⟩ := hq
        exact ⟨hfr.size, hfr.defers, hs', hfr.rest, s', q1, q2⟩
    | false =>
      refine wp_region_list (evOps_ok hfull ops ops.toList s a w h3 h2 h1 hfit h ?_)
      intro s' a' w' q1 q2 q3 q4 q5 q6
      exact ⟨q3, q2, q4, q5, s', q1, q6⟩
  | seq x y ihx ihy =>
    intro Kn Kx Kr s a w h1 h2 h3 hf h
    simp only [fitsC, Bool.and_eq_true] at hf
    simp only [evC] at h
    split at h
    · refine wp_seq (wp_mono (ihx _ _ _ s a w h1 h2 h3 hf.1 h) ?_)
      intro e a1 w1 hp
      cases e with
      | normal =>
        obtain ⟨q1, q2, q3, q4, s1, q5, q6⟩ := hp
        refine wp_mono (ihy _ _ _ s1 a1 w1 q1 q2 q5 hf.2 q6) ?_
        exact Post.mono q3 (fun i hi => q4 i (fun hm => hi (by simp [writes, hm]))) (fun i hm => by simp [writes, hm]) (fun _ _ h => h) (fun _ _ _ h => h) (fun _ _ h => h)
      | _ =>
        obtain ⟨q1, q2, q3, q4, s1, q5, q6⟩ := hp
        exact ⟨q1, q2, q3, fun i hi => q4 i (fun hm => hi (List.mem_append_left _ hm)), s1, q5, q6⟩
    · rename_i L hL
      refine wp_seq (wp_mono (ihx _ _ _ s a w h1 h2 h3 hf.1 h) ?_)
      intro e a1 w1 hp
      cases e with
      | normal =>
        obtain ⟨q1, q2, q3, q4, s1, q5, q6⟩ := hp
        simp only at q6
        split at q6
        case h_2 => exact q6.elim
        rename_i x hx
        refine wp_mono (ihy _ _ _ _ a1 w1 q1 q2 (h3.tup q5 hx q4) hf.2 q6) ?_
        exact Post.mono q3 (fun i hi => q4 i (fun hm => hi (by simp [writes, hm]))) (fun i hm => by simp [writes, hm]) (fun _ _ h => h) (fun _ _ _ h => h) (fun _ _ h => h)
      | _ =>
        obtain ⟨q1, q2, q3, q4, s1, q5, q6⟩ := hp
        exact ⟨q1, q2, q3, fun i hi => q4 i (fun hm => hi (List.mem_append_left _ hm)), s1, q5, q6⟩
  | cond c x y ihx ihy =>
    intro Kn Kx Kr s a w h1 h2 h3 hf h
    simp only [fitsC, Bool.and_eq_true] at hf
    simp only [evC] at h
    split at h
    case h_2 => exact h.elim
    rename_i b hb
    have he := h3.agree.at_ _ _ hb
    cases b with
    | true =>
      refine wp_cond_true he (wp_mono (ihx _ _ _ s a w h1 h2 h3 hf.1 h) ?_)
      exact Post.mono (Same.refl _) (fun _ _ => rfl) (fun i hm => by simp [writes, hm]) (fun _ _ h => h) (fun _ _ _ h => h) (fun _ _ h => h)
    | false =>
      refine wp_cond_false he (wp_mono (ihy _ _ _ s a w h1 h2 h3 hf.2 h) ?_)
      exact Post.mono (Same.refl _) (fun _ _ => rfl) (fun i hm => by simp [writes, hm]) (fun _ _ h => h) (fun _ _ _ h => h) (fun _ _ h => h)
  | block id c ih =>
    intro Kn Kx Kr s a w h1 h2 h3 hf h
    refine wp_block (wp_mono (ih _ _ _ s a w h1 h2 h3 hf h) ?_)
    intro e a1 w1 hp
    obtain ⟨q1, q2, q3, q4, s1, q5, q6⟩ := hp
    cases e with
    | exit i =>
      simp only [Exit.inBlock]
      split
      · rename_i hi
        subst hi
        refine ⟨q1, q2, q3, q4, s1, q5, ?_⟩
        simpa using q6
      · rename_i hi
        refine ⟨q1, q2, q3, q4, s1, q5, ?_⟩
        have : Nat.beq i id = false := by
          cases hb : Nat.beq i id with
          | true => exact absurd (Nat.eq_of_beq_eq_true hb) hi
          | false => rfl
        simpa [this] using q6
    | _ => exact ⟨q1, q2, q3, q4, s1, q5, q6⟩
  | scope c ih =>
    intro Kn Kx Kr s a w h1 h2 h3 hf h
    refine wp_scope_straight (wp_mono (ih _ _ _ s a w h1 h2 h3 hf h) ?_)
    intro e a1 w1 hp
    cases e with
    | goto l => obtain ⟨_, _, _, _, _, _, q6⟩ := hp; exact q6.elim
    | _ => exact hp
  | loop c ih =>
    intro Kn Kx Kr s a w h1 h2 h3 hf h
    simp only [evC] at h
    split at h
    · exact h.elim
    rename_i L hL
    split at h
    · exact h.elim
    rename_i x0 hx0
    obtain ⟨I, k, hI, hround⟩ := h
    refine wp_loop_ghost (fun k a1 w1 => ∃ x, a1.tmps.size = n ∧ a1.defers = [] ∧ Same w w1 ∧ (∀ i, i ∉ writes c → a1.tmps[i]? = a.tmps[i]?) ∧ Ag (TupS L x ++ forget (writes c) s) a1.tmps ∧ I k x w1.heap) ?_ k a w ⟨x0, h1, h2, Same.refl _, fun _ _ => rfl, h3.tup h3 hx0 (fun _ _ => rfl), hI⟩
    rintro k a1 w1 ⟨x, p1, p2, p3, p4, p5, p6⟩
    refine wp_mono (ih _ _ _ _ a1 w1 p1 p2 p5 hf (hround k x _ p6)) ?_
    intro e a2 w2 hp
    cases e with
    | normal =>
      obtain ⟨q1, q2, q3, q4, s1, q5, q6⟩ := hp
      simp only at q6
      split at q6
      case h_2 => exact q6.elim
      rename_i x2 hx2
      obtain ⟨k', hk', hI'⟩ := q6
      exact ⟨k', hk', x2, q1, q2, p3.trans q3, fun i hi => (q4 i hi).trans (p4 i hi), h3.tup q5 hx2 (fun i hi => (q4 i hi).trans (p4 i hi)), hI'⟩
    | _ =>
      obtain ⟨q1, q2, q3, q4, s1, q5, q6⟩ := hp
      exact ⟨q1, q2, p3.trans q3, fun i hi => (q4 i hi).trans (p4 i hi), s1, q5, q6⟩
  | rangeFunc f p as b _ _ => exact fun Kn Kx Kr s a w h1 h2 h3 _ h => h.elim
  | goto l => exact fun Kn Kx Kr s a w h1 h2 h3 _ h => h.elim
  | refuse w => exact fun Kn Kx Kr s a w h1 h2 h3 _ h => h.elim


/-! Functions -/
def evRes {P : Program} (tb : Tab) : List ResultVar → Sto → H → (List Value → Prop) → Prop
  | [], _, _, K => K []
  | .tmp t :: r, s, h, K => ovl (find1 s t) fun v => evRes (P := P) tb r s h fun vs => K (v :: vs)
  | .cell a t :: r, s, h, K => (match find1 s a with
    | some (.pointer (some ad)) => evLd (find1 tb.lk t) h ad fun v => evRes (P := P) tb r s h fun vs => K (v :: vs)
    | _ => False)
def args0 : Nat → List Value → Sto
  | _, [] => []
  | i, v :: r => (i, v) :: args0 (i + 1) r
def evFn {P : Program} (tb : Tab) (G : List (Ent P)) (pl : Plan) (rs : List ResultVar) (c : Code) (args : List Value) (K : Value → H → Prop) (h : H) : Prop :=
  evC tb G pl c (fun s h => evRes (P := P) tb rs s h fun vs => K (tupV vs) h) (fun _ _ _ => False) (fun s h => evRes (P := P) tb rs s h fun vs => K (tupV vs) h) (args0 0 args) h

def resOne (tmps : Array Value) : ResultVar → Sem Value
  | .tmp t => pure (tmps.getD t undef)
  | .cell a t => do loadVar t (← asAddr (tmps.getD a undef))
theorem evRes_ok {P : Program} {tb : Tab} (hok : tb.ok P = true) (w : World) : ∀ (rs : List ResultVar) (s : Sto) (a : Act) (K : List Value → Prop), Ag s a.tmps → evRes (P := P) tb rs s w.heap K →
    ∃ vs, (rs.mapM (resOne a.tmps)).run P w = .ok vs w ∧ K vs
  | [], s, a, K, hag, h => ⟨[], by simp, h⟩
  | .tmp t :: r, s, a, K, hag, h => by
    simp only [evRes] at h
    obtain ⟨v, hv, h⟩ := ovl_some h
    obtain ⟨vs, h1, h2⟩ := evRes_ok hok w r s a _ hag h
    refine ⟨v :: vs, ?_, h2⟩
    have := hag t v hv
    rw [List.mapM_cons]
    simp [resOne, Array.getD_eq_getD_getElem?, this, h1]
  | .cell ad t :: r, s, a, K, hag, h => by
    simp only [evRes] at h
    split at h
    case h_2 => exact h.elim
    rename_i b hb
    obtain ⟨v, h3, h⟩ := evLd_ok (P := P) (t := t) w (fun k hk => Tab.lk_ok hok hk) h
    obtain ⟨vs, h1, h2⟩ := evRes_ok hok w r s a _ hag h
    refine ⟨v :: vs, ?_, h2⟩
    have := hag ad _ hb
    rw [List.mapM_cons]
    simp [resOne, Array.getD_eq_getD_getElem?, this, h1, asAddr, h3]

theorem run_results {P : Program} (fn : Func) (tmps : Array Value) (w : World) (vs : List Value) (h : (fn.results.toList.mapM (resOne tmps)).run P w = .ok vs w) : (results fn tmps).run P w = .ok (tupV vs) w := by
  have h1 : (fn.results.mapM (resOne tmps)).run P w = .ok vs.toArray w := by
    rw [Array.mapM_eq_mapM_toList, Sem.run_map, h]; rfl
  have h2 : results fn tmps = (do
      let vs ← fn.results.mapM (resOne tmps)
      pure (if h : vs.size = 1 then vs[0] else .tuple vs)) := by
    unfold results
    congr 1
  rw [h2, Sem.run_bind, h1]
  simp only [Result.andThen_ok, Sem.run_pure]
  cases vs with
  | nil => rfl
  | cons v r =>
    cases r with
    | nil => rfl
    | cons u r => simp [tupV]

theorem args0_find : ∀ (vs : List Value) (i j : Nat) (v : Value), find1 (args0 i vs) j = some v → i ≤ j ∧ vs[j - i]? = some v
  | [], i, j, v, h => by simp [args0, find1] at h
  | u :: r, i, j, v, h => by
    simp only [args0, find1] at h
    cases hb : Nat.beq i j with
    | true =>
      have := Nat.eq_of_beq_eq_true hb
      subst this
      rw [hb] at h; simp only [cond_true, Option.some.injEq] at h; subst h
      simp
    | false =>
      rw [hb] at h
      obtain ⟨h1, h2⟩ := args0_find r (i + 1) j v h
      refine ⟨by omega, ?_⟩
      rw [show j - i = (j - (i + 1)) + 1 by omega]
      simpa using h2

theorem evFn_ok {P : Program} {tb : Tab} (hfull : tb.full P = true) {G : List (Ent P)} {pl : Plan} {num : Nat} {fn : Func} {c : Code} (hf : P.funcs[num]? = some fn) (hb : fn.body = some c) (hfit : fitsC fn.ntmps c = true)
    (args : List Value) (hlen : args.length ≤ fn.ntmps) (K : Value → H → Prop) (w : World) (h : evFn tb G pl fn.results.toList c args K w.heap) :
    Calls P num args.toArray w (fun e w' => ∃ v, e = .returned v ∧ Same w w' ∧ K v w'.heap) := by
  refine calls_of_wp hf hb ?_
  have hsz : (args.toArray ++ Array.replicate (fn.ntmps - args.toArray.size) undef).size = fn.ntmps := by simp; omega
  refine wp_mono (evC_ok hfull c _ _ _ (args0 0 args) _ w hsz rfl ?_ hfit h) ?_
  · intro i v hv
    obtain ⟨_, h2⟩ := args0_find args 0 i v hv
    rw [Nat.sub_zero] at h2
    have hi : i < args.length := (List.getElem?_eq_some_iff.1 h2).1
    rw [Array.getElem?_append_left (by simpa using hi)]
    simpa using h2
  · intro e a w' hp
    obtain ⟨q1, q2, q3, q4, s, q5, q6⟩ := hp
    have fin : evRes (P := P) tb fn.results.toList s w'.heap (fun vs => K (tupV vs) w'.heap) → a.defers = [] ∧ ∃ v, (results fn a.tmps).run P w' = .ok v w' ∧ ∃ v', Ending.returned v = .returned v' ∧ Same w w' ∧ K v' w'.heap := by
      intro hr
      obtain ⟨vs, h1, h2⟩ := evRes_ok (Tab.full_ok hfull) w' _ s a _ q5 hr
      exact ⟨q2, tupV vs, run_results fn a.tmps w' vs h1, _, rfl, q3, h2⟩
    cases e with
    | normal => exact fin q6
    | ret => exact fin q6
    | exit id => exact q6.elim
    | goto l => exact q6.elim
    | panic ch => exact q6.elim
    | outgrown => exact q6.elim

/-! Entries -/
theorem Seal.ex {α : Sort _} (f : α) : ∃ g : α, g = f := ⟨f, rfl⟩
noncomputable def Seal {α : Sort _} (f : α) : α := Classical.choose (Seal.ex f)
theorem Seal_eq {α : Sort _} (f : α) : Seal f = f := Classical.choose_spec (Seal.ex f)

def entSem {L : List Shape} (F : ShL L → (Value → H → Prop) → H → Prop) (args : List Value) (K : Value → H → Prop) (h : H) : Prop :=
  match ShL.of L args with | some x => F x K h | none => False
/-- What is checked of a function's body. -/
def bodyOk (fn : Func) (c : Code) (k : Nat) : Bool :=
  (match fn.body with | some _ => true | none => false) && !(fn.name == "runtime.NumGoroutine") && fitsC fn.ntmps c && Nat.ble k fn.ntmps
theorem ShL.length : ∀ (L : List Shape) (x : ShL L), (ShL.vals L x).length = L.length
  | [], _ => rfl
  | sh :: r, x => by simp [ShL.vals, ShL.length r x.2]
def mkEnt {P : Program} {tb : Tab} (hfull : tb.full P = true) (num : Nat) (fn : Func) (c : Code) (hf : P.funcs[num]? = some fn) (hc : fn.body = some c) (G : List (Ent P)) (pl : Plan) (L : List Shape) (hb : bodyOk fn c L.length = true)
    (F F0 : ShL L → (Value → H → Prop) → H → Prop) (hs : F = F0) (hF : ∀ x K h, F0 x K h = evFn tb G pl fn.results.toList c (ShL.vals L x) K h) : Ent P where
  num := num
  sem := entSem F
  has := by
    unfold bodyOk at hb
    simp only [Bool.and_eq_true, Bool.not_eq_true'] at hb
    exact ⟨fn, hf, hb.1.1.2, by rw [hc]; rfl⟩
  ok := by
    intro args K w h
    unfold bodyOk at hb
    simp only [Bool.and_eq_true] at hb
    unfold entSem at h
    split at h
    case h_2 => exact h.elim
    rename_i x hx
    have hv := ShL.of_vals hx
    subst hs
    rw [hF] at h
    rw [← hv]
    exact evFn_ok hfull hf hc hb.1.2 _ (by rw [ShL.length]; exact Nat.le_of_ble_eq_true hb.2) K w h

end Go.Proofs.Ytfijchofplkcoaa
