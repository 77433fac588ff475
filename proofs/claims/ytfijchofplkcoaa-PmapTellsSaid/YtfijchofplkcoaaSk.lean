/-
  Functions that range over a function whose rounds are none: the marks among the deferred calls; code, functions, entries.
-/
import Derived.Test.YtfijchofplkcoaaSj
import Derived.RangeFuncRecord
set_option linter.unusedVariables false
set_option linter.unusedSimpArgs false
namespace Go.Proofs.Ytfijchofplkcoaa

def mkD (r : Nat) : Deferred := { target := .collected r, args := #[] }
theorem evOps_okD {P : Program} {tb : Tab} {G : List (Ent P)} (hfull : tb.full P = true) {n : Nat} {dd : List Deferred} (all : Array Oper) {Q : Exit → Act → World → Prop} {K : Sto → H → Prop} : ∀ (l : List Oper) (s : Sto) (a : Act) (w : World),
    Ag s a.tmps → a.defers = dd → a.tmps.size = n → Fits n l → evOps tb G all.toList l s w.heap K →
    (∀ s' a' w', Ag s' a'.tmps → a'.defers = dd → a'.tmps.size = n → Same w w' → (∀ i, i ∉ dsts l → a'.tmps[i]? = a.tmps[i]?) → K s' w'.heap → Q .normal a' w') →
    wpList P all Q l a w
  | [], s, a, w, hag, hd, hn, hf, h, hK => hK s a w hag hd hn (Same.refl _) (fun _ _ => rfl) h
  | o :: r, s, a, w, hag, hd, hn, hf, h, hK => by
    have hdst : ∀ i, o.dst = some i → i < a.tmps.size := fun i hi => by rw [hn]; exact hf o List.mem_cons_self i hi
    have hfr : Fits n r := fun o' ho' => hf o' (List.mem_cons_of_mem _ ho')
    have hother : ∀ v i, i ∉ dsts (o :: r) → (a.put o.dst v).tmps[i]? = a.tmps[i]? := fun v i hi => put_other _ _ _ _ (fun j hj e => by
      subst e; exact hi (by simp [dsts, hj]))
    have hsub : ∀ i, i ∉ dsts (o :: r) → i ∉ dsts r := fun i hi hm => hi (by
      simp only [dsts, List.filterMap_cons]
      split
      · exact hm
      · exact List.mem_cons_of_mem _ hm)
    have run : ∀ s, Ag s a.tmps → evOp tb G s o.op w.heap (fun v h' => evOps tb G all.toList r (put s o.dst v) h' K) → Region.wanted o (yielded all a.tmps) = true → wpList P all Q (o :: r) a w := by
      intro s hag h hw
      unfold wpList
      rw [if_pos hw]
      refine .inl ?_
      have hg := evOp_ok hfull hag.agree w o h
      refine hg.upon (fun v w' hs hk => ?_)
      exact evOps_okD hfull all r (put s o.dst v) (a.put o.dst v) w' (hag.put hdst) (by rw [put_defers]; exact hd) (by rw [put_size]; exact hn) hfr hk
        (fun s' a' w2 q1 q2 q3 q4 q5 q6 => hK s' a' w2 q1 q2 q3 (hs.trans q4) (fun i hi => (q5 i (hsub i hi)).trans (hother v i hi)) q6)
    have skip : ∀ s, Ag s a.tmps → evOps tb G all.toList r (put s o.dst undef) w.heap K → Region.wanted o (yielded all a.tmps) = false → wpList P all Q (o :: r) a w := by
      intro s hag h hw
      refine wpList_skip hw ?_
      exact evOps_okD hfull all r (put s o.dst undef) (a.put o.dst undef) w (hag.put hdst) (by rw [put_defers]; exact hd) (by rw [put_size]; exact hn) hfr h
        (fun s' a' w2 q1 q2 q3 q4 q5 q6 => hK s' a' w2 q1 q2 q3 q4 (fun i hi => (q5 i (hsub i hi)).trans (hother undef i hi)) q6)
    unfold evOps at h
    split at h
    · rename_i hg
      exact run s hag h (by simp [Region.wanted, hg])
    · rename_i j want hg
      split at h
      · exact h.elim
      rename_i d hdj
      split at h
      · exact h.elim
      rename_i v hv
      have hy := yielded_of (all := all) hdj (hag d v hv)
      split at h
      · rename_i b
        have ht : a.tmps[d]? = some (.bool b) := hag d _ hv
        cases b with
        | true =>
          have hag' : Ag ((d, .bool true) :: s) a.tmps := hag.cons ht
          simp only [Br_true] at h
          cases want with
          | true => exact run _ hag' h (by simp [Region.wanted, hg, hy])
          | false => exact skip _ hag' h (by simp [Region.wanted, hg, hy])
        | false =>
          have hag' : Ag ((d, .bool false) :: s) a.tmps := hag.cons ht
          simp only [Br_false] at h
          cases want with
          | true => exact skip _ hag' h (by simp [Region.wanted, hg, hy])
          | false => exact run _ hag' h (by simp [Region.wanted, hg, hy])
      · rename_i hnb
        exact skip s hag h (by
          cases v <;> first | exact absurd rfl (hnb _) | simp [Region.wanted, hg, hy])

/-- A range over a function that calls yield not once. -/
def RngN (call : Nat → (H → Prop) → H → Prop) (h : H) (K : Nat → H → Prop) : Prop :=
  ∀ r : Loop, r.state = .ready → r.pending = none →
    call (h.size + 1) (fun h2 => h2[h.size + 1]? = some (.loop r) ∧ K h.size (h2.setIfInBounds (h.size + 1) (.loop { r with state := .exhausted }))) ((h.push (.deferred (some []))).push (.loop r))
def yV (l : Nat) : Value := .func (.yield l) #[] #[]
def RngV {P : Program} (G : List (Ent P)) (v : Value) (h : H) (K : Nat → H → Prop) : Prop :=
  match v with
  | .func (.func gf) first captured => (match first.toList with
    | [] => RngN (fun l K h => callE G gf (yV l :: captured.toList) (fun _ h' => K h') h) h K
    | _ => False)
  | _ => False

def evM {P : Program} (tb : Tab) (G : List (Ent P)) (pl : Plan) : Code → (List Nat → Sto → H → Prop) → (Nat → List Nat → Sto → H → Prop) → (List Nat → Sto → H → Prop) → List Nat → Sto → H → Prop
  | .skip, Kn, _, _, ds, s, h => Kn ds s h
  | .label _, Kn, _, _, ds, s, h => Kn ds s h
  | .ret, _, _, Kr, ds, s, h => Kr ds s h
  | .exit id, _, Kx, _, ds, s, h => Kx id ds s h
  | .region id ops draw, Kn, _, _, ds, s, h => bif draw then False else evOps tb G ops.toList ops.toList s h (Kn ds)
  | .cond c x y, Kn, Kx, Kr, ds, s, h => (match look s c with
    | some (.bool b) => Br b (evM tb G pl x Kn Kx Kr ds s h) (evM tb G pl y Kn Kx Kr ds s h)
    | _ => False)
  | .block id c, Kn, Kx, Kr, ds, s, h => evM tb G pl c Kn (fun i ds s h => bif Nat.beq i id then Kn ds s h else Kx i ds s h) Kr ds s h
  | .seq a b, Kn, Kx, Kr, ds, s, h => evM tb G pl a (fun ds s h => evM tb G pl b Kn Kx Kr ds s h) Kx Kr ds s h
  | .loop c, Kn, Kx, Kr, ds, s, h => (match planAt pl.loop (fid c) with
    | none => False
    | some L => (match TupG L s with
      | none => False
      | some x0 => LoopM (σ := List Nat × TupT L) (fun self x h' => evM tb G pl c (fun ds1 s1 h1 => match TupG L s1 with | some y => self (ds1, y) h1 | none => False) Kx Kr x.1 (TupS L x.2 ++ forget (writes c) s) h') (ds, x0) h))
  | .rangeFunc g _ _ _, Kn, _, _, ds, s, h => ovl (look s g) fun v => RngV G v h fun D h' => Kn (D :: ds) s h'
  | _, _, _, _, _, _, _ => False

def PostM (n : Nat) (w0 : World) (t0 : Array Value) (ws : List Nat) (Kn : List Nat → Sto → H → Prop) (Kx : Nat → List Nat → Sto → H → Prop) (Kr : List Nat → Sto → H → Prop) : Exit → Act → World → Prop :=
  fun e a w => a.tmps.size = n ∧ Same w0 w ∧ (∀ i, i ∉ ws → a.tmps[i]? = t0[i]?) ∧ ∃ ds s, a.defers = ds.map mkD ∧ Ag s a.tmps ∧
    (match e with
      | .normal => Kn ds s w.heap
      | .exit id => Kx id ds s w.heap
      | .ret => Kr ds s w.heap
      | _ => False)
theorem PostM.mono {n : Nat} {w0 w1 : World} {t0 t1 : Array Value} {ws ws' : List Nat} {Kn Kn' : List Nat → Sto → H → Prop} {Kx Kx' : Nat → List Nat → Sto → H → Prop} {Kr Kr' : List Nat → Sto → H → Prop} (hs : Same w1 w0) (ht : ∀ i, i ∉ ws' → t0[i]? = t1[i]?) (hsub : ∀ i, i ∈ ws → i ∈ ws')
    (hn : ∀ d s h, Kn d s h → Kn' d s h) (hx : ∀ i d s h, Kx i d s h → Kx' i d s h) (hr : ∀ d s h, Kr d s h → Kr' d s h) (e : Exit) (a : Act) (w : World) (h : PostM n w0 t0 ws Kn Kx Kr e a w) : PostM n w1 t1 ws' Kn' Kx' Kr' e a w := by
  obtain ⟨h1, h3, h4, ds, s, h2, h5, h6⟩ := h
  refine ⟨h1, hs.trans h3, fun i hi => (h4 i (fun hm => hi (hsub i hm))).trans (ht i hi), ds, s, h2, h5, ?_⟩
  cases e <;> first | exact hn _ _ _ h6 | exact hx _ _ _ _ h6 | exact hr _ _ _ h6 | exact h6
theorem Same.alloc (w : World) (o : Obj) : Same w (w.alloc o) := ⟨rfl, rfl, rfl⟩
theorem Same.putObj (w : World) (r : Nat) (o : Obj) : Same w (w.putObj r o) := ⟨rfl, rfl, rfl⟩
theorem callE_ok' {P : Program} : ∀ {G : List (Ent P)} {n : Nat} {args : List Value} {K : Value → H → Prop} {w : World}, callE G n args K w.heap →
    (∃ fn, P.funcs[n]? = some fn ∧ (fn.name == "runtime.NumGoroutine") = false ∧ fn.body.isNone = false) ∧ Calls P n args.toArray w (fun e w' => ∃ v, e = .returned v ∧ Same w w' ∧ K v w'.heap)
  | [], _, _, _, _, h => h.elim
  | e :: r, n, args, K, w, h => by
    simp only [callE] at h
    cases hb : Nat.beq e.num n with
    | true =>
      rw [hb] at h
      have := Nat.eq_of_beq_eq_true hb
      subst this
      exact ⟨e.has, e.ok _ _ _ h⟩
    | false =>
      rw [hb] at h
      exact callE_ok' h
theorem rng_ok {P : Program} {G : List (Ent P)} {g : Operand} {ps : Array Tmp} {assign body : Code} {Q : Exit → Act → World → Prop} {a : Act} {w : World} {v : Value} {K : Nat → H → Prop} (hg : a.eval g = v) (h : RngV G v w.heap K)
    (q : ∀ w', Same w w' → K w.heap.size w'.heap → Q .normal { a with defers := mkD w.heap.size :: a.defers } w') : (Code.rangeFunc g ps assign body).wp P Q a w := by
  unfold RngV at h
  split at h
  case h_2 => exact h.elim
  rename_i gf first lb
  split at h
  case h_2 => exact h.elim
  rename_i hfirst
  have hf0 : first = #[] := by apply Array.ext'; rw [hfirst]
  subst hf0
  refine wpIn_wide (n := 0).1 (wpIn_rangeFunc fun fn _ => ?_)
  obtain ⟨rec, hrec⟩ : ∃ rec : Loop, rec = { state := .ready, pending := none, fn, tmps := a.tmps, params := ps, assign, body, defers := w.heap.size } := ⟨_, rfl⟩
  have hcall := h rec (by rw [hrec]) (by rw [hrec])
  have h1 : ((w.alloc (.deferred (some []))).alloc (.loop rec)).heap = ((w.heap.push (.deferred (some []))).push (.loop rec)) := rfl
  rw [← h1] at hcall
  obtain ⟨⟨fn', e1, e2, e3⟩, hc⟩ := callE_ok' hcall
  refine ⟨w.heap.size + 1, [mkD w.heap.size], (w.alloc (.deferred (some []))).alloc (.loop rec), { target := .fn (.func gf) lb, args := #[.func (.yield (w.heap.size + 1)) #[] #[]] }, (w.alloc (.deferred (some []))).alloc (.loop rec), gf,
    #[.func (.yield (w.heap.size + 1)) #[] #[]] ++ lb, (w.alloc (.deferred (some []))).alloc (.loop rec), ?_, ?_, fun _ _ => trivial, ?_, fun hd => by simp [Fence.wide] at hd, ?_⟩
  · rw [hrec]; exact run_enterLoop_outer _ _ _ _ _
  · simp only [resolve, hg]
    simp [go_sem]
  · have eg := run_callFunc ((w.alloc (.deferred (some []))).alloc (.loop rec)) (#[.func (.yield (w.heap.size + 1)) #[] #[]] ++ lb) e1 e2 e3
    simp only [invoke]
    first | exact eg | simpa [go_sem] using eg
  · refine callsIn_wide.2 ?_
    have ea : (yV (w.heap.size + 1) :: lb.toList).toArray = #[.func (.yield (w.heap.size + 1)) #[] #[]] ++ lb := by
      apply Array.ext'
      simp [yV]
    rw [ea] at hc
    refine hc.mono ?_
    rintro e w' ⟨v, rfl, hs, hl, hk⟩
    have hrd : rec.state ≠ .busy := by rw [hrec]; simp
    refine ⟨none, w'.putObj (w.heap.size + 1) (.loop { rec with state := .exhausted }), ?_, ?_⟩
    · have := run_endLoop (P := P) hl hrd
      rw [this, hrec]
    · refine q _ ?_ hk
      exact ((Same.alloc w _).trans (Same.alloc _ _)).trans (hs.trans (Same.putObj _ _ _))

def fitsM (n : Nat) : Code → Bool
  | .region _ ops _ => ops.toList.all fun o => match o.dst with | some d => Nat.blt d n | none => true
  | .seq a b => fitsM n a && fitsM n b
  | .cond _ a b => fitsM n a && fitsM n b
  | .block _ c => fitsM n c
  | .loop c => fitsM n c
  | _ => true
theorem evM_ok {P : Program} {tb : Tab} {G : List (Ent P)} {pl : Plan} (hfull : tb.full P = true) {n : Nat} (c : Code) : ∀ (Kn : List Nat → Sto → H → Prop) (Kx : Nat → List Nat → Sto → H → Prop) (Kr : List Nat → Sto → H → Prop) (ds : List Nat) (s : Sto) (a : Act) (w : World),
    a.tmps.size = n → a.defers = ds.map mkD → Ag s a.tmps → fitsM n c = true → evM tb G pl c Kn Kx Kr ds s w.heap → c.wp P (PostM n w a.tmps (writes c) Kn Kx Kr) a w := by
  induction c with
  | skip => exact fun Kn Kx Kr ds s a w h1 h2 h3 _ h => wp_skip ⟨h1, Same.refl _, fun _ _ => rfl, ds, s, h2, h3, h⟩
  | label l => exact fun Kn Kx Kr ds s a w h1 h2 h3 _ h => wp_label ⟨h1, Same.refl _, fun _ _ => rfl, ds, s, h2, h3, h⟩
  | ret => exact fun Kn Kx Kr ds s a w h1 h2 h3 _ h => wp_ret ⟨h1, Same.refl _, fun _ _ => rfl, ds, s, h2, h3, h⟩
  | exit id => exact fun Kn Kx Kr ds s a w h1 h2 h3 _ h => wp_exit ⟨h1, Same.refl _, fun _ _ => rfl, ds, s, h2, h3, h⟩
  | region id ops draw =>
    intro Kn Kx Kr ds s a w h1 h2 h3 hf h
    have hfit : Fits n ops.toList := by
      intro o ho d hd
      simp only [fitsM, List.all_eq_true] at hf
      have := hf o ho
      rw [hd] at this
      exact Nat.le_of_ble_eq_true this
    cases draw with
    | true => exact h.elim
    | false =>
      refine wp_region_list (evOps_okD hfull ops ops.toList s a w h3 h2 h1 hfit h ?_)
      intro s' a' w' q1 q2 q3 q4 q5 q6
      exact ⟨q3, q4, q5, ds, s', q2, q1, q6⟩
  | seq x y ihx ihy =>
    intro Kn Kx Kr ds s a w h1 h2 h3 hf h
    simp only [fitsM, Bool.and_eq_true] at hf
    simp only [evM] at h
    refine wp_seq (wp_mono (ihx _ _ _ ds s a w h1 h2 h3 hf.1 h) ?_)
    intro e a1 w1 hp
    cases e with
    | normal =>
      obtain ⟨q1, q3, q4, ds1, s1, q2, q5, q6⟩ := hp
      refine wp_mono (ihy _ _ _ ds1 s1 a1 w1 q1 q2 q5 hf.2 q6) ?_
      exact PostM.mono q3 (fun i hi => q4 i (fun hm => hi (by simp [writes, hm]))) (fun i hm => by simp [writes, hm]) (fun _ _ _ h => h) (fun _ _ _ _ h => h) (fun _ _ _ h => h)
    | _ =>
      obtain ⟨q1, q3, q4, ds1, s1, q2, q5, q6⟩ := hp
      exact ⟨q1, q3, fun i hi => q4 i (fun hm => hi (List.mem_append_left _ hm)), ds1, s1, q2, q5, q6⟩
  | cond c x y ihx ihy =>
    intro Kn Kx Kr ds s a w h1 h2 h3 hf h
    simp only [fitsM, Bool.and_eq_true] at hf
    simp only [evM] at h
    split at h
    case h_2 => exact h.elim
    rename_i b hb
    have he := h3.agree.at_ _ _ hb
    cases b with
    | true =>
      refine wp_cond_true he (wp_mono (ihx _ _ _ ds s a w h1 h2 h3 hf.1 h) ?_)
      exact PostM.mono (Same.refl _) (fun _ _ => rfl) (fun i hm => by simp [writes, hm]) (fun _ _ _ h => h) (fun _ _ _ _ h => h) (fun _ _ _ h => h)
    | false =>
      refine wp_cond_false he (wp_mono (ihy _ _ _ ds s a w h1 h2 h3 hf.2 h) ?_)
      exact PostM.mono (Same.refl _) (fun _ _ => rfl) (fun i hm => by simp [writes, hm]) (fun _ _ _ h => h) (fun _ _ _ _ h => h) (fun _ _ _ h => h)
  | block id c ih =>
    intro Kn Kx Kr ds s a w h1 h2 h3 hf h
    refine wp_block (wp_mono (ih _ _ _ ds s a w h1 h2 h3 hf h) ?_)
    intro e a1 w1 hp
    obtain ⟨q1, q3, q4, ds1, s1, q2, q5, q6⟩ := hp
    cases e with
    | exit i =>
      simp only [Exit.inBlock]
      split
      · rename_i hi
        subst hi
        refine ⟨q1, q3, q4, ds1, s1, q2, q5, ?_⟩
        simpa using q6
      · rename_i hi
        refine ⟨q1, q3, q4, ds1, s1, q2, q5, ?_⟩
        have : Nat.beq i id = false := by
          cases hb : Nat.beq i id with
          | true => exact absurd (Nat.eq_of_beq_eq_true hb) hi
          | false => rfl
        simpa [this] using q6
    | _ => exact ⟨q1, q3, q4, ds1, s1, q2, q5, q6⟩
  | scope c ih => exact fun Kn Kx Kr ds s a w h1 h2 h3 _ h => h.elim
  | loop c ih =>
    intro Kn Kx Kr ds s a w h1 h2 h3 hf h
    simp only [evM] at h
    split at h
    · exact h.elim
    rename_i L hL
    split at h
    · exact h.elim
    rename_i x0 hx0
    obtain ⟨I, k, hI, hround⟩ := h
    refine wp_loop_ghost (fun k a1 w1 => ∃ x : List Nat × TupT L, a1.tmps.size = n ∧ a1.defers = x.1.map mkD ∧ Same w w1 ∧ (∀ i, i ∉ writes c → a1.tmps[i]? = a.tmps[i]?) ∧ Ag (TupS L x.2 ++ forget (writes c) s) a1.tmps ∧ I k x w1.heap) ?_ k a w ⟨(ds, x0), h1, h2, Same.refl _, fun _ _ => rfl, h3.tup h3 hx0 (fun _ _ => rfl), hI⟩
    rintro k a1 w1 ⟨x, p1, p2, p3, p4, p5, p6⟩
    refine wp_mono (ih _ _ _ _ _ a1 w1 p1 p2 p5 hf (hround k x _ p6)) ?_
    intro e a2 w2 hp
    cases e with
    | normal =>
      obtain ⟨q1, q3, q4, ds1, s1, q2, q5, q6⟩ := hp
      simp only at q6
      split at q6
      case h_2 => exact q6.elim
      rename_i x2 hx2
      obtain ⟨k', hk', hI'⟩ := q6
      exact ⟨k', hk', (ds1, x2), q1, q2, p3.trans q3, fun i hi => (q4 i hi).trans (p4 i hi), h3.tup q5 hx2 (fun i hi => (q4 i hi).trans (p4 i hi)), hI'⟩
    | _ =>
      obtain ⟨q1, q3, q4, ds1, s1, q2, q5, q6⟩ := hp
      exact ⟨q1, p3.trans q3, fun i hi => (q4 i hi).trans (p4 i hi), ds1, s1, q2, q5, q6⟩
  | rangeFunc f p as b _ _ =>
    intro Kn Kx Kr ds s a w h1 h2 h3 hf h
    simp only [evM] at h
    obtain ⟨v, hv, h⟩ := ovl_some h
    refine rng_ok (h3.agree.at_ _ _ hv) h fun w' hs hk => ?_
    exact ⟨h1, hs, fun _ _ => rfl, w.heap.size :: ds, s, by simp [h2], h3, hk⟩
  | goto l => exact fun Kn Kx Kr ds s a w h1 h2 h3 _ h => h.elim
  | refuse w => exact fun Kn Kx Kr ds s a w h1 h2 h3 _ h => h.elim

/-! Functions -/
/-- The marks are come to. -/
def TakeAll : List Nat → H → (H → Prop) → Prop
  | [], h, K => K h
  | r :: ds, h, K => h[r]? = some (.deferred (some [])) ∧ TakeAll ds (h.setIfInBounds r (.deferred none)) K
def evFnM {P : Program} (tb : Tab) (G : List (Ent P)) (pl : Plan) (rs : List ResultVar) (c : Code) (args : List Value) (K : Value → H → Prop) (h : H) : Prop :=
  evM tb G pl c (fun ds s h => TakeAll ds h fun h => evRes (P := P) tb rs s h fun vs => K (tupV vs) h) (fun _ _ _ _ => False) (fun ds s h => TakeAll ds h fun h => evRes (P := P) tb rs s h fun vs => K (tupV vs) h) [] (args0 0 args) h
theorem take_ok {P : Program} {tb : Tab} (hok : tb.ok P = true) {fn : Func} {a : Act} {s : Sto} {w0 : World} {K : Value → H → Prop} (hag : Ag s a.tmps) : ∀ (ds : List Nat) (w : World), Same w0 w → TakeAll ds w.heap (fun h => evRes (P := P) tb fn.results.toList s h fun vs => K (tupV vs) h) →
    LeavesInM Fence.wide 0 P fn a.tmps (fun e w' => ∃ v, e = .returned v ∧ Same w0 w' ∧ K v w'.heap) (ds.map mkD) .returning w
  | [], w, hs, h => by
    obtain ⟨vs, h1, h2⟩ := evRes_ok hok w _ s a _ hag h
    exact ⟨tupV vs, run_results fn a.tmps w vs h1, _, rfl, hs, h2⟩
  | r :: ds, w, hs, h => by
    obtain ⟨h1, h2⟩ := h
    refine ⟨by simp, .inl ⟨r, w.putObj r (.deferred none), rfl, run_takeDeferred h1, take_ok hok hag ds _ (hs.trans (Same.putObj _ _ _)) h2⟩⟩
theorem evFnM_ok {P : Program} {tb : Tab} (hfull : tb.full P = true) {G : List (Ent P)} {pl : Plan} {num : Nat} {fn : Func} {c : Code} (hf : P.funcs[num]? = some fn) (hb : fn.body = some c) (hfit : fitsM fn.ntmps c = true)
    (args : List Value) (hlen : args.length ≤ fn.ntmps) (K : Value → H → Prop) (w : World) (h : evFnM tb G pl fn.results.toList c args K w.heap) :
    Calls P num args.toArray w (fun e w' => ∃ v, e = .returned v ∧ Same w w' ∧ K v w'.heap) := by
  refine callsIn_wide.1 (callsIn_of_wp_marks (n := 0) hf hb trivial (wpIn_wide.2 ?_) rfl)
  have hsz : (args.toArray ++ Array.replicate (fn.ntmps - args.toArray.size) undef).size = fn.ntmps := by simp; omega
  refine wp_mono (evM_ok hfull c _ _ _ [] (args0 0 args) _ w hsz rfl ?_ hfit h) ?_
  · intro i v hv
    obtain ⟨_, h2⟩ := args0_find args 0 i v hv
    rw [Nat.sub_zero] at h2
    have hi : i < args.length := (List.getElem?_eq_some_iff.1 h2).1
    rw [Array.getElem?_append_left (by simpa using hi)]
    simpa using h2
  · intro e a w' hp
    obtain ⟨q1, q3, q4, ds, s, q2, q5, q6⟩ := hp
    have fin : TakeAll ds w'.heap (fun h => evRes (P := P) tb fn.results.toList s h fun vs => K (tupV vs) h) → LeavesInM Fence.wide 0 P fn a.tmps (fun e w' => ∃ v, e = .returned v ∧ Same w w' ∧ K v w'.heap) a.defers .returning w' := by
      intro hr
      rw [q2]
      exact take_ok (Tab.full_ok hfull) q5 ds w' q3 hr
    cases e with
    | normal => exact fin q6
    | ret => exact fin q6
    | exit id => exact q6.elim
    | goto l => exact q6.elim
    | panic ch => exact q6.elim
    | outgrown => exact q6.elim
def bodyOkM (fn : Func) (c : Code) (k : Nat) : Bool :=
  (match fn.body with | some _ => true | none => false) && !(fn.name == "runtime.NumGoroutine") && fitsM fn.ntmps c && Nat.ble k fn.ntmps
def mkEntM {P : Program} {tb : Tab} (hfull : tb.full P = true) (num : Nat) (fn : Func) (c : Code) (hf : P.funcs[num]? = some fn) (hc : fn.body = some c) (G : List (Ent P)) (pl : Plan) (L : List Shape) (hb : bodyOkM fn c L.length = true)
    (F F0 : ShL L → (Value → H → Prop) → H → Prop) (hs : F = F0) (hF : ∀ x K h, F0 x K h = evFnM tb G pl fn.results.toList c (ShL.vals L x) K h) : Ent P where
  num := num
  sem := entSem F
  has := by
    unfold bodyOkM at hb
    simp only [Bool.and_eq_true, Bool.not_eq_true'] at hb
    exact ⟨fn, hf, hb.1.1.2, by rw [hc]; rfl⟩
  ok := by
    intro args K w h
    unfold bodyOkM at hb
    simp only [Bool.and_eq_true] at hb
    unfold entSem at h
    split at h
    case h_2 => exact h.elim
    rename_i x hx
    have hv := ShL.of_vals hx
    subst hs
    rw [hF] at h
    rw [← hv]
    exact evFnM_ok hfull hf hc hb.1.2 _ (by rw [ShL.length]; exact Nat.le_of_ble_eq_true hb.2) K w h
end Go.Proofs.Ytfijchofplkcoaa
