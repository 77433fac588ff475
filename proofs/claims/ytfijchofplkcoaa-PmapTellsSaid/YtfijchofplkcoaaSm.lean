/-
  Functions that range over a function whose rounds are walked.
-/
import Derived.Test.YtfijchofplkcoaaSl
set_option linter.unusedVariables false
set_option linter.unusedSimpArgs false
namespace Go.Proofs.Ytfijchofplkcoaa

/-- A yield that is sound. -/
structure YY (P : Program) where
  sem : YSem
  ok : YOk P sem
def YY.no (P : Program) : YY P := ⟨noY, noY_ok P⟩
/-- An iterator: a function that calls yield. -/
structure EntY (P : Program) where
  num : Nat
  sem : YY P → List Value → (Value → H → Prop) → H → Prop
  has : ∃ fn, P.funcs[num]? = some fn ∧ (fn.name == "runtime.NumGoroutine") = false ∧ fn.body.isNone = false
  ok : ∀ Y args K w, sem Y args K w.heap → Calls P num args.toArray w (fun e w' => ∃ v, e = .returned v ∧ Same w w' ∧ K v w'.heap)
def callEY {P : Program} : List (EntY P) → YY P → Nat → List Value → (Value → H → Prop) → H → Prop
  | [], _, _, _, _, _ => False
  | e :: r, Y, n, args, K, h => bif Nat.beq e.num n then e.sem Y args K h else callEY r Y n args K h
theorem callEY_ok {P : Program} {Y : YY P} : ∀ {G : List (EntY P)} {n : Nat} {args : List Value} {K : Value → H → Prop} {w : World}, callEY G Y n args K w.heap →
    (∃ fn, P.funcs[n]? = some fn ∧ (fn.name == "runtime.NumGoroutine") = false ∧ fn.body.isNone = false) ∧ Calls P n args.toArray w (fun e w' => ∃ v, e = .returned v ∧ Same w w' ∧ K v w'.heap)
  | [], _, _, _, _, h => h.elim
  | e :: r, n, args, K, w, h => by
    simp only [callEY] at h
    cases hb : Nat.beq e.num n with
    | true =>
      rw [hb] at h
      have := Nat.eq_of_beq_eq_true hb
      subst this
      exact ⟨e.has, e.ok _ _ _ _ h⟩
    | false =>
      rw [hb] at h
      exact callEY_ok h
/-- The loop's record while a round runs, and behind it. -/
def recB (r : Loop) : Loop := { r with state := .busy }
def recE (r : Loop) (j : Option Code) : Loop := { r with state := if j.isNone then .ready else .done, pending := j }
def recX (r : Loop) (j : Option Code) : Loop := { r with state := .exhausted, pending := j }
/-- A round has come to its end: by a jump, or not. -/
def RoundE (l : Nat) (r : Loop) (K : Value → H → Prop) (j : Option Code) (h : H) : Prop := h[l]? = some (.loop (recB r)) ∧ K (.bool j.isNone) (h.setIfInBounds l (.loop (recE r j)))
def BegR (l : Nat) (r : Loop) (h : H) (K : H → Prop) : Prop := h[l]? = some (.loop r) ∧ K (h.setIfInBounds l (.loop (recB r)))
/-- The statement: for every sound yield that takes what the round takes. -/
def RngR (P : Program) (L : List Shape) (round : Nat → Loop → ShL L → (Option Code → H → Prop) → H → Prop) (call : YY P → Nat → (H → Prop) → H → Prop) (h : H) (K : Option Code → Nat → H → Prop) : Prop :=
  ∀ r : Loop, r.state = .ready → r.pending = none → ∀ Y : YY P, (∀ x K h', h'[h.size + 1]? = some (.loop r) → round (h.size + 1) r x (RoundE (h.size + 1) r K) h' → Y.sem (h.size + 1) (ShL.vals L x) K h') →
    call Y (h.size + 1) (fun h2 => ∃ j, h2[h.size + 1]? = some (.loop (recE r j)) ∧ K j h.size (h2.setIfInBounds (h.size + 1) (.loop (recX r j)))) ((h.push (.deferred (some []))).push (.loop r))
def bindP : List Nat → List Value → Sto → Sto
  | p :: ps, v :: vs, s => bindP ps vs ((p, v) :: s)
  | _, _, s => s
theorem bindP_ag {n : Nat} : ∀ (ps : List Nat) (vs : List Value) (s : Sto) (t : Array Value), t.size = n → (∀ p ∈ ps, p < n) → ps.length = vs.length → Ag s t →
    Ag (bindP ps vs s) ((ps.zip vs).foldl (fun t (p, v) => t.setIfInBounds p v) t) ∧ ((ps.zip vs).foldl (fun t (p, v) => t.setIfInBounds p v) t).size = n
  | [], [], s, t, hn, hp, hl, h => ⟨h, hn⟩
  | p :: ps, v :: vs, s, t, hn, hp, hl, h => by
    simp only [bindP, List.zip_cons_cons, List.foldl_cons]
    refine bindP_ag ps vs _ _ (by simp; exact hn) (fun q hq => hp q (List.mem_cons_of_mem _ hq)) (by simpa using hl) ?_
    intro i u hu
    simp only [find1] at hu
    cases hb : Nat.beq p i with
    | true =>
      have := Nat.eq_of_beq_eq_true hb
      subst this
      rw [hb] at hu
      simp only [cond_true, Option.some.injEq] at hu
      subst hu
      have := hp p List.mem_cons_self
      rw [Array.getElem?_setIfInBounds]
      simp; omega
    | false =>
      rw [hb] at hu
      have hne : p ≠ i := fun e => by subst e; simp at hb
      rw [Array.getElem?_setIfInBounds_ne hne]
      exact h i u hu
structure PlanR where
  pl : Plan
  rng : List (Nat × List Shape)
def allLt : List Nat → Nat → Bool
  | [], _ => true
  | p :: ps, n => Nat.blt p n && allLt ps n
theorem allLt_ok {n : Nat} : ∀ {ps : List Nat}, allLt ps n = true → ∀ p ∈ ps, p < n
  | [], _, p, hp => by simp at hp
  | q :: ps, h, p, hp => by
    simp only [allLt, Bool.and_eq_true] at h
    rcases List.mem_cons.1 hp with rfl | hp
    · exact Nat.le_of_ble_eq_true h.1
    · exact allLt_ok h.2 p hp
/-- One round: the assignments, its beginning, the body. -/
def evRound {P : Program} (tb : Tab) (G : List (Ent P)) (Y : YSem) (pl : Plan) (ps : List Nat) (asg body : Code) (s : Sto) {L : List Shape} (l : Nat) (r : Loop) (x : ShL L) (E : Option Code → H → Prop) (h : H) : Prop :=
  evY tb G Y pl asg (fun s1 h1 => BegR l r h1 fun h2 => evY tb G Y pl body (fun _ h3 => E none h3) (fun id _ h3 => E (some (.exit id)) h3) (fun _ h3 => E (some .ret) h3) s1 h2) (fun _ _ _ => False) (fun _ _ => False) (bindP ps (ShL.vals L x) s) h
def jumpK (Kn : List Nat → Sto → H → Prop) (Kx : Nat → List Nat → Sto → H → Prop) (Kr : List Nat → Sto → H → Prop) (ds : List Nat) (s : Sto) (j : Option Code) (h : H) : Prop :=
  match j with
  | none => Kn ds s h
  | some .ret => Kr ds s h
  | some (.exit id) => Kx id ds s h
  | _ => False
theorem roundY_ok {P : Program} {tb : Tab} {G : List (Ent P)} {Y : YY P} {pl : Plan} (hfull : tb.full P = true) {ps : Array Tmp} {asg body : Code} {s : Sto} {L : List Shape} {l n : Nat} {r : Loop}
    (hr : r.state = .ready) (hps : r.params = ps) (ha : r.assign = asg) (hb : r.body = body) (hag : Ag s r.tmps) (hn : r.tmps.size = n) (hlen : ps.size = L.length) (hlt : allLt ps.toList n = true) (hf1 : fitsC n asg = true) (hf2 : fitsC n body = true) :
    YOk P (fun l' args K h => l' = l ∧ ∃ x : ShL L, args = ShL.vals L x ∧ h[l]? = some (.loop r) ∧ evRound tb G Y.sem pl ps.toList asg body s l r x (RoundE l r K) h) := by
  rintro l' args K w ⟨rfl, x, rfl, hl, h⟩
  have hvl : (ShL.vals L x).toArray.size = r.params.size := by rw [hps, hlen]; simp [ShL.length]
  refine ⟨r.fn, _, r.assign, r.body, run_yield hl hvl, roundIn_of_wpIn trivial ?_⟩
  obtain ⟨t, ht⟩ : ∃ t, t = (r.params.zip (ShL.vals L x).toArray).foldl (fun tmps (t, a) => tmps.setIfInBounds t a) r.tmps := ⟨_, rfl⟩
  have hbind := bindP_ag (n := n) ps.toList (ShL.vals L x) s r.tmps hn (allLt_ok hlt) (by simp [ShL.length, hlen]) hag
  have hte : t = (ps.toList.zip (ShL.vals L x)).foldl (fun t (p, v) => t.setIfInBounds p v) r.tmps := by
    rw [ht, hps, ← Array.foldl_toList]
    congr 1
    simp [Array.toList_zip]
  rw [← hte] at hbind
  rw [← ht, ha, hb]
  unfold evRound at h
  rw [← Fw_some]
  refine wpIn_mono (evY_ok hfull Y.ok asg _ _ _ _ _ w hbind.2 rfl hbind.1 hf1 h) ?_
  intro e a1 w1 hp
  obtain ⟨q1, q2, q3, q4, s1, q5, q6⟩ := hp
  cases e with
  | normal =>
    obtain ⟨h1, h2⟩ := q6
    refine ⟨w1.putObj l' (.loop (recB r)), run_beginRound h1 hr, ?_⟩
    refine wpIn_mono (evY_ok hfull Y.ok body _ _ _ s1 a1 (w1.putObj l' (.loop (recB r))) q1 q2 q5 hf2 h2) ?_
    intro e2 a2 w2 hp2
    obtain ⟨u1, u2, u3, u4, s2, u5, u6⟩ := hp2
    have S2 : Same w w2 := q3.trans ((Same.putObj _ _ _).trans u3)
    have fin : ∀ j : Option Code, RoundE l' r K j w2.heap → ∃ v w', (Instr.endRound l' j).run P w2 = .ok v w' ∧ ∃ v', Ending.returned v = .returned v' ∧ Same w w' ∧ K v' w'.heap := by
      rintro j ⟨e1, e2⟩
      refine ⟨_, _, run_endRound j e1, _, rfl, S2.trans (Same.putObj _ _ _), e2⟩
    cases e2 with
    | normal => exact fin none u6
    | ret => exact fin (some .ret) u6
    | exit id => exact fin (some (.exit id)) u6
    | goto l => exact u6.elim
    | panic ch => exact u6.elim
    | outgrown => exact u6.elim
  | ret => exact q6.elim
  | exit id => exact q6.elim
  | goto l => exact q6.elim
  | panic ch => exact q6.elim
  | outgrown => exact q6.elim
/-- The statement, by the value that is ranged over. -/
def RngRV {P : Program} (GY : List (EntY P)) (L : List Shape) (round : Nat → Loop → ShL L → (Option Code → H → Prop) → H → Prop) (v : Value) (h : H) (K : Option Code → Nat → H → Prop) : Prop :=
  match v with
  | .func (.func gf) first captured => (match first.toList with
    | [] => RngR P L round (fun Y l K h => callEY GY Y gf (yV l :: captured.toList) (fun _ h' => K h') h) h K
    | _ => False)
  | _ => False
theorem rngR_ok {P : Program} {tb : Tab} {G : List (Ent P)} {GY : List (EntY P)} {Y : YY P} {pl : Plan} (hfull : tb.full P = true) {g : Operand} {ps : Array Tmp} {asg body : Code} {L : List Shape} {Q : Exit → Act → World → Prop} {a : Act} {s : Sto} {w : World} {v : Value} {n : Nat} {K : Option Code → Nat → H → Prop}
    (hg : a.eval g = v) (hag : Ag s a.tmps) (hn : a.tmps.size = n) (hlen : ps.size = L.length) (hlt : allLt ps.toList n = true) (hf1 : fitsC n asg = true) (hf2 : fitsC n body = true)
    (h : RngRV GY L (fun l r x E h => evRound tb G Y.sem pl ps.toList asg body s l r x E h) v w.heap K)
    (q : ∀ j w', Same w w' → K j w.heap.size w'.heap → (match j with
      | none => Q .normal { a with defers := mkD w.heap.size :: a.defers } w'
      | some c => c.wpIn Fence.wide 0 P Q { a with defers := mkD w.heap.size :: a.defers } w')) : (Code.rangeFunc g ps asg body).wpIn Fence.wide 0 P Q a w := by
  unfold RngRV at h
  split at h
  case h_2 => exact h.elim
  rename_i gf first lb
  split at h
  case h_2 => exact h.elim
  rename_i hfirst
  have hf0 : first = #[] := by apply Array.ext'; rw [hfirst]
  subst hf0
  refine wpIn_rangeFunc fun fn _ => ?_
  obtain ⟨rec, hrec⟩ : ∃ rec : Loop, rec = { state := .ready, pending := none, fn, tmps := a.tmps, params := ps, assign := asg, body, defers := w.heap.size } := ⟨_, rfl⟩
  have hrs : rec.state = .ready := by rw [hrec]
  have yok := roundY_ok (P := P) (tb := tb) (G := G) (Y := Y) (pl := pl) hfull (ps := ps) (asg := asg) (body := body) (s := s) (L := L) (l := w.heap.size + 1) (n := n) (r := rec) hrs (by rw [hrec]) (by rw [hrec]) (by rw [hrec]) (by rw [hrec]; exact hag) (by rw [hrec]; exact hn) hlen hlt hf1 hf2
  have hcall := h rec hrs (by rw [hrec]) ⟨_, yok⟩ (fun x K h' hl hr => ⟨rfl, x, rfl, hl, hr⟩)
  have h1 : ((w.alloc (.deferred (some []))).alloc (.loop rec)).heap = ((w.heap.push (.deferred (some []))).push (.loop rec)) := rfl
  rw [← h1] at hcall
  obtain ⟨⟨fn', e1, e2, e3⟩, hc⟩ := callEY_ok hcall
  refine ⟨w.heap.size + 1, [mkD w.heap.size], (w.alloc (.deferred (some []))).alloc (.loop rec), { target := .fn (.func gf) lb, args := #[.func (.yield (w.heap.size + 1)) #[] #[]] }, (w.alloc (.deferred (some []))).alloc (.loop rec), gf,
    #[.func (.yield (w.heap.size + 1)) #[] #[]] ++ lb, (w.alloc (.deferred (some []))).alloc (.loop rec), ?_, ?_, fun _ _ => trivial, ?_, fun hd => by simp [Fence.wide] at hd, ?_⟩
  · rw [hrec]; exact run_enterLoop_outer _ _ _ _ _
  · simp only [resolve, hg]
    simp [go_sem]
  · have eg := run_callFunc ((w.alloc (.deferred (some []))).alloc (.loop rec)) (#[.func (.yield (w.heap.size + 1)) #[] #[]] ++ lb) e1 e2 e3
    simp only [invoke]
    first | exact eg | simpa [go_sem] using eg
  · refine callsIn_wide.2 ?_
    have ea : (yV (w.heap.size + 1) :: lb.toList).toArray = #[.func (.yield (w.heap.size + 1)) #[] #[]] ++ lb := by
      apply Array.ext'
      simp [yV]
    rw [ea] at hc
    refine hc.mono ?_
    rintro e w' ⟨v, rfl, hs, j, hl, hk⟩
    have hb : (recE rec j).state ≠ .busy := by unfold recE; simp only; split <;> simp
    have S : Same w (w'.putObj (w.heap.size + 1) (.loop { recE rec j with state := .exhausted })) := ((Same.alloc w _).trans (Same.alloc _ _)).trans (hs.trans (Same.putObj _ _ _))
    refine ⟨j, w'.putObj (w.heap.size + 1) (.loop { recE rec j with state := .exhausted }), ?_, ?_⟩
    · have := run_endLoop (P := P) hl hb
      rw [this]; rfl
    · have := q j _ S hk
      cases j with
      | none => exact this
      | some c => exact this

def evR {P : Program} (tb : Tab) (G : List (Ent P)) (GY : List (EntY P)) (Y : YY P) (pl : PlanR) (n : Nat) : Code → (List Nat → Sto → H → Prop) → (Nat → List Nat → Sto → H → Prop) → (List Nat → Sto → H → Prop) → List Nat → Sto → H → Prop
  | .skip, Kn, _, _, ds, s, h => Kn ds s h
  | .label _, Kn, _, _, ds, s, h => Kn ds s h
  | .ret, _, _, Kr, ds, s, h => Kr ds s h
  | .exit id, _, Kx, _, ds, s, h => Kx id ds s h
  | .cond c x y, Kn, Kx, Kr, ds, s, h => (match look s c with
    | some (.bool b) => Br b (evR tb G GY Y pl n x Kn Kx Kr ds s h) (evR tb G GY Y pl n y Kn Kx Kr ds s h)
    | _ => False)
  | .block id c, Kn, Kx, Kr, ds, s, h => evR tb G GY Y pl n c Kn (fun i ds s h => bif Nat.beq i id then Kn ds s h else Kx i ds s h) Kr ds s h
  | .seq a b, Kn, Kx, Kr, ds, s, h => evR tb G GY Y pl n a (fun ds s h => evR tb G GY Y pl n b Kn Kx Kr ds s h) Kx Kr ds s h
  | .rangeFunc g ps asg body, Kn, Kx, Kr, ds, s, h => (match find1 pl.rng (ps.getD 0 0) with
    | none => False
    | some L => bif Nat.beq ps.size L.length && allLt ps.toList n && fitsC n asg && fitsC n body then
        ovl (look s g) fun v => RngRV GY L (fun l r x E h => evRound tb G Y.sem pl.pl ps.toList asg body s l r x E h) v h fun j D h' => jumpK Kn Kx Kr (D :: ds) s j h'
      else False)
  | .region id ops draw, Kn, Kx, Kr, ds, s, h => bif draw then (match ds with
      | [] => evY tb G Y.sem pl.pl (.region id ops true) (Kn []) (fun _ _ _ => False) (fun _ _ => False) s h
      | _ => False)
    else evOpsY tb G Y.sem ops.toList ops.toList s h (Kn ds)
  | .loop c, Kn, Kx, Kr, ds, s, h => (match ds with
      | [] => evY tb G Y.sem pl.pl (.loop c) (Kn []) (fun i => Kx i []) (Kr []) s h
      | _ => False)
  | _, _, _, _, _, _, _ => False
def fitsR (n : Nat) : Code → Bool
  | .region _ ops _ => ops.toList.all fun o => match o.dst with | some d => Nat.blt d n | none => true
  | .seq a b => fitsR n a && fitsR n b
  | .cond _ a b => fitsR n a && fitsR n b
  | .block _ c => fitsR n c
  | .loop c => fitsC n c
  | _ => true
theorem PostM.of {n : Nat} {w0 : World} {t0 : Array Value} {ws : List Nat} {Kn : List Nat → Sto → H → Prop} {Kx : Nat → List Nat → Sto → H → Prop} {Kr : List Nat → Sto → H → Prop} (e : Exit) (a : Act) (w : World) (h : Post n w0 t0 ws (Kn []) (fun i => Kx i []) (Kr []) e a w) : PostM n w0 t0 ws Kn Kx Kr e a w := by
  obtain ⟨q1, q2, q3, q4, s, q5, q6⟩ := h
  refine ⟨q1, q3, q4, [], s, q2, q5, ?_⟩
  cases e <;> exact q6
theorem evR_ok {P : Program} {tb : Tab} {G : List (Ent P)} {GY : List (EntY P)} {Y : YY P} {pl : PlanR} (hfull : tb.full P = true) {n : Nat} (c : Code) : ∀ (Kn : List Nat → Sto → H → Prop) (Kx : Nat → List Nat → Sto → H → Prop) (Kr : List Nat → Sto → H → Prop) (ds : List Nat) (s : Sto) (a : Act) (w : World),
    a.tmps.size = n → a.defers = ds.map mkD → Ag s a.tmps → fitsR n c = true → evR tb G GY Y pl n c Kn Kx Kr ds s w.heap → c.wpIn Fence.wide 0 P (PostM n w a.tmps (writes c) Kn Kx Kr) a w := by
  induction c with
  | skip => exact fun Kn Kx Kr ds s a w h1 h2 h3 _ h => wpIn_skip ⟨h1, Same.refl _, fun _ _ => rfl, ds, s, h2, h3, h⟩
  | label l => exact fun Kn Kx Kr ds s a w h1 h2 h3 _ h => wpIn_label ⟨h1, Same.refl _, fun _ _ => rfl, ds, s, h2, h3, h⟩
  | ret => exact fun Kn Kx Kr ds s a w h1 h2 h3 _ h => wpIn_ret ⟨h1, Same.refl _, fun _ _ => rfl, ds, s, h2, h3, h⟩
  | exit id => exact fun Kn Kx Kr ds s a w h1 h2 h3 _ h => wpIn_exit ⟨h1, Same.refl _, fun _ _ => rfl, ds, s, h2, h3, h⟩
  | region id ops draw =>
    intro Kn Kx Kr ds s a w h1 h2 h3 hf h
    cases draw with
    | true =>
      simp only [evR, cond_true] at h
      split at h
      case h_2 => exact h.elim
      have hp := evY_ok (ro := none) hfull Y.ok (.region id ops true) (Kn []) (fun _ _ _ => False) (fun _ _ => False) s a w h1 h2 h3 hf h
      refine wpIn_mono hp ?_
      intro e a1 w1 hq
      refine PostM.of e a1 w1 ?_
      obtain ⟨q1, q2, q3, q4, s1, q5, q6⟩ := hq
      refine ⟨q1, q2, q3, q4, s1, q5, ?_⟩
      cases e <;> first | exact q6 | exact q6.elim
    | false =>
      have hfit : Fits n ops.toList := by
        intro o ho d hd
        simp only [fitsR, List.all_eq_true] at hf
        have := hf o ho
        rw [hd] at this
        exact Nat.le_of_ble_eq_true this
      refine wpIn_region_list (evOpsY_ok (ro := none) hfull Y.ok ops ops.toList s a w h3 h2 h1 hfit h ?_)
      intro s' a' w' q1 q2 q3 q4 q5 q6
      exact ⟨q3, q4, q5, ds, s', q2, q1, q6⟩
  | seq x y ihx ihy =>
    intro Kn Kx Kr ds s a w h1 h2 h3 hf h
    simp only [fitsR, Bool.and_eq_true] at hf
    simp only [evR] at h
    refine wpIn_seq (wpIn_mono (ihx _ _ _ ds s a w h1 h2 h3 hf.1 h) ?_)
    intro e a1 w1 hp
    cases e with
    | normal =>
      obtain ⟨q1, q3, q4, ds1, s1, q2, q5, q6⟩ := hp
      refine wpIn_mono (ihy _ _ _ ds1 s1 a1 w1 q1 q2 q5 hf.2 q6) ?_
      exact PostM.mono q3 (fun i hi => q4 i (fun hm => hi (by simp [writes, hm]))) (fun i hm => by simp [writes, hm]) (fun _ _ _ h => h) (fun _ _ _ _ h => h) (fun _ _ _ h => h)
    | _ =>
      obtain ⟨q1, q3, q4, ds1, s1, q2, q5, q6⟩ := hp
      exact ⟨q1, q3, fun i hi => q4 i (fun hm => hi (List.mem_append_left _ hm)), ds1, s1, q2, q5, q6⟩
  | cond c x y ihx ihy =>
    intro Kn Kx Kr ds s a w h1 h2 h3 hf h
    simp only [fitsR, Bool.and_eq_true] at hf
    simp only [evR] at h
    split at h
    case h_2 => exact h.elim
    rename_i b hb
    have he := h3.agree.at_ _ _ hb
    cases b with
    | true =>
      refine wpIn_cond_true he (wpIn_mono (ihx _ _ _ ds s a w h1 h2 h3 hf.1 h) ?_)
      exact PostM.mono (Same.refl _) (fun _ _ => rfl) (fun i hm => by simp [writes, hm]) (fun _ _ _ h => h) (fun _ _ _ _ h => h) (fun _ _ _ h => h)
    | false =>
      refine wpIn_cond_false he (wpIn_mono (ihy _ _ _ ds s a w h1 h2 h3 hf.2 h) ?_)
      exact PostM.mono (Same.refl _) (fun _ _ => rfl) (fun i hm => by simp [writes, hm]) (fun _ _ _ h => h) (fun _ _ _ _ h => h) (fun _ _ _ h => h)
  | block id c ih =>
    intro Kn Kx Kr ds s a w h1 h2 h3 hf h
    refine wpIn_block (wpIn_mono (ih _ _ _ ds s a w h1 h2 h3 hf h) ?_)
    intro e a1 w1 hp
    obtain ⟨q1, q3, q4, ds1, s1, q2, q5, q6⟩ := hp
    cases e with
    | exit i =>
      simp only [Exit.inBlock]
      split
      · rename_i hi
        subst hi
        refine ⟨q1, q3, q4, ds1, s1, q2, q5, ?_⟩
        simpa using q6
      · rename_i hi
        refine ⟨q1, q3, q4, ds1, s1, q2, q5, ?_⟩
        have : Nat.beq i id = false := by
          cases hb : Nat.beq i id with
          | true => exact absurd (Nat.eq_of_beq_eq_true hb) hi
          | false => rfl
        simpa [this] using q6
    | _ => exact ⟨q1, q3, q4, ds1, s1, q2, q5, q6⟩
  | scope c ih => exact fun Kn Kx Kr ds s a w h1 h2 h3 _ h => h.elim
  | loop c ih =>
    intro Kn Kx Kr ds s a w h1 h2 h3 hf h
    simp only [evR] at h
    split at h
    case h_2 => exact h.elim
    have hp := evY_ok (ro := none) hfull Y.ok (.loop c) (Kn []) (fun i => Kx i []) (Kr []) s a w h1 h2 h3 hf h
    exact wpIn_mono hp (fun e a1 w1 hq => PostM.of e a1 w1 hq)
  | rangeFunc f p as b _ _ =>
    intro Kn Kx Kr ds s a w h1 h2 h3 hf h
    simp only [evR] at h
    split at h
    · exact h.elim
    rename_i L hL
    cases hc : (Nat.beq p.size L.length && allLt p.toList n && fitsC n as && fitsC n b) with
    | false => rw [hc] at h; exact h.elim
    | true =>
      rw [hc] at h
      simp only [cond_true] at h
      simp only [Bool.and_eq_true] at hc
      obtain ⟨v, hv, h⟩ := ovl_some h
      refine rngR_ok hfull (h3.agree.at_ _ _ hv) h3 h1 (Nat.eq_of_beq_eq_true hc.1.1.1) hc.1.1.2 hc.1.2 hc.2 h ?_
      intro j w' hs hk
      have hd : mkD w.heap.size :: a.defers = (w.heap.size :: ds).map mkD := by simp [h2]
      cases j with
      | none => exact ⟨h1, hs, fun _ _ => rfl, w.heap.size :: ds, s, hd, h3, hk⟩
      | some c =>
        cases c with
        | ret => exact wpIn_ret ⟨h1, hs, fun _ _ => rfl, w.heap.size :: ds, s, hd, h3, hk⟩
        | exit id => exact wpIn_exit ⟨h1, hs, fun _ _ => rfl, w.heap.size :: ds, s, hd, h3, hk⟩
        | _ => exact hk.elim
  | goto l => exact fun Kn Kx Kr ds s a w h1 h2 h3 _ h => h.elim
  | refuse w => exact fun Kn Kx Kr ds s a w h1 h2 h3 _ h => h.elim

def evFnR {P : Program} (tb : Tab) (G : List (Ent P)) (GY : List (EntY P)) (Y : YY P) (pl : PlanR) (n : Nat) (rs : List ResultVar) (c : Code) (args : List Value) (K : Value → H → Prop) (h : H) : Prop :=
  evR tb G GY Y pl n c (fun ds s h => TakeAll ds h fun h => evRes (P := P) tb rs s h fun vs => K (tupV vs) h) (fun _ _ _ _ => False) (fun ds s h => TakeAll ds h fun h => evRes (P := P) tb rs s h fun vs => K (tupV vs) h) [] (args0 0 args) h
theorem evFnR_ok {P : Program} {tb : Tab} (hfull : tb.full P = true) {G : List (Ent P)} {GY : List (EntY P)} {Y : YY P} {pl : PlanR} {num : Nat} {fn : Func} {c : Code} (hf : P.funcs[num]? = some fn) (hb : fn.body = some c) (hfit : fitsR fn.ntmps c = true)
    (args : List Value) (hlen : args.length ≤ fn.ntmps) (K : Value → H → Prop) (w : World) (h : evFnR tb G GY Y pl fn.ntmps fn.results.toList c args K w.heap) :
    Calls P num args.toArray w (fun e w' => ∃ v, e = .returned v ∧ Same w w' ∧ K v w'.heap) := by
  refine callsIn_wide.1 (callsIn_of_wp_marks (n := 0) hf hb trivial ?_ rfl)
  have hsz : (args.toArray ++ Array.replicate (fn.ntmps - args.toArray.size) undef).size = fn.ntmps := by simp; omega
  refine wpIn_mono (evR_ok hfull c _ _ _ [] (args0 0 args) _ w hsz rfl ?_ hfit h) ?_
  · intro i v hv
    obtain ⟨_, h2⟩ := args0_find args 0 i v hv
    rw [Nat.sub_zero] at h2
    have hi : i < args.length := (List.getElem?_eq_some_iff.1 h2).1
    rw [Array.getElem?_append_left (by simpa using hi)]
    simpa using h2
  · intro e a w' hp
    obtain ⟨q1, q3, q4, ds, s, q2, q5, q6⟩ := hp
    have fin : TakeAll ds w'.heap (fun h => evRes (P := P) tb fn.results.toList s h fun vs => K (tupV vs) h) → LeavesInM Fence.wide 0 P fn a.tmps (fun e w' => ∃ v, e = .returned v ∧ Same w w' ∧ K v w'.heap) a.defers .returning w' := by
      intro hr
      rw [q2]
      exact take_ok (Tab.full_ok hfull) q5 ds w' q3 hr
    cases e with
    | normal => exact fin q6
    | ret => exact fin q6
    | exit id => exact q6.elim
    | goto l => exact q6.elim
    | panic ch => exact q6.elim
    | outgrown => exact q6.elim
def bodyOkR (fn : Func) (c : Code) (k : Nat) : Bool :=
  (match fn.body with | some _ => true | none => false) && !(fn.name == "runtime.NumGoroutine") && fitsR fn.ntmps c && Nat.ble k fn.ntmps
/-- An iterator that ranges itself, or calls what calls yield. -/
def mkEntYR {P : Program} {tb : Tab} (hfull : tb.full P = true) (num : Nat) (fn : Func) (c : Code) (hf : P.funcs[num]? = some fn) (hc : fn.body = some c) (G : YY P → List (Ent P)) (GY : List (EntY P)) (pl : PlanR) (L : List Shape) (hb : bodyOkR fn c L.length = true)
    (F F0 : YY P → ShL L → (Value → H → Prop) → H → Prop) (hs : F = F0) (hF : ∀ Y x K h, F0 Y x K h = evFnR tb (G Y) GY Y pl fn.ntmps fn.results.toList c (ShL.vals L x) K h) : EntY P where
  num := num
  sem Y := entSem (F Y)
  has := by
    unfold bodyOkR at hb
    simp only [Bool.and_eq_true, Bool.not_eq_true'] at hb
    exact ⟨fn, hf, hb.1.1.2, by rw [hc]; rfl⟩
  ok := by
    intro Y args K w h
    unfold bodyOkR at hb
    simp only [Bool.and_eq_true] at hb
    unfold entSem at h
    split at h
    case h_2 => exact h.elim
    rename_i x hx
    have hv := ShL.of_vals hx
    subst hs
    rw [hF] at h
    rw [← hv]
    exact evFnR_ok hfull hf hc hb.1.2 _ (by rw [ShL.length]; exact Nat.le_of_ble_eq_true hb.2) K w h
/-- A function that ranges and calls no yield. -/
def mkEntR {P : Program} {tb : Tab} (hfull : tb.full P = true) (num : Nat) (fn : Func) (c : Code) (hf : P.funcs[num]? = some fn) (hc : fn.body = some c) (G : List (Ent P)) (GY : List (EntY P)) (pl : PlanR) (L : List Shape) (hb : bodyOkR fn c L.length = true)
    (F F0 : ShL L → (Value → H → Prop) → H → Prop) (hs : F = F0) (hF : ∀ x K h, F0 x K h = evFnR tb G GY (YY.no P) pl fn.ntmps fn.results.toList c (ShL.vals L x) K h) : Ent P where
  num := num
  sem := entSem F
  has := by
    unfold bodyOkR at hb
    simp only [Bool.and_eq_true, Bool.not_eq_true'] at hb
    exact ⟨fn, hf, hb.1.1.2, by rw [hc]; rfl⟩
  ok := by
    intro args K w h
    unfold bodyOkR at hb
    simp only [Bool.and_eq_true] at hb
    unfold entSem at h
    split at h
    case h_2 => exact h.elim
    rename_i x hx
    have hv := ShL.of_vals hx
    subst hs
    rw [hF] at h
    rw [← hv]
    exact evFnR_ok hfull hf hc hb.1.2 _ (by rw [ShL.length]; exact Nat.le_of_ble_eq_true hb.2) K w h
def CallV' {P : Program} (G : List (Ent P)) (v : Value) (vs : List Value) (h : H) (K : Value → H → Prop) : Prop :=
  match v with
  | .func (.func n) first captured => callE G n (first.toList ++ vs ++ captured.toList) K h
  | _ => False
/-- A call of what was loaded: a function, or yield. -/
def CallVY {P : Program} (G : List (Ent P)) (Y : YSem) (v : Value) (vs : List Value) (h : H) (K : Value → H → Prop) : Prop :=
  match v with
  | .func (.yield l) first captured => Y l (first.toList ++ vs) K h
  | _ => CallV' G v vs h K
/-- A truth value that came of such a call. -/
def NotV (v : Value) (K : Bool → Prop) : Prop :=
  match v with
  | .bool b => K b
  | _ => False
/-- How the statement is left. -/
def JumpP (j : Option Code) (A B : Prop) (X : Nat → Prop) : Prop :=
  match j with
  | none => A
  | some .ret => B
  | some (.exit id) => X id
  | _ => False
end Go.Proofs.Ytfijchofplkcoaa
