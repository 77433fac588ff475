/-
  The reading of a region whose order is drawn.
-/
import Derived.Test.YtfijchofplkcoaaSh
set_option linter.unusedVariables false
set_option linter.unusedSimpArgs false
namespace Go.Proofs.Ytfijchofplkcoaa

@[reducible] def ShL : List Shape → Type
  | [] => Unit
  | sh :: r => sh.T × ShL r
def ShL.vals : (L : List Shape) → ShL L → List Value
  | [], _ => []
  | sh :: r, x => sh.val x.1 :: ShL.vals r x.2
def ShL.of : (L : List Shape) → List Value → Option (ShL L)
  | [], [] => some ()
  | sh :: r, v :: vs => (match sh.of v, ShL.of r vs with | some x, some y => some (x, y) | _, _ => none)
  | _, _ => none
theorem ShL.of_vals : ∀ {L : List Shape} {vs : List Value} {x : ShL L}, ShL.of L vs = some x → ShL.vals L x = vs
  | [], [], x, h => rfl
  | [], _ :: _, x, h => by simp [ShL.of] at h
  | t :: r, [], x, h => by simp [ShL.of] at h
  | t :: r, v :: vs, x, h => by
    simp only [ShL.of] at h
    split at h
    · rename_i a b ha hb
      simp only [Option.some.injEq] at h
      subst h
      simp only [ShL.vals, Shape.of_val ha, ShL.of_vals hb]
    · simp at h
def tupV : List Value → Value
  | [v] => v
  | vs => .tuple vs.toArray

inductive DT where
  | done
  | q (i : Nat) (t : DT)
  | qc (i : Nat) (L : List Shape) (t : DT)
  | m1 (i : Nat) (t : DT)
  | m2 (i j : Nat) (t u : DT)

def RdL (h : H) (a : Addr) : Nat → List Value → Prop
  | _, [] => True
  | i, v :: vs => hcell h (a.add i) = some v ∧ RdL h a (i + 1) vs
def isPure : Op → Bool
  | .move _ | .assign _ | .pick .. | .nilCheck _ | .binOp .. | .unOp .. | .fieldAddr .. | .indexAddr .. | .index .. | .extract .. | .slice .. | .build .. | .makeFunc .. => true
  | .call c => (match c.callee with | .builtin .len => true | _ => false)
  | _ => false
def evQ {P : Program} (tb : Tab) (G : List (Ent P)) (s : Sto) (op : Op) (h : H) (K : Value → Option (H → Prop) → Prop) : Prop :=
  match op with
  | .load t x => (match look s x with
    | some (.pointer (some a)) => (match find1 tb.lk t with
      | some (.leaf ty) => Ld ty h (a.add 0) fun x => K (ty.val x) (some fun h' => hcell h' (a.add 0) = some (ty.val x))
      | some (.agg ts) => LdL ts h a 0 fun vs => K (.agg vs.toArray) (some fun h' => RdL h' a 0 vs)
      | some (.row k n) => LdRow k n h a fun xs => K (rowV k xs) (some fun h' => ∀ j, j < n → hcell h' (a.add j) = some (.int k (xs.getD j 0)))
      | none => False)
    | _ => False)
  | .convert src dst x => (match find1 tb.lk src, find1 tb.lk dst with
    | some (.leaf (.i _)), some (.leaf (.i k)) => (match look s x with | some (.int _ n) => K (.int k (k.wrap n)) none | _ => False)
    | some (.leaf .s), none => (match ixOf tb src with
      | some ⟨none, el, _, _⟩ => (match find1 tb.lk el with
        | some (.leaf (.i .u8)) => (bif isStr P dst then ovl (look s x) fun v => sl2 v fun q =>
            ∃ xs : List Int, (xs.length = q.len ∧ Reads h q.a (xs.map (Value.int .u8))) ∧ K (.string (strOfNums xs)) (some fun h' => Reads h' q.a (xs.map (Value.int .u8))) else False)
        | _ => False)
      | _ => False)
    | _, _ => False)
  | op => bif isPure op then evOp tb G s op h (fun v _ => K v none) else False
/-- A quiet call: it hands back x and leaves the heap alone. -/
def QC (L : List Shape) (h : H) (call : (Value → H → Prop) → H → Prop) (K : ShL L → Prop) : Prop := ∃ x : ShL L, call (fun v' h' => v' = tupV (ShL.vals L x) ∧ h' = h) h ∧ K x
def QR (L : List Shape) (call : (Value → H → Prop) → H → Prop) (x : ShL L) (h : H) : Prop := call (fun v' h' => v' = tupV (ShL.vals L x) ∧ h' = h) h
def evQC {P : Program} (G : List (Ent P)) (s : Sto) (op : Op) (L : List Shape) (h : H) (K : Value → Option (H → Prop) → Prop) : Prop :=
  match op with
  | .call c => (match c.callee with
    | .value f => (match look s f with
      | some (.func (.func n) first captured) => (match looks s c.args.toList with
        | some vs => QC L h (fun K' h' => callE G n (first.toList ++ vs ++ captured.toList) K' h') fun x =>
            K (tupV (ShL.vals L x)) (some fun h1 => QR L (fun K' h' => callE G n (first.toList ++ vs ++ captured.toList) K' h') x h1)
        | none => False)
      | _ => False)
    | _ => False)
  | _ => False

def gd (ops : List Oper) (i : Nat) (s : Sto) (run skip : Oper → Sto → Prop) : Prop :=
  match ops[i]? with
  | none => False
  | some o => match o.guard with
    | none => run o s
    | some (j, want) => match dstOf ops j with
      | none => False
      | some d => match find1 s d with
        | none => False
        | some v => match v with
          | .bool b => Br b
              (match want with | true => run o ((d, .bool true) :: s) | false => skip o ((d, .bool true) :: s))
              (match want with | true => skip o ((d, .bool false) :: s) | false => run o ((d, .bool false) :: s))
          | _ => skip o s
def consR (i : Nat) (R : Option (H → Prop)) (T : TR) : TR := match R with | some R => (i, R) :: T | none => T
def Rk : TR → H → Prop → Prop
  | [], _, X => X
  | (_, R) :: r, h, X => R h ∧ Rk r h X

def evD {P : Program} (tb : Tab) (G : List (Ent P)) (ops : Array Oper) : DT → TR → Sto → H → (Sto → H → Prop) → Prop
  | .done, _, s, h, K => K s h
  | .q i t, T, s, h, K => gd ops.toList i s (fun o s => evQ tb G s o.op h fun v R => evD tb G ops t (consR i R T) (put s o.dst v) h K) (fun o s => evD tb G ops t T (put s o.dst undef) h K)
  | .qc i L t, T, s, h, K => gd ops.toList i s (fun o s => evQC G s o.op L h fun v R => evD tb G ops t (consR i R T) (put s o.dst v) h K) (fun o s => evD tb G ops t T (put s o.dst undef) h K)
  | .m1 i t, T, s, h, K => gd ops.toList i s (fun o s => evOp tb G s o.op h fun v h' => Rk (alive ops i T) h' (evD tb G ops t (alive ops i T) (put s o.dst v) h' K)) (fun o s => evD tb G ops t (alive ops i T) (put s o.dst undef) h K)
  | .m2 i j t u, T, s, h, K =>
    gd ops.toList i s (fun o s => evOp tb G s o.op h fun v h' => Rk (alive ops i T) h' (evD tb G ops t (alive ops i T) (put s o.dst v) h' K)) (fun o s => evD tb G ops t (alive ops i T) (put s o.dst undef) h K) ∧
    gd ops.toList j s (fun o s => evOp tb G s o.op h fun v h' => Rk (alive ops j T) h' (evD tb G ops u (alive ops j T) (put s o.dst v) h' K)) (fun o s => evD tb G ops u (alive ops j T) (put s o.dst undef) h K)

def canonB (ops : Array Oper) : DT → Nat → Array Bool → Bool
  | .done, f, L => Nat.beq f 0 && (Region.ready .any ops L).isEmpty
  | .q i t, f, L => Nat.blt 0 f && (Region.ready .any ops L).contains i && Region.free .any ops L i && canonB ops t (f - 1) (L.setIfInBounds i true)
  | .qc i _ t, f, L => Nat.blt 0 f && (Region.ready .any ops L).contains i && Region.free .any ops L i && canonB ops t (f - 1) (L.setIfInBounds i true)
  | .m1 i t, f, L => Nat.blt 0 f && (Region.ready .any ops L == [i]) && canonB ops t (f - 1) (L.setIfInBounds i true)
  | .m2 i j t u, f, L => Nat.blt 0 f && (Region.ready .any ops L == [i, j]) && canonB ops t (f - 1) (L.setIfInBounds i true) && canonB ops u (f - 1) (L.setIfInBounds j true)

/-! What is worked out without the heap comes to one value, whatever the heap. -/
def Pin (F : (Value → Prop) → Prop) : Prop := ∀ K, F K → ∃ v, K v ∧ F (fun u => u = v)
theorem Pin.ovl {o : Option Value} {F : Value → (Value → Prop) → Prop} (h : ∀ v, Pin (F v)) : Pin (fun K => Ytfijchofplkcoaa.ovl o fun v => F v K) := by
  intro K hk
  obtain ⟨v, hv, hk⟩ := ovl_some hk
  obtain ⟨u, h1, h2⟩ := h v K hk
  exact ⟨u, h1, by simp only [hv, Ytfijchofplkcoaa.ovl]; exact h2⟩
theorem pin_one (v : Value) : Pin (fun K => K v) := fun K hk => ⟨v, hk, rfl⟩
theorem pin_false : Pin (fun _ => False) := fun K hk => hk.elim
theorem pin_asr {c : Prop} {v : Value} : Pin (fun K => Asr c (K v)) := fun K hk => ⟨v, hk.2, hk.1, rfl⟩
theorem pin_int (op : BinOp) (k k' : IntKind) (a b : Int) : Pin (evInt op k k' a b) := by
  intro K hk
  cases op <;> simp only [evInt] at hk ⊢
  case shl => exact ⟨_, hk.2, hk.1, rfl⟩
  case shr => exact ⟨_, hk.2, hk.1, rfl⟩
  all_goals
    split at hk
    case isFalse => exact hk.elim
    rename_i hkk
    simp only [if_pos hkk]
    first
      | exact ⟨_, hk, rfl⟩
      | exact ⟨_, hk.2, hk.1, rfl⟩
theorem pin_eq (lk : Option LK) (x y : Value) (g : Bool → Value) : Pin (fun K => evEq lk x y fun b => K (g b)) := by
  intro K hk
  unfold evEq at hk ⊢
  split at hk
  all_goals try exact hk.elim
  all_goals
    split at hk
    case h_2 => exact hk.elim
  all_goals try exact ⟨_, hk, rfl⟩
  · exact ⟨_, hk.2, hk.1, rfl⟩
  · rename_i ts _ _ as bs
    cases hc : (Nat.beq as.toList.length ts.length && Nat.beq bs.toList.length ts.length && i64s as.toList && i64s bs.toList) with
    | false => rw [hc] at hk; exact hk.elim
    | true => rw [hc] at hk; exact ⟨_, hk, rfl⟩
theorem pin_bin (lk : Option LK) (op : BinOp) (x y : Value) : Pin (evBin lk op x y) := by
  intro K hk
  unfold evBin at hk ⊢
  split at hk
  · split at hk
    case h_2 => exact hk.elim
    exact pin_int _ _ _ _ _ K hk
  · split at hk
    · exact pin_eq lk _ y (fun b => .bool b) K hk
    · exact pin_eq lk _ y (fun b => .bool (!b)) K hk
    · exact hk.elim
theorem pin_idx (ix : Option Ix) (x i : Value) : Pin (evIdx ix x i) := by
  intro K hk
  unfold evIdx at hk ⊢
  split at hk
  case h_2 => exact hk.elim
  split at hk
  case h_2 => exact hk.elim
  split at hk
  · split at hk
    case h_2 => exact hk.elim
    rename_i base len cap
    cases base with
    | none => exact hk.elim
    | some a => exact ⟨_, hk.2, hk.1, rfl⟩
  · split at hk
    case h_2 => exact hk.elim
    exact ⟨_, hk.2, hk.1, rfl⟩
theorem pin_ixv (el : Option LK) (ix : Option Ix) (x i : Value) : Pin (evIxV el ix x i) := by
  intro K hk
  unfold evIxV at hk ⊢
  split at hk
  case h_2 => exact hk.elim
  rename_i n _ _ _ _ _
  split at hk
  · split at hk
    case h_2 => exact hk.elim
    rename_i ps hps
    cases hc : Nat.beq ps.length n with
    | false => rw [hc] at hk; exact hk.elim
    | true => rw [hc] at hk; exact ⟨_, hk.2, hk.1, rfl⟩
  · split at hk
    case h_2 => exact hk.elim
    rename_i ps hps
    cases hc : Nat.beq ps.length n with
    | false => rw [hc] at hk; exact hk.elim
    | true => rw [hc] at hk; exact ⟨_, hk.2, hk.1, rfl⟩
  · exact hk.elim
theorem pin_slice (ix : Option Ix) (x : Value) (lo hi : Option Value) : Pin (evSlice ix x lo hi) := by
  intro K hk
  unfold evSlice at hk ⊢
  split at hk
  case h_2 => exact hk.elim
  split at hk
  · split at hk
    case h_2 => exact hk.elim
    split at hk
    case h_2 => exact hk.elim
    exact ⟨_, hk.2, hk.1, rfl⟩
  · split at hk
    case h_2 => exact hk.elim
    split at hk
    case h_2 => exact hk.elim
    exact ⟨_, hk.2, hk.1, rfl⟩

theorem pure_ev {P : Program} {tb : Tab} {G : List (Ent P)} {s : Sto} {op : Op} {h : H} {K : Value → Prop} (hp : isPure op = true) (hk : evOp tb G s op h (fun v _ => K v)) :
    ∃ v, K v ∧ ∀ h', evOp tb G s op h' (fun u h'' => u = v ∧ h'' = h') := by
  cases op <;> simp only [isPure, Bool.false_eq_true] at hp <;> simp only [evOp] at hk ⊢
  case move x =>
    obtain ⟨v, h1, h2⟩ := Pin.ovl (o := look s x) (F := fun v K => K v) pin_one K hk
    exact ⟨v, h1, fun h' => by simp only [and_true]; exact h2⟩
  case assign x =>
    split at hk
    · exact ⟨_, hk, fun h' => ⟨rfl, trivial⟩⟩
    · split at hk
      · exact hk.elim
      · split at hk
        · exact ⟨_, hk, fun h' => ⟨rfl, trivial⟩⟩
        · exact ⟨_, hk, fun h' => ⟨rfl, trivial⟩⟩
  case pick c a b =>
    split at hk
    case h_2 => exact hk.elim
    rename_i t ht
    cases t with
    | true =>
      obtain ⟨v, h1, h2⟩ := Pin.ovl (o := look s a) (F := fun v K => K v) pin_one K hk
      exact ⟨v, h1, fun h' => by simp only [and_true]; exact h2⟩
    | false =>
      obtain ⟨v, h1, h2⟩ := Pin.ovl (o := look s b) (F := fun v K => K v) pin_one K hk
      exact ⟨v, h1, fun h' => by simp only [and_true]; exact h2⟩
  case build t ps =>
    split at hk
    case h_2 => exact hk.elim
    split at hk
    case h_2 => exact hk.elim
    rename_i cells hc
    exact ⟨_, hk, fun h' => ⟨rfl, trivial⟩⟩
  case nilCheck x =>
    split at hk
    · rename_i p hx
      cases p with
      | none => exact hk.elim
      | some a => exact ⟨_, hk, fun h' => ⟨rfl, trivial⟩⟩
    · exact ⟨_, hk, fun h' => ⟨rfl, trivial⟩⟩
    · exact hk.elim
  case binOp op t x y u =>
    obtain ⟨v, h1, h2⟩ := Pin.ovl (o := look s x) (F := fun v K => ovl (look s y) fun u => evBin (find1 tb.eq t) op v u K) (fun v => Pin.ovl (fun u => pin_bin _ _ _ _)) K hk
    exact ⟨v, h1, fun h' => by simp only [and_true]; exact h2⟩
  case unOp op t x =>
    split at hk
    · exact ⟨_, hk, fun h' => ⟨rfl, trivial⟩⟩
    · exact ⟨_, hk, fun h' => ⟨rfl, trivial⟩⟩
    · exact hk.elim
  case makeFunc fn first cap =>
    split at hk
    case h_2 => exact hk.elim
    exact ⟨_, hk, fun h' => ⟨rfl, trivial⟩⟩
  case slice t x lo hi mx =>
    split at hk
    case h_2 => exact hk.elim
    split at hk
    case h_2 => exact hk.elim
    rename_i l u hl hu
    obtain ⟨v, h1, h2⟩ := Pin.ovl (o := look s x) (F := fun v K => evSlice (ixOf tb t) v l u K) (fun v => pin_slice _ _ _ _) K hk
    exact ⟨v, h1, fun h' => by simp only [and_true]; exact h2⟩
  case fieldAddr t x f =>
    split at hk
    case h_2 => exact hk.elim
    split at hk
    case h_2 => exact hk.elim
    exact ⟨_, hk, fun h' => ⟨rfl, trivial⟩⟩
  case indexAddr t x i =>
    obtain ⟨v, h1, h2⟩ := Pin.ovl (o := look s x) (F := fun v K => ovl (look s i) fun u => evIdx (ixOf tb t) v u K) (fun v => Pin.ovl (fun u => pin_idx _ _ _)) K hk
    exact ⟨v, h1, fun h' => by simp only [and_true]; exact h2⟩
  case index t x i =>
    obtain ⟨v, h1, h2⟩ := Pin.ovl (o := look s x) (F := fun v K => ovl (look s i) fun u => (match ixOf tb t with | some ix => evIxV (find1 tb.lk ix.el) (some ix) v u K | none => False)) (fun v => Pin.ovl (fun u => by
      cases ixOf tb t with
      | none => exact pin_false
      | some ix => exact pin_ixv _ _ _ _)) K hk
    exact ⟨v, h1, fun h' => by simp only [and_true]; exact h2⟩
  case extract x i =>
    split at hk
    case h_2 => exact hk.elim
    rename_i vs hx
    obtain ⟨v, h1, h2⟩ := Pin.ovl (o := vs.toList[i]?) (F := fun v K => K v) pin_one K hk
    exact ⟨v, h1, fun h' => by simp only [and_true]; exact h2⟩
  case call c =>
    unfold evCall at hk ⊢
    split at hp
    case h_2 => simp at hp
    rename_i hc
    simp only [hc] at hk ⊢
    split at hk
    case h_2 => exact hk.elim
    split at hk
    case h_2 => exact hk.elim
    obtain ⟨v, h1, h2⟩ := Pin.ovl (F := fun v K => sl2 v fun q => K (.int .i64 q.len)) (fun v => by
      intro K hk
      unfold sl2 at hk ⊢
      split at hk
      · exact ⟨_, hk, rfl⟩
      · exact hk.elim) K hk
    exact ⟨v, h1, fun h' => by simp only [and_true]; exact h2⟩

theorem LdL_rd : ∀ (ts : List Ty) (h : H) (a : Addr) (i : Nat) (K : List Value → Prop), LdL ts h a i K → ∃ vs, K vs ∧ RdL h a i vs ∧ ∀ h', RdL h' a i vs → LdL ts h' a i (fun us => us = vs)
  | [], h, a, i, K, hk => ⟨[], hk, trivial, fun _ _ => rfl⟩
  | t :: ts, h, a, i, K, ⟨x, hx, hk⟩ => by
    obtain ⟨vs, h1, h2, h3⟩ := LdL_rd ts h a (i + 1) _ hk
    refine ⟨t.val x :: vs, h1, ⟨hx, h2⟩, fun h' ⟨q1, q2⟩ => ⟨x, q1, ?_⟩⟩
    have h4 := h3 h' q2
    have mono : ∀ (ts : List Ty) (i : Nat) (K K' : List Value → Prop), (∀ vs, K vs → K' vs) → LdL ts h' a i K → LdL ts h' a i K' := by
      intro ts
      induction ts with
      | nil => exact fun i K K' hm hk => hm _ hk
      | cons t ts ih => exact fun i K K' hm ⟨x, hx, hk⟩ => ⟨x, hx, ih _ _ _ (fun vs => hm _) hk⟩
    exact mono ts (i + 1) _ _ (fun us e => by rw [e]) h4

theorem evQ_ok {P : Program} {tb : Tab} {G : List (Ent P)} {s : Sto} {a : Act} {o : Oper} {ops : Array Oper} {h : H} {K : Value → Option (H → Prop) → Prop} (hfull : tb.full P = true) (ha : Agree s a.eval) (hw : Region.wanted o (yielded ops a.tmps) = true) (hk : evQ tb G s o.op h K) :
    ∃ v R, K v R ∧ (∀ R0, R = some R0 → R0 h) ∧ YieldsR P ops o v (R.getD fun _ => True) a := by
  have hok := Tab.full_ok hfull
  have fin : ∀ (v : Value) (R : H → Prop), (∀ w : World, R w.heap → evOp tb G s o.op w.heap (fun u h' => u = v ∧ h' = w.heap)) → YieldsR P ops o v R a :=
    fun v R hq => .inl ⟨hw, fun w hR => evOp_ok hfull ha w o (hq w hR)⟩
  unfold evQ at hk
  split at hk
  · rename_i t x ho
    split at hk
    case h_2 => exact hk.elim
    rename_i ad hx
    split at hk
    · rename_i ty hl
      obtain ⟨y, hy, hk⟩ := hk
      refine ⟨_, _, hk, fun R0 e => by simp only [Option.some.injEq] at e; subst e; exact hy, fin _ _ (fun w hR => ?_)⟩
      simp only [Option.getD_some] at hR
      simp only [ho, evOp, hx, evLd, hl]
      exact ⟨y, hR, rfl, trivial⟩
    · rename_i ts hl
      obtain ⟨vs, h1, h2, h3⟩ := LdL_rd ts h ad 0 _ hk
      refine ⟨_, _, h1, fun R0 e => by simp only [Option.some.injEq] at e; subst e; exact h2, fin _ _ (fun w hR => ?_)⟩
      simp only [Option.getD_some] at hR
      simp only [ho, evOp, hx, evLd, hl]
      have h4 := h3 _ hR
      have mono : ∀ (ts : List Ty) (i : Nat) (K K' : List Value → Prop), (∀ vs, K vs → K' vs) → LdL ts w.heap ad i K → LdL ts w.heap ad i K' := by
        intro ts
        induction ts with
        | nil => exact fun i K K' hm hk => hm _ hk
        | cons t ts ih => exact fun i K K' hm ⟨x, hx, hk⟩ => ⟨x, hx, ih _ _ _ (fun vs => hm _) hk⟩
      exact mono ts 0 _ _ (fun us e => by rw [e]; exact ⟨rfl, trivial⟩) h4
    · rename_i k n hl
      obtain ⟨xs, h1, h2, h3⟩ := hk
      refine ⟨_, _, h3, fun R0 e => by simp only [Option.some.injEq] at e; subst e; exact h2, fin _ _ (fun w hR => ?_)⟩
      simp only [Option.getD_some] at hR
      simp only [ho, evOp, hx, evLd, hl]
      exact ⟨xs, h1, hR, rfl, trivial⟩
    · exact hk.elim
  · rename_i src dst x ho
    split at hk
    · rename_i k1 k h1 h2
      split at hk
      case h_2 => exact hk.elim
      rename_i k2 n hx
      exact ⟨_, _, hk, fun R0 e => by simp at e, fin _ _ (fun w _ => by simp [ho, evOp, h1, h2, hx])⟩
    · rename_i h1 h2
      split at hk
      case h_2 => exact hk.elim
      rename_i el _ _ hix
      split at hk
      case h_2 => exact hk.elim
      rename_i hel
      cases hstr : isStr P dst with
      | false => rw [hstr] at hk; exact hk.elim
      | true =>
      rw [hstr] at hk
      simp only [cond_true] at hk
      obtain ⟨v, hv, hk⟩ := ovl_some hk
      unfold sl2 at hk
      split at hk
      case h_2 => exact hk.elim
      rename_i a1 l1 c1
      obtain ⟨xs, ⟨q1, q2⟩, hk⟩ := hk
      refine ⟨_, _, hk, fun R0 e => by simp only [Option.some.injEq] at e; subst e; exact q2, fin _ _ (fun w hR => ?_)⟩
      simp only [Option.getD_some] at hR
      simp only [ho, evOp, h1, h2, hix, hel, hstr, cond_true, hv, ovl, sl2]
      exact ⟨xs, q1, hR, rfl, trivial⟩
    · exact hk.elim
  · cases hp : isPure o.op with
    | false => rw [hp] at hk; exact hk.elim
    | true =>
      rw [hp] at hk
      obtain ⟨v, h1, h2⟩ := pure_ev (K := fun v => K v none) hp hk
      exact ⟨v, none, h1, fun R0 e => by simp at e, fin _ _ (fun w _ => h2 w.heap)⟩

theorem evQC_ok {P : Program} {tb : Tab} {G : List (Ent P)} {s : Sto} {a : Act} {o : Oper} {ops : Array Oper} {h : H} {L : List Shape} {K : Value → Option (H → Prop) → Prop} (hfull : tb.full P = true) (ha : Agree s a.eval) (hw : Region.wanted o (yielded ops a.tmps) = true) (hk : evQC G s o.op L h K) :
    ∃ v R, K v R ∧ (∀ R0, R = some R0 → R0 h) ∧ YieldsR P ops o v (R.getD fun _ => True) a := by
  unfold evQC at hk
  split at hk
  case h_2 => exact hk.elim
  rename_i c ho
  split at hk
  case h_2 => exact hk.elim
  rename_i f hf
  split at hk
  case h_2 => exact hk.elim
  rename_i n first captured hl
  split at hk
  case h_2 => exact hk.elim
  rename_i vs hvs
  obtain ⟨x, h1, h2⟩ := hk
  refine ⟨_, _, h2, fun R0 e => by simp only [Option.some.injEq] at e; subst e; exact h1, .inl ⟨hw, fun w hR => evOp_ok (tb := tb) (G := G) (s := s) hfull ha w o (by
    simp only [Option.getD_some] at hR
    simp only [ho, evOp, evCall, hf, hl, hvs]
    exact hR)⟩⟩


theorem wpT_true {P : Program} {ops : Array Oper} {Q : Act → H → Prop} {i : Nat} {R : H → Prop} (hR : ∀ h, R h) : ∀ (f : Nat) (T : TR) (L : Array Bool) (a : Act) (h : H), wpT P ops Q f T L a h → wpT P ops Q f ((i, R) :: T) L a h
  | 0, T, L, a, h, hh => ⟨⟨hR h, hh.1⟩, hh.2⟩
  | f + 1, T, L, a, h, hh => ⟨⟨hR h, hh.1⟩, hh.2.1, fun w hw j hj => goodOp_mono (fun a' h' hk => by
      simp only [alive]
      cases dep ops ops.size j i with
      | true => exact hk
      | false => exact wpT_true hR f _ _ _ _ hk) (hh.2.2 w hw j hj)⟩

theorem Rk_all {T : TR} {h : H} {X : Prop} : Rk T h X → Rall T h ∧ X := by
  induction T with
  | nil => exact fun hx => ⟨trivial, hx⟩
  | cons y T ih =>
    obtain ⟨i, R⟩ := y
    rintro ⟨h1, h2⟩
    exact ⟨⟨h1, (ih h2).1⟩, (ih h2).2⟩

/-- What holds of the frame all along. -/
structure Fr (n : Nat) (ops : Array Oper) (t0 : Array Value) (a : Act) : Prop where
  size : a.tmps.size = n
  defers : a.defers = []
  rest : ∀ i, i ∉ dsts ops.toList → a.tmps[i]? = t0[i]?
theorem Fr.put {n : Nat} {ops : Array Oper} {t0 : Array Value} {a : Act} (h : Fr n ops t0 a) {i : Nat} {o : Oper} (ho : ops.toList[i]? = some o) (v : Value) : Fr n ops t0 (a.put o.dst v) :=
  ⟨by rw [put_size]; exact h.size, by rw [put_defers]; exact h.defers, fun j hj => (put_other _ _ _ _ (fun d hd e => by
    subst e
    exact hj (List.mem_filterMap.2 ⟨o, List.mem_of_getElem? ho, hd⟩))).trans (h.rest j hj)⟩

theorem gd_ok {ops : Array Oper} {i : Nat} {s : Sto} {run skip : Oper → Sto → Prop} {a : Act} (hag : Ag s a.tmps) (h : gd ops.toList i s run skip) :
    ∃ o s', ops.toList[i]? = some o ∧ Ag s' a.tmps ∧ ((Region.wanted o (yielded ops a.tmps) = true ∧ run o s') ∨ (Region.wanted o (yielded ops a.tmps) = false ∧ skip o s')) := by
  unfold gd at h
  split at h
  · exact h.elim
  rename_i o ho
  split at h
  · rename_i hg
    exact ⟨o, s, ho, hag, .inl ⟨by simp [Region.wanted, hg], h⟩⟩
  · rename_i j want hg
    split at h
    · exact h.elim
    rename_i d hdj
    split at h
    · exact h.elim
    rename_i v hv
    have hy := yielded_of (all := ops) hdj (hag d v hv)
    split at h
    · rename_i b
      have ht : a.tmps[d]? = some (.bool b) := hag d _ hv
      cases b with
      | true =>
        simp only [Br_true] at h
        cases want with
        | true => exact ⟨o, _, ho, hag.cons ht, .inl ⟨by simp [Region.wanted, hg, hy], h⟩⟩
        | false => exact ⟨o, _, ho, hag.cons ht, .inr ⟨by simp [Region.wanted, hg, hy], h⟩⟩
      | false =>
        simp only [Br_false] at h
        cases want with
        | true => exact ⟨o, _, ho, hag.cons ht, .inr ⟨by simp [Region.wanted, hg, hy], h⟩⟩
        | false => exact ⟨o, _, ho, hag.cons ht, .inl ⟨by simp [Region.wanted, hg, hy], h⟩⟩
    · rename_i hnb
      exact ⟨o, s, ho, hag, .inr ⟨by
        cases v <;> first | exact absurd rfl (hnb _) | simp [Region.wanted, hg, hy], h⟩⟩

section
variable {P : Program} {tb : Tab} {G : List (Ent P)} {ops : Array Oper} {n : Nat} {t0 : Array Value} {K : Sto → H → Prop}

def QD (n : Nat) (ops : Array Oper) (t0 : Array Value) (K : Sto → H → Prop) (a : Act) (h : H) : Prop := Fr n ops t0 a ∧ ∃ s, Ag s a.tmps ∧ K s h

theorem step_quiet (hsel : Region.noSelect ops = true) {i f : Nat} {o : Oper} {v : Value} {R : Option (H → Prop)} {T : TR} {L : Array Bool} {a : Act} {h : H} {Q : Act → H → Prop}
    (ho : ops.toList[i]? = some o) (hr : (Region.ready .any ops L).contains i = true) (hf : Region.free .any ops L i = true) (hcl : ClosedL ops L) (hy : YieldsR P ops o v (R.getD fun _ => True) a)
    (h2 : wpT P ops Q f (consR i R T) (L.setIfInBounds i true) (a.put o.dst v) h) : wpT P ops Q (f + 1) T L a h := by
  have ho' : ops[i]? = some o := by rw [← ho]; simp
  have hr' : i ∈ Region.ready .any ops L := by simpa using hr
  refine wpT_first (R := R.getD fun _ => True) (v := v) ho' (Region.noSelect_spec hsel) f T L a h (Region.free_spec ho' hf) hcl hr' hy ?_
  cases R with
  | none => exact wpT_true (fun _ => trivial) _ _ _ _ _ h2
  | some R => exact h2

theorem step_mut {i f : Nat} {T : TR} {a : Act} {w : World} {s : Sto} {L : Array Bool} {Q : Act → H → Prop} {X : Sto → H → Prop} (hfull : tb.full P = true) (hag : Ag s a.tmps) (hfr : Fr n ops t0 a) (hfit : Fits n ops.toList) (hT : Rall T w.heap)
    (h : gd ops.toList i s (fun o s => evOp tb G s o.op w.heap fun v h' => Rk (alive ops i T) h' (X (put s o.dst v) h')) (fun o s => X (put s o.dst undef) w.heap))
    (hX : ∀ s' a' h', Ag s' a'.tmps → Fr n ops t0 a' → Rall (alive ops i T) h' → X s' h' → wpT P ops Q f (alive ops i T) (L.setIfInBounds i true) a' h') :
    goodOp P ops i (fun a' h' => wpT P ops Q f (alive ops i T) (L.setIfInBounds i true) a' h') a w := by
  obtain ⟨o, s', ho, hag', hcase⟩ := gd_ok hag h
  have ho' : ops[i]? = some o := by rw [← ho]; simp
  have hdst : ∀ j, o.dst = some j → j < a.tmps.size := fun j hj => by rw [hfr.size]; exact hfit o (List.mem_of_getElem? ho) j hj
  unfold goodOp
  simp only [ho']
  rcases hcase with ⟨hw, h⟩ | ⟨hw, h⟩
  · rw [if_pos hw]
    refine (evOp_ok hfull hag'.agree w o h).mono (fun v h' hk => ?_)
    obtain ⟨h1, h2⟩ := Rk_all hk
    exact hX _ _ _ (hag'.put hdst) (hfr.put ho v) h1 h2
  · rw [if_neg (by rw [hw]; simp)]
    exact hX _ _ _ (hag'.put hdst) (hfr.put ho _) (Rall_alive hT) h

theorem evD_ok (hfull : tb.full P = true) (hsel : Region.noSelect ops = true) (hfit : Fits n ops.toList) (d : DT) : ∀ (T : TR) (s : Sto) (a : Act) (h : H) (f : Nat) (L : Array Bool),
    Ag s a.tmps → Fr n ops t0 a → canonB ops d f L = true → ClosedL ops L → Rall T h → evD tb G ops d T s h K → wpT P ops (QD n ops t0 K) f T L a h := by
  induction d with
  | done =>
    intro T s a h f L hag hfr hc hcl hT hk
    simp only [canonB, Bool.and_eq_true] at hc
    have hf := Nat.eq_of_beq_eq_true hc.1
    subst hf
    exact ⟨hT, by simpa using hc.2, hfr, s, hag, hk⟩
  | q i t ih =>
    intro T s a h f L hag hfr hc hcl hT hk
    simp only [canonB, Bool.and_eq_true] at hc
    obtain ⟨⟨⟨h0, h1⟩, h2⟩, h3⟩ := hc
    obtain ⟨f, rfl⟩ : ∃ m, f = m + 1 := ⟨f - 1, by have : 0 < f := Nat.le_of_ble_eq_true h0; omega⟩
    obtain ⟨o, s', ho, hag', hcase⟩ := gd_ok hag hk
    have hdst : ∀ j, o.dst = some j → j < a.tmps.size := fun j hj => by rw [hfr.size]; exact hfit o (List.mem_of_getElem? ho) j hj
    have hr' : i ∈ Region.ready .any ops L := by simpa using h1
    rcases hcase with ⟨hw, hk⟩ | ⟨hw, hk⟩
    · obtain ⟨v, R, hk, hR, hy⟩ := evQ_ok hfull hag'.agree hw hk
      refine step_quiet hsel ho h1 h2 hcl hy (ih _ _ _ _ f _ (hag'.put hdst) (hfr.put ho v) h3 (hcl.step hr') ?_ hk)
      cases R with
      | none => exact hT
      | some R => exact ⟨hR R rfl, hT⟩
    · exact step_quiet hsel (R := none) ho h1 h2 hcl (.inr ⟨hw, rfl⟩) (ih _ _ _ _ f _ (hag'.put hdst) (hfr.put ho _) h3 (hcl.step hr') hT hk)
  | qc i S t ih =>
    intro T s a h f L hag hfr hc hcl hT hk
    simp only [canonB, Bool.and_eq_true] at hc
    obtain ⟨⟨⟨h0, h1⟩, h2⟩, h3⟩ := hc
    obtain ⟨f, rfl⟩ : ∃ m, f = m + 1 := ⟨f - 1, by have : 0 < f := Nat.le_of_ble_eq_true h0; omega⟩
    obtain ⟨o, s', ho, hag', hcase⟩ := gd_ok hag hk
    have hdst : ∀ j, o.dst = some j → j < a.tmps.size := fun j hj => by rw [hfr.size]; exact hfit o (List.mem_of_getElem? ho) j hj
    have hr' : i ∈ Region.ready .any ops L := by simpa using h1
    rcases hcase with ⟨hw, hk⟩ | ⟨hw, hk⟩
    · obtain ⟨v, R, hk, hR, hy⟩ := evQC_ok hfull hag'.agree hw hk
      refine step_quiet hsel ho h1 h2 hcl hy (ih _ _ _ _ f _ (hag'.put hdst) (hfr.put ho v) h3 (hcl.step hr') ?_ hk)
      cases R with
      | none => exact hT
      | some R => exact ⟨hR R rfl, hT⟩
    · exact step_quiet hsel (R := none) ho h1 h2 hcl (.inr ⟨hw, rfl⟩) (ih _ _ _ _ f _ (hag'.put hdst) (hfr.put ho _) h3 (hcl.step hr') hT hk)
  | m1 i t ih =>
    intro T s a h f L hag hfr hc hcl hT hk
    simp only [canonB, Bool.and_eq_true, beq_iff_eq] at hc
    obtain ⟨⟨h0, h1⟩, h3⟩ := hc
    obtain ⟨f, rfl⟩ : ∃ m, f = m + 1 := ⟨f - 1, by have : 0 < f := Nat.le_of_ble_eq_true h0; omega⟩
    refine ⟨hT, fun h => (by rw [h] at h1; cases h1), fun w hw j hj => ?_⟩
    have hj' := hj
    rw [h1] at hj
    obtain rfl : j = i := by simpa using hj
    subst hw
    exact step_mut (X := fun s h => evD tb G ops t (alive ops j T) s h K) hfull hag hfr hfit hT hk (fun s' a' h' q1 q2 q3 q4 => ih _ _ _ _ f _ q1 q2 h3 (hcl.step hj') q3 q4)
  | m2 i k t u iht ihu =>
    intro T s a h f L hag hfr hc hcl hT hk
    simp only [canonB, Bool.and_eq_true, beq_iff_eq] at hc
    obtain ⟨⟨⟨h0, h1⟩, h3⟩, h4⟩ := hc
    obtain ⟨f, rfl⟩ : ∃ m, f = m + 1 := ⟨f - 1, by have : 0 < f := Nat.le_of_ble_eq_true h0; omega⟩
    refine ⟨hT, fun h => (by rw [h] at h1; cases h1), fun w hw j hj => ?_⟩
    have hj' := hj
    rw [h1] at hj
    subst hw
    rcases (by simpa using hj : j = i ∨ j = k) with rfl | rfl
    · exact step_mut (X := fun s h => evD tb G ops t (alive ops j T) s h K) hfull hag hfr hfit hT hk.1 (fun s' a' h' q1 q2 q3 q4 => iht _ _ _ _ f _ q1 q2 h3 (hcl.step hj') q3 q4)
    · exact step_mut (X := fun s h => evD tb G ops u (alive ops j T) s h K) hfull hag hfr hfit hT hk.2 (fun s' a' h' q1 q2 q3 q4 => ihu _ _ _ _ f _ q1 q2 h4 (hcl.step hj') q3 q4)
end

end Go.Proofs.Ytfijchofplkcoaa
