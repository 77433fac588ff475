/-
  The document's memory made; what an act comes to on bytes; the law PhysActs over the heap predicates.
-/
import Derived.Test.YtfijchofplkcoaaDg
set_option linter.unusedVariables false
set_option linter.unusedSimpArgs false
set_option maxRecDepth 100000
namespace Go.Proofs.Ytfijchofplkcoaa

def sl1 (c : Nat) : Value := .slice (some ⟨c, 0, none⟩) 4096 4096
theorem rep_frame (a b c : Nat) (h : b + c ≤ a) : ((List.replicate a (0 : Int)).drop b).take c = List.replicate c 0 := by
  rw [List.drop_replicate, List.take_replicate]; congr 1; omega
theorem frame_zero {n j : Nat} (h : j < n) : frame (List.replicate (n * 4096) 0) j = List.replicate 4096 0 := by
  unfold frame
  have : (j + 1) * 4096 ≤ n * 4096 := Nat.mul_le_mul_right _ h
  exact rep_frame _ _ _ (by omega)
theorem zero44 : zeroC Try.prog 44 = #[.slice none 0 0] := by kernel_rfl
theorem zeros44 (n : Nat) : (zerosC Try.prog 44 n).size = n := by
  unfold zerosC; rw [zero44]; simp
theorem N88 {n : Int} {Q : Option Addr → H → Prop} {h : H} (hn : ¬ (1 ≤ n ∧ n ≤ 256)) (q : Q none h) : F88 n Q h := by
  rw [F88_eq]
  unfold B88 JoinM
  exact Br_dec (fun hh => q) fun _ => Br_dec (fun hh => q) fun _ => absurd ⟨by omega, by omega⟩ hn
theorem N61 {n : Int} {Q : Option Addr → H → Prop} {h : H} (hn : ¬ (1 ≤ n ∧ n ≤ 256)) (q : Q none h) : F61 n Q h := by
  rw [F61_eq]
  unfold B61 JoinM
  exact Br_dec (fun hh => q) fun _ => Br_dec (fun hh => q) fun _ => absurd ⟨by omega, by omega⟩ hn

structure N0 (h0 : H) (rm : Nat) (i : Nat) (h' : H) (a : Option Addr) (cap : Nat) (cs : List Nat) : Prop where
  kept : Kept h0 h'
  top : h'[rm]? = some (.cells #[.slice a i cap] 96)
  csl : cs.length = i
  nd : cs.Nodup
  gt : ∀ c ∈ cs, rm < c ∧ c < h'.size
  row : ∀ j, j < i → BL h' (cs.getD j 0) 5 (List.replicate 4096 0)
  tab : (i = 0 ∧ a = none ∧ cap = 0) ∨ ∃ rt vs, a = some ⟨rt, 0, none⟩ ∧ rm < rt ∧ rt ∉ cs ∧ h'[rt]? = some (.cells vs 44) ∧ vs.size = cap ∧ i ≤ cap ∧ ∀ j, j < i → vs[j]? = some (sl1 (cs.getD j 0))
theorem getD_app {cs : List Nat} {c j : Nat} (h : j < cs.length) : (cs ++ [c]).getD j 0 = cs.getD j 0 := by
  rw [List.getD_eq_getElem?_getD, List.getD_eq_getElem?_getD, List.getElem?_append_left h]
theorem getD_app' {cs : List Nat} {c : Nat} : (cs ++ [c]).getD cs.length 0 = c := by
  rw [List.getD_eq_getElem?_getD]; simp
theorem C88 {n : Nat} {Q : Option Addr → H → Prop} {h : H} (h1 : 1 ≤ n) (h2 : n ≤ 256)
    (q : ∀ rm rt cs h', Kept h h' → h.size ≤ rm → h.size ≤ rt → (∀ c ∈ cs, h.size ≤ c) → RMem h' rm rt cs n (List.replicate (n * 4096) 0) → Q (some ⟨rm, 0, none⟩) h') : F88 n Q h := by
  rw [F88_eq]
  unfold B88 JoinM
  refine Br_dec (fun hh => by omega) fun _ => Br_dec (fun hh => by omega) fun _ => Nw_intro fun rm h3 hrm k3 e3 => ?_
  have hrm3 : rm < h3.size := (Array.getElem?_eq_some_iff.1 e3).1
  refine Loop_intro (σ := Int × Unit) (x := (0, ())) (fun k z h' => ∃ i : Nat, z.1 = (i : Int) ∧ k = n - i ∧ i ≤ n ∧ ∃ a cap cs, N0 h rm i h' a cap cs) n
    ⟨0, rfl, rfl, by omega, none, 0, [], k3, e3, rfl, List.nodup_nil, by simp, fun j hj => by omega, .inl ⟨rfl, rfl, rfl⟩⟩ ?_
  rintro k ⟨ii, u⟩ h4 ⟨i, hi, hk, hin, a, cap, cs, s⟩
  simp only at hi
  subst hi
  have hrm4 : rm < h4.size := (Array.getElem?_eq_some_iff.1 s.top).1
  refine Br_dec (fun hlt => ?_) fun hge => ?_
  · have hlt : i < n := by omega
    simp only [add_mk, Nat.add_zero, Nat.zero_add]
    refine Ld_s (x := ⟨a, i, cap⟩) (by rw [hcell_blk s.top]; rfl) ⟨⟨by omega, by omega, by simp⟩, Nw_intro fun c h5 hc k5 e5 => ?_⟩
    rw [show ((4096 : Int).toNat) = 4096 from rfl, zeros5] at e5
    have t5 := k5.blk s.top
    refine ⟨by rw [hcell_blk t5]; rfl, Nw_intro fun w h6 hw k6 e6 => ?_⟩
    have t6 := k6.blk t5
    refine ⟨by rw [hcell_blk t6]; rfl, ?_⟩
    have k46 := k5.trans k6
    have hc5 : c < h5.size := (Array.getElem?_eq_some_iff.1 e5).1
    have hw6 : w < h6.size := (Array.getElem?_eq_some_iff.1 e6).1
    have hs5 := k5.1
    have hs6 := k6.1
    have eB : BL h6 c 5 (List.replicate 4096 0) := k6.blk e5
    have nx : IntKind.wrap .i64 ((i : Int) + 1) = ((i + 1 : Nat) : Int) := by rw [wrap_i64' _ (by omega) (by omega)]; omega
    have nd' : (cs ++ [c]).Nodup := by
      rw [List.nodup_append]
      refine ⟨s.nd, by simp, fun x hx y hy => ?_⟩
      simp only [List.mem_singleton] at hy
      subst hy
      have := (s.gt x hx).2
      omega
    have csl' : (cs ++ [c]).length = i + 1 := by simp [s.csl]
    have rows : ∀ h' : H, Kept h6 h' ∨ (∃ b, b ∉ cs ++ [c] ∧ KB h6 b h') → ∀ j, j < i + 1 → BL h' ((cs ++ [c]).getD j 0) 5 (List.replicate 4096 0) := by
      intro h' hh j hj
      have e6' : BL h6 ((cs ++ [c]).getD j 0) 5 (List.replicate 4096 0) := by
        by_cases e : j < i
        · rw [getD_app (by rw [s.csl]; exact e)]
          exact k46.blk (s.row j e)
        · rw [show j = cs.length by rw [s.csl]; omega, getD_app']; exact eB
      have hm : (cs ++ [c]).getD j 0 ∈ cs ++ [c] := cs_mem (by rw [csl']; exact hj)
      rcases hh with hh | ⟨b, hb, hh⟩
      · exact hh.blk e6'
      · exact hh.blk e6' fun ee => hb (ee ▸ hm)
    have gt' : ∀ h' : H, h6.size ≤ h'.size → ∀ x ∈ cs ++ [c], rm < x ∧ x < h'.size := by
      intro h' hs x hx
      simp only [List.mem_append, List.mem_singleton] at hx
      rcases hx with hx | hx
      · have := s.gt x hx; omega
      · omega
    have news : RdSl h6 (some ⟨w, 0, none⟩) (1 * 1) [sl1 c] := by
      refine ⟨rfl, fun j v hv => ⟨_, rfl, ?_⟩, by simp [sl1, Value.oneCell']⟩
      have : j = 0 := by
        have := (List.getElem?_eq_some_iff.1 hv).1
        simp at this; exact this
      subst this
      simp only [List.getElem?_cons_zero, Option.some.injEq] at hv
      subst hv
      rw [add_mk, hcell_blk e6]; rfl
    refine ⟨[sl1 c], news, ?_⟩
    by_cases hcap : i + 1 ≤ cap
    · refine .inl ⟨hcap, ?_, ?_⟩
      · rintro ad had j hj
        rcases s.tab with ⟨_, ha, hc0⟩ | ⟨rt, vs, ha, hrt, hrc, et, hvs, hic, hv⟩
        · omega
        · rw [ha] at had
          simp only [Option.some.injEq] at had
          subst had
          have : j = 0 := by simp at hj; exact hj
          subst this
          have et6 := k46.blk et
          simp only [add_mk, Nat.mul_one, Nat.zero_add, Nat.add_zero]
          refine ⟨⟨vs[i]'(by omega), by rw [hcell_blk et6]; exact Array.getElem?_eq_getElem (by omega)⟩, by simp [hfroz, et6]⟩
      · rcases s.tab with ⟨_, ha, hc0⟩ | ⟨rt, vs, ha, hrt, hrc, et, hvs, hic, hv⟩
        · omega
        · subst ha
          have et6 := k46.blk et
          have hrt4 : rt < h4.size := (Array.getElem?_eq_some_iff.1 et).1
          simp only [add_mk, Nat.mul_one, Nat.zero_add, Nat.add_zero, hsetL]
          have u7 := hset_upd h6 rt i (sl1 c)
          have e7 := hset_blk (o := i) (sl1 c) et6
          generalize hset h6 ⟨rt, i, none⟩ (sl1 c) = h7 at *
          have t7 := u7.blk t6 (show rm ≠ rt by omega)
          refine St_intro t7 (by simp) fun h8 u8 e8 => ?_
          have hs7 := u7.1
          have hs8 := u8.1
          have hrc' : rt ∉ cs ++ [c] := by
            simp only [List.mem_append, List.mem_singleton]
            rintro (hx | hx)
            · exact hrc hx
            · omega
          have hrmc : rm ∉ cs ++ [c] := by
            intro hx
            have := (gt' h6 (Nat.le_refl _) rm hx).1; omega
          refine ⟨n - (i + 1), by omega, i + 1, nx, rfl, by omega, some ⟨rt, 0, none⟩, cap, cs ++ [c], ?_, e8, csl', nd', gt' h8 (by omega), fun j hj => u8.blk (rows h7 (.inr ⟨rt, hrc', u7.kb⟩) j hj) ?_, .inr ⟨rt, _, rfl, hrt, hrc', u8.blk e7 (by omega), by simpa using hvs, hcap, fun j hj => ?_⟩⟩
          · exact u8.kept (u7.kept (s.kept.trans k46) (by omega)) (by omega)
          · intro ee
            exact hrmc (ee ▸ cs_mem (by rw [csl']; exact hj))
          · rw [Array.getElem?_setIfInBounds]
            by_cases ej : i = j
            · subst ej
              rw [if_pos rfl, if_pos (by omega)]
              have := getD_app' (cs := cs) (c := c)
              rw [s.csl] at this
              rw [this]
            · rw [if_neg ej, getD_app (by rw [s.csl]; omega)]
              exact hv j (by omega)
    · refine .inr ⟨by simp only; omega, by simp only; omega, (List.range i).map fun j => sl1 (cs.getD j 0), ⟨by simp, ?_, ?_⟩, fun cap' hcap' => ?_⟩
      · intro j v hv
        rcases s.tab with ⟨hi0, ha, hc0⟩ | ⟨rt, vs, ha, hrt, hrc, et, hvs, hic, hv'⟩
        · subst hi0; simp at hv
        · refine ⟨_, ha, ?_⟩
          have hj : j < i := by have := (List.getElem?_eq_some_iff.1 hv).1; simpa using this
          rw [List.getElem?_map, List.getElem?_range hj] at hv
          simp only [Option.map_some, Option.some.injEq] at hv
          subst hv
          rw [add_mk, Nat.zero_add, hcell_blk (k46.blk et)]
          exact hv' j hj
      · intro v hv
        simp only [List.mem_map] at hv
        obtain ⟨j, _, rfl⟩ := hv
        rfl
      · obtain ⟨vs, hvs⟩ : ∃ vs : Array Value, vs = ((List.range i).map fun j => sl1 (cs.getD j 0)).toArray ++ [sl1 c].toArray ++ zerosC Try.prog 44 (cap' - (i + 1)) := ⟨_, rfl⟩
        have hsz : vs.size = cap' := by
          simp only at hcap'
          rw [hvs]; simp [zeros44]; omega
        simp only
        rw [← hvs]
        have k7 := Kept.new h6 vs 44
        have e7 := new_blk h6 vs 44
        generalize newB h6 vs 44 = h7 at *
        have t7 := k7.blk t6
        have hs7 : h6.size < h7.size := (Array.getElem?_eq_some_iff.1 e7).1
        refine St_intro t7 (by simp) fun h8 u8 e8 => ?_
        have hs8 := u8.1
        have hrc' : h6.size ∉ cs ++ [c] := fun hx => by have := (gt' h6 (Nat.le_refl _) _ hx).2; omega
        have hrmc : rm ∉ cs ++ [c] := by
          intro hx
          have := (gt' h6 (Nat.le_refl _) rm hx).1; omega
        refine ⟨n - (i + 1), by omega, i + 1, nx, rfl, by omega, some ⟨h6.size, 0, none⟩, cap', cs ++ [c], ?_, e8, csl', nd', gt' h8 (by omega), fun j hj => u8.blk (rows h7 (.inl k7) j hj) ?_, .inr ⟨h6.size, vs, rfl, by omega, hrc', u8.blk e7 (by omega), hsz, hcap', fun j hj => ?_⟩⟩
        · exact u8.kept ((s.kept.trans k46).trans k7) (by omega)
        · intro ee
          exact hrmc (ee ▸ cs_mem (by rw [csl']; exact hj))
        · rw [hvs, Array.getElem?_append_left (by simp; omega)]
          by_cases ej : j < i
          · rw [Array.getElem?_append_left (by simp; omega), getD_app (by rw [s.csl]; omega)]
            simp [ej]
          · have : j = i := by omega
            subst this
            have := getD_app' (cs := cs) (c := c)
            rw [s.csl] at this
            rw [this, Array.getElem?_append_right (by simp)]
            simp
  · have : i = n := by omega
    subst this
    rcases s.tab with ⟨hi0, _⟩ | ⟨rt, vs, ha, hrt, hrc, et, hvs, hic, hv⟩
    · omega
    · subst ha
      exact q rm rt cs h4 s.kept (by omega) (by omega) (fun c hc => by have := (s.gt c hc).1; omega)
        ⟨⟨cap, s.top⟩, ⟨vs, et, hv⟩, fun j hj => by rw [frame_zero hj]; exact s.row j hj, by simp, s.csl, s.nd, fun hx => by have := (s.gt rm hx).1; omega, hrc, h2, fun x hx => by rw [List.eq_of_mem_replicate hx]; omega⟩
theorem RMem.lt {h : H} {rm rt n : Nat} {cs : List Nat} {xs : List Int} (m : RMem h rm rt cs n xs) : rm < h.size ∧ rt < h.size ∧ ∀ c ∈ cs, c < h.size := by
  obtain ⟨cap, t⟩ := m.top
  obtain ⟨vs, t1, _⟩ := m.tab
  refine ⟨(Array.getElem?_eq_some_iff.1 t).1, (Array.getElem?_eq_some_iff.1 t1).1, fun c hc => ?_⟩
  obtain ⟨j, hj⟩ := List.getElem?_of_mem hc
  have hj' : j < n := by rw [← m.csl]; exact (List.getElem?_eq_some_iff.1 hj).1
  have := m.row j hj'
  have e : cs.getD j 0 = c := by rw [List.getD_eq_getElem?_getD, hj]; rfl
  rw [e] at this
  exact (Array.getElem?_eq_some_iff.1 (show h[c]? = some _ from this)).1
theorem Mem.kl {h h' : H} {bm bf n : Nat} {xs : List Int} {L : List Nat} (m : Mem h bm bf n xs) (k : KL h L h') (h1 : bm ∉ L) (h2 : bf ∉ L) : Mem h' bm bf n xs :=
  ⟨k.blk m.top h1, k.blk m.row h2, m.len, m.ne, m.le, m.byte⟩

/-- What an act answers, and the bytes behind it. -/
def pAct (n : Nat) (xs : List Int) (k a b v : Int) (bs : List Int) : Bool × List Int :=
  if k = 0 then (if 0 ≤ a ∧ a < n ∧ 0 ≤ b ∧ b < 4096 then (true, xs.set (a.toNat * 4096 + b.toNat) (v % 256)) else (false, xs))
  else if k = 1 then (if 0 ≤ a ∧ a < n ∧ 0 ≤ b ∧ b < 512 then (true, splice xs (a.toNat * 4096 + 8 * b.toNat) (wordB v 8)) else (false, xs))
  else if k = 2 then (if 0 ≤ a ∧ a < n then (true, splice xs (a.toNat * 4096) (fillB [])) else (false, xs))
  else if k = 3 then (if 0 ≤ a ∧ a < n ∧ 0 ≤ b ∧ b < n then (true, splice xs (a.toNat * 4096) (frame xs b.toNat)) else (false, xs))
  else if k = 4 then (if 0 ≤ a ∧ a < n then (true, splice xs (a.toNat * 4096) (fillB bs)) else (false, xs))
  else (false, xs)
section
variable {h : H} {bm bf n : Nat} {xs : List Int}
theorem X81 {k a b v : Int} {s : Sl} {bs : List Int} {Q : Bool → H → Prop} (m : Mem h bm bf n xs) (sb : SB h s bs) (hv : 0 ≤ v ∧ v < 18446744073709551616)
    (q : ∀ r ys h', pAct n xs k a b v bs = (r, ys) → KB h bf h' → Mem h' bm bf n ys → Q r h') : F81 (some ⟨bm, 0, none⟩) k a b v s Q h := by
  rw [F81_eq]
  refine Nw_intro fun c h2 hc k2 e2 => ?_
  simp only [add_mk]
  have m2 := m.kept k2
  have qf : pAct n xs k a b v bs = (false, xs) → Q false h2 := fun hp => q false xs h2 hp k2.kb m2
  refine Ld_i (x := k) (by rw [hcell_blk e2]; rfl) ?_
  refine Br_beq_int (fun e => Ld_i (x := a) (by rw [hcell_blk e2]; rfl) (Ld_i (x := b) (by rw [hcell_blk e2]; rfl) (Ld_i (x := v) (by rw [hcell_blk e2]; rfl) ?_))) fun n0 => ?_
  · have e : k = 0 := e
    refine C74 m2 (by rw [wrap_u8]; omega) (fun j l h' hj hl' hjn hl4 u m' => q _ _ _ ?_ (k2.kb.trans u.kb) m') fun hh => qf (by unfold pAct; rw [if_pos e, if_neg hh])
    subst hj hl'
    unfold pAct; rw [if_pos e, if_pos (by omega), wrap_u8]; rfl
  refine Br_beq_int (fun e => Ld_i (x := a) (by rw [hcell_blk e2]; rfl) (Ld_i (x := b) (by rw [hcell_blk e2]; rfl) (Ld_i (x := v) (by rw [hcell_blk e2]; rfl) ?_))) fun n1 => ?_
  · have e : k = 1 := e
    refine C82 m2 hv (fun j l h' hj hl' hjn hl5 u m' => q _ _ _ ?_ (k2.kb.trans u.kb) m') fun hh => qf (by unfold pAct; rw [if_neg n0, if_pos e, if_neg hh])
    subst hj hl'
    unfold pAct; rw [if_neg n0, if_pos e, if_pos (by omega)]; rfl
  refine Br_beq_int (fun e => Ld_i (x := a) (by rw [hcell_blk e2]; rfl) ?_) fun n2 => ?_
  · have e : k = 2 := e
    refine C87 m2 (fun j h' hj hjn u m' => q _ _ _ ?_ (k2.kb.trans u) m') fun hh => qf (by unfold pAct; rw [if_neg n0, if_neg n1, if_pos e, if_neg hh])
    subst hj
    unfold pAct; rw [if_neg n0, if_neg n1, if_pos e, if_pos (by omega)]; rfl
  refine Br_beq_int (fun e => Ld_i (x := a) (by rw [hcell_blk e2]; rfl) (Ld_i (x := b) (by rw [hcell_blk e2]; rfl) ?_)) fun n3 => ?_
  · have e : k = 3 := e
    refine C85 m2 (fun j l h' hj hl' hjn hln u m' => q _ _ _ ?_ (k2.kb.trans u.kb) m') fun hh => qf (by unfold pAct; rw [if_neg n0, if_neg n1, if_neg n2, if_pos e, if_neg hh])
    subst hj hl'
    unfold pAct; rw [if_neg n0, if_neg n1, if_neg n2, if_pos e, if_pos (by omega)]; rfl
  refine Br_beq_int (fun e => Ld_i (x := a) (by rw [hcell_blk e2]; rfl) (Ld_s (x := s) (by rw [hcell_blk e2]; rfl) ?_)) fun n4 => qf (by unfold pAct; rw [if_neg n0, if_neg n1, if_neg n2, if_neg n3, if_neg n4])
  · have e : k = 4 := e
    refine C63 m2 (sb.kept k2) (fun j h' hj hjn u m' => q _ _ _ ?_ (k2.kb.trans u) m') fun hh => qf (by unfold pAct; rw [if_neg n0, if_neg n1, if_neg n2, if_neg n3, if_pos e, if_neg hh])
    subst hj
    unfold pAct; rw [if_neg n0, if_neg n1, if_neg n2, if_neg n3, if_pos e, if_pos (by omega)]; rfl
def byteS (n : Nat) (xs : List Int) (i p : Int) : Int × Bool := if 0 ≤ i ∧ i < n ∧ 0 ≤ p ∧ p < 4096 then (xs.getD (i.toNat * 4096 + p.toNat) 0, true) else (0, false)
def wordS (n : Nat) (xs : List Int) (i k : Int) : Int × Bool := if 0 ≤ i ∧ i < n ∧ 0 ≤ k ∧ k < 512 then (wd xs i.toNat k.toNat, true) else (0, false)
def sameS (n : Nat) (xs : List Int) (a b : Int) : Bool := if 0 ≤ a ∧ a < n ∧ 0 ≤ b ∧ b < n then frame xs a.toNat == frame xs b.toNat else false
theorem X84 {i p : Int} {Q : Int → Bool → H → Prop} (m : Mem h bm bf n xs) (q : Q (byteS n xs i p).1 (byteS n xs i p).2 h) : F84 (some ⟨bm, 0, none⟩) i p Q h := by
  unfold byteS at q
  refine C84 m (fun j k hj hk hjn hk4 => ?_) fun hh => ?_
  · subst hj hk; rw [if_pos (by omega)] at q; exact q
  · rw [if_neg hh] at q; exact q
theorem X83 {i k : Int} {Q : Int → Bool → H → Prop} (m : Mem h bm bf n xs) (q : Q (wordS n xs i k).1 (wordS n xs i k).2 h) : F83 (some ⟨bm, 0, none⟩) i k Q h := by
  unfold wordS at q
  refine V83 m (fun j l hj hk hjn hk4 => ?_) fun hh => ?_
  · subst hj hk; rw [if_pos (by omega)] at q; exact q
  · rw [if_neg hh] at q; exact q
theorem X86 {a b : Int} {Q : Bool → H → Prop} (m : Mem h bm bf n xs) (q : Q (sameS n xs a b) h) : F86 (some ⟨bm, 0, none⟩) a b Q h := by
  unfold sameS at q
  refine C86 m (fun j k hj hk hjn hk4 => ?_) fun hh => ?_
  · subst hj hk; rw [if_pos (by omega)] at q; exact q
  · rw [if_neg hh] at q; exact q
end
section
variable {h : H} {rm rt n : Nat} {cs : List Nat} {xs : List Int}
theorem Z90 {i p : Int} {Q : Int → Bool → H → Prop} (m : RMem h rm rt cs n xs) (q : Q (byteS n xs i p).1 (byteS n xs i p).2 h) : F90 (some ⟨rm, 0, none⟩) i p Q h := by
  unfold byteS at q
  refine Y90 m (fun j k hj hk hjn hk4 => ?_) fun hh => ?_
  · subst hj hk; rw [if_pos (by omega)] at q; exact q
  · rw [if_neg hh] at q; exact q
theorem Z91 {i k : Int} {Q : Int → Bool → H → Prop} (m : RMem h rm rt cs n xs) (q : Q (wordS n xs i k).1 (wordS n xs i k).2 h) : F91 (some ⟨rm, 0, none⟩) i k Q h := by
  unfold wordS at q
  refine Y91 m (fun j l hj hk hjn hk4 => ?_) fun hh => ?_
  · subst hj hk; rw [if_pos (by omega)] at q; exact q
  · rw [if_neg hh] at q; exact q
theorem Z92 {a b : Int} {Q : Bool → H → Prop} (m : RMem h rm rt cs n xs) (q : Q (sameS n xs a b) h) : F92 (some ⟨rm, 0, none⟩) a b Q h := by
  unfold sameS at q
  refine Y92 m (fun j k hj hk hjn hk4 => ?_) fun hh => ?_
  · subst hj hk; rw [if_pos (by omega)] at q; exact q
  · rw [if_neg hh] at q; exact q
theorem Z89 {k a b v : Int} {s : Sl} {bs : List Int} {Q : Bool → H → Prop} (m : RMem h rm rt cs n xs) (sb : ∀ h', KL h cs h' → SB h' s bs) (hv : 0 ≤ v ∧ v < 18446744073709551616)
    (q : ∀ r ys h', pAct n xs k a b v bs = (r, ys) → KL h cs h' → RMem h' rm rt cs n ys → Q r h') : F89 (some ⟨rm, 0, none⟩) k a b v s Q h := by
  rw [F89_eq]
  refine Nw_intro fun c h2 hc k2 e2 => ?_
  simp only [add_mk]
  have m2 := m.kept k2
  have hcs := m2.lt.2.2
  have sb2 : ∀ h', KL h2 cs h' → SB h' s bs := fun h' kk => sb h' (k2.kl.trans kk)
  have sb0 : ∀ h', KL h2 cs h' → SB h' ⟨none, 0, 0⟩ [] := fun h' _ => SB.nil h'
  have qf : pAct n xs k a b v bs = (false, xs) → Q false h2 := fun hp => q false xs h2 hp k2.kl m2
  refine Ld_i (x := k) (by rw [hcell_blk e2]; rfl) ?_
  refine Br_beq_int (fun e => Ld_i (x := a) (by rw [hcell_blk e2]; rfl) (Ld_i (x := b) (by rw [hcell_blk e2]; rfl) (Ld_i (x := v) (by rw [hcell_blk e2]; rfl) ?_))) fun n0 => ?_
  · have e : k = 0 := e
    refine Y165 m2 (by rw [wrap_u8]; omega) (fun j l h' hj hl' hjn hl4 u m' => q _ _ _ ?_ (k2.kl.trans u) m') fun hh => qf (by unfold pAct; rw [if_pos e, if_neg hh])
    subst hj hl'
    unfold pAct; rw [if_pos e, if_pos (by omega), wrap_u8]; rfl
  refine Br_beq_int (fun e => Ld_i (x := a) (by rw [hcell_blk e2]; rfl) (Ld_i (x := b) (by rw [hcell_blk e2]; rfl) (Ld_i (x := v) (by rw [hcell_blk e2]; rfl) ?_))) fun n1 => ?_
  · have e : k = 1 := e
    refine Y166 m2 hv (fun j l h' hj hl' hjn hl5 u m' => q _ _ _ ?_ (k2.kl.trans u) m') fun hh => qf (by unfold pAct; rw [if_neg n0, if_pos e, if_neg hh])
    subst hj hl'
    unfold pAct; rw [if_neg n0, if_pos e, if_pos (by omega)]; rfl
  refine Br_beq_int (fun e => Ld_i (x := a) (by rw [hcell_blk e2]; rfl) ?_) fun n2 => ?_
  · have e : k = 2 := e
    rw [F167_eq]
    refine Y169 m2 sb0 (fun j h' hj hjn u m' => q _ _ _ ?_ (k2.kl.trans u) m') fun hh => qf (by unfold pAct; rw [if_neg n0, if_neg n1, if_pos e, if_neg hh])
    subst hj
    unfold pAct; rw [if_neg n0, if_neg n1, if_pos e, if_pos (by omega)]; rfl
  refine Br_beq_int (fun e => Ld_i (x := a) (by rw [hcell_blk e2]; rfl) (Ld_i (x := b) (by rw [hcell_blk e2]; rfl) ?_)) fun n3 => ?_
  · have e : k = 3 := e
    refine Y168 m2 hcs (fun j l h' hj hl' hjn hln u m' => q _ _ _ ?_ (k2.kl.trans u) m') fun hh => qf (by unfold pAct; rw [if_neg n0, if_neg n1, if_neg n2, if_pos e, if_neg hh])
    subst hj hl'
    unfold pAct; rw [if_neg n0, if_neg n1, if_neg n2, if_pos e, if_pos (by omega)]; rfl
  refine Br_beq_int (fun e => Ld_i (x := a) (by rw [hcell_blk e2]; rfl) (Ld_s (x := s) (by rw [hcell_blk e2]; rfl) ?_)) fun n4 => qf (by unfold pAct; rw [if_neg n0, if_neg n1, if_neg n2, if_neg n3, if_neg n4])
  · have e : k = 4 := e
    refine Y169 m2 sb2 (fun j h' hj hjn u m' => q _ _ _ ?_ (k2.kl.trans u) m') fun hh => qf (by unfold pAct; rw [if_neg n0, if_neg n1, if_neg n2, if_neg n3, if_pos e, if_neg hh])
    subst hj
    unfold pAct; rw [if_neg n0, if_neg n1, if_neg n2, if_neg n3, if_pos e, if_pos (by omega)]; rfl
end

abbrev DA : DTy := .pair (.int .i64) (.pair (.int .i64) (.pair (.int .i64) (.pair (.int .u64) (.pair (.slice (.int .u8)) .unit))))
def ActsB (h : H) (s : Sl) : Prop := ∀ i, i < s.len → ∃ ad, s.a = some ad ∧ ∃ (k a b v : Int) (t : Sl) (bs : List Int), (0 ≤ v ∧ v < 18446744073709551616) ∧ SB h t bs ∧ hcell h (ad.add (i * 5 + 0)) = some (.int .i64 k) ∧ hcell h (ad.add (i * 5 + 1)) = some (.int .i64 a) ∧
  hcell h (ad.add (i * 5 + 2)) = some (.int .i64 b) ∧ hcell h (ad.add (i * 5 + 3)) = some (.int .u64 v) ∧ hcell h (ad.add (i * 5 + 4)) = some (.slice t.a t.len t.cap)
theorem ActsB.kept {h h' : H} {s : Sl} (e : ActsB h s) (k : Kept h h') : ActsB h' s := by
  intro i hi
  obtain ⟨ad, h1, x, a, b, v, t, bs, hv, sb, g0, g1, g2, g3, g4⟩ := e i hi
  exact ⟨ad, h1, x, a, b, v, t, bs, hv, sb.kept k, k.cell g0, k.cell g1, k.cell g2, k.cell g3, k.cell g4⟩
theorem ActsB.of {h : H} {a : Option Addr} {l c : Nat} (o : Opn h (.slice DA) [.slice a l c]) : ActsB h ⟨a, l, c⟩ := by
  rcases o with o | ⟨x, l', c', o, hl, hm, hx⟩
  · simp only [List.cons.injEq, Value.slice.injEq, and_true] at o
    obtain ⟨rfl, rfl, rfl⟩ := o
    intro i hi; exact absurd hi (by simp)
  · simp only [List.cons.injEq, Value.slice.injEq, and_true] at o
    obtain ⟨rfl, rfl, rfl⟩ := o
    intro i hi
    obtain ⟨es, h1, h2, h3⟩ := hx i hi
    obtain ⟨k, a, b, v, s, l2, k2, rfl, _, _, _, wv, os⟩ := opn_IIIUS h2
    obtain ⟨bs, sb⟩ := SB.of os
    exact ⟨x, rfl, k, a, b, v, ⟨s, l2, k2⟩, bs, wf_u64 wv, sb, h3 0 _ rfl, h3 1 _ rfl, h3 2 _ rfl, h3 3 _ rfl, h3 4 _ rfl⟩
/-- An act put into a new block. -/
theorem putA {h : H} {w t : Nat} {k a b v : Int} {s : Sl} {K : H → Prop} (e1 : h[w]? = some (.cells #[.int .i64 0, .int .i64 0, .int .i64 0, .int .u64 0, .slice none 0 0] t))
    (q : ∀ h', Upd h w h' → h'[w]? = some (.cells #[.int .i64 k, .int .i64 a, .int .i64 b, .int .u64 v, .slice s.a s.len s.cap] t) → K h') :
    St h ⟨w, 0 + 0, none⟩ (.int .i64 k) fun h2 => St h2 ⟨w, 0 + 1, none⟩ (.int .i64 a) fun h3 => St h3 ⟨w, 0 + 2, none⟩ (.int .i64 b) fun h4 => St h4 ⟨w, 0 + 3, none⟩ (.int .u64 v) fun h5 => St h5 ⟨w, 0 + 4, none⟩ (.slice s.a s.len s.cap) K :=
  St_intro e1 (by simp) fun h2 u2 e2 => St_intro e2 (by simp) fun h3 u3 e3 => St_intro e3 (by simp) fun h4 u4 e4 => St_intro e4 (by simp) fun h5 u5 e5 => St_intro e5 (by simp) fun h6 u6 e6 => q h6 ((((u2.trans u3).trans u4).trans u5).trans u6) e6
theorem Y80 {s : Sl} {Q : Bool → H → Prop} {h : H} (acts : ActsB h s) (q : ∀ r h', (r = true → s.len ≤ 60) → Kept h h' → Q r h') : F80 s Q h := by
  rw [F80_eq]
  refine Br_dec (fun hh => q _ _ (by simp) (Kept.refl h)) fun hl => ?_
  have hl : s.len ≤ 60 := by omega
  refine Loop_intro (σ := Int × Int × Unit) (x := (0, 0, ())) (fun d z h' => ∃ i : Nat, z.2.1 = (i : Int) ∧ d = s.len - i ∧ i ≤ s.len ∧ Kept h h') s.len ⟨0, rfl, rfl, by omega, Kept.refl h⟩ ?_
  rintro d ⟨acc, ii, u⟩ h' ⟨i, hi, hd, hil, kk⟩
  simp only at hi
  subst hi
  refine Br_dec (fun hlt => ?_) fun _ => q _ _ (fun _ => hl) kk
  have hlt : i < s.len := by simpa using hlt
  obtain ⟨ad, had, k, a, b, v, t, bs, hv, sb, g0, g1, g2, g3, g4⟩ := acts.kept kk i hlt
  simp only [had]
  refine ⟨⟨by omega, by omega⟩, ?_⟩
  simp only [add_add, Int.toNat_natCast]
  refine Ld_i g0 (Ld_i g1 (Ld_i g2 (Ld_i g3 (Ld_s g4 (Nw_intro fun w h2 hw k2 e2 => ?_)))))
  rw [zero77] at e2
  simp only [add_mk]
  refine putA e2 fun h3 u3 e3 => ?_
  have hk := kk.1
  have K3 : Kept h h3 := u3.kept (kk.trans k2) (by omega)
  refine Ld_s (x := t) (by rw [hcell_blk e3]; rfl) (Br_dec (fun _ => q _ _ (by simp) K3) fun _ => Ld_s (x := t) (by rw [hcell_blk e3]; rfl) ?_)
  exact ⟨s.len - (i + 1), by omega, i + 1, by show IntKind.wrap .i64 ((i : Int) + 1) = _; rw [wrap_i64' _ (by omega) (by omega)]; omega, rfl, by omega, K3⟩
end Go.Proofs.Ytfijchofplkcoaa
