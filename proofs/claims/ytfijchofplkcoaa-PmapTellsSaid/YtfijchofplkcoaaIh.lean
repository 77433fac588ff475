/-
  The document's pool of frames (pantryref06): what an act comes to; the law FramesActs over the heap predicates.
-/
import Derived.Test.YtfijchofplkcoaaIg
set_option linter.unusedVariables false
set_option linter.unusedSimpArgs false
set_option maxRecDepth 100000
namespace Go.Proofs.Ytfijchofplkcoaa

theorem zero111 : zeroC Try.prog 111 = VI [0, 0, 0, 0, 0] := by kernel_rfl
theorem zeros111 (n : Nat) : zerosC Try.prog 111 n = VI (List.replicate (5 * n) 0) := by
  have := zeros72 n
  unfold zerosC at this ⊢
  rw [zero111]
  rw [zero72] at this
  exact this
theorem oneI (l : List Int) : ∀ v ∈ l.map (Value.int .i64), v.oneCell' = true := by
  intro v hv
  simp only [List.mem_map] at hv
  obtain ⟨x, _, rfl⟩ := hv
  rfl

/-- The document's pool: its list stands in a block that is made anew with each change. -/
structure RM1 (h : H) (rp rf n cap : Nat) (res : Int) (zs : List Int) : Prop where
  top : h[rp]? = some (.cells #[.slice (some ⟨rf, 0, none⟩) n cap, .int .i64 res] 216)
  row : IL h rf 111 zs
  len : 5 * n ≤ zs.length
  ne : rp ≠ rf
def RM (h : H) (rp : Nat) (ex : List Nat) (n : Nat) (res : Int) (xs : List Int) : Prop :=
  ∃ rf cap zs, RM1 h rp rf n cap res zs ∧ zs.take (5 * n) = xs ∧ rf ∉ ex
theorem RM.len {h : H} {rp n : Nat} {ex : List Nat} {res : Int} {xs : List Int} (m : RM h rp ex n res xs) : xs.length = 5 * n := by
  obtain ⟨rf, cap, zs, m, rfl, _⟩ := m
  have := m.len
  simp; omega
theorem RM.kept {h h' : H} {rp n : Nat} {ex : List Nat} {res : Int} {xs : List Int} (m : RM h rp ex n res xs) (k : Kept h h') : RM h' rp ex n res xs := by
  obtain ⟨rf, cap, zs, m, e, n1⟩ := m
  exact ⟨rf, cap, zs, ⟨k.blk m.top, k.blk m.row, m.len, m.ne⟩, e, n1⟩
theorem RM.kb {h h' : H} {rp n bf : Nat} {ex : List Nat} {res : Int} {xs : List Int} (m : RM h rp ex n res xs) (k : KB h bf h') (hn : rp ≠ bf) (hbf : bf ∈ ex) : RM h' rp ex n res xs := by
  obtain ⟨rf, cap, zs, m, e, n1⟩ := m
  exact ⟨rf, cap, zs, ⟨k.blk m.top hn, k.blk m.row (fun e => n1 (e ▸ hbf)), m.len, m.ne⟩, e, n1⟩
theorem getD_take (zs : List Int) (m k : Nat) (h : k < m) : (zs.take m).getD k 0 = zs.getD k 0 := by
  rw [List.getD_eq_getElem?_getD, List.getD_eq_getElem?_getD, List.getElem?_take, if_pos h]
theorem ext_getD {xs ys : List Int} (hl : xs.length = ys.length) (h : ∀ k, xs.getD k 0 = ys.getD k 0) : xs = ys := by
  apply List.ext_getElem hl
  intro i h1 h2
  have := h i
  rw [List.getD_eq_getElem?_getD, List.getD_eq_getElem?_getD, List.getElem?_eq_getElem h1, List.getElem?_eq_getElem h2] at this
  simpa using this
theorem set5_take (zs : List Int) (m j : Nat) (a b c d e : Int) : (set5 zs j a b c d e).take m = set5 (zs.take m) j a b c d e := by
  unfold set5
  rw [List.take_set, List.take_set, List.take_set, List.take_set, List.take_set]

section
variable {h : H} {rp n : Nat} {ex : List Nat} {res : Int} {xs : List Int}
theorem RM.c0 (m : RM h rp ex n res xs) : ∃ rf cap, hcell h ⟨rp, 0, none⟩ = some (.slice (some ⟨rf, 0, none⟩) n cap) ∧ hcell h ⟨rp, 1, none⟩ = some (.int .i64 res) ∧
    ∀ h', Kept h h' → ∀ j d, j < n → d < 5 → hcell h' ⟨rf, j * 5 + d, none⟩ = some (.int .i64 (xs.getD (5 * j + d) 0)) := by
  obtain ⟨rf, cap, zs, m, rfl, n1⟩ := m
  refine ⟨rf, cap, by rw [hcell_blk m.top]; rfl, by rw [hcell_blk m.top]; rfl, fun h' k j d hj hd => ?_⟩
  have hl := m.len
  rw [show j * 5 + d = 5 * j + d by omega, getD_take _ _ _ (by omega)]
  exact k.cell (m.row.cell (by omega))
theorem C201 {j : Nat} {a b c d e : Int} {Q : H → Prop} (m : RM h rp ex n res xs) (hj : j < n) (hn : n ≤ 256) (hex : ∀ b ∈ ex, b < h.size)
    (q : ∀ h', KB h rp h' → RM h' rp ex n res (set5 xs j a b c d e) → Q h') : F201 (some ⟨rp, 0, none⟩) j a b c d e Q h := by
  have hxl := m.len
  obtain ⟨rf, cap, zs, m, rfl, n1⟩ := m
  rw [F201_eq]
  unfold B201
  have hrp : rp < h.size := (Array.getElem?_eq_some_iff.1 m.top).1
  have hrf : rf < h.size := (Array.getElem?_eq_some_iff.1 (show h[rf]? = some _ from m.row)).1
  refine Nw_intro fun w h1 hw k1 e1 => Nw_intro fun v h2 hv k2 e2 => ?_
  have e1 : IL h1 w 111 [a, b, c, d, e] := e1
  have E1 : IL h2 w 111 [a, b, c, d, e] := k2.blk e1
  have k12 := k1.trans k2
  have hk1 := k1.1
  have hk2 := k2.1
  have hv2 : v < h2.size := (Array.getElem?_eq_some_iff.1 e2).1
  simp only [NilP, add_mk, Nat.add_zero, Nat.zero_add]
  have t2 := k12.blk m.top
  refine Ld_s (x := ⟨some ⟨rf, 0, none⟩, n, cap⟩) (by rw [hcell_blk t2]; rfl) ?_
  have hlen := m.len
  refine ⟨(zs.take (5 * n)).map (Value.int .i64), ⟨by simp; omega, ?_, oneI _⟩, .inr ⟨by simp; omega, by simp; omega, [], ⟨rfl, fun j v hv => by simp at hv, by simp⟩, fun cap' hcap => ?_⟩⟩
  · intro jj x hx
    refine ⟨_, rfl, ?_⟩
    rw [add_mk]
    simp only [List.getElem?_map] at hx
    cases hz : (zs.take (5 * n))[jj]? with
    | none => rw [hz] at hx; simp at hx
    | some y =>
      rw [hz] at hx
      simp at hx
      subst hx
      rw [List.getElem?_take] at hz
      split at hz
      · refine k12.cell ?_
        rw [hcell_blk m.row]; simp [hz]
      · simp at hz
  · simp only [Nat.zero_add, List.nil_append, Array.append_empty]
    rw [zeros111]
    obtain ⟨es, hes⟩ : ∃ es : List Int, es = List.replicate (5 * (cap' - n)) 0 := ⟨_, rfl⟩
    rw [← hes]
    have eb : (([] : List Value).toArray ++ ((zs.take (5 * n)).map (Value.int .i64)).toArray ++ VI es) = VI (zs.take (5 * n) ++ es) := by simp [VI]
    rw [eb]
    have k3 := Kept.new h2 (VI (zs.take (5 * n) ++ es)) 111
    have e3 : IL (newB h2 (VI (zs.take (5 * n) ++ es)) 111) h2.size 111 (zs.take (5 * n) ++ es) := new_blk h2 _ _
    generalize newB h2 (VI (zs.take (5 * n) ++ es)) 111 = h3 at *
    have hk3 := k3.1
    obtain ⟨rf', hrf'⟩ : ∃ rf', rf' = h2.size := ⟨_, rfl⟩
    rw [← hrf'] at e3 ⊢
    have hs3 : rf' < h3.size := (Array.getElem?_eq_some_iff.1 (show h3[rf']? = some _ from e3)).1
    have t3 := k3.blk t2
    refine St_intro t3 (by simp) fun h4 u4 e4 => ?_
    have e4 : h4[rp]? = some (.cells #[.slice (some ⟨rf', 0, none⟩) n cap', .int .i64 res] 216) := e4
    have E4 : IL h4 w 111 [a, b, c, d, e] := u4.blk (k3.blk E1) (by omega)
    have r4 : IL h4 rf' 111 (zs.take (5 * n) ++ es) := u4.blk e3 (by omega)
    refine Ld_s (x := ⟨some ⟨rf', 0, none⟩, n, cap'⟩) (by rw [hcell_blk e4]; rfl) ?_
    refine Ld_i (x := a) (by rw [hcell_blk E4]; rfl) (Ld_i (x := b) (by rw [hcell_blk E4]; rfl) (Ld_i (x := c) (by rw [hcell_blk E4]; rfl) (Ld_i (x := d) (by rw [hcell_blk E4]; rfl) (Ld_i (x := e) (by rw [hcell_blk E4]; rfl) ⟨⟨by omega, by simp; omega⟩, ?_⟩))))
    simp only [add_mk, Int.toNat_natCast, Nat.zero_add, Nat.mul_comm j 5, Nat.add_zero]
    have hl4 : 5 * j + 5 ≤ (zs.take (5 * n) ++ es).length := by simp; omega
    generalize hws : zs.take (5 * n) ++ es = ws at *
    refine St_I r4 (by omega) fun h5 u5 e5 => St_I e5 (by simp; omega) fun h6 u6 e6 => St_I e6 (by simp; omega) fun h7 u7 e7 => St_I e7 (by simp; omega) fun h8 u8 e8 => St_I e8 (by simp; omega) fun h9 u9 e9 => ?_
    have u59 := ((((u5.trans u6).trans u7).trans u8).trans u9)
    refine q h9 ⟨by have := u59.1; have := u4.1; omega, fun i hi hne => ?_⟩ ⟨rf', cap', _, ⟨u59.blk e4 (by omega), e9, by simp; rw [← hws]; simp; omega, by omega⟩, ?_, fun hm => absurd (hex _ hm) (by omega)⟩
    · rw [u59.2 i (by omega), u4.2 i hne, k3.2 i (by omega), k12.2 i hi]
    · have := set5_take ws (5 * n) j a b c d e
      unfold set5 at this ⊢
      rw [this, ← hws, List.take_append_of_le_length (by simp; omega), List.take_take, Nat.min_self]
theorem C99 {c : Int} {Q : Int → H → Prop} (m : RM h rp ex n res xs) (hn : n ≤ 256) (q : ∀ h', Kept h h' → Q (cnt xs c n) h') : F99 (some ⟨rp, 0, none⟩) c Q h := by
  rw [F99_eq]
  unfold B99
  obtain ⟨rf, cap, c0, c1, cf⟩ := m.c0
  simp only [NilP, add_mk, Nat.add_zero]
  refine Ld_s (x := ⟨some ⟨rf, 0, none⟩, n, cap⟩) c0 ?_
  refine Loop_intro (σ := Int × Int × Unit) (x := (0, 0, ())) (fun k z h' => ∃ i : Nat, z.2.1 = (i : Int) ∧ k = n - i ∧ i ≤ n ∧ z.1 = cnt xs c i ∧ Kept h h') n ⟨0, rfl, rfl, by omega, rfl, Kept.refl h⟩ ?_
  rintro k ⟨acc, ii, u⟩ h' ⟨i, hi, hk, hin, ha, kk⟩
  simp only at hi ha
  subst hi ha
  refine Br_dec (fun hlt => ?_) fun hge => ?_
  · have hlt : i < n := by simp at hlt; omega
    refine ⟨⟨by simp, by simp; omega⟩, ?_⟩
    simp only [add_mk, Int.toNat_natCast, Nat.zero_add]
    refine Ld_i (cf h' kk i 0 hlt (by omega)) (Ld_i (cf h' kk i 1 hlt (by omega)) (Ld_i (cf h' kk i 2 hlt (by omega)) (Ld_i (cf h' kk i 3 hlt (by omega)) (Ld_i (cf h' kk i 4 hlt (by omega)) ?_))))
    refine Nw_intro fun w h1 hw k1 e1 => ?_
    rw [zero111] at e1
    simp only [add_mk]
    refine put5 e1 fun h6 u6 e6 => ?_
    have hk1 := kk.1
    have K6 : Kept h h6 := u6.kept (kk.trans k1) (by omega)
    refine Ld_i (x := xs.getD (5 * i + 0) 0) (by rw [hcell_blk e6]; simp [VI]) ?_
    have hc := cnt_le xs c i
    have w1 : IntKind.wrap .i64 ((i : Int) + 1) = ((i + 1 : Nat) : Int) := by rw [wrap_i64' _ (by omega) (by omega)]; omega
    refine Br_beq_int (fun heq => ?_) fun hne => ?_
    · refine ⟨n - (i + 1), by omega, i + 1, w1, rfl, by omega, ?_, K6⟩
      show IntKind.wrap .i64 (cnt xs c i + 1) = _
      rw [wrap_i64' _ (by omega) (by omega)]
      simp only [cnt]
      rw [if_pos (by simpa using heq)]
    · refine ⟨n - (i + 1), by omega, i + 1, w1, rfl, by omega, ?_, K6⟩
      show cnt xs c i = _
      simp only [cnt]
      rw [if_neg (by simpa using hne)]; omega
  · have : i = n := by simp at hge; omega
    subst this
    exact q h' kk
theorem C176 {i : Int} {Q : Bool → H → Prop} (m : RM h rp ex n res xs) (q : Q (decide (0 ≤ i ∧ i < n)) h) : F176 (some ⟨rp, 0, none⟩) i Q h := by
  rw [F176_eq]
  unfold B176
  obtain ⟨rf, cap, c0, c1, cf⟩ := m.c0
  simp only [NilP, add_mk, Nat.add_zero]
  refine Br_dec (fun hh => Ld_s (x := ⟨some ⟨rf, 0, none⟩, n, cap⟩) c0 ?_) fun hh => ?_
  · have : (decide (i < ((n : Nat) : Int))) = decide (0 ≤ i ∧ i < n) := by
      by_cases h2 : i < (n : Int)
      · rw [decide_eq_true h2, decide_eq_true ⟨by omega, h2⟩]
      · rw [decide_eq_false h2, decide_eq_false (by omega)]
    simp only
    rw [this]; exact q
  · rw [decide_eq_false (show ¬ (0 ≤ i ∧ i < (n : Int)) by omega)] at q; exact q
theorem Y171 {c o x : Int} {Q : Int → Int → H → Prop} (m : RM h rp ex n res xs) (g : GF xs n) (hr : 0 ≤ res) (hn : n ≤ 256) (hex : ∀ b ∈ ex, b < h.size)
    (q : ∀ r e ys h', sTake xs n res c o x = (r, e, ys) → KB h rp h' → RM h' rp ex n res ys → Q r e h') : F171 (some ⟨rp, 0, none⟩) c o x Q h := by
  rw [F171_eq]
  unfold B171
  simp only [JoinM]
  refine Br_dec (fun hh => q 0 2 xs h (by unfold sTake; rw [if_pos (by omega)]) (Kept.refl h).kb m) fun c1 => ?_
  refine Br_dec (fun hh => q 0 2 xs h (by unfold sTake; rw [if_pos (by omega)]) (Kept.refl h).kb m) fun c2 => ?_
  refine C99 m hn fun h1 k1 => ?_
  have m1 := m.kept k1
  simp only [LetI]
  have q5 : ∀ h', Kept h1 h' → cnt xs 0 n ≤ (if c = 1 then 0 else res) → Q 0 5 h' := fun h' k hh => q 0 5 xs h' (by unfold sTake; rw [if_neg (by omega), if_pos hh]) (k1.trans k).kb (m1.kept k)
  have hc0 := cnt_le xs 0 n
  have body : ¬ (cnt xs 0 n ≤ (if c = 1 then 0 else res)) → NilP (some ⟨rp, 0, none⟩) fun a12 => Ld .s h1 ((a12.add 0).add 0) fun x13 =>
    LoopM (σ := Int × Unit) (fun self14 z15 h16 =>
    Br (decide (z15.1 < ((x13.len : Nat) : Int)))
    (IdxS x13.a x13.len z15.1 fun a17 =>
    Ld (.i .i64) h16 ((a17.add (Int.toNat z15.1 * 5)).add 0) fun x18 =>
    Ld (.i .i64) h16 ((a17.add (Int.toNat z15.1 * 5)).add 1) fun x19 =>
    Ld (.i .i64) h16 ((a17.add (Int.toNat z15.1 * 5)).add 2) fun x20 =>
    Ld (.i .i64) h16 ((a17.add (Int.toNat z15.1 * 5)).add 3) fun x21 =>
    Ld (.i .i64) h16 ((a17.add (Int.toNat z15.1 * 5)).add 4) fun x22 =>
    Nw h16 (zeroC Try.prog 111) 111 fun a23 h24 =>
    St h24 (a23.add 0) (.int .i64 x18) fun h26 =>
    St h26 (a23.add 1) (.int .i64 x19) fun h27 =>
    St h27 (a23.add 2) (.int .i64 x20) fun h28 =>
    St h28 (a23.add 3) (.int .i64 x21) fun h29 =>
    St h29 (a23.add 4) (.int .i64 x22) fun h30 =>
    Ld (.i .i64) h30 ((a23.add 0).add 0) fun x31 =>
    Br (x31 == 0)
    (F201 (some ⟨rp, 0, none⟩) z15.1 c o x 0 0 (fun  h32 =>
    Q z15.1 0 h32) h30)
    (self14 ((IntKind.wrap .i64 (z15.1 + 1)), ()) h30))
    (Q 0 5 h16)) (0, ()) h1 := by
    intro hgt
    obtain ⟨rf, cap, c0, c1', cf⟩ := m1.c0
    simp only [NilP, add_mk, Nat.add_zero]
    refine Ld_s (x := ⟨some ⟨rf, 0, none⟩, n, cap⟩) c0 ?_
    refine Loop_intro (σ := Int × Unit) (x := (0, ())) (fun k z h' => ∃ i : Nat, z.1 = (i : Int) ∧ k = n - i ∧ i ≤ n ∧ Kept h1 h' ∧ ∀ j, j < i → z5 xs j = false) n ⟨0, rfl, rfl, by omega, Kept.refl h1, fun j hj => by omega⟩ ?_
    rintro k ⟨ii, u⟩ h' ⟨i, hi, hk, hin, kk, hz⟩
    simp only at hi
    subst hi
    refine Br_dec (fun hlt => ?_) fun hge => ?_
    · have hlt : i < n := by simp at hlt; omega
      refine ⟨⟨by simp, by simp; omega⟩, ?_⟩
      simp only [add_mk, Int.toNat_natCast, Nat.zero_add]
      refine Ld_i (cf h' kk i 0 hlt (by omega)) (Ld_i (cf h' kk i 1 hlt (by omega)) (Ld_i (cf h' kk i 2 hlt (by omega)) (Ld_i (cf h' kk i 3 hlt (by omega)) (Ld_i (cf h' kk i 4 hlt (by omega)) ?_))))
      refine Nw_intro fun w h2 hw k2 e2 => ?_
      rw [zero111] at e2
      simp only [add_mk]
      refine put5 e2 fun h6 u6 e6 => ?_
      have hk1 := kk.1
      have hk01 := k1.1
      have K6 : Kept h1 h6 := u6.kept (kk.trans k2) (by omega)
      have K06 := k1.trans K6
      refine Ld_i (x := xs.getD (5 * i + 0) 0) (by rw [hcell_blk e6]; simp [VI]) ?_
      refine Br_beq_int (fun heq => ?_) fun hne => ?_
      · have hs := K06.1
        refine C201 (m1.kept K6) hlt hn (fun b hb => Nat.lt_of_lt_of_le (hex b hb) hs) fun h7 k7 m7 => q _ _ _ h7 ?_ (K06.kb.trans k7) m7
        unfold sTake
        rw [if_neg (by omega), if_neg hgt, fst0_eq hlt (g.emp i hlt heq) hz]
      · refine ⟨n - (i + 1), by omega, i + 1, by show IntKind.wrap .i64 ((i : Int) + 1) = _; rw [wrap_i64' _ (by omega) (by omega)]; omega, rfl, by omega, K6, fun j hj => ?_⟩
        by_cases e : j = i
        · subst e
          unfold z5
          have : (xs.getD (5 * j) 0 == 0) = false := by simpa using hne
          rw [this]; rfl
        · exact hz j (by omega)
    · have : i = n := by simp at hge; omega
      subst this
      have := cnt_pos g i (Nat.le_refl _) hz
      exfalso
      rw [this] at hgt
      split at hgt <;> omega
  refine Br_beq_int (fun e0 => q5 h1 (Kept.refl h1) (by split <;> omega)) fun e0 => ?_
  refine Br_bne_int (fun e1 => ?_) fun e1 => body (by rw [if_pos e1]; omega)
  obtain ⟨rf, cap, c0, c1', cf⟩ := m1.c0
  simp only [NilP, add_mk, Nat.add_zero]
  refine Ld_i c1' (Br_dec (fun hh => q5 h1 (Kept.refl h1) (by rw [if_neg e1]; exact hh)) fun hh => ?_)
  have := body (by rw [if_neg e1]; exact hh)
  simp only [NilP, add_mk, Nat.add_zero] at this
  exact this
theorem Y172 {i : Int} {Q : Int → H → Prop} (m : RM h rp ex n res xs) (hn : n ≤ 256) (hex : ∀ b ∈ ex, b < h.size)
    (q : ∀ e ys h', sGive xs n i = (e, ys) → KB h rp h' → RM h' rp ex n res ys → Q e h') : F172 (some ⟨rp, 0, none⟩) i Q h := by
  rw [F172_eq]
  unfold B172
  simp only [JoinM]
  have qk : ∀ e, sGive xs n i = (e, xs) → Q e h := fun e he => q e xs h he (Kept.refl h).kb m
  refine C176 m ?_
  by_cases hi : 0 ≤ i ∧ i < (n : Int)
  rotate_left
  · rw [decide_eq_false hi]
    exact qk _ (by unfold sGive; rw [if_pos hi])
  rw [decide_eq_true hi]
  obtain ⟨j, rfl⟩ := Int.eq_ofNat_of_zero_le hi.1
  have hj : j < n := by omega
  obtain ⟨rf, cap, c0, c1', cf⟩ := m.c0
  have cf := cf h (Kept.refl h) j
  simp only [Bool.not_true, Br_false, NilP, add_mk, Nat.add_zero]
  refine Ld_s (x := ⟨some ⟨rf, 0, none⟩, n, cap⟩) c0 ⟨⟨by omega, by simp; omega⟩, ?_⟩
  simp only [add_mk, Int.toNat_natCast, Nat.zero_add, Nat.add_zero]
  refine Ld_i (cf 0 hj (by omega)) (Br_beq_int (fun e => qk _ (by unfold sGive; simp only [Int.toNat_natCast]; rw [if_neg (by omega), if_pos (show xs.getD (5 * j) 0 = 0 from e)])) fun e => ?_)
  refine Ld_s (x := ⟨some ⟨rf, 0, none⟩, n, cap⟩) c0 ⟨⟨by omega, by simp; omega⟩, ?_⟩
  simp only [add_mk, Int.toNat_natCast, Nat.zero_add, Nat.add_zero]
  refine Ld_i (cf 3 hj (by omega)) (Br_bne_int (fun e3 => qk _ (by unfold sGive; simp only [Int.toNat_natCast]; rw [if_neg (by omega), if_neg (show ¬ xs.getD (5 * j) 0 = 0 from e), if_pos (fun a => e3 a.1)])) fun e3 => ?_)
  refine Ld_s (x := ⟨some ⟨rf, 0, none⟩, n, cap⟩) c0 ⟨⟨by omega, by simp; omega⟩, ?_⟩
  simp only [add_mk, Int.toNat_natCast, Nat.zero_add, Nat.add_zero]
  refine Ld_i (cf 4 hj (by omega)) (Br_bne_int (fun e4 => qk _ (by unfold sGive; simp only [Int.toNat_natCast]; rw [if_neg (by omega), if_neg (show ¬ xs.getD (5 * j) 0 = 0 from e), if_pos (fun a => e4 a.2)])) fun e4 => ?_)
  refine C201 m hj hn hex fun h' k' m' => q 0 _ h' ?_ k' m'
  unfold sGive; simp only [Int.toNat_natCast]
  rw [if_neg (by omega), if_neg (show ¬ xs.getD (5 * j) 0 = 0 from e), if_neg (fun hn => hn ⟨e3, e4⟩)]
theorem Y173 {i c o x : Int} {Q : Int → H → Prop} (m : RM h rp ex n res xs) (hn : n ≤ 256) (hex : ∀ b ∈ ex, b < h.size)
    (q : ∀ e ys h', sOwn xs n i c o x = (e, ys) → KB h rp h' → RM h' rp ex n res ys → Q e h') : F173 (some ⟨rp, 0, none⟩) i c o x Q h := by
  rw [F173_eq]
  unfold B173
  simp only [JoinM]
  have qk : ∀ e, sOwn xs n i c o x = (e, xs) → Q e h := fun e he => q e xs h he (Kept.refl h).kb m
  refine C176 m ?_
  by_cases hi : 0 ≤ i ∧ i < (n : Int)
  rotate_left
  · rw [decide_eq_false hi]
    exact qk _ (by unfold sOwn; rw [if_pos hi])
  rw [decide_eq_true hi]
  obtain ⟨j, rfl⟩ := Int.eq_ofNat_of_zero_le hi.1
  have hj : j < n := by omega
  obtain ⟨rf, cap, c0, c1', cf⟩ := m.c0
  have cf := cf h (Kept.refl h) j
  simp only [Bool.not_true, Br_false, NilP, add_mk, Nat.add_zero]
  refine Ld_s (x := ⟨some ⟨rf, 0, none⟩, n, cap⟩) c0 ⟨⟨by omega, by simp; omega⟩, ?_⟩
  simp only [add_mk, Int.toNat_natCast, Nat.zero_add, Nat.add_zero]
  refine Ld_i (cf 0 hj (by omega)) (Br_beq_int (fun e => qk _ (by unfold sOwn; simp only [Int.toNat_natCast]; rw [if_neg (by omega), if_pos (show xs.getD (5 * j) 0 = 0 from e)])) fun e => ?_)
  refine Br_dec (fun hh => qk _ (by unfold sOwn; simp only [Int.toNat_natCast]; rw [if_neg (by omega), if_neg (show ¬ xs.getD (5 * j) 0 = 0 from e), if_pos (by omega)])) fun a1 => ?_
  refine Br_dec (fun hh => qk _ (by unfold sOwn; simp only [Int.toNat_natCast]; rw [if_neg (by omega), if_neg (show ¬ xs.getD (5 * j) 0 = 0 from e), if_pos (by omega)])) fun a2 => ?_
  refine Ld_s (x := ⟨some ⟨rf, 0, none⟩, n, cap⟩) c0 ⟨⟨by omega, by simp; omega⟩, ?_⟩
  simp only [add_mk, Int.toNat_natCast, Nat.zero_add, Nat.add_zero]
  refine Ld_i (cf 0 hj (by omega)) (Ld_i (cf 1 hj (by omega)) (Ld_i (cf 2 hj (by omega)) (Ld_i (cf 3 hj (by omega)) (Ld_i (cf 4 hj (by omega)) (Nw_intro fun w h3 hw k3 e3 => ?_)))))
  rw [zero111] at e3
  simp only [add_mk]
  refine put5 e3 fun h4 u4 e4 => ?_
  refine St_I e4 (by simp) fun h5 u5 e5 => St_I e5 (by simp) fun h6 u6 e6 => St_I e6 (by simp) fun h7 u7 e7 => ?_
  have k7 : Kept h h7 := (((u4.trans u5).trans u6).trans u7).kept k3 (by omega)
  refine Ld_i (x := c) (by rw [hcell_blk e7]; rfl) (Ld_i (x := o) (by rw [hcell_blk e7]; rfl) (Ld_i (x := x) (by rw [hcell_blk e7]; rfl) (Ld_i (x := xs.getD (5 * j + 3) 0) (by rw [hcell_blk e7]; rfl) (Ld_i (x := xs.getD (5 * j + 4) 0) (by rw [hcell_blk e7]; rfl) ?_))))
  have hk7 := k7.1
  have hxl := m.len
  refine C201 (m.kept k7) hj hn (fun b hb => Nat.lt_of_lt_of_le (hex b hb) hk7) fun h' k' m' => q 0 _ h' ?_ (k7.kb.trans k') m'
  unfold sOwn; simp only [Int.toNat_natCast]
  rw [if_neg (by omega), if_neg (show ¬ xs.getD (5 * j) 0 = 0 from e), if_neg (by omega)]
  congr 1
  refine ext_getD (by simp [set5]) fun t => ?_
  unfold set5
  rw [getD_set _ _ _ _ (by simp; omega), getD_set _ _ _ _ (by simp; omega), getD_set _ _ _ _ (by omega), getD_set _ _ _ _ (by simp; omega), getD_set _ _ _ _ (by simp; omega), getD_set _ _ _ _ (by simp; omega), getD_set _ _ _ _ (by simp; omega), getD_set _ _ _ _ (by omega)]
  by_cases t4 : 5 * j + 4 = t
  · subst t4; rw [if_neg (by omega), if_neg (by omega), if_neg (by omega), if_pos rfl]
  rw [if_neg t4]
  by_cases t3 : 5 * j + 3 = t
  · subst t3; rw [if_neg (by omega), if_neg (by omega), if_neg (by omega), if_pos rfl]
  rw [if_neg t3]
theorem C202 {a x : Int} {Q : Bool → H → Prop} (ha : 0 ≤ a ∧ a ≤ 1000000) (q : Q (decide (-a ≤ x ∧ x ≤ 1000000 - a)) h) : F202 a x Q h := by
  rw [F202_eq]
  unfold B202
  rw [wrap_i64' (0 - a) (by omega) (by omega), wrap_i64' (1000000 - a) (by omega) (by omega)]
  refine Br_dec (fun hh => ?_) fun hh => ?_
  · by_cases h2 : x ≤ 1000000 - a
    · rw [decide_eq_true h2]; rw [decide_eq_true (by omega)] at q; exact q
    · rw [decide_eq_false h2]; rw [decide_eq_false (by omega)] at q; exact q
  · rw [decide_eq_false (by omega)] at q; exact q
theorem set5_one (d : Nat) (hd : d = 3 ∨ d = 4) (xs : List Int) (j : Nat) (v : Int) (hj : 5 * j + 5 ≤ xs.length) :
    xs.set (5 * j + d) v = set5 xs j (xs.getD (5 * j + 0) 0) (xs.getD (5 * j + 1) 0) (xs.getD (5 * j + 2) 0) (if d = 3 then v else xs.getD (5 * j + 3) 0) (if d = 4 then v else xs.getD (5 * j + 4) 0) := by
  refine ext_getD (by simp [set5]) fun t => ?_
  unfold set5
  rw [getD_set _ _ _ _ (by omega), getD_set _ _ _ _ (by simp; omega), getD_set _ _ _ _ (by simp; omega), getD_set _ _ _ _ (by simp; omega), getD_set _ _ _ _ (by simp; omega), getD_set _ _ _ _ (by omega)]
  by_cases t4 : 5 * j + 4 = t
  · subst t4
    rcases hd with rfl | rfl
    · rw [if_neg (by omega), if_pos rfl, if_neg (by omega)]
    · rw [if_pos rfl, if_pos rfl, if_pos rfl]
  rw [if_neg t4]
  by_cases t3 : 5 * j + 3 = t
  · subst t3
    rcases hd with rfl | rfl
    · rw [if_pos rfl, if_pos rfl, if_pos rfl]
    · rw [if_neg (by omega), if_pos rfl, if_neg (by omega)]
  rw [if_neg t3, if_neg (by omega)]
  by_cases t2 : 5 * j + 2 = t
  · subst t2; rw [if_pos rfl]
  rw [if_neg t2]
  by_cases t1 : 5 * j + 1 = t
  · subst t1; rw [if_pos rfl]
  rw [if_neg t1]
  by_cases t0 : 5 * j = t
  · subst t0; rw [if_pos rfl]; rfl
  rw [if_neg t0]
theorem Y174 {i x : Int} {Q : Int → H → Prop} (m : RM h rp ex n res xs) (g : GF xs n) (hn : n ≤ 256) (hex : ∀ b ∈ ex, b < h.size)
    (q : ∀ e ys h', sCnt 3 xs n i x = (e, ys) → KB h rp h' → RM h' rp ex n res ys → Q e h') : F174 (some ⟨rp, 0, none⟩) i x Q h := by
  rw [F174_eq]
  unfold B174
  simp only [JoinM]
  have qk : ∀ e, sCnt 3 xs n i x = (e, xs) → Q e h := fun e he => q e xs h he (Kept.refl h).kb m
  refine C176 m ?_
  by_cases hi : 0 ≤ i ∧ i < (n : Int)
  rotate_left
  · rw [decide_eq_false hi]
    exact qk _ (by unfold sCnt; rw [if_pos hi])
  rw [decide_eq_true hi]
  obtain ⟨j, rfl⟩ := Int.eq_ofNat_of_zero_le hi.1
  have hj : j < n := by omega
  obtain ⟨rf, cap, c0, c1', cf⟩ := m.c0
  have cf := cf h (Kept.refl h) j
  simp only [Bool.not_true, Br_false, NilP, add_mk, Nat.add_zero]
  refine Ld_s (x := ⟨some ⟨rf, 0, none⟩, n, cap⟩) c0 ⟨⟨by omega, by simp; omega⟩, ?_⟩
  simp only [add_mk, Int.toNat_natCast, Nat.zero_add, Nat.add_zero]
  refine Ld_i (cf 0 hj (by omega)) (Br_beq_int (fun e => qk _ (by unfold sCnt; simp only [Int.toNat_natCast]; rw [if_neg (by omega), if_pos (show xs.getD (5 * j) 0 = 0 from e)])) fun e => ?_)
  refine Ld_s (x := ⟨some ⟨rf, 0, none⟩, n, cap⟩) c0 ⟨⟨by omega, by simp; omega⟩, ?_⟩
  simp only [add_mk, Int.toNat_natCast, Nat.zero_add, Nat.add_zero]
  have gw := g.wir j hj
  refine Ld_i (cf 3 hj (by omega)) (C202 gw ?_)
  by_cases hw : -(xs.getD (5 * j + 3) 0) ≤ x ∧ x ≤ 1000000 - xs.getD (5 * j + 3) 0
  rotate_left
  · rw [decide_eq_false hw]
    exact qk _ (by unfold sCnt; simp only [Int.toNat_natCast]; rw [if_neg (by omega), if_neg (show ¬ xs.getD (5 * j) 0 = 0 from e), if_pos hw])
  rw [decide_eq_true hw]
  simp only [Bool.not_true, Br_false]
  refine Ld_s (x := ⟨some ⟨rf, 0, none⟩, n, cap⟩) c0 ⟨⟨by omega, by simp; omega⟩, ?_⟩
  simp only [add_mk, Int.toNat_natCast, Nat.zero_add, Nat.add_zero]
  refine Ld_i (cf 0 hj (by omega)) (Ld_i (cf 1 hj (by omega)) (Ld_i (cf 2 hj (by omega)) (Ld_i (cf 3 hj (by omega)) (Ld_i (cf 4 hj (by omega)) (Nw_intro fun w h3 hw3 k3 e3 => ?_)))))
  rw [zero111] at e3
  simp only [add_mk]
  refine put5 e3 fun h4 u4 e4 => ?_
  refine Ld_i (x := xs.getD (5 * j + 3) 0) (by rw [hcell_blk e4]; rfl) ?_
  rw [wrap_i64' _ (by omega) (by omega)]
  refine St_I e4 (by simp) fun h7 u7 e7 => ?_
  have k7 : Kept h h7 := (u4.trans u7).kept k3 (by omega)
  refine Ld_i (x := xs.getD (5 * j + 0) 0) (by rw [hcell_blk e7]; rfl) (Ld_i (x := xs.getD (5 * j + 1) 0) (by rw [hcell_blk e7]; rfl) (Ld_i (x := xs.getD (5 * j + 2) 0) (by rw [hcell_blk e7]; rfl) (Ld_i (x := xs.getD (5 * j + 3) 0 + x) (by rw [hcell_blk e7]; rfl) (Ld_i (x := xs.getD (5 * j + 4) 0) (by rw [hcell_blk e7]; rfl) ?_))))
  have hk7 := k7.1
  have hxl := m.len
  refine C201 (m.kept k7) hj hn (fun b hb => Nat.lt_of_lt_of_le (hex b hb) hk7) fun h' k' m' => q 0 _ h' ?_ (k7.kb.trans k') m'
  unfold sCnt; simp only [Int.toNat_natCast]
  rw [if_neg (by omega), if_neg (show ¬ xs.getD (5 * j) 0 = 0 from e), if_neg (by omega), set5_one 3 (.inl rfl) _ _ _ (by omega)]
  rfl
theorem Y175 {i x : Int} {Q : Int → H → Prop} (m : RM h rp ex n res xs) (g : GF xs n) (hn : n ≤ 256) (hex : ∀ b ∈ ex, b < h.size)
    (q : ∀ e ys h', sCnt 4 xs n i x = (e, ys) → KB h rp h' → RM h' rp ex n res ys → Q e h') : F175 (some ⟨rp, 0, none⟩) i x Q h := by
  rw [F175_eq]
  unfold B175
  simp only [JoinM]
  have qk : ∀ e, sCnt 4 xs n i x = (e, xs) → Q e h := fun e he => q e xs h he (Kept.refl h).kb m
  refine C176 m ?_
  by_cases hi : 0 ≤ i ∧ i < (n : Int)
  rotate_left
  · rw [decide_eq_false hi]
    exact qk _ (by unfold sCnt; rw [if_pos hi])
  rw [decide_eq_true hi]
  obtain ⟨j, rfl⟩ := Int.eq_ofNat_of_zero_le hi.1
  have hj : j < n := by omega
  obtain ⟨rf, cap, c0, c1', cf⟩ := m.c0
  have cf := cf h (Kept.refl h) j
  simp only [Bool.not_true, Br_false, NilP, add_mk, Nat.add_zero]
  refine Ld_s (x := ⟨some ⟨rf, 0, none⟩, n, cap⟩) c0 ⟨⟨by omega, by simp; omega⟩, ?_⟩
  simp only [add_mk, Int.toNat_natCast, Nat.zero_add, Nat.add_zero]
  refine Ld_i (cf 0 hj (by omega)) (Br_beq_int (fun e => qk _ (by unfold sCnt; simp only [Int.toNat_natCast]; rw [if_neg (by omega), if_pos (show xs.getD (5 * j) 0 = 0 from e)])) fun e => ?_)
  refine Ld_s (x := ⟨some ⟨rf, 0, none⟩, n, cap⟩) c0 ⟨⟨by omega, by simp; omega⟩, ?_⟩
  simp only [add_mk, Int.toNat_natCast, Nat.zero_add, Nat.add_zero]
  have gw := g.lon j hj
  refine Ld_i (cf 4 hj (by omega)) (C202 gw ?_)
  by_cases hw : -(xs.getD (5 * j + 4) 0) ≤ x ∧ x ≤ 1000000 - xs.getD (5 * j + 4) 0
  rotate_left
  · rw [decide_eq_false hw]
    exact qk _ (by unfold sCnt; simp only [Int.toNat_natCast]; rw [if_neg (by omega), if_neg (show ¬ xs.getD (5 * j) 0 = 0 from e), if_pos hw])
  rw [decide_eq_true hw]
  simp only [Bool.not_true, Br_false]
  refine Ld_s (x := ⟨some ⟨rf, 0, none⟩, n, cap⟩) c0 ⟨⟨by omega, by simp; omega⟩, ?_⟩
  simp only [add_mk, Int.toNat_natCast, Nat.zero_add, Nat.add_zero]
  refine Ld_i (cf 0 hj (by omega)) (Ld_i (cf 1 hj (by omega)) (Ld_i (cf 2 hj (by omega)) (Ld_i (cf 3 hj (by omega)) (Ld_i (cf 4 hj (by omega)) (Nw_intro fun w h3 hw3 k3 e3 => ?_)))))
  rw [zero111] at e3
  simp only [add_mk]
  refine put5 e3 fun h4 u4 e4 => ?_
  refine Ld_i (x := xs.getD (5 * j + 4) 0) (by rw [hcell_blk e4]; rfl) ?_
  rw [wrap_i64' _ (by omega) (by omega)]
  refine St_I e4 (by simp) fun h7 u7 e7 => ?_
  have k7 : Kept h h7 := (u4.trans u7).kept k3 (by omega)
  refine Ld_i (x := xs.getD (5 * j + 0) 0) (by rw [hcell_blk e7]; rfl) (Ld_i (x := xs.getD (5 * j + 1) 0) (by rw [hcell_blk e7]; rfl) (Ld_i (x := xs.getD (5 * j + 2) 0) (by rw [hcell_blk e7]; rfl) (Ld_i (x := xs.getD (5 * j + 3) 0) (by rw [hcell_blk e7]; rfl) (Ld_i (x := xs.getD (5 * j + 4) 0 + x) (by rw [hcell_blk e7]; rfl) ?_))))
  have hk7 := k7.1
  have hxl := m.len
  refine C201 (m.kept k7) hj hn (fun b hb => Nat.lt_of_lt_of_le (hex b hb) hk7) fun h' k' m' => q 0 _ h' ?_ (k7.kb.trans k') m'
  unfold sCnt; simp only [Int.toNat_natCast]
  rw [if_neg (by omega), if_neg (show ¬ xs.getD (5 * j) 0 = 0 from e), if_neg (by omega), set5_one 4 (.inr rfl) _ _ _ (by omega)]
  rfl
theorem Y97 {k f a b c : Int} {Q : Int → Int → H → Prop} (m : RM h rp ex n res xs) (g : GF xs n) (hr : 0 ≤ res) (hn : n ≤ 256) (hex : ∀ b ∈ ex, b < h.size)
    (q : ∀ r e ys h', sAct xs n res k f a b c = (r, e, ys) → KB h rp h' → RM h' rp ex n res ys → Q r e h') : F97 (some ⟨rp, 0, none⟩) k f a b c Q h := by
  rw [F97_eq]
  refine Nw_intro fun w h2 hw k2 e2 => ?_
  have m2 := m.kept k2
  have hs := k2.1
  have hex2 : ∀ b ∈ ex, b < h2.size := fun b hb => Nat.lt_of_lt_of_le (hex b hb) hs
  simp only [add_mk, JoinM]
  refine Ld_i (x := k) (by rw [hcell_blk e2]; rfl) ?_
  refine Br_beq_int (fun e => Ld_i (x := a) (by rw [hcell_blk e2]; rfl) (Ld_i (x := b) (by rw [hcell_blk e2]; rfl) (Ld_i (x := c) (by rw [hcell_blk e2]; rfl) (Y171 m2 g hr hn hex2 fun r e' ys h' hs u m' => q r e' ys h' (by unfold sAct; rw [if_pos e, hs]) (k2.kb.trans u) m')))) fun h0 => ?_
  refine Br_beq_int (fun e => Ld_i (x := f) (by rw [hcell_blk e2]; rfl) (Y172 m2 hn hex2 fun e' ys h' hs u m' => q 0 e' ys h' (by unfold sAct; rw [if_neg h0, if_pos e, hs]) (k2.kb.trans u) m')) fun h1 => ?_
  refine Br_beq_int (fun e => Ld_i (x := f) (by rw [hcell_blk e2]; rfl) (Ld_i (x := a) (by rw [hcell_blk e2]; rfl) (Ld_i (x := b) (by rw [hcell_blk e2]; rfl) (Ld_i (x := c) (by rw [hcell_blk e2]; rfl) (Y173 m2 hn hex2 fun e' ys h' hs u m' => q 0 e' ys h' (by unfold sAct; rw [if_neg h0, if_neg h1, if_pos e, hs]) (k2.kb.trans u) m'))))) fun h2' => ?_
  refine Br_beq_int (fun e => Ld_i (x := f) (by rw [hcell_blk e2]; rfl) (Ld_i (x := a) (by rw [hcell_blk e2]; rfl) (Y174 m2 g hn hex2 fun e' ys h' hs u m' => q 0 e' ys h' (by unfold sAct; rw [if_neg h0, if_neg h1, if_neg h2', if_pos e, hs]) (k2.kb.trans u) m'))) fun h3 => ?_
  refine Br_beq_int (fun e => Ld_i (x := f) (by rw [hcell_blk e2]; rfl) (Ld_i (x := a) (by rw [hcell_blk e2]; rfl) (Y175 m2 g hn hex2 fun e' ys h' hs u m' => q 0 e' ys h' (by unfold sAct; rw [if_neg h0, if_neg h1, if_neg h2', if_neg h3, if_pos e, hs]) (k2.kb.trans u) m'))) fun h4 => ?_
  exact q 0 0 xs h2 (by unfold sAct; rw [if_neg h0, if_neg h1, if_neg h2', if_neg h3, if_neg h4]) k2.kb m2
theorem Y101 {i : Int} {Q : Int → Int → Int → Int → Int → Bool → H → Prop} (m : RM h rp ex n res xs)
    (q : ∀ (j : Nat) h', i = (j : Int) → j < n → Kept h h' → Q (xs.getD (5 * j + 0) 0) (xs.getD (5 * j + 1) 0) (xs.getD (5 * j + 2) 0) (xs.getD (5 * j + 3) 0) (xs.getD (5 * j + 4) 0) true h')
    (q0 : ∀ h', ¬ (0 ≤ i ∧ i < n) → Kept h h' → Q 0 0 0 0 0 false h') : F101 (some ⟨rp, 0, none⟩) i Q h := by
  rw [F101_eq]
  refine Nw_intro fun w h1 hw k1 e1 => ?_
  rw [zero111] at e1
  have m1 := m.kept k1
  refine C176 m1 ?_
  by_cases hi : 0 ≤ i ∧ i < (n : Int)
  · rw [decide_eq_true hi]
    obtain ⟨j, rfl⟩ := Int.eq_ofNat_of_zero_le hi.1
    have hj : j < n := by omega
    obtain ⟨rf, cap, c0, c1', cf⟩ := m1.c0
    have cf := cf h1 (Kept.refl h1) j
    simp only [Bool.not_true, Br_false, NilP, add_mk, Nat.add_zero]
    refine Ld_s (x := ⟨some ⟨rf, 0, none⟩, n, cap⟩) c0 ⟨⟨by omega, by simp; omega⟩, ?_⟩
    simp only [add_mk, Int.toNat_natCast, Nat.zero_add]
    refine Ld_i (cf 0 hj (by omega)) (Ld_i (cf 1 hj (by omega)) (Ld_i (cf 2 hj (by omega)) (Ld_i (cf 3 hj (by omega)) (Ld_i (cf 4 hj (by omega)) (put5 e1 fun h6 u6 e6 => ?_)))))
    have K6 : Kept h h6 := u6.kept k1 (by omega)
    exact Ld_i (by rw [hcell_blk e6]; rfl) (Ld_i (by rw [hcell_blk e6]; rfl) (Ld_i (by rw [hcell_blk e6]; rfl) (Ld_i (by rw [hcell_blk e6]; rfl) (Ld_i (by rw [hcell_blk e6]; rfl) (q j h6 rfl hj K6)))))
  · rw [decide_eq_false hi]
    simp only [Bool.not_false, Br_true, add_mk]
    refine put5 e1 fun h6 u6 e6 => ?_
    have K6 : Kept h h6 := u6.kept k1 (by omega)
    exact Ld_i (x := 0) (by rw [hcell_blk e6]; rfl) (Ld_i (x := 0) (by rw [hcell_blk e6]; rfl) (Ld_i (x := 0) (by rw [hcell_blk e6]; rfl) (Ld_i (x := 0) (by rw [hcell_blk e6]; rfl) (Ld_i (x := 0) (by rw [hcell_blk e6]; rfl) (q0 h6 hi K6)))))
end
end Go.Proofs.Ytfijchofplkcoaa
