/-
  The document's places (pantryref08): a list of states; the law SlotsActs over the heap predicates.
-/
import Derived.Test.YtfijchofplkcoaaHi
set_option linter.unusedVariables false
set_option linter.unusedSimpArgs false
set_option maxRecDepth 100000
namespace Go.Proofs.Ytfijchofplkcoaa

structure RS1 (h : H) (rp rf n cap : Nat) (zs : List Int) : Prop where
  top : h[rp]? = some (.cells #[.slice (some ⟨rf, 0, none⟩) n cap] 222)
  row : IL h rf 3 zs
  len : n ≤ zs.length
  ne : rp ≠ rf
def RS (h : H) (rp : Nat) (ex : List Nat) (n : Nat) (xs : List Int) : Prop := ∃ rf cap zs, RS1 h rp rf n cap zs ∧ zs.take n = xs ∧ rf ∉ ex
section
variable {h : H} {rp n : Nat} {ex : List Nat} {xs : List Int}
theorem RS.len (m : RS h rp ex n xs) : xs.length = n := by
  obtain ⟨rf, cap, zs, m, rfl, _⟩ := m
  have := m.len
  simp; omega
theorem RS.kept {h' : H} (m : RS h rp ex n xs) (k : Kept h h') : RS h' rp ex n xs := by
  obtain ⟨rf, cap, zs, m, e, n1⟩ := m
  exact ⟨rf, cap, zs, ⟨k.blk m.top, k.blk m.row, m.len, m.ne⟩, e, n1⟩
theorem RS.kb {h' : H} {b : Nat} (m : RS h rp ex n xs) (k : KB h b h') (hn : rp ≠ b) (hb : b ∈ ex) : RS h' rp ex n xs := by
  obtain ⟨rf, cap, zs, m, e, n1⟩ := m
  exact ⟨rf, cap, zs, ⟨k.blk m.top hn, k.blk m.row (fun e => n1 (e ▸ hb)), m.len, m.ne⟩, e, n1⟩
theorem RS.k2 {h' : H} {b c : Nat} (m : RS h rp ex n xs) (k : K2 h b c h') (hn : rp ≠ b) (hb : b ∈ ex) (hn2 : rp ≠ c) (hc : c ∈ ex) : RS h' rp ex n xs := by
  obtain ⟨rf, cap, zs, m, e, n1⟩ := m
  have t : ∀ {d : Nat} {o : Obj}, h[d]? = some o → d ≠ b → d ≠ c → h'[d]? = some o := by
    intro d o he h1 h2
    rw [k.2 d (Array.getElem?_eq_some_iff.1 he).1 h1 h2, he]
  exact ⟨rf, cap, zs, ⟨t m.top hn hn2, t m.row (fun e => n1 (e ▸ hb)) (fun e => n1 (e ▸ hc)), m.len, m.ne⟩, e, n1⟩
theorem RS.c0 (m : RS h rp ex n xs) : ∃ rf cap, hcell h ⟨rp, 0, none⟩ = some (.slice (some ⟨rf, 0, none⟩) n cap) ∧
    ∀ j, j < n → hcell h ⟨rf, j, none⟩ = some (.int .i64 (xs.getD j 0)) := by
  obtain ⟨rf, cap, zs, m, rfl, n1⟩ := m
  refine ⟨rf, cap, by rw [hcell_blk m.top]; rfl, fun j hj => ?_⟩
  have hl := m.len
  rw [getD_take _ _ _ hj]
  exact m.row.cell (by omega)
theorem Y181 {j : Nat} {v : Int} {Q : H → Prop} (m : RS h rp ex n xs) (hj : j < n) (hn : n ≤ 256) (hex : ∀ b ∈ ex, b < h.size)
    (q : ∀ h', KB h rp h' → RS h' rp ex n (xs.set j v) → Q h') : F181 (some ⟨rp, 0, none⟩) j v Q h := by
  obtain ⟨rf, cap, zs, m, rfl, n1⟩ := m
  rw [F181_eq]
  unfold B181
  have hrp : rp < h.size := (Array.getElem?_eq_some_iff.1 m.top).1
  refine Nw_intro fun v1 h2 hv k2 e2 => ?_
  have hk2 := k2.1
  simp only [NilP, add_mk, Nat.add_zero, Nat.zero_add]
  have t2 := k2.blk m.top
  refine Ld_s (x := ⟨some ⟨rf, 0, none⟩, n, cap⟩) (by rw [hcell_blk t2]; rfl) ?_
  have hlen := m.len
  refine ⟨(zs.take n).map (Value.int .i64), ⟨by simp; omega, ?_, oneI _⟩, .inr ⟨by simp; omega, by simp; omega, [], ⟨rfl, fun j v hv => by simp at hv, by simp⟩, fun cap' hcap => ?_⟩⟩
  · intro jj x hx
    refine ⟨_, rfl, ?_⟩
    rw [add_mk]
    simp only [List.getElem?_map] at hx
    cases hz : (zs.take n)[jj]? with
    | none => rw [hz] at hx; simp at hx
    | some y =>
      rw [hz] at hx
      simp at hx
      subst hx
      rw [List.getElem?_take] at hz
      split at hz
      · refine k2.cell ?_
        rw [hcell_blk m.row]; simp [hz]
      · simp at hz
  · simp only [Nat.zero_add, List.nil_append, Array.append_empty]
    rw [zeros3]
    obtain ⟨es, hes⟩ : ∃ es : List Int, es = List.replicate (cap' - n) 0 := ⟨_, rfl⟩
    rw [← hes]
    have eb : (([] : List Value).toArray ++ ((zs.take n).map (Value.int .i64)).toArray ++ VI es) = VI (zs.take n ++ es) := by simp [VI]
    rw [eb]
    have k3 := Kept.new h2 (VI (zs.take n ++ es)) 3
    have e3 : IL (newB h2 (VI (zs.take n ++ es)) 3) h2.size 3 (zs.take n ++ es) := new_blk h2 _ _
    generalize newB h2 (VI (zs.take n ++ es)) 3 = h3 at *
    have hk3 := k3.1
    obtain ⟨rf', hrf'⟩ : ∃ rf', rf' = h2.size := ⟨_, rfl⟩
    rw [← hrf'] at e3 ⊢
    have hs3 : rf' < h3.size := (Array.getElem?_eq_some_iff.1 (show h3[rf']? = some _ from e3)).1
    have t3 := k3.blk t2
    refine St_intro t3 (by simp) fun h4 u4 e4 => ?_
    have e4 : h4[rp]? = some (.cells #[.slice (some ⟨rf', 0, none⟩) n cap'] 222) := e4
    have r4 : IL h4 rf' 3 (zs.take n ++ es) := u4.blk e3 (by omega)
    refine Ld_s (x := ⟨some ⟨rf', 0, none⟩, n, cap'⟩) (by rw [hcell_blk e4]; rfl) ⟨⟨by omega, by simp; omega⟩, ?_⟩
    simp only [add_mk, Int.toNat_natCast, Nat.zero_add, Nat.mul_one, Nat.add_zero]
    have hl4 : j < (zs.take n ++ es).length := by simp; omega
    refine St_I r4 hl4 fun h5 u5 e5 => ?_
    refine q h5 ⟨by have := u5.1; have := u4.1; omega, fun i hi hne => ?_⟩ ⟨rf', cap', _, ⟨u5.blk e4 (by omega), e5, by simp; omega, by omega⟩, ?_, fun hm => absurd (hex _ hm) (by omega)⟩
    · rw [u5.2 i (by omega), u4.2 i hne, k3.2 i (by omega), k2.2 i hi]
    · rw [List.take_set, List.take_append_of_le_length (by simp; omega), List.take_take, Nat.min_self]
theorem Y110 {i : Int} {Q : Int → H → Prop} (m : RS h rp ex n xs) (q : ∀ j : Nat, i = (j : Int) → j < n → Q (xs.getD j 0) h) (q0 : ¬ (0 ≤ i ∧ i < n) → Q (-1) h) : F110 (some ⟨rp, 0, none⟩) i Q h := by
  rw [F110_eq]
  unfold B110
  obtain ⟨rf, cap, c0, cf⟩ := m.c0
  simp only [JoinM, NilP, add_mk, Nat.add_zero]
  refine Br_dec (fun hh => q0 (by omega)) fun h0 => Ld_s (x := ⟨some ⟨rf, 0, none⟩, n, cap⟩) c0 (Br_dec (fun hh => q0 (by simp at hh; omega)) fun h1 => ?_)
  obtain ⟨j, rfl⟩ := Int.eq_ofNat_of_zero_le (show 0 ≤ i by omega)
  have hj : j < n := by simp at h1; omega
  refine Ld_s (x := ⟨some ⟨rf, 0, none⟩, n, cap⟩) c0 ⟨⟨by omega, by simp; omega⟩, ?_⟩
  simp only [add_mk, Int.toNat_natCast, Nat.zero_add, Nat.mul_one, Nat.add_zero]
  exact Ld_i (cf j hj) (q j rfl hj)
theorem Y108 {i : Int} {Q : Bool → H → Prop} (m : RS h rp ex n xs) (hn : n ≤ 256) (hex : ∀ b ∈ ex, b < h.size)
    (q : ∀ (j : Nat) h', i = (j : Int) → j < n → xs.getD j 0 = 1 → KB h rp h' → RS h' rp ex n (xs.set j 0) → Q true h') (q0 : (∀ j : Nat, i = (j : Int) → j < n → xs.getD j 0 ≠ 1) → Q false h) : F108 (some ⟨rp, 0, none⟩) i Q h := by
  rw [F108_eq]
  unfold B108
  refine Y110 m (fun j hj hjn => Br_bne_int (fun hh => q0 fun j' hj' _ => ?_) fun hh => ?_) fun hh => ?_
  · obtain rfl : j' = j := by omega
    exact hh
  · subst hj
    exact Y181 m hjn hn hex fun h' k m' => q j h' rfl hjn hh k m'
  · exact q0 fun j hj hjn => by omega
theorem Y109 {i : Int} {Q : Bool → H → Prop} (m : RS h rp ex n xs) (hn : n ≤ 256) (hex : ∀ b ∈ ex, b < h.size)
    (q : ∀ (j : Nat) h', i = (j : Int) → j < n → (xs.getD j 0 = 0 ∨ xs.getD j 0 = 1) → KB h rp h' → RS h' rp ex n (xs.set j 2) → Q true h') (q0 : (∀ j : Nat, i = (j : Int) → j < n → ¬ (xs.getD j 0 = 0 ∨ xs.getD j 0 = 1)) → Q false h) : F109 (some ⟨rp, 0, none⟩) i Q h := by
  rw [F109_eq]
  unfold B109
  simp only [JoinM]
  refine Y110 m (fun j hj hjn => ?_) fun hh => ?_
  · subst hj
    have go : (xs.getD j 0 = 0 ∨ xs.getD j 0 = 1) → F181 (some ⟨rp, 0, none⟩) j 2 (fun h8 => Q true h8) h := fun hh => Y181 m hjn hn hex fun h' k m' => q j h' rfl hjn hh k m'
    refine Br_bne_int (fun h0 => Y110 m (fun j' hj' hjn' => ?_) fun hh => absurd ⟨by omega, by omega⟩ hh) fun h0 => go (.inl h0)
    obtain rfl : j' = j := by omega
    refine Br_bne_int (fun h1 => q0 fun j2 hj2 _ => ?_) fun h1 => go (.inr h1)
    obtain rfl : j2 = j' := by omega
    exact fun hh => hh.elim h0 h1
  · have : F110 (some ⟨rp, 0, none⟩) i (fun r6 h7 => Br (r6 != 1) (Q false h7) (F181 (some ⟨rp, 0, none⟩) i 2 (fun h8 => Q true h8) h7)) h := by
      refine Y110 m (fun j hj hjn => absurd ⟨by omega, by omega⟩ hh) fun _ => ?_
      exact q0 fun j hj hjn => by omega
    exact this
theorem C112 {c : Int} {Q : Int → H → Prop} (m : RS h rp ex n xs) (hn : n ≤ 256) (q : Q (cst (fun j => xs.getD j 0) c n) h) : F112 (some ⟨rp, 0, none⟩) c Q h := by
  rw [F112_eq]
  unfold B112
  obtain ⟨rf, cap, c0, cf⟩ := m.c0
  simp only [NilP, add_mk, Nat.add_zero]
  refine Ld_s (x := ⟨some ⟨rf, 0, none⟩, n, cap⟩) c0 ?_
  refine Loop_intro (σ := Int × Int × Unit) (x := (0, 0, ())) (fun k z h' => ∃ i : Nat, z.2.1 = (i : Int) ∧ k = n - i ∧ i ≤ n ∧ z.1 = cst (fun j => xs.getD j 0) c i ∧ h = h') n ⟨0, rfl, rfl, by omega, rfl, rfl⟩ ?_
  rintro k ⟨acc, ii, u⟩ h' ⟨i, hi, hk, hin, ha, rfl⟩
  simp only at hi ha
  subst hi ha
  refine Br_dec (fun hlt => ?_) fun hge => ?_
  · have hlt : i < n := by simp at hlt; omega
    refine ⟨⟨by simp, by simp; omega⟩, ?_⟩
    simp only [add_mk, Int.toNat_natCast, Nat.zero_add, Nat.mul_one, Nat.add_zero, LetI]
    refine Ld_i (cf i hlt) ?_
    have hc := cst_le (fun j => xs.getD j 0) c i
    have w1 : IntKind.wrap .i64 ((i : Int) + 1) = ((i + 1 : Nat) : Int) := by rw [wrap_i64' _ (by omega) (by omega)]; omega
    refine Br_beq_int (fun heq => ?_) fun hne => ?_
    · refine ⟨n - (i + 1), by omega, i + 1, w1, rfl, by omega, ?_, by trivial⟩
      show IntKind.wrap .i64 (cst (fun j => xs.getD j 0) c i + 1) = _
      rw [wrap_i64' _ (by omega) (by omega)]
      simp only [cst]
      rw [if_pos heq]
    · refine ⟨n - (i + 1), by omega, i + 1, w1, rfl, by omega, ?_, by trivial⟩
      show cst (fun j => xs.getD j 0) c i = _
      simp only [cst]
      rw [if_neg hne]; omega
  · have : i = n := by simp at hge; omega
    subst this
    exact q
end
theorem cst_congr {f g : Nat → Int} {c : Int} : ∀ n, (∀ j, j < n → f j = g j) → cst f c n = cst g c n := by
  intro n
  induction n with
  | zero => intro _; rfl
  | succ n ih => intro h; simp only [cst]; rw [ih fun j hj => h j (by omega), h n (by omega)]
theorem words_ext {l l' : List Nat} (hl : l.length = l'.length) (h1 : ∀ w ∈ l, w < 2 ^ 64) (h2 : ∀ w ∈ l', w < 2 ^ 64) (hb : ∀ x, bit l x = bit l' x) : l = l' := by
  apply List.ext_getElem hl
  intro i i1 i2
  apply Nat.eq_of_testBit_eq
  intro k
  by_cases hk : k < 64
  · have := hb (64 * i + k)
    unfold bit at this
    rw [show (64 * i + k) / 64 = i by omega, show (64 * i + k) % 64 = k by omega] at this
    rw [List.getD_eq_getElem?_getD, List.getD_eq_getElem?_getD, List.getElem?_eq_getElem i1, List.getElem?_eq_getElem i2] at this
    simpa using this
  · have a : ∀ w, w < 2 ^ 64 → w.testBit k = false := fun w hw => Nat.testBit_lt_two_pow (Nat.lt_of_lt_of_le hw (Nat.pow_le_pow_right (by omega) (by omega)))
    rw [a _ (h1 _ (List.getElem_mem i1)), a _ (h2 _ (List.getElem_mem i2))]
section
variable {h : H} {rp n : Nat} {ex : List Nat} {xs : List Int}
theorem C114 {Q : Sl → H → Prop} (m : RS h rp ex n xs) (hn : n ≤ 256)
    (q : ∀ c h' ws, Kept h h' → h.size ≤ c → WB h' c ws → ws.length = (n + 63) / 64 → (∀ x, bit ws x = (decide (x < n) && !(xs.getD x 0 == 0))) → Q ⟨some ⟨c, 0, none⟩, (n + 63) / 64, (n + 63) / 64⟩ h') : F114 (some ⟨rp, 0, none⟩) Q h := by
  rw [F114_eq]
  unfold B114
  obtain ⟨rf, cap, c0, cf⟩ := m.c0
  simp only [NilP, add_mk, Nat.add_zero]
  refine Ld_s (x := ⟨some ⟨rf, 0, none⟩, n, cap⟩) c0 ⟨by omega, ?_⟩
  have e1 : IntKind.wrap .i64 (Int.tdiv (IntKind.wrap .i64 ((n : Int) + 63)) 64) = (((n + 63) / 64 : Nat) : Int) := by
    rw [wrap_i64' ((n : Int) + 63) (by omega) (by omega), Int.tdiv_eq_ediv_of_nonneg (by omega), wrap_i64'] <;> omega
  simp only [e1]
  refine ⟨⟨by omega, by omega, by simp; omega⟩, Nw_intro fun c h4 hc k4 e4 => ?_⟩
  rw [show ((((n + 63) / 64 : Nat) : Int).toNat) = (n + 63) / 64 from rfl, zeros23] at e4
  refine Ld_s (x := ⟨some ⟨rf, 0, none⟩, n, cap⟩) (k4.cell c0) ?_
  have W0 : WB h4 c (List.replicate ((n + 63) / 64) 0) := ⟨e4, by intro w hw; rw [List.eq_of_mem_replicate hw]; omega⟩
  refine Loop_intro (σ := Int × Unit) (x := (0, ())) (fun k z h' => ∃ i : Nat, z.1 = (i : Int) ∧ k = n - i ∧ i ≤ n ∧ Kept h h' ∧ ∃ ws, WB h' c ws ∧ ws.length = (n + 63) / 64 ∧ ∀ x, bit ws x = (decide (x < i) && !(xs.getD x 0 == 0))) n
    ⟨0, rfl, rfl, by omega, k4, _, W0, by simp, fun x => by rw [bit_zero]; simp⟩ ?_
  rintro k ⟨ii, u⟩ h5 ⟨i, hi, hk, hin, k5, ws, W5, hl5, hb5⟩
  simp only at hi
  subst hi
  refine Br_dec (fun hlt => ?_) fun hge => ?_
  · have hlt : i < n := by simp at hlt; omega
    refine ⟨⟨by simp, by simp; omega⟩, ?_⟩
    simp only [add_mk, Int.toNat_natCast, Nat.zero_add, Nat.mul_one, Nat.add_zero, LetI]
    refine Ld_i (k5.cell (cf i hlt)) ?_
    have w1 : IntKind.wrap .i64 ((i : Int) + 1) = ((i + 1 : Nat) : Int) := by rw [wrap_i64' _ (by omega) (by omega)]; omega
    refine Br_bne_int (fun hne => ?_) fun heq => ?_
    · have f1 : IntKind.wrap .i64 (Int.tdiv (i : Int) 64) = ((i / 64 : Nat) : Int) := by
        rw [Int.tdiv_eq_ediv_of_nonneg (by omega), wrap_i64'] <;> omega
      have f2 : IntKind.wrap .u64 (Int.tmod (i : Int) 64) = ((i % 64 : Nat) : Int) := by
        rw [Int.tmod_eq_emod_of_nonneg (by omega), wrap_u64]; omega
      have hm : i % 64 < 64 := Nat.mod_lt _ (by omega)
      have hp : (2 : Nat) ^ (i % 64) < 2 ^ 64 := Nat.pow_lt_pow_right (by omega) hm
      refine ⟨by omega, ?_⟩
      simp only [f1, f2]
      refine ⟨⟨by omega, by omega⟩, ?_⟩
      simp only [add_mk, Int.toNat_natCast, Nat.mul_one, Nat.add_zero, Nat.zero_add]
      refine Ld_i (W5.cell (i := i / 64) (by omega)) ⟨by omega, by omega, ⟨by omega, by omega⟩, ?_⟩
      simp only [add_mk, Int.toNat_natCast, Nat.mul_one, Nat.add_zero, Nat.zero_add]
      rw [shl1 _ hm, bOr_u64 _ _ (W5.lt _) hp]
      refine St_W W5 (by omega) (Nat.or_lt_two_pow (W5.lt _) hp) fun h6 u6 e6 => ?_
      refine ⟨n - (i + 1), by omega, i + 1, w1, rfl, by omega, u6.kept k5 (by omega), _, e6, by simpa using hl5, fun x => ?_⟩
      rw [bit_set _ _ _ _ (by omega)]
      by_cases hxi : x = i
      · subst hxi
        rw [if_pos rfl, Nat.testBit_or, Nat.testBit_two_pow, decide_eq_true (show x < x + 1 by omega)]
        have : (xs.getD x 0 == 0) = false := by simpa using hne
        rw [this]; simp
      · have hd : decide (x < i + 1) = decide (x < i) := by
          by_cases h1 : x < i
          · rw [decide_eq_true h1, decide_eq_true (by omega)]
          · rw [decide_eq_false h1, decide_eq_false (by omega)]
        rw [hd, ← hb5]
        split
        · rename_i hh
          rw [Nat.testBit_or, Nat.testBit_two_pow, decide_eq_false (by omega), Bool.or_false]
          unfold bit; rw [hh]
        · rfl
    · refine ⟨n - (i + 1), by omega, i + 1, w1, rfl, by omega, k5, ws, W5, hl5, fun x => ?_⟩
      rw [hb5]
      by_cases hxi : x = i
      · subst hxi
        have : (xs.getD x 0 == 0) = true := by simpa using heq
        rw [this]; simp
      · congr 1
        by_cases h1 : x < i
        · rw [decide_eq_true h1, decide_eq_true (by omega)]
        · rw [decide_eq_false h1, decide_eq_false (by omega)]
  · have : i = n := by simp at hge; omega
    subst this
    exact q c h5 ws k5 (Nat.le_of_eq hc.symm) W5 hl5 hb5
theorem free_xs {tw bw : List Nat} {kk i : Nat} (g : Good2 n tw bw) (hx : ∀ j, j < n → xs.getD j 0 = stt tw bw j) (hi : i + kk ≤ n) : free tw kk i ↔ ∀ d, d < kk → xs.getD (i + d) 0 = 0 := by
  have key : ∀ j, j < n → (xs.getD j 0 = 0 ↔ bit tw j = false) := by
    intro j hj
    rw [hx j hj]
    unfold stt
    cases hb : bit bw j <;> cases ht : bit tw j <;> simp
    rw [g.2 j hb] at ht; cases ht
  exact ⟨fun hf d hd => (key _ (by omega)).2 (hf d hd), fun hf d hd => (key _ (by omega)).1 (hf d hd)⟩
/-- The document's TakeRun answers what the program's did. -/
theorem Y107 {k r : Int} {ok : Bool} {tw tw' bw : List Nat} {Q : Int → Bool → H → Prop} (m : RS h rp ex n xs) (hn : n ≤ 256) (hex : ∀ b ∈ ex, b < h.size) (rs : RunS n tw tw' k r ok) (g : Good2 n tw bw)
    (hx : ∀ j, j < n → xs.getD j 0 = stt tw bw j)
    (q : ∀ h' ys, KB h rp h' → RS h' rp ex n ys → (∀ j, j < n → ys.getD j 0 = stt tw' bw j) → Q r ok h') : F107 (some ⟨rp, 0, none⟩) k Q h := by
  rw [F107_eq]
  unfold B107
  have hxl := m.len
  obtain ⟨rf, cap, c0, cf⟩ := m.c0
  refine Loop_intro (σ := Int × Unit) (x := (0, ())) (fun c z h' => ∃ i : Nat, z.1 = (i : Int) ∧ c = n + 1 - i ∧ i ≤ n ∧ h = h' ∧ ∀ i' kk : Nat, k = (kk : Int) → i' < i → i' + kk ≤ n → ¬ free tw kk i') (n + 1) ⟨0, rfl, rfl, by omega, rfl, fun i' _ _ hi' => by omega⟩ ?_
  rintro c ⟨ii, u⟩ h' ⟨i, hi, hc, hin, rfl, hI⟩
  simp only at hi
  subst hi
  have none_ : (∀ kk : Nat, k = (kk : Int) → 1 ≤ kk → ¬ i + kk ≤ n) → Q 0 false h := by
    intro hh
    rcases rs with ⟨hok, i2, kk, hr, hkk, h1, hi2, hf, hlow, hb⟩ | ⟨hok, hr, htw, hno⟩
    · by_cases h2 : i2 < i
      · exact absurd hf (hI i2 kk hkk h2 hi2)
      · exact absurd (show i + kk ≤ n by omega) (hh kk hkk h1)
    · subst hok hr htw
      exact q h xs (Kept.refl h).kb m hx
  refine Join_intro (fun _ h' => h' = h ∧ 1 ≤ k ∧ (i : Int) + k ≤ n) (fun J hJ => ?_) ?_
  · simp only [NilP, add_mk, Nat.add_zero]
    refine Br_dec (fun h1 => Ld_s (x := ⟨some ⟨rf, 0, none⟩, n, cap⟩) c0 ?_) fun h1 => none_ fun kk hk h2 => by omega
    simp only
    rw [wrap_i64' ((n : Int) - (i : Int)) (by omega) (by omega)]
    exact Br_dec (fun h2 => hJ () h ⟨rfl, by omega, by omega⟩) fun h2 => none_ fun kk hk h3 => by omega
  rintro u h' ⟨rfl, hk1, hkn⟩
  obtain ⟨kk, rfl⟩ := Int.eq_ofNat_of_zero_le (show 0 ≤ k by omega)
  have hkn : i + kk ≤ n := by omega
  have hk1 : 1 ≤ kk := by omega
  have e1 : IntKind.wrap .i64 ((i : Int) + (kk : Int)) = ((i + kk : Nat) : Int) := by rw [wrap_i64' _ (by omega) (by omega)]; omega
  simp only [e1, LetI]
  refine Loop_intro (σ := Bool × Int × Unit) (x := (true, (i : Int), ())) (fun d2 z h'' => ∃ e : Nat, z.2.1 = ((i + e : Nat) : Int) ∧ d2 = kk - e ∧ e ≤ kk ∧ h' = h'' ∧ (z.1 = true ↔ ∀ d, d < e → xs.getD (i + d) 0 = 0)) kk ⟨0, by simp, rfl, by omega, rfl, by simp⟩ ?_
  rintro d2 ⟨fr, ee, u⟩ h5 ⟨e, he, hd2, hek, rfl, hF⟩
  simp only at he hF
  subst he
  refine Br_dec (fun hlt2 => ?_) fun hge2 => ?_
  · have hlt2 : e < kk := by simp only at hlt2; omega
    have nx : IntKind.wrap .i64 (((i + e : Nat) : Int) + 1) = ((i + (e + 1) : Nat) : Int) := by rw [wrap_i64' _ (by omega) (by omega)]; omega
    cases fr
    · refine ⟨kk - (e + 1), by omega, e + 1, nx, rfl, by omega, by trivial, ⟨fun hh => absurd hh (by simp), fun hh => ?_⟩⟩
      have := hF.2 fun d hd => hh d (by omega)
      cases this
    · simp only [NilP, add_mk, Nat.add_zero, Br_true]
      refine Ld_s (x := ⟨some ⟨rf, 0, none⟩, n, cap⟩) c0 ⟨⟨by omega, by simp; omega⟩, ?_⟩
      simp only [add_mk, Int.toNat_natCast, Nat.mul_one, Nat.add_zero, Nat.zero_add]
      refine Ld_i (cf (i + e) (by omega)) ?_
      refine ⟨kk - (e + 1), by omega, e + 1, nx, rfl, by omega, by trivial, ⟨fun hh d hd => ?_, fun hh => ?_⟩⟩
      · by_cases e2 : d = e
        · subst e2; simpa using hh
        · exact hF.1 rfl d (by omega)
      · have := hh e (by omega)
        simpa using this
  · have : e = kk := by simp only at hge2; omega
    subst this
    cases fr
    · refine ⟨n + 1 - (i + 1), by omega, i + 1, by show IntKind.wrap .i64 ((i : Int) + 1) = _; rw [wrap_i64' _ (by omega) (by omega)]; omega, rfl, by omega, by trivial, fun i' kk' hk' hi' hle => ?_⟩
      obtain rfl : kk' = e := by omega
      by_cases e2 : i' = i
      · subst e2; intro hh; have := hF.2 ((free_xs g hx hkn).1 hh); cases this
      · exact hI i' kk' hk' (by omega) hle
    · have hfr := (free_xs g hx hkn).2 (hF.1 rfl)
      rcases rs with ⟨hok, i2, k2, hr, hkk, _, hi2, hf2, hlow, hb⟩ | ⟨hok, hr, htw, hno⟩
      · obtain rfl : k2 = e := by omega
        have : i2 = i := by
          by_cases h1 : i2 < i
          · exact absurd hf2 (hI i2 k2 rfl h1 hi2)
          · by_cases h2 : i < i2
            · exact absurd hfr (hlow i h2)
            · omega
        subst this
        subst hok hr
        simp only [Br_true]
        refine Loop_intro (σ := Int × Unit) (x := ((i2 : Int), ())) (fun c z h'' => ∃ d : Nat, z.1 = ((i2 + d : Nat) : Int) ∧ c = k2 - d ∧ d ≤ k2 ∧ KB h' rp h'' ∧ ∃ ys, RS h'' rp ex n ys ∧ ys.length = n ∧
            ∀ x, x < n → ys.getD x 0 = if i2 ≤ x ∧ x < i2 + d then 1 else stt tw bw x) k2 ⟨0, rfl, rfl, by omega, (Kept.refl h').kb, xs, m, hxl, fun x hx' => by rw [if_neg (by omega)]; exact hx x hx'⟩ ?_
        rintro c2 ⟨zz, u⟩ h6 ⟨d, hd, hc2, hdk, K6, ys, m6, hl6, hy⟩
        simp only at hd
        subst hd
        have hs6 := K6.1
        refine Br_dec (fun hlt => ?_) fun hge => ?_
        · have hlt : d < k2 := by omega
          refine Y181 m6 (by omega) hn (fun b hb => Nat.lt_of_lt_of_le (hex b hb) hs6) fun h7 k7 m7 => ?_
          refine ⟨k2 - (d + 1), by omega, d + 1, by show IntKind.wrap .i64 (((i2 + d : Nat) : Int) + 1) = _; rw [wrap_i64' _ (by omega) (by omega)]; omega, rfl, by omega, K6.trans k7, _, m7, by simpa using hl6, fun x hx' => ?_⟩
          rw [getD_set _ _ _ _ (by omega)]
          split
          · rw [if_pos (by omega)]
          · rw [hy x hx']
            by_cases hh : i2 ≤ x ∧ x < i2 + d
            · rw [if_pos hh, if_pos (by omega)]
            · rw [if_neg hh, if_neg (by omega)]
        · have : d = k2 := by omega
          subst this
          refine q h6 ys K6 m6 fun x hx' => ?_
          rw [hy x hx']
          unfold stt
          rw [hb]
          split
          · rename_i hh
            rw [decide_eq_true hh, Bool.or_true]
            have := hf2 (x - i2) (by omega)
            rw [show i2 + (x - i2) = x by omega] at this
            cases hbb2 : bit bw x
            · rfl
            · rw [g.2 x hbb2] at this; cases this
          · rename_i hh
            rw [decide_eq_false hh, Bool.or_false]
      · exact absurd hfr (hno e rfl hk1 i hkn)
end
theorem N66 {n : Int} {Q : Option Addr → H → Prop} {h : H} (hn : ¬ (0 ≤ n ∧ n ≤ 256)) (q : Q none h) : F66 n Q h := by
  rw [F66_eq]
  unfold B66 JoinM
  refine Br_dec (fun hh => q) fun _ => Br_dec (fun hh => q) fun _ => ?_
  exact absurd ⟨by omega, by omega⟩ hn
theorem N105 {n : Int} {Q : Option Addr → H → Prop} {h : H} (hn : ¬ (0 ≤ n ∧ n ≤ 256)) (q : Q none h) : F105 n Q h := by
  rw [F105_eq]
  unfold B105 JoinM
  refine Br_dec (fun hh => q) fun _ => Br_dec (fun hh => q) fun _ => absurd ⟨by omega, by omega⟩ hn
theorem C105 {n : Nat} {ex : List Nat} {Q : Option Addr → H → Prop} {h : H} (hn : n ≤ 256) (hex : ∀ b ∈ ex, b < h.size) (q : ∀ rp h', Kept h h' → h.size ≤ rp → RS h' rp ex n (List.replicate n 0) → Q (some ⟨rp, 0, none⟩) h') : F105 n Q h := by
  rw [F105_eq]
  unfold B105 JoinM
  refine Br_dec (fun hh => by omega) fun _ => Br_dec (fun hh => by omega) fun _ => ⟨⟨by omega, by omega, by simp; omega⟩, ?_⟩
  refine Nw_intro fun b h3 hb k3 e => ?_
  rw [show ((n : Int).toNat) = n from rfl, zeros3] at e
  refine Nw_intro fun b' h4 hb' k4 e' => ?_
  have hlt : b < h3.size := (Array.getElem?_eq_some_iff.1 e).1
  have := k3.1
  exact q b' h4 (k3.trans k4) (by omega) ⟨b, n, List.replicate n 0, ⟨e', k4.blk e, by simp, by omega⟩, by simp, fun hm => absurd (hex _ hm) (by omega)⟩

/-- What the law has. -/
structure S24 (h0 : H) (bs bt bb rp n : Nat) (h' : H) : Prop where
  kept : Kept h0 h'
  all : ∃ tw bw xs, SlM h' bs bt bb n tw bw ∧ Good2 n tw bw ∧ RS h' rp [bs, bt, bb] n xs ∧ ∀ x, x < n → xs.getD x 0 = stt tw bw x
theorem S24.k {h0 h h' : H} {bs bt bb rp n : Nat} (s : S24 h0 bs bt bb rp n h) (k : Kept h h') : S24 h0 bs bt bb rp n h' := by
  obtain ⟨k0, tw, bw, xs, m, g, r, hx⟩ := s
  exact ⟨k0.trans k, tw, bw, xs, m.kept k, g, r.kept k, hx⟩
theorem L24 {n0 : Int} {a1 : Option Addr} {l1 c1 : Nat} {Q : Bool → H → Prop} {h : H}
    (o : Opn h (.slice (.pair (.int .i64) (.pair (.int .i64) .unit))) [.slice a1 l1 c1]) (q : ∀ h', Kept h h' → Q true h') : F24 n0 ⟨a1, l1, c1⟩ Q h := by
  have acts := Acts2.of o
  have liv : ∀ h', Kept h h' → F67 (fun r6 h7 => Q r6 h7) h' := fun h' k => C67 fun h9 k9 => q h9 (k.trans k9)
  rw [F24_eq]
  unfold B24
  by_cases hv : 0 ≤ n0 ∧ n0 ≤ 256
  rotate_left
  · exact N66 hv (N105 hv (liv h (Kept.refl h)))
  obtain ⟨n, rfl⟩ : ∃ n : Nat, n0 = (n : Int) := Int.eq_ofNat_of_zero_le hv.1
  have hn : n ≤ 256 := by omega
  refine C66 hn fun bs bt bb h1 k1 hbs hbt hbb m1 => ?_
  have q1 := (Array.getElem?_eq_some_iff.1 m1.top).1
  have q2 := (Array.getElem?_eq_some_iff.1 m1.tak.1).1
  have q3 := (Array.getElem?_eq_some_iff.1 m1.bad.1).1
  refine C105 (ex := [bs, bt, bb]) hn (by simp; omega) fun rp h2 k2 hrp r2 => ?_
  simp only [Option.isNone_some, Br_false, beq_self_eq_true, Bool.not_true]
  have K2 := k1.trans k2
  refine Join_intro (fun _ h' => h' = h2 ∧ l1 ≤ 200) (fun J hJ => Br_dec (fun _ => liv h2 K2) fun hl200 => hJ () h2 ⟨rfl, by simp at hl200; omega⟩) ?_
  rintro u h2' ⟨rfl, hl200⟩
  have S0 : S24 h bs bt bb rp n h2' := by
    refine ⟨K2, _, _, _, m1.kept k2, ⟨fun x hx => (by rw [bit_zero] at hx; cases hx), fun x hx => (by rw [bit_zero] at hx; cases hx)⟩, r2, fun x hx => ?_⟩
    rw [stt_01 (fun hh => by rw [bit_zero] at hh; cases hh) (bit_zero _ _), List.getD_eq_getElem?_getD, List.getElem?_replicate]
    split <;> rfl
  have hk1 := k1.1
  refine Loop_intro (σ := Int × Unit) (x := (0, ())) (fun c z h' => ∃ i : Nat, z.1 = (i : Int) ∧ c = l1 - i ∧ i ≤ l1 ∧ S24 h bs bt bb rp n h') l1 ⟨0, rfl, rfl, by omega, S0⟩ ?_
  rintro c ⟨ii, u⟩ h3 ⟨i, hi, hc, hil, S3⟩
  simp only at hi
  subst hi
  refine Br_dec (fun hlt => ?_) fun hge => liv h3 S3.kept
  have hlt : i < l1 := by simpa using hlt
  obtain ⟨ad, had, k, v, ca, cbb⟩ := acts.kept S3.kept i hlt
  simp only at had
  simp only [had]
  refine ⟨⟨by omega, by omega⟩, ?_⟩
  simp only [add_add, Int.toNat_natCast]
  refine Ld_i ca (Ld_i cbb (Nw_intro fun w h4 hw k4 e4 => ?_))
  rw [zero55] at e4
  simp only [add_mk]
  refine put2 e4 fun h5 u5 e5 => ?_
  have k35 : Kept h3 h5 := u5.kept k4 (by omega)
  have S5 : S24 h bs bt bb rp n h5 := S3.k k35
  have hob : bs < h5.size ∧ bt < h5.size ∧ bb < h5.size ∧ rp < h5.size ∧ w ≠ bs ∧ w ≠ bt ∧ w ≠ bb ∧ w ≠ rp ∧ rp ≠ bs ∧ rp ≠ bt ∧ rp ≠ bb := by
    obtain ⟨_, tw, bw, xs, m, g, r, hx⟩ := S3
    have q1' := (Array.getElem?_eq_some_iff.1 m.top).1
    have q2' := (Array.getElem?_eq_some_iff.1 m.tak.1).1
    have q3' := (Array.getElem?_eq_some_iff.1 m.bad.1).1
    obtain ⟨rf, cap, zs, r1, _⟩ := r
    have q4' := (Array.getElem?_eq_some_iff.1 r1.top).1
    have := k35.1
    omega
  clear S3
  have hex5 : ∀ b ∈ [bs, bt, bb], b < h5.size := by simp; omega
  refine Join_intro (fun y h' => y.1 = true ∧ S24 h bs bt bb rp n h' ∧ IL h' w 55 [k, v]) (fun J hJ => ?_) ?_
  · obtain ⟨K5, tw, bw, xs, m5, g5, r5, hx5⟩ := S5
    have c0 : hcell h5 ⟨w, 0, none⟩ = some (.int .i64 k) := by rw [hcell_blk e5]; rfl
    have c1 : hcell h5 ⟨w, 1, none⟩ = some (.int .i64 v) := by rw [hcell_blk e5]; rfl
    simp only [add_mk, Nat.add_zero, Nat.zero_add]
    have run : ∀ (want r : Int) (ok : Bool) (tw' : List Nat) (h6 : H) (T : Int → Bool → H → Prop), RunS n tw tw' want r ok → KB h5 bt h6 → SlM h6 bs bt bb n tw' bw →
        (∀ h7, S24 h bs bt bb rp n h7 → IL h7 w 55 [k, v] → T r ok h7) → F107 (some ⟨rp, 0, none⟩) want T h6 := by
      intro want r ok tw' h6 T rs u6 m6 hT
      have hs6 := u6.1
      refine Y107 (r5.kb u6 (by omega) (by simp)) hn (fun b hb => Nat.lt_of_lt_of_le (hex5 b hb) hs6) rs g5 hx5 fun h7 ys u7 r7 hy => hT h7 ⟨u7.kept (u6.kept K5 hbt) (by omega), tw', bw, ys, m6.kb u7 (by omega) (by omega) (by omega), rs.good g5, r7, hy⟩ ?_
      exact u7.blk (u6.blk e5 (by omega)) (by omega)
    refine Ld_i c0 (Br_beq_int (fun hk => ?_) fun hk0 => Br_beq_int (fun hk => ?_) fun hk1 => Br_beq_int (fun hk => ?_) fun hk2 => Br_beq_int (fun hk => ?_) fun hk3 => ?_)
    · rw [F68_eq]
      refine V69 m5 fun r ok tw' h6 rs u6 m6 => ?_
      rw [F106_eq]
      simp only [LetI]
      unfold B106
      refine run 1 r ok tw' h6 _ rs u6 m6 fun h7 S7 e7 => ?_
      simp only [LetI, beq_self_eq_true, Br_true]
      exact hJ (true, ()) h7 ⟨rfl, S7, e7⟩
    · refine Ld_i c1 (V69 m5 fun r ok tw' h6 rs u6 m6 => ?_)
      simp only [LetI]
      refine Ld_i (x := v) (by rw [hcell_blk (u6.blk e5 (by omega))]; rfl) ?_
      refine run v r ok tw' h6 _ rs u6 m6 fun h7 S7 e7 => ?_
      simp only [beq_self_eq_true, Br_true]
      exact hJ (true, ()) h7 ⟨rfl, S7, e7⟩
    · refine Ld_i c1 (Ld_i c1 (C70 m5 (fun j h6 tw' hj hjn hb ht u6 m6 hb' => ?_) fun hh => ?_))
      · have e6 : IL h6 w 55 [k, v] := u6.blk e5 (by omega)
        refine ⟨by rw [hcell_blk e6]; rfl, ?_⟩
        have hs6 := u6.1
        refine Y108 (r5.kb u6.kb (by omega) (by simp)) hn (fun b hb => Nat.lt_of_lt_of_le (hex5 b hb) (Nat.le_of_eq hs6.symm)) (fun j2 h7 hj2 hj2n _ u7 r7 => ?_) fun hh => ?_
        · obtain rfl : j2 = j := by omega
          refine hJ (true, ()) h7 ⟨rfl, ⟨u7.kept (u6.kept K5 hbt) (by omega), tw', bw, _, m6.kb u7 (by omega) (by omega) (by omega), ⟨fun x hx => ?_, fun x hx => ?_⟩, r7, fun x hx => ?_⟩, u7.blk e6 (by omega)⟩
          · rw [hb'] at hx
            simp only [Bool.and_eq_true] at hx
            exact g5.1 x hx.1
          · rw [hb', g5.2 x hx]
            have : x ≠ j2 := by intro e; subst e; rw [hb] at hx; cases hx
            rw [decide_eq_false this]; rfl
          · have hxl := r5.len
            rw [getD_set _ _ _ _ (by omega)]
            unfold stt
            rw [hb']
            split
            · rename_i e; subst e; rw [hb]; simp
            · rename_i e
              rw [hx5 x hx, decide_eq_false (fun e' => e e'.symm)]
              unfold stt; simp
        · exfalso
          refine hh j hj hjn ?_
          rw [hx5 j hjn]; unfold stt; rw [hb, ht]; rfl
      · refine ⟨c1, Y108 r5 hn hex5 (fun j h7 hj hjn h1 u7 r7 => ?_) fun _ => ?_⟩
        · exfalso
          rw [hx5 j hjn] at h1
          unfold stt at h1
          rcases hh j hj hjn with hb | ht
          · rw [hb] at h1; simp at h1
          · rw [ht] at h1; cases hb : bit bw j <;> rw [hb] at h1 <;> simp at h1
        · exact hJ (true, ()) h5 ⟨rfl, ⟨K5, tw, bw, xs, m5, g5, r5, hx5⟩, e5⟩
    · refine Ld_i c1 (Ld_i c1 (C71 m5 (fun j h6 tw' bw' hj hjn hb u6 m6 ht' hb' => ?_) fun hh => ?_))
      · have e6 : IL h6 w 55 [k, v] := by
          unfold IL
          rw [u6.2 w (Array.getElem?_eq_some_iff.1 (show h5[w]? = some _ from e5)).1 (by omega) (by omega)]; exact e5
        refine ⟨by rw [hcell_blk e6]; rfl, ?_⟩
        have hs6 := u6.1
        refine Y109 (r5.k2 u6 (by omega) (by simp) (by omega) (by simp)) hn (fun b hb => Nat.lt_of_lt_of_le (hex5 b hb) hs6) (fun j2 h7 hj2 hj2n _ u7 r7 => ?_) fun hh => ?_
        · obtain rfl : j2 = j := by omega
          refine hJ (true, ()) h7 ⟨rfl, ⟨u7.kept (u6.kept K5 hbt hbb) (by omega), tw', bw', _, m6.kb u7 (by omega) (by omega) (by omega), ⟨fun x hx => ?_, fun x hx => ?_⟩, r7, fun x hx => ?_⟩, u7.blk e6 (by omega)⟩
          · rw [ht'] at hx
            simp only [Bool.or_eq_true, decide_eq_true_eq] at hx
            rcases hx with hx | hx
            · exact g5.1 x hx
            · omega
          · rw [hb'] at hx
            rw [ht']
            simp only [Bool.or_eq_true, decide_eq_true_eq] at hx ⊢
            rcases hx with hx | hx
            · exact .inl (g5.2 x hx)
            · exact .inr hx
          · have hxl := r5.len
            rw [getD_set _ _ _ _ (by omega)]
            unfold stt
            rw [hb', ht']
            split
            · rename_i e; subst e; simp
            · rename_i e
              rw [hx5 x hx, decide_eq_false (fun e' => e e'.symm)]
              unfold stt; simp
        · exfalso
          refine hh j hj hjn ?_
          rw [hx5 j hjn]; unfold stt; rw [hb]; cases bit tw j <;> simp
      · refine ⟨c1, Y109 r5 hn hex5 (fun j h7 hj hjn h1 u7 r7 => ?_) fun _ => ?_⟩
        · exfalso
          rw [hx5 j hjn] at h1
          unfold stt at h1
          rw [hh j hj hjn] at h1
          simp at h1
        · exact hJ (true, ()) h5 ⟨rfl, ⟨K5, tw, bw, xs, m5, g5, r5, hx5⟩, e5⟩
    · exact hJ (true, ()) h5 ⟨rfl, ⟨K5, tw, bw, xs, m5, g5, r5, hx5⟩, e5⟩
  · rintro ⟨y, u⟩ h6 ⟨hy, ⟨K6, tw, bw, xs, m6, g6, r6, hx6⟩, e6⟩
    simp only at hy
    subst hy
    have c1 : hcell h6 ⟨w, 0 + 1 + 0, none⟩ = some (.int .i64 v) := by rw [hcell_blk e6]; rfl
    simp only [Bool.not_true, Br_false]
    have S6 : S24 h bs bt bb rp n h6 := ⟨K6, tw, bw, xs, m6, g6, r6, hx6⟩
    have hcst : ∀ c, cst (fun j => xs.getD j 0) c n = cst (stt tw bw) c n := fun c => cst_congr n hx6
    have rest : QC [.one (.i .i64)] h6 (fun K' h' => F111 (some ⟨bs, 0, none⟩) v (fun r64 h'' => K' (.int .i64 r64) h'') h') fun x63 =>
        Ld (.i .i64) h6 ⟨w, 0 + 1 + 0, none⟩ fun x65 =>
        QC [.one (.i .i64)] h6 (fun K' h' => F112 (some ⟨rp, 0, none⟩) x65 (fun r67 h'' => K' (.int .i64 r67) h'') h') fun x66 =>
        Br (x63.1 != x66.1)
        (Q false h6)
        (QC [.one (.i .i64)] h6 (fun K' h' => F111 (some ⟨bs, 0, none⟩) 0 (fun r69 h'' => K' (.int .i64 r69) h'') h') fun x68 =>
        QC [.one (.i .i64)] h6 (fun K' h' => F112 (some ⟨rp, 0, none⟩) 0 (fun r71 h'' => K' (.int .i64 r71) h'') h') fun x70 =>
        Br (x68.1 != x70.1)
        (Q false h6)
        (F72 (some ⟨bs, 0, none⟩) (fun r72 h73 =>
        F114 (some ⟨rp, 0, none⟩) (fun r74 h75 =>
        QC [.one .b] h75 (fun K' h' => F113 r72 r74 (fun r77 h'' => K' (.bool r77) h'') h') fun x76 =>
        Br (!x76.1)
        (Q false h75)
        (∃ k', k' < c ∧ ∃ i' : Nat, (IntKind.wrap .i64 ((i : Int) + 1)) = (i' : Int) ∧ k' = l1 - i' ∧ i' ≤ l1 ∧ S24 h bs bt bb rp n h75)) h73) h6)) := by
      refine ⟨(cst (stt tw bw) v n, ()), C111 m6 g6 ⟨rfl, rfl⟩, Ld_i c1 ⟨(cst (stt tw bw) v n, ()), C112 r6 hn ?_, ?_⟩⟩
      · exact ⟨by rw [hcst]; rfl, rfl⟩
      simp only [bne_self_eq_false, Br_false]
      refine ⟨(cst (stt tw bw) 0 n, ()), C111 m6 g6 ⟨rfl, rfl⟩, ⟨(cst (stt tw bw) 0 n, ()), C112 r6 hn ?_, ?_⟩⟩
      · exact ⟨by rw [hcst]; rfl, rfl⟩
      simp only [bne_self_eq_false, Br_false]
      refine C72 m6 fun cc h7 k7 hcc W7 => C114 (r6.kept k7) hn fun d h8 ws k8 hd W8 hws hb8 => ?_
      have : ws = tw := by
        refine words_ext (by rw [hws, m6.lt]) W8.2 W7.2 fun x => ?_
        rw [hb8]
        by_cases hx : x < n
        · rw [decide_eq_true hx, hx6 x hx]
          unfold stt
          have := g6.2 x
          cases hb : bit bw x <;> cases ht : bit tw x <;> rw [hb, ht] at this <;> simp at this ⊢
        · rw [decide_eq_false hx]
          cases ht : bit tw x
          · rfl
          · exact absurd (g6.1 x ht) hx
      subst this
      refine ⟨(true, ()), C113 (n := (n + 63) / 64) ⟨k8.blk W7.1, W7.2⟩ W8 m6.lt (by omega) ⟨rfl, rfl⟩, ?_⟩
      simp only [Bool.not_true, Br_false]
      exact ⟨l1 - (i + 1), by omega, i + 1, by rw [wrap_i64' _ (by omega) (by omega)]; omega, rfl, by omega, S6.k (k7.trans k8)⟩
    have key : ∀ r : Int, (fun x57 : ShL [.one (.i .i64)] => Ld (.i .i64) h6 ⟨w, 0 + 1 + 0, none⟩ fun x59 =>
        QC [.one (.i .i64)] h6 (fun K' h' => F110 (some ⟨rp, 0, none⟩) x59 (fun r61 h'' => K' (.int .i64 r61) h'') h') fun x60 => x57.1 = x60.1) (r, ()) → True := fun _ _ => trivial
    by_cases hin : 0 ≤ v ∧ v < (n : Int)
    · obtain ⟨j, rfl⟩ := Int.eq_ofNat_of_zero_le hin.1
      have hjn : j < n := by omega
      refine Ld_i c1 ⟨(stt tw bw j, ()), C73 m6 (fun j' hj' _ => ?_) (fun hh => absurd hin hh), Ld_i c1 ⟨(stt tw bw j, ()), Y110 r6 (fun j' hj' _ => ?_) (fun hh => absurd hin hh), ?_⟩⟩
      · obtain rfl : j' = j := by omega
        exact ⟨rfl, rfl⟩
      · obtain rfl : j' = j := by omega
        exact ⟨by rw [hx6 _ hjn]; rfl, rfl⟩
      · simp only [bne_self_eq_false, Br_false]
        refine Ld_i c1 ?_
        exact rest
    · refine Ld_i c1 ⟨(-1, ()), C73 m6 (fun j' hj' _ => absurd ⟨by omega, by omega⟩ hin) (fun hh => ⟨rfl, rfl⟩), Ld_i c1 ⟨(-1, ()), Y110 r6 (fun j' hj' _ => absurd ⟨by omega, by omega⟩ hin) (fun hh => ⟨rfl, rfl⟩), ?_⟩⟩
      simp only [bne_self_eq_false, Br_false]
      refine Ld_i c1 ?_
      exact rest
end Go.Proofs.Ytfijchofplkcoaa
