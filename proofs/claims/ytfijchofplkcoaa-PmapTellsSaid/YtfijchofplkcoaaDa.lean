/-
  What the functions of a memory of frames answer (package phys): a memory is a list of bytes.
-/
import Derived.Test.YtfijchofplkcoaaCb
import Derived.Test.YtfijchofplkcoaaGc
set_option linter.unusedVariables false
set_option linter.unusedSimpArgs false
set_option maxRecDepth 100000
namespace Go.Proofs.Ytfijchofplkcoaa

abbrev V8 (xs : List Int) : Array Value := (xs.map (Value.int .u8)).toArray
def BL (h : H) (b t : Nat) (xs : List Int) : Prop := h[b]? = some (.cells (V8 xs) t)
theorem BL.cell {h : H} {b t : Nat} {xs : List Int} (e : BL h b t xs) {i : Nat} (hi : i < xs.length) : hcell h ⟨b, i, none⟩ = some (.int .u8 (xs.getD i 0)) := by
  rw [hcell_blk e]; simp [hi, List.getElem?_eq_getElem]
theorem BL.cell' {h : H} {b t : Nat} {xs : List Int} (e : BL h b t xs) {i : Nat} {x : Int} (hi : xs[i]? = some x) : hcell h ⟨b, i, none⟩ = some (.int .u8 x) := by
  rw [hcell_blk e]; simp [hi]
theorem BL.kept {h h' : H} {b t : Nat} {xs : List Int} (e : BL h b t xs) (k : Kept h h') : BL h' b t xs := k.blk e
theorem BL.upd {h h' : H} {b t c : Nat} {xs : List Int} (e : BL h b t xs) (k : Upd h c h') (n : b ≠ c) : BL h' b t xs := k.blk e n
theorem St_B {h : H} {b t o : Nat} {xs : List Int} {v : Int} {K : H → Prop} (e : BL h b t xs) (ho : o < xs.length)
    (k : ∀ h', Upd h b h' → BL h' b t (xs.set o v) → K h') : St h ⟨b, o, none⟩ (.int .u8 v) K := by
  refine St_intro e (by simpa using ho) fun h' u e' => k h' u ?_
  unfold BL
  rw [e']
  congr 2
  simp [V8, List.map_set]
def splice (xs : List Int) (o : Nat) (ys : List Int) : List Int := xs.take o ++ ys ++ xs.drop (o + ys.length)
theorem splice_len {xs ys : List Int} {o : Nat} (h : o + ys.length ≤ xs.length) : (splice xs o ys).length = xs.length := by
  simp [splice]; omega
theorem splice_cons {xs ys : List Int} {o : Nat} {y : Int} (h : o < xs.length) : splice (xs.set o y) (o + 1) ys = splice xs o (y :: ys) := by
  unfold splice
  have e1 : (xs.set o y).take (o + 1) = xs.take o ++ [y] := by
    rw [List.take_set, List.take_add_one, List.getElem?_eq_getElem h]
    simp only [Option.toList]
    rw [List.set_append_right _ _ (by simp; omega)]
    simp [Nat.min_eq_left (Nat.le_of_lt h)]
  have e2 : (xs.set o y).drop (o + 1 + ys.length) = xs.drop (o + (y :: ys).length) := by
    rw [List.drop_set_of_lt (by omega)]; congr 1; simp; omega
  rw [e1, e2]; simp
theorem Upd.trans {h h' h'' : H} {b : Nat} (a : Upd h b h') (c : Upd h' b h'') : Upd h b h'' := ⟨c.1.trans a.1, fun i hi => (c.2 i hi).trans (a.2 i hi)⟩
theorem Upd.refl (h : H) (b : Nat) : Upd h b h := ⟨rfl, fun _ _ => rfl⟩
theorem hsetL_B {b t o : Nat} : ∀ (ys xs : List Int) (h : H) (i : Nat), BL h b t xs → o + i + ys.length ≤ xs.length →
    Upd h b (hsetL h ⟨b, o, none⟩ i (ys.map (Value.int .u8))) ∧ BL (hsetL h ⟨b, o, none⟩ i (ys.map (Value.int .u8))) b t (splice xs (o + i) ys) := by
  intro ys
  induction ys with
  | nil => intro xs h i e hl; exact ⟨Upd.refl h b, by simpa [splice, hsetL] using e⟩
  | cons y ys ih =>
    intro xs h i e hl
    simp only [List.length_cons] at hl
    have hs1 := hset_blk (o := o + i) (.int .u8 y) e
    have e' : BL (hset h ⟨b, o + i, none⟩ (.int .u8 y)) b t (xs.set (o + i) y) := by
      unfold BL; rw [hs1]; congr 2; simp [V8, List.map_set]
    obtain ⟨u, e2⟩ := ih (xs.set (o + i) y) (hset h ⟨b, o + i, none⟩ (.int .u8 y)) (i + 1) e' (by simp; omega)
    simp only [List.map_cons, hsetL, add_mk]
    refine ⟨(hset_upd h b (o + i) _).trans u, ?_⟩
    rw [← splice_cons (by omega)]
    exact e2

/-- A slice's bytes. -/
def SB (h : H) (s : Sl) (bs : List Int) : Prop := bs.length = s.len ∧ Reads h s.a (bs.map (Value.int .u8)) ∧ ∀ x ∈ bs, 0 ≤ x ∧ x < 256
theorem SB.kept {h h' : H} {s : Sl} {bs : List Int} (e : SB h s bs) (k : Kept h h') : SB h' s bs :=
  ⟨e.1, fun j v hv => by obtain ⟨ad, h1, h2⟩ := e.2.1 j v hv; exact ⟨ad, h1, k.cell h2⟩, e.2.2⟩
theorem SB.nil (h : H) : SB h ⟨none, 0, 0⟩ [] := ⟨rfl, fun j v hv => by simp at hv, by simp⟩
theorem SB.row {h : H} {b t n c : Nat} {xs : List Int} (e : BL h b t xs) (hn : n ≤ xs.length) (hr : ∀ x ∈ xs, 0 ≤ x ∧ x < 256) : SB h ⟨some ⟨b, 0, none⟩, n, c⟩ (xs.take n) := by
  refine ⟨by simp; omega, ?_, fun x hx => hr x (List.mem_of_mem_take hx)⟩
  intro j v hv
  refine ⟨_, rfl, ?_⟩
  simp only [add_mk, Nat.zero_add]
  simp only [List.getElem?_map] at hv
  cases hj : (xs.take n)[j]? with
  | none => rw [hj] at hv; simp at hv
  | some x =>
    rw [hj] at hv
    simp at hv
    subst hv
    have hjn : j < (xs.take n).length := (List.getElem?_eq_some_iff.1 hj).1
    have : xs[j]? = some x := by
      rw [List.getElem?_take] at hj
      split at hj
      · exact hj
      · simp at hj
    exact e.cell' this
theorem SB.idx {h : H} {s : Sl} {bs : List Int} (e : SB h s bs) {i : Nat} (hi : i < s.len) : ∃ ad, s.a = some ad ∧ hcell h (ad.add i) = some (.int .u8 (bs.getD i 0)) := by
  have : (bs.map (Value.int .u8))[i]? = some (.int .u8 (bs.getD i 0)) := by
    have : i < bs.length := by rw [e.1]; exact hi
    simp [this, List.getElem?_eq_getElem]
  exact e.2.1 i _ this
/-- From an argument. -/
theorem SB.of {h : H} {a : Option Addr} {l c : Nat} (o : Opn h (.slice (.int .u8)) [.slice a l c]) : ∃ bs, SB h ⟨a, l, c⟩ bs := by
  rcases o with o | ⟨x, l', c', o, hl, hm, hx⟩
  · simp only [List.cons.injEq, Value.slice.injEq, and_true] at o
    obtain ⟨rfl, rfl, rfl⟩ := o
    exact ⟨[], SB.nil h⟩
  · simp only [List.cons.injEq, Value.slice.injEq, and_true] at o
    obtain ⟨rfl, rfl, rfl⟩ := o
    have : ∀ i, ∃ z : Int, i < l → (0 ≤ z ∧ z < 256) ∧ hcell h (x.add i) = some (.int .u8 z) := by
      intro i
      by_cases hi : i < l
      · obtain ⟨es, h1, ⟨z, rfl, hw⟩, h3⟩ := hx i hi
        refine ⟨z, fun _ => ⟨wf_u8 hw, ?_⟩⟩
        have := h3 0 (.int .u8 z) rfl
        simpa [DTy.size] using this
      · exact ⟨0, fun hh => absurd hh hi⟩
    refine ⟨(List.range l).map fun i => Classical.choose (this i), by simp, ?_, ?_⟩
    · intro j v hv
      refine ⟨x, rfl, ?_⟩
      have hj : j < l := by have := (List.getElem?_eq_some_iff.1 hv).1; simpa using this
      rw [List.getElem?_map, List.getElem?_map, List.getElem?_range hj] at hv
      simp at hv
      rw [← hv]
      exact (Classical.choose_spec (this j) hj).2
    · intro z hz
      simp only [List.mem_map, List.mem_range] at hz
      obtain ⟨i, hi, rfl⟩ := hz
      exact (Classical.choose_spec (this i) hi).1

structure Mem (h : H) (bm bf n : Nat) (xs : List Int) : Prop where
  top : h[bm]? = some (.cells #[.slice (some ⟨bf, 0, none⟩) n n] 101)
  row : BL h bf 205 xs
  len : xs.length = n * 4096
  ne : bm ≠ bf
  le : n ≤ 256
  byte : ∀ x ∈ xs, 0 ≤ x ∧ x < 256
theorem Mem.kept {h h' : H} {bm bf n : Nat} {xs : List Int} (m : Mem h bm bf n xs) (k : Kept h h') : Mem h' bm bf n xs :=
  ⟨k.blk m.top, k.blk m.row, m.len, m.ne, m.le, m.byte⟩
theorem Mem.other {h h' : H} {bm bf n b : Nat} {xs : List Int} (m : Mem h bm bf n xs) (u : Upd h b h') (h1 : b ≠ bm) (h2 : b ≠ bf) : Mem h' bm bf n xs :=
  ⟨u.blk m.top (Ne.symm h1), u.blk m.row (Ne.symm h2), m.len, m.ne, m.le, m.byte⟩
theorem Mem.set {h h' : H} {bm bf n : Nat} {xs ys : List Int} (m : Mem h bm bf n xs) (u : Upd h bf h') (e : BL h' bf 205 ys) (hl : ys.length = xs.length) (hb : ∀ x ∈ ys, 0 ≤ x ∧ x < 256) : Mem h' bm bf n ys :=
  ⟨u.blk m.top m.ne, e, hl.trans m.len, m.ne, m.le, hb⟩

theorem zero205 : zeroC Try.prog 205 = Array.replicate 4096 (.int .u8 0) := by kernel_rfl
theorem zeros205 (n : Nat) : zerosC Try.prog 205 n = V8 (List.replicate (n * 4096) 0) := by
  unfold zerosC
  rw [zero205]
  apply Array.ext
  · simp
  · intro i h1 h2
    simp only [Array.getElem_map, Array.size_replicate]
    have : i % 4096 < 4096 := Nat.mod_lt _ (by omega)
    simp only [Array.getElem_range]
    rw [getElem!_pos _ _ (by simpa using this)]
    simp
theorem C61 {n : Nat} {Q : Option Addr → H → Prop} {h : H} (h1 : 1 ≤ n) (h2 : n ≤ 256)
    (q : ∀ bm bf h', Kept h h' → h.size ≤ bm → h.size ≤ bf → Mem h' bm bf n (List.replicate (n * 4096) 0) → Q (some ⟨bm, 0, none⟩) h') : F61 n Q h := by
  rw [F61_eq]
  refine Br_dec (fun hh => by omega) fun _ => Br_dec (fun hh => by omega) fun _ => ⟨⟨by omega, by omega, by simp; omega⟩, ?_⟩
  refine Nw_intro fun b h3 hb k e => ?_
  rw [show ((n : Int).toNat) = n from rfl, zeros205] at e
  refine Nw_intro fun b' h4 hb' k' e' => ?_
  have hlt : b < h3.size := (Array.getElem?_eq_some_iff.1 e).1
  exact q b' b h4 (k.trans k') (by have := k.1; omega) (by omega)
    ⟨e', k'.blk e, by simp, by omega, h2, fun x hx => by rw [List.eq_of_mem_replicate hx]; omega⟩

section
variable {h : H} {bm bf n : Nat} {xs : List Int}
theorem C93 {Q : Int → H → Prop} (m : Mem h bm bf n xs) (q : Q (n : Int) h) : F93 (some ⟨bm, 0, none⟩) Q h := by
  rw [F93_eq]
  refine Ld_s (x := ⟨some ⟨bf, 0, none⟩, n, n⟩) ?_ q
  simp only [add_mk]; rw [hcell_blk m.top]; rfl
theorem C155 {i : Int} {Q : Option Addr → H → Prop} (m : Mem h bm bf n xs) (q : ∀ j : Nat, i = (j : Int) → j < n → Q (some ⟨bf, j * 4096, none⟩) h) (q0 : ¬ (0 ≤ i ∧ i < n) → Q none h) :
    F155 (some ⟨bm, 0, none⟩) i Q h := by
  rw [F155_eq]
  refine Br_dec (fun hh => q0 (by omega)) fun h1 => C93 m (Br_dec (fun hh => q0 (by omega)) fun h2 => ?_)
  obtain ⟨j, rfl⟩ := Int.eq_ofNat_of_zero_le (show 0 ≤ i by omega)
  refine Ld_s (x := ⟨some ⟨bf, 0, none⟩, n, n⟩) ?_ ⟨⟨by omega, by simp; omega⟩, ?_⟩
  · simp only [add_mk]; rw [hcell_blk m.top]; rfl
  · have := q j rfl (by omega)
    simpa using this
theorem C84 {i p : Int} {Q : Int → Bool → H → Prop} (m : Mem h bm bf n xs)
    (q : ∀ j k : Nat, i = (j : Int) → p = (k : Int) → j < n → k < 4096 → Q (xs.getD (j * 4096 + k) 0) true h)
    (q0 : ¬ (0 ≤ i ∧ i < n ∧ 0 ≤ p ∧ p < 4096) → Q 0 false h) : F84 (some ⟨bm, 0, none⟩) i p Q h := by
  rw [F84_eq]
  refine C155 m (fun j hj hjn => ?_) fun hh => q0 (by omega)
  refine Br_dec (fun hh => q0 (by omega)) fun h1 => Br_dec (fun hh => q0 (by omega)) fun h2 => ?_
  obtain ⟨k, rfl⟩ := Int.eq_ofNat_of_zero_le (show 0 ≤ p by omega)
  refine ⟨⟨by omega, by omega⟩, ?_⟩
  have hk : k < 4096 := by omega
  have hl := m.len
  refine Ld_i (x := xs.getD (j * 4096 + k) 0) ?_ (q j k hj rfl hjn hk)
  simp only [add_mk, Int.toNat_natCast, Nat.mul_one, Nat.add_zero]
  exact m.row.cell (by rw [hl]; have : (j + 1) * 4096 ≤ n * 4096 := Nat.mul_le_mul_right _ hjn; omega)
theorem C74 {i p v : Int} {Q : Bool → H → Prop} (m : Mem h bm bf n xs) (hv : 0 ≤ v ∧ v < 256)
    (q : ∀ (j k : Nat) h', i = (j : Int) → p = (k : Int) → j < n → k < 4096 → Upd h bf h' → Mem h' bm bf n (xs.set (j * 4096 + k) v) → Q true h')
    (q0 : ¬ (0 ≤ i ∧ i < n ∧ 0 ≤ p ∧ p < 4096) → Q false h) : F74 (some ⟨bm, 0, none⟩) i p v Q h := by
  rw [F74_eq]
  refine C155 m (fun j hj hjn => ?_) fun hh => q0 (by omega)
  refine Br_dec (fun hh => q0 (by omega)) fun h1 => Br_dec (fun hh => q0 (by omega)) fun h2 => ?_
  obtain ⟨k, rfl⟩ := Int.eq_ofNat_of_zero_le (show 0 ≤ p by omega)
  refine ⟨⟨by omega, by omega⟩, ?_⟩
  have hk : k < 4096 := by omega
  have hl := m.len
  simp only [add_mk, Int.toNat_natCast, Nat.mul_one, Nat.add_zero]
  refine St_B m.row (by rw [hl]; have : (j + 1) * 4096 ≤ n * 4096 := Nat.mul_le_mul_right _ hjn; omega) fun h' u e => ?_
  refine q j k h' hj rfl hjn hk u (m.set u e (by simp) ?_)
  intro x hx
  rcases List.mem_or_eq_of_mem_set hx with hx | rfl
  · exact m.byte x hx
  · exact hv

def wordB (v : Int) : Nat → List Int
  | 0 => []
  | k + 1 => v % 256 :: wordB (v / 256) k
theorem wordB_len (v : Int) (k : Nat) : (wordB v k).length = k := by
  induction k generalizing v with
  | zero => rfl
  | succ k ih => simp [wordB, ih]
theorem wordB_byte (v : Int) (k : Nat) : ∀ x ∈ wordB v k, 0 ≤ x ∧ x < 256 := by
  induction k generalizing v with
  | zero => intro x hx; simp [wordB] at hx
  | succ k ih =>
    intro x hx
    simp only [wordB, List.mem_cons] at hx
    rcases hx with rfl | hx
    · omega
    · exact ih _ x hx

theorem C164 {i k : Int} {Q : Sl → H → Prop} (m : Mem h bm bf n xs)
    (q : ∀ j l : Nat, i = (j : Int) → k = (l : Int) → j < n → l < 512 → Q ⟨some ⟨bf, j * 4096 + 8 * l, none⟩, 8, 4096 - 8 * l⟩ h)
    (q0 : ¬ (0 ≤ i ∧ i < n ∧ 0 ≤ k ∧ k < 512) → Q ⟨none, 0, 0⟩ h) : F164 (some ⟨bm, 0, none⟩) i k Q h := by
  rw [F164_eq]
  refine C155 m (fun j hj hjn => ?_) fun hh => q0 (by omega)
  refine Br_dec (fun hh => q0 (by omega)) fun h1 => Br_dec (fun hh => q0 (by omega)) fun h2 => ?_
  obtain ⟨l, rfl⟩ := Int.eq_ofNat_of_zero_le (show 0 ≤ k by omega)
  have hk : l < 512 := by omega
  have e1 : IntKind.wrap .i64 (8 * (l : Int)) = ((8 * l : Nat) : Int) := by rw [wrap_i64' _ (by omega) (by omega)]; omega
  have e2 : IntKind.wrap .i64 (((8 * l : Nat) : Int) + 8) = ((8 * l + 8 : Nat) : Int) := by rw [wrap_i64' _ (by omega) (by omega)]; omega
  simp only [e1, e2]
  refine ⟨⟨by omega, by omega, by simp; omega⟩, ?_⟩
  have := q j l hj rfl hjn hk
  simp only [Int.toNat_natCast, show 8 * l + 8 - 8 * l = 8 by omega]
  have es : subA (some ⟨bf, j * 4096, none⟩) (8 * l) 4096 1 = some ⟨bf, j * 4096 + 8 * l, none⟩ := by
    unfold subA
    simp
    omega
  rw [es]; exact this

theorem C82 {i k v : Int} {Q : Bool → H → Prop} (m : Mem h bm bf n xs) (hv : 0 ≤ v ∧ v < 18446744073709551616)
    (q : ∀ (j l : Nat) h', i = (j : Int) → k = (l : Int) → j < n → l < 512 → Upd h bf h' → Mem h' bm bf n (splice xs (j * 4096 + 8 * l) (wordB v 8)) → Q true h')
    (q0 : ¬ (0 ≤ i ∧ i < n ∧ 0 ≤ k ∧ k < 512) → Q false h) : F82 (some ⟨bm, 0, none⟩) i k v Q h := by
  rw [F82_eq]
  refine C164 m (fun j l hj hl hjn hl5 => ?_) fun hh => q0 hh
  have hlen := m.len
  have hin : j * 4096 + 8 * l + 8 ≤ xs.length := by
    rw [hlen]; have : (j + 1) * 4096 ≤ n * 4096 := Nat.mul_le_mul_right _ hjn; omega
  simp only [Option.isNone_some, Br_false]
  refine Loop_intro (fun c z h' => ∃ (d : Nat), z.2.1 = (d : Int) ∧ c = 8 - d ∧ d ≤ 8 ∧ 0 ≤ z.1 ∧ z.1 < 18446744073709551616 ∧ Upd h bf h' ∧
    ∃ ys, ys.length = xs.length ∧ (∀ x ∈ ys, 0 ≤ x ∧ x < 256) ∧ BL h' bf 205 ys ∧ splice ys (j * 4096 + 8 * l + d) (wordB z.1 (8 - d)) = splice xs (j * 4096 + 8 * l) (wordB v 8)) 8
    ⟨0, rfl, rfl, by omega, hv.1, hv.2, Upd.refl h bf, xs, rfl, m.byte, m.row, rfl⟩ ?_
  rintro c ⟨acc, ii, u⟩ h' ⟨d, hd, hc, hd8, ha0, ha1, uu, ys, hyl, hyb, hB, hS⟩
  simp only at hd ha0 ha1 hS
  subst hd
  refine Br_dec ?_ ?_
  · intro hlt
    have hlt : d < 8 := by simp at hlt; omega
    refine ⟨⟨by simp, by simp; omega⟩, ?_⟩
    simp only [add_mk, Int.toNat_natCast, Nat.mul_one, Nat.add_zero]
    have ew : IntKind.wrap .u8 acc = acc % 256 := wrap_u8 acc
    rw [ew]
    refine St_B hB (by omega) fun h'' u'' e'' => ⟨by omega, ?_⟩
    have es : shR .u64 acc 8 = acc / 256 := by
      have := shR_nat (k := .u64) acc 8 (by simp [IntKind.bits]); simpa using this
    refine ⟨8 - (d + 1), by omega, d + 1, ?_, rfl, by omega, ?_, ?_, uu.trans u'', _, ?_, ?_, e'', ?_⟩
    · show IntKind.wrap .i64 ((d : Int) + 1) = _
      rw [wrap_i64' _ (by omega) (by omega)]; omega
    · show 0 ≤ shR .u64 acc 8; rw [es]; omega
    · show shR .u64 acc 8 < _; rw [es]; omega
    · simp [hyl]
    · intro x hx
      rcases List.mem_or_eq_of_mem_set hx with hx | rfl
      · exact hyb x hx
      · omega
    · show splice _ _ (wordB (shR .u64 acc 8) _) = _
      rw [es, ← hS]
      have : 8 - d = (8 - (d + 1)) + 1 := by omega
      rw [this, wordB, ← splice_cons (by omega)]
      rfl
  · intro hge
    have : d = 8 := by simp at hge; omega
    subst this
    have e0 : splice ys (j * 4096 + 8 * l + 8) (wordB acc (8 - 8)) = ys := by simp [splice, wordB]
    rw [e0] at hS
    subst hS
    exact q j l h' hj hl hjn hl5 uu (m.set uu hB hyl hyb)

theorem C62 {Q : Bool → H → Prop} {h : H} (q : ∀ h', Kept h h' → Q true h') : F62 Q h := by
  rw [F62_eq]
  refine C61 (n := 2) (by omega) (by omega) fun bm bf h1 k1 hbm hbf m => ?_
  refine C82 m (by omega) (fun j l h2 hj hl _ _ u m2 => ?_) fun hh => absurd hh (by omega)
  obtain rfl : j = 0 := by omega
  obtain rfl : l = 1 := by omega
  have e8 : ∀ p, (splice (List.replicate (2 * 4096) 0) (0 * 4096 + 8 * 1) (wordB 258 8)).getD (0 * 4096 + (8 + p)) 0 = (wordB 258 8 ++ (List.replicate (2 * 4096) 0).drop 16).getD p 0 := by
    intro p
    have : splice (List.replicate (2 * 4096) (0 : Int)) (0 * 4096 + 8 * 1) (wordB 258 8) = List.replicate 8 0 ++ (wordB 258 8 ++ (List.replicate (2 * 4096) 0).drop 16) := by
      unfold splice
      rw [List.append_assoc]; congr 1
    rw [this, List.getD_eq_getElem?_getD, List.getD_eq_getElem?_getD, List.getElem?_append_right (by simp)]
    congr 2; simp
  refine C84 m2 (fun j k hj hk _ _ => ?_) fun hh => absurd hh (by omega)
  obtain rfl : j = 0 := by omega
  obtain rfl : k = 8 + 0 := by omega
  rw [e8]
  refine C84 m2 (fun j k hj hk _ _ => ?_) fun hh => absurd hh (by omega)
  obtain rfl : j = 0 := by omega
  obtain rfl : k = 8 + 1 := by omega
  rw [e8]
  have x0 : (wordB 258 8 ++ (List.replicate (2 * 4096) (0 : Int)).drop 16).getD 0 0 = 2 := by rfl
  have x1 : (wordB 258 8 ++ (List.replicate (2 * 4096) (0 : Int)).drop 16).getD 1 0 = 1 := by rfl
  rw [x0, x1]
  exact C93 m2 (q h2 (u.kept k1 hbf))
end
end Go.Proofs.Ytfijchofplkcoaa
