/-
  The document's memory (pantryref01): a slice of slices of bytes; its making, reading and writing.
-/
import Derived.Test.YtfijchofplkcoaaDf
import Derived.Lib.Bytes
set_option linter.unusedVariables false
set_option linter.unusedSimpArgs false
set_option maxRecDepth 100000
namespace Go.Proofs.Ytfijchofplkcoaa

/-- All that was there stays but for some blocks. -/
def KL (h : H) (L : List Nat) (h' : H) : Prop := h.size ≤ h'.size ∧ ∀ i, i < h.size → i ∉ L → h'[i]? = h[i]?
theorem KL.blk {h h' : H} {L : List Nat} {c : Nat} {o : Obj} (u : KL h L h') (e : h[c]? = some o) (n : c ∉ L) : h'[c]? = some o := by
  rw [u.2 c (Array.getElem?_eq_some_iff.1 e).1 n, e]
theorem KL.refl (h : H) (L : List Nat) : KL h L h := ⟨Nat.le_refl _, fun _ _ _ => rfl⟩
theorem KL.trans {h h' h'' : H} {L : List Nat} (u : KL h L h') (v : KL h' L h'') : KL h L h'' :=
  ⟨Nat.le_trans u.1 v.1, fun i hi hn => (v.2 i (Nat.lt_of_lt_of_le hi u.1) hn).trans (u.2 i hi hn)⟩
theorem KL.mono {h h' : H} {L M : List Nat} (u : KL h L h') (s : ∀ b ∈ L, b ∈ M) : KL h M h' := ⟨u.1, fun i hi hn => u.2 i hi fun hm => hn (s i hm)⟩
theorem Kept.kl {h h' : H} {L : List Nat} (u : Kept h h') : KL h L h' := ⟨u.1, fun i hi _ => u.2 i hi⟩
theorem Upd.kl {h h' : H} {b : Nat} {L : List Nat} (u : Upd h b h') (hb : b ∈ L) : KL h L h' := ⟨Nat.le_of_eq u.1.symm, fun i _ hn => u.2 i fun e => hn (e ▸ hb)⟩
theorem KB.kl {h h' : H} {b : Nat} {L : List Nat} (u : KB h b h') (hb : b ∈ L) : KL h L h' := ⟨u.1, fun i hi hn => u.2 i hi fun e => hn (e ▸ hb)⟩
theorem KL.kept {h0 h h' : H} {L : List Nat} (u : KL h L h') (k : Kept h0 h) (hb : ∀ b ∈ L, h0.size ≤ b) : Kept h0 h' :=
  ⟨Nat.le_trans k.1 u.1, fun i hi => (u.2 i (Nat.lt_of_lt_of_le hi k.1) (fun hm => absurd (hb i hm) (by omega))).trans (k.2 i hi)⟩

theorem splice_getD {xs ys : List Int} {o : Nat} (h : o + ys.length ≤ xs.length) (t : Nat) : (splice xs o ys).getD t 0 = if o ≤ t ∧ t < o + ys.length then ys.getD (t - o) 0 else xs.getD t 0 := by
  rw [List.getD_eq_getElem?_getD, List.getD_eq_getElem?_getD, List.getD_eq_getElem?_getD]
  split
  · rename_i hh
    have := splice_in h (d := t - o) (by omega)
    rw [show o + (t - o) = t by omega] at this
    rw [this]
  · rename_i hh
    rw [splice_get h (by omega)]
theorem frame_getD {xs : List Int} {j k : Nat} (hk : k < 4096) : (frame xs j).getD k 0 = xs.getD (j * 4096 + k) 0 := by
  unfold frame
  rw [List.getD_eq_getElem?_getD, List.getD_eq_getElem?_getD, List.getElem?_take, if_pos hk, List.getElem?_drop]
theorem ext0 {xs ys : List Int} (hl : xs.length = ys.length) (h : ∀ k, k < xs.length → xs.getD k 0 = ys.getD k 0) : xs = ys := by
  apply List.ext_getElem hl
  intro i h1 h2
  have := h i h1
  rw [List.getD_eq_getElem?_getD, List.getD_eq_getElem?_getD, List.getElem?_eq_getElem h1, List.getElem?_eq_getElem h2] at this
  simpa using this
theorem set_getD (xs : List Int) (i k : Nat) (v : Int) (hi : i < xs.length) : (xs.set i v).getD k 0 = if i = k then v else xs.getD k 0 := by
  rw [List.getD_eq_getElem?_getD, List.getD_eq_getElem?_getD, List.getElem?_set]
  split
  · rename_i e; subst e; first | rfl | (rw [if_pos hi]; rfl)
  · rfl

structure RMem (h : H) (rm rt : Nat) (cs : List Nat) (n : Nat) (xs : List Int) : Prop where
  top : ∃ cap, h[rm]? = some (.cells #[.slice (some ⟨rt, 0, none⟩) n cap] 96)
  tab : ∃ vs : Array Value, h[rt]? = some (.cells vs 44) ∧ ∀ j, j < n → vs[j]? = some (.slice (some ⟨cs.getD j 0, 0, none⟩) 4096 4096)
  row : ∀ j, j < n → BL h (cs.getD j 0) 5 (frame xs j)
  len : xs.length = n * 4096
  csl : cs.length = n
  nd : cs.Nodup
  n1 : rm ∉ cs
  n2 : rt ∉ cs
  le : n ≤ 256
  byte : ∀ x ∈ xs, 0 ≤ x ∧ x < 256
theorem cs_mem {cs : List Nat} {j : Nat} (h : j < cs.length) : cs.getD j 0 ∈ cs := by
  rw [List.getD_eq_getElem?_getD, List.getElem?_eq_getElem h]; exact List.getElem_mem h
theorem cs_inj {cs : List Nat} (nd : cs.Nodup) {j k : Nat} (hj : j < cs.length) (hk : k < cs.length) (e : cs.getD j 0 = cs.getD k 0) : j = k := by
  rw [List.getD_eq_getElem?_getD, List.getElem?_eq_getElem hj, List.getD_eq_getElem?_getD, List.getElem?_eq_getElem hk] at e
  exact (List.getElem_inj nd).1 (by simpa using e)
section
variable {h : H} {rm rt n : Nat} {cs : List Nat} {xs : List Int}
theorem RMem.kept {h' : H} (m : RMem h rm rt cs n xs) (k : Kept h h') : RMem h' rm rt cs n xs := by
  obtain ⟨⟨cap, t⟩, ⟨vs, t1, t2⟩, row, a, b, c, d, e, f, g⟩ := m
  exact ⟨⟨cap, k.blk t⟩, ⟨vs, k.blk t1, t2⟩, fun j hj => k.blk (row j hj), a, b, c, d, e, f, g⟩
theorem RMem.kl {h' : H} {L : List Nat} (m : RMem h rm rt cs n xs) (k : KL h L h') (h1 : rm ∉ L) (h2 : rt ∉ L) (h3 : ∀ c ∈ cs, c ∉ L) : RMem h' rm rt cs n xs := by
  obtain ⟨⟨cap, t⟩, ⟨vs, t1, t2⟩, row, a, b, c, d, e, f, g⟩ := m
  exact ⟨⟨cap, k.blk t h1⟩, ⟨vs, k.blk t1 h2, t2⟩, fun j hj => k.blk (row j hj) (h3 _ (cs_mem (by omega))), a, b, c, d, e, f, g⟩
theorem RMem.in_ (m : RMem h rm rt cs n xs) {j : Nat} (hj : j < n) : j * 4096 + 4096 ≤ xs.length := by
  rw [m.len]; have : (j + 1) * 4096 ≤ n * 4096 := Nat.mul_le_mul_right _ hj; omega
/-- A frame changed. -/
theorem RMem.set {h' : H} {j : Nat} {ys : List Int} (m : RMem h rm rt cs n xs) (hj : j < n) (u : Upd h (cs.getD j 0) h') (e : BL h' (cs.getD j 0) 5 (frame ys j)) (hl : ys.length = xs.length) (hb : ∀ x ∈ ys, 0 ≤ x ∧ x < 256)
    (ho : ∀ t, (t < j * 4096 ∨ j * 4096 + 4096 ≤ t) → ys[t]? = xs[t]?) : RMem h' rm rt cs n ys := by
  have hm := cs_mem (cs := cs) (j := j) (by rw [m.csl]; exact hj)
  obtain ⟨⟨cap, t⟩, ⟨vs, t1, t2⟩, row, a, b, c, d, e', f, g⟩ := m
  refine ⟨⟨cap, u.blk t fun ee => d (ee ▸ hm)⟩, ⟨vs, u.blk t1 fun ee => e' (ee ▸ hm), t2⟩, fun k hk => ?_, hl.trans a, b, c, d, e', f, hb⟩
  by_cases ee : k = j
  · subst ee; exact e
  · rw [frame_other (j := j) (fun x => ee x.symm) ho]
    exact u.blk (row k hk) fun x => ee (cs_inj c (by omega) (by omega) x)
theorem RMem.c0 (m : RMem h rm rt cs n xs) : ∃ cap, hcell h ⟨rm, 0, none⟩ = some (.slice (some ⟨rt, 0, none⟩) n cap) := by
  obtain ⟨cap, t⟩ := m.top
  exact ⟨cap, by rw [hcell_blk t]; rfl⟩
theorem RMem.c1 (m : RMem h rm rt cs n xs) {j : Nat} (hj : j < n) : hcell h ⟨rt, j, none⟩ = some (.slice (some ⟨cs.getD j 0, 0, none⟩) 4096 4096) := by
  obtain ⟨vs, t1, t2⟩ := m.tab
  rw [hcell_blk t1]; exact t2 j hj
theorem RMem.fl (m : RMem h rm rt cs n xs) {j : Nat} (hj : j < n) : (frame xs j).length = 4096 := by
  have := m.in_ hj
  unfold frame; simp; omega
theorem RMem.c2 (m : RMem h rm rt cs n xs) {j k : Nat} (hj : j < n) (hk : k < 4096) : hcell h ⟨cs.getD j 0, k, none⟩ = some (.int .u8 (xs.getD (j * 4096 + k) 0)) := by
  rw [← frame_getD hk]; exact (m.row j hj).cell (by rw [m.fl hj]; exact hk)
theorem RMem.get (m : RMem h rm rt cs n xs) (t : Nat) : 0 ≤ xs.getD t 0 ∧ xs.getD t 0 < 256 := by
  rw [List.getD_eq_getElem?_getD]
  cases ht : xs[t]? with
  | none => simp
  | some x => exact m.byte x (List.mem_of_getElem? ht)
theorem Y170 {i : Int} {Q : Bool → H → Prop} (m : RMem h rm rt cs n xs) (q : Q (decide (0 ≤ i ∧ i < n)) h) : F170 (some ⟨rm, 0, none⟩) i Q h := by
  rw [F170_eq]
  obtain ⟨cap, c0⟩ := m.c0
  refine Br_dec (fun h0 => ?_) fun h0 => ?_
  · simp only [NilP, add_mk]
    refine Ld_s (x := ⟨some ⟨rt, 0, none⟩, n, cap⟩) c0 ?_
    have : decide (i < (n : Int)) = decide (0 ≤ i ∧ i < (n : Int)) := by
      by_cases hh : i < (n : Int)
      · rw [decide_eq_true hh, decide_eq_true ⟨by omega, hh⟩]
      · rw [decide_eq_false hh, decide_eq_false fun x => hh x.2]
    simp only
    rw [this]; exact q
  · rw [decide_eq_false fun x => h0 (by omega)] at q; exact q
theorem Y90 {i p : Int} {Q : Int → Bool → H → Prop} (m : RMem h rm rt cs n xs)
    (q : ∀ j k : Nat, i = (j : Int) → p = (k : Int) → j < n → k < 4096 → Q (xs.getD (j * 4096 + k) 0) true h)
    (q0 : ¬ (0 ≤ i ∧ i < n ∧ 0 ≤ p ∧ p < 4096) → Q 0 false h) : F90 (some ⟨rm, 0, none⟩) i p Q h := by
  rw [F90_eq]
  simp only [B90, JoinM]
  refine Y170 m ?_
  by_cases hi : 0 ≤ i ∧ i < (n : Int)
  · rw [decide_eq_true hi]
    refine Br_dec (fun hh => q0 (by omega)) fun h1 => Br_dec (fun hh => q0 (by omega)) fun h2 => ?_
    obtain ⟨j, rfl⟩ := Int.eq_ofNat_of_zero_le hi.1
    obtain ⟨k, rfl⟩ := Int.eq_ofNat_of_zero_le (show 0 ≤ p by omega)
    have hj : j < n := by omega
    have hk : k < 4096 := by omega
    obtain ⟨cap, c0⟩ := m.c0
    simp only [NilP, add_mk]
    refine Ld_s (x := ⟨some ⟨rt, 0, none⟩, n, cap⟩) c0 ⟨⟨by omega, by simp; omega⟩, ?_⟩
    simp only [add_mk, Int.toNat_natCast, Nat.mul_one, Nat.add_zero, Nat.zero_add]
    refine Ld_s (x := ⟨some ⟨cs.getD j 0, 0, none⟩, 4096, 4096⟩) (m.c1 hj) ⟨⟨by omega, by simp; omega⟩, ?_⟩
    simp only [add_mk, Int.toNat_natCast, Nat.mul_one, Nat.add_zero, Nat.zero_add]
    exact Ld_i (m.c2 hj hk) (q j k rfl rfl hj hk)
  · rw [decide_eq_false hi]
    exact q0 (by omega)
/-- A byte stored. -/
theorem RMem.St {j k : Nat} {v : Int} {K : H → Prop} (m : RMem h rm rt cs n xs) (hj : j < n) (hk : k < 4096) (hv : 0 ≤ v ∧ v < 256)
    (q : ∀ h', Upd h (cs.getD j 0) h' → RMem h' rm rt cs n (xs.set (j * 4096 + k) v) → K h') : St h ⟨cs.getD j 0, k, none⟩ (.int .u8 v) K := by
  refine St_B (m.row j hj) (by rw [m.fl hj]; exact hk) fun h' u e => q h' u (m.set hj u ?_ (by simp) ?_ fun t ht => ?_)
  · rw [frame_set hk]; exact e
  · intro x hx
    rcases List.mem_or_eq_of_mem_set hx with hx | rfl
    · exact m.byte x hx
    · exact hv
  · rw [List.getElem?_set_ne (by omega)]
theorem Y165 {i p v : Int} {Q : Bool → H → Prop} (m : RMem h rm rt cs n xs) (hv : 0 ≤ v ∧ v < 256)
    (q : ∀ (j k : Nat) h', i = (j : Int) → p = (k : Int) → j < n → k < 4096 → KL h cs h' → RMem h' rm rt cs n (xs.set (j * 4096 + k) v) → Q true h')
    (q0 : ¬ (0 ≤ i ∧ i < n ∧ 0 ≤ p ∧ p < 4096) → Q false h) : F165 (some ⟨rm, 0, none⟩) i p v Q h := by
  rw [F165_eq]
  refine Y90 m (fun j k hi hp hj hk => ?_) fun hh => q0 hh
  subst hi hp
  obtain ⟨cap, c0⟩ := m.c0
  simp only [NilP, add_mk, LetI, Br_true]
  refine Ld_s (x := ⟨some ⟨rt, 0, none⟩, n, cap⟩) c0 ⟨⟨by omega, by simp; omega⟩, ?_⟩
  simp only [add_mk, Int.toNat_natCast, Nat.mul_one, Nat.add_zero, Nat.zero_add]
  refine Ld_s (x := ⟨some ⟨cs.getD j 0, 0, none⟩, 4096, 4096⟩) (m.c1 hj) ⟨⟨by omega, by simp; omega⟩, ?_⟩
  simp only [add_mk, Int.toNat_natCast, Nat.mul_one, Nat.add_zero, Nat.zero_add]
  exact m.St hj hk hv fun h' u m' => q j k h' rfl rfl hj hk (u.kl (cs_mem (by rw [m.csl]; exact hj))) m'

/-- A number of the bytes, the lowest first. -/
def leV : List Int → Int
  | [] => 0
  | b :: r => b + 256 * leV r
theorem leV_bound : ∀ (l : List Int), (∀ x ∈ l, 0 ≤ x ∧ x < 256) → 0 ≤ leV l ∧ leV l < p256 l.length := by
  intro l
  induction l with
  | nil => intro _; exact ⟨Int.le_refl _, by decide⟩
  | cons b r ih =>
    intro h
    have hb := h b List.mem_cons_self
    have := ih fun x hx => h x (List.mem_cons_of_mem _ hx)
    simp only [leV, List.length_cons, p256]
    omega
theorem leV_wordB : ∀ (l : List Int), (∀ x ∈ l, 0 ≤ x ∧ x < 256) → wordB (leV l) l.length = l := by
  intro l
  induction l with
  | nil => intro _; rfl
  | cons b r ih =>
    intro h
    have hb := h b List.mem_cons_self
    have := ih fun x hx => h x (List.mem_cons_of_mem _ hx)
    simp only [leV, List.length_cons, wordB]
    rw [show (b + 256 * leV r) % 256 = b by omega, show (b + 256 * leV r) / 256 = leV r by omega, this]
theorem wordB_leV (v : Int) : ∀ k, 0 ≤ v → v < p256 k → leV (wordB v k) = v := by
  intro k
  induction k generalizing v with
  | zero => intro h1 h2; simp [p256] at h2; simp [wordB, leV]; omega
  | succ k ih =>
    intro h1 h2
    simp only [p256] at h2
    simp only [wordB, leV]
    rw [ih (v / 256) (by omega) (by omega)]; omega
/-- The word at an index of a frame. -/
def wd (xs : List Int) (j l : Nat) : Int := leV ((xs.drop (j * 4096 + 8 * l)).take 8)
theorem wd_bytes {xs : List Int} (hb : ∀ x ∈ xs, 0 ≤ x ∧ x < 256) {j l : Nat} (hin : j * 4096 + 8 * l + 8 ≤ xs.length) :
    (0 ≤ wd xs j l ∧ wd xs j l < 18446744073709551616) ∧ ∀ d, d < 8 → xs[j * 4096 + 8 * l + d]? = some (wd xs j l / p256 d % 256) := by
  have hb' : ∀ x ∈ (xs.drop (j * 4096 + 8 * l)).take 8, 0 ≤ x ∧ x < 256 := fun x hx => hb x (List.mem_of_mem_drop (List.mem_of_mem_take hx))
  have hl : ((xs.drop (j * 4096 + 8 * l)).take 8).length = 8 := by simp; omega
  have h1 := leV_bound _ hb'
  have h2 := leV_wordB _ hb'
  rw [hl] at h1 h2
  refine ⟨⟨h1.1, h1.2⟩, fun d hd => ?_⟩
  have h3 := wordB_get (wd xs j l) 8 d hd
  unfold wd at h3 ⊢
  rw [h2, List.getElem?_take, if_pos hd, List.getElem?_drop] at h3
  exact h3
/-- The program's Word. -/
theorem V83 {bm bf : Nat} {i k : Int} {Q : Int → Bool → H → Prop} (m : Mem h bm bf n xs)
    (q : ∀ (j l : Nat), i = (j : Int) → k = (l : Int) → j < n → l < 512 → Q (wd xs j l) true h)
    (q0 : ¬ (0 ≤ i ∧ i < n ∧ 0 ≤ k ∧ k < 512) → Q 0 false h) : F83 (some ⟨bm, 0, none⟩) i k Q h := by
  by_cases hin : 0 ≤ i ∧ i < n ∧ 0 ≤ k ∧ k < 512
  · obtain ⟨j, rfl⟩ := Int.eq_ofNat_of_zero_le hin.1
    obtain ⟨l, rfl⟩ := Int.eq_ofNat_of_zero_le hin.2.2.1
    have hj : j < n := by omega
    have hbig : j * 4096 + 8 * l + 8 ≤ xs.length := by
      rw [m.len]; have : (j + 1) * 4096 ≤ n * 4096 := Nat.mul_le_mul_right _ hj; omega
    obtain ⟨hv, hw⟩ := wd_bytes m.byte hbig
    refine C83 m hv (fun j' l' hj' hl' => ?_) hin (q j l rfl rfl hj (by omega))
    obtain rfl : j' = j := by omega
    obtain rfl : l' = l := by omega
    exact hw
  · rw [F83_eq]
    refine C164 m (fun j l hj hl hjn hl5 => absurd ⟨by omega, by omega, by omega, by omega⟩ hin) fun hh => ?_
    exact q0 hin
theorem Y91 {i k : Int} {Q : Int → Bool → H → Prop} (m : RMem h rm rt cs n xs)
    (q : ∀ (j l : Nat), i = (j : Int) → k = (l : Int) → j < n → l < 512 → Q (wd xs j l) true h)
    (q0 : ¬ (0 ≤ i ∧ i < n ∧ 0 ≤ k ∧ k < 512) → Q 0 false h) : F91 (some ⟨rm, 0, none⟩) i k Q h := by
  rw [F91_eq]
  simp only [B91, JoinM]
  refine Y170 m ?_
  by_cases hi : 0 ≤ i ∧ i < (n : Int)
  rotate_left
  · rw [decide_eq_false hi]
    exact q0 (by omega)
  rw [decide_eq_true hi]
  refine Br_dec (fun hh => q0 (by omega)) fun h1 => Br_dec (fun hh => q0 (by omega)) fun h2 => ?_
  obtain ⟨j, rfl⟩ := Int.eq_ofNat_of_zero_le hi.1
  obtain ⟨l, rfl⟩ := Int.eq_ofNat_of_zero_le (show 0 ≤ k by omega)
  have hj : j < n := by omega
  have hl : l < 512 := by omega
  have hbig : j * 4096 + 8 * l + 8 ≤ xs.length := by have := m.in_ hj; omega
  obtain ⟨hv, hw⟩ := wd_bytes m.byte hbig
  obtain ⟨cap, c0⟩ := m.c0
  have q := q j l rfl rfl hj hl
  generalize wd xs j l = v at *
  refine Loop_intro (σ := Int × Int × Unit) (x := (0, 7, ())) (fun c z h' => z.2.1 = (c : Int) - 1 ∧ c ≤ 8 ∧ z.1 = v / p256 c ∧ h' = h) 8 ⟨rfl, by omega, (p8 hv).symm, rfl⟩ ?_
  rintro c ⟨acc, ii, u⟩ h' ⟨hi, hc, ha, rfl⟩
  simp only at hi ha
  subst hi ha
  refine Br_dec (fun hge => ?_) fun hlt => ?_
  · have hc1 : 1 ≤ c := by simp at hge; omega
    obtain ⟨d, rfl⟩ : ∃ d, c = d + 1 := ⟨c - 1, by omega⟩
    have e1 : (((d + 1 : Nat) : Int) - 1) = (d : Int) := by omega
    have e2 : IntKind.wrap .i64 (IntKind.wrap .i64 (8 * (l : Int)) + (d : Int)) = ((8 * l + d : Nat) : Int) := by
      rw [wrap_i64' (8 * (l : Int)) (by omega) (by omega), wrap_i64' _ (by omega) (by omega)]; omega
    simp only [e1, NilP, add_mk, e2]
    refine Ld_s (x := ⟨some ⟨rt, 0, none⟩, n, cap⟩) c0 ⟨⟨by omega, by simp; omega⟩, ?_⟩
    simp only [add_mk, Int.toNat_natCast, Nat.mul_one, Nat.add_zero, Nat.zero_add]
    refine Ld_s (x := ⟨some ⟨cs.getD j 0, 0, none⟩, 4096, 4096⟩) (m.c1 hj) ⟨⟨by omega, by simp; omega⟩, ?_⟩
    simp only [add_mk, Int.toNat_natCast, Nat.mul_one, Nat.add_zero, Nat.zero_add]
    refine Ld_i (x := v / p256 d % 256) ?_ ?_
    · have := m.c2 (k := 8 * l + d) hj (by omega)
      rw [show j * 4096 + (8 * l + d) = j * 4096 + 8 * l + d by omega] at this
      have e3 : xs.getD (j * 4096 + 8 * l + d) 0 = v / p256 d % 256 := by rw [List.getD_eq_getElem?_getD, hw d (by omega)]; rfl
      rw [e3] at this
      exact this
    obtain ⟨b1, b2⟩ := div_bound hv d
    refine ⟨d, by omega, ?_, by omega, ?_, by trivial⟩
    · show IntKind.wrap .i64 ((d : Int) - 1) = _
      rw [wrap_i64' _ (by omega) (by omega)]
    · show IntKind.wrap .u64 (IntKind.wrap .u64 (v / p256 (d + 1) * 256) + IntKind.wrap .u64 (v / p256 d % 256)) = _
      have st := div_step v d
      have b3 : 0 ≤ v / p256 d % 256 ∧ v / p256 d % 256 < 256 := by omega
      rw [wrap_u64, wrap_u64, wrap_u64, ← st]
      omega
  · have : c = 0 := by simp at hlt; omega
    subst this
    have : v / p256 0 = v := by simp [p256]
    simp only [LetI, this]; exact q
theorem p256_two (d : Nat) : p256 d = ((2 ^ (8 * d) : Nat) : Int) := by
  induction d with
  | zero => rfl
  | succ d ih =>
    simp only [p256]
    rw [ih, show 8 * (d + 1) = 8 * d + 8 by omega, Nat.pow_add]; omega
theorem Y166 {i k v : Int} {Q : Bool → H → Prop} (m : RMem h rm rt cs n xs) (hv : 0 ≤ v ∧ v < 18446744073709551616)
    (q : ∀ (j l : Nat) h', i = (j : Int) → k = (l : Int) → j < n → l < 512 → KL h cs h' → RMem h' rm rt cs n (splice xs (j * 4096 + 8 * l) (wordB v 8)) → Q true h')
    (q0 : ¬ (0 ≤ i ∧ i < n ∧ 0 ≤ k ∧ k < 512) → Q false h) : F166 (some ⟨rm, 0, none⟩) i k v Q h := by
  rw [F166_eq]
  refine Y91 m (fun j l hi hk hj hl => ?_) fun hh => ?_
  rotate_left
  · simp only [LetI]
    refine Loop_intro (σ := Int × Unit) (x := (0, ())) (fun c z h' => h' = h) 0 rfl ?_
    rintro c z h' rfl
    exact q0 hh
  subst hi hk
  simp only [LetI, JoinM, Br_true]
  have hbig := m.in_ hj
  refine Loop_intro (σ := Int × Unit) (x := (0, ())) (fun c z h' => ∃ d : Nat, z.1 = (d : Int) ∧ c = 8 - d ∧ d ≤ 8 ∧ KL h cs h' ∧ ∃ ys, RMem h' rm rt cs n ys ∧ ys.length = xs.length ∧
      ∀ t, ys.getD t 0 = if j * 4096 + 8 * l ≤ t ∧ t < j * 4096 + 8 * l + d then v / p256 (t - (j * 4096 + 8 * l)) % 256 else xs.getD t 0) 8 ⟨0, rfl, rfl, by omega, KL.refl h cs, xs, m, rfl, fun t => by rw [if_neg (by omega)]⟩ ?_
  rintro c ⟨dd, u⟩ h1 ⟨d, hd, hc, hd8, K1, ys, m1, hyl, hy⟩
  simp only at hd
  subst hd
  refine Br_dec (fun hlt => ?_) fun hge => ?_
  · have hlt : d < 8 := by omega
    have e1 : IntKind.wrap .u64 (IntKind.wrap .i64 (8 * (d : Int))) = ((8 * d : Nat) : Int) := by rw [wrap_i64' _ (by omega) (by omega), wrap_u64]; omega
    have e2 : IntKind.wrap .i64 (IntKind.wrap .i64 (8 * (l : Int)) + (d : Int)) = ((8 * l + d : Nat) : Int) := by
      rw [wrap_i64' (8 * (l : Int)) (by omega) (by omega), wrap_i64' _ (by omega) (by omega)]; omega
    obtain ⟨cap, c0⟩ := m1.c0
    simp only [NilP, add_mk, e1, e2]
    refine Ld_s (x := ⟨some ⟨rt, 0, none⟩, n, cap⟩) c0 ⟨⟨by omega, by simp; omega⟩, ?_⟩
    simp only [add_mk, Int.toNat_natCast, Nat.mul_one, Nat.add_zero, Nat.zero_add]
    refine Ld_s (x := ⟨some ⟨cs.getD j 0, 0, none⟩, 4096, 4096⟩) (m1.c1 hj) ⟨by omega, ⟨by omega, by simp; omega⟩, ?_⟩
    simp only [add_mk, Int.toNat_natCast, Nat.mul_one, Nat.add_zero, Nat.zero_add]
    have e3 : IntKind.wrap .u8 (shR .u64 v ((8 * d : Nat) : Int)) = v / p256 d % 256 := by
      rw [shR_nat v (8 * d) (by simp [IntKind.bits]; omega), wrap_u8, p256_two]
    rw [e3]
    refine m1.St hj (by omega) (by omega) fun h2 u2 m2 => ?_
    refine ⟨8 - (d + 1), by omega, d + 1, by show IntKind.wrap .i64 ((d : Int) + 1) = _; rw [wrap_i64' _ (by omega) (by omega)]; omega, rfl, by omega, K1.trans (u2.kl (cs_mem (by rw [m.csl]; exact hj))), _, m2, by simpa using hyl, fun t => ?_⟩
    rw [set_getD _ _ _ _ (by omega)]
    by_cases ht : j * 4096 + (8 * l + d) = t
    · rw [if_pos ht, if_pos (by omega), show t - (j * 4096 + 8 * l) = d by omega]
    · rw [if_neg ht, hy]
      by_cases hh : j * 4096 + 8 * l ≤ t ∧ t < j * 4096 + 8 * l + d
      · rw [if_pos hh, if_pos (by omega)]
      · rw [if_neg hh, if_neg (by omega)]
  · have : d = 8 := by omega
    subst this
    have : ys = splice xs (j * 4096 + 8 * l) (wordB v 8) := by
      refine ext0 (by rw [splice_len (by rw [wordB_len]; omega)]; exact hyl) fun t _ => ?_
      rw [hy, splice_getD (by rw [wordB_len]; omega), wordB_len]
      split
      · rename_i hh
        rw [List.getD_eq_getElem?_getD, wordB_get v 8 _ (by omega)]; rfl
      · rfl
    subst this
    exact q j l h1 rfl rfl hj hl K1 m1
theorem Y169 {i : Int} {s : Sl} {bs : List Int} {Q : Bool → H → Prop} (m : RMem h rm rt cs n xs) (sb : ∀ h', KL h cs h' → SB h' s bs)
    (q : ∀ (j : Nat) h', i = (j : Int) → j < n → KL h cs h' → RMem h' rm rt cs n (splice xs (j * 4096) (fillB bs)) → Q true h')
    (q0 : ¬ (0 ≤ i ∧ i < n) → Q false h) : F169 (some ⟨rm, 0, none⟩) i s Q h := by
  rw [F169_eq]
  refine Y170 m ?_
  by_cases hi : 0 ≤ i ∧ i < (n : Int)
  rotate_left
  · rw [decide_eq_false hi]
    exact q0 hi
  rw [decide_eq_true hi]
  obtain ⟨j, rfl⟩ := Int.eq_ofNat_of_zero_le hi.1
  have hj : j < n := by omega
  have hbig := m.in_ hj
  have hmem : cs.getD j 0 ∈ cs := cs_mem (by rw [m.csl]; exact hj)
  simp only [Bool.not_true, Br_false]
  have fe : ∀ d, d < 4096 → (fillB bs).getD d 0 = if d < bs.length then bs.getD d 0 else 0 := by
    intro d hd
    unfold fillB
    rw [splice_getD (by simp; omega)]
    simp only [List.length_take, Nat.zero_le, true_and, Nat.zero_add, Nat.sub_zero]
    by_cases hh : d < bs.length
    · rw [if_pos (by omega), if_pos hh, List.getD_eq_getElem?_getD, List.getElem?_take, if_pos hd, List.getD_eq_getElem?_getD]
    · rw [if_neg (by omega), if_neg hh, List.getD_eq_getElem?_getD, List.getElem?_replicate]; split <;> rfl
  have bsl := (sb h (KL.refl h cs)).1
  have bsb := (sb h (KL.refl h cs)).2.2
  refine Loop_intro (σ := Int × Unit) (x := (0, ())) (fun c z h' => ∃ d : Nat, z.1 = (d : Int) ∧ c = 4096 - d ∧ d ≤ 4096 ∧ KL h cs h' ∧ ∃ ys, RMem h' rm rt cs n ys ∧ ys.length = xs.length ∧
      ∀ t, ys.getD t 0 = if j * 4096 ≤ t ∧ t < j * 4096 + d then (fillB bs).getD (t - j * 4096) 0 else xs.getD t 0) 4096 ⟨0, rfl, rfl, by omega, KL.refl h cs, xs, m, rfl, fun t => by rw [if_neg (by omega)]⟩ ?_
  rintro c ⟨dd, u⟩ h1 ⟨d, hd, hc, hd8, K1, ys, m1, hyl, hy⟩
  simp only at hd
  subst hd
  refine Br_dec (fun hlt => ?_) fun hge => ?_
  · have hlt : d < 4096 := by omega
    obtain ⟨cap, c0⟩ := m1.c0
    simp only [NilP, add_mk]
    refine Ld_s (x := ⟨some ⟨rt, 0, none⟩, n, cap⟩) c0 ⟨⟨by omega, by simp; omega⟩, ?_⟩
    simp only [add_mk, Int.toNat_natCast, Nat.mul_one, Nat.add_zero, Nat.zero_add]
    refine Ld_s (x := ⟨some ⟨cs.getD j 0, 0, none⟩, 4096, 4096⟩) (m1.c1 hj) ⟨⟨by omega, by simp; omega⟩, ?_⟩
    simp only [add_mk, Int.toNat_natCast, Nat.mul_one, Nat.add_zero, Nat.zero_add]
    refine m1.St hj hlt (by omega) fun h2 u2 m2 => ?_
    have K2 := K1.trans (u2.kl hmem)
    have nx : IntKind.wrap .i64 ((d : Int) + 1) = ((d + 1 : Nat) : Int) := by rw [wrap_i64' _ (by omega) (by omega)]; omega
    have fin : ∀ (h' : H) (zs : List Int), KL h cs h' → RMem h' rm rt cs n zs → zs.length = xs.length → (∀ t, zs.getD t 0 = if j * 4096 + d = t then (fillB bs).getD d 0 else ys.getD t 0) →
        ∃ k', k' < c ∧ ∃ d' : Nat, (IntKind.wrap .i64 ((d : Int) + 1)) = (d' : Int) ∧ k' = 4096 - d' ∧ d' ≤ 4096 ∧ KL h cs h' ∧ ∃ ys, RMem h' rm rt cs n ys ∧ ys.length = xs.length ∧
          ∀ t, ys.getD t 0 = if j * 4096 ≤ t ∧ t < j * 4096 + d' then (fillB bs).getD (t - j * 4096) 0 else xs.getD t 0 := by
      intro h' zs K' m' hzl hz
      refine ⟨4096 - (d + 1), by omega, d + 1, nx, rfl, by omega, K', zs, m', hzl, fun t => ?_⟩
      rw [hz]
      by_cases ht : j * 4096 + d = t
      · rw [if_pos ht, if_pos (by omega), show t - j * 4096 = d by omega]
      · rw [if_neg ht, hy]
        by_cases hh : j * 4096 ≤ t ∧ t < j * 4096 + d
        · rw [if_pos hh, if_pos (by omega)]
        · rw [if_neg hh, if_neg (by omega)]
    refine Br_dec (fun hs => ?_) fun hs => ?_
    · have hs' : d < s.len := by omega
      obtain ⟨cap2, c02⟩ := m2.c0
      refine Ld_s (x := ⟨some ⟨rt, 0, none⟩, n, cap2⟩) c02 ⟨⟨by omega, by simp; omega⟩, ?_⟩
      simp only [add_mk, Int.toNat_natCast, Nat.mul_one, Nat.add_zero, Nat.zero_add]
      refine Ld_s (x := ⟨some ⟨cs.getD j 0, 0, none⟩, 4096, 4096⟩) (m2.c1 hj) ?_
      obtain ⟨ad, had, hcell⟩ := (sb h2 K2).idx hs'
      simp only [had]
      refine ⟨⟨by omega, by omega⟩, ?_⟩
      refine Ld_i (x := bs.getD d 0) (by simpa [add_add] using hcell) ⟨⟨by omega, by simp; omega⟩, ?_⟩
      simp only [add_mk, Int.toNat_natCast, Nat.mul_one, Nat.add_zero, Nat.zero_add]
      have hb : 0 ≤ bs.getD d 0 ∧ bs.getD d 0 < 256 := by
        rw [List.getD_eq_getElem?_getD]
        cases ht : bs[d]? with
        | none => simp
        | some x => exact bsb x (List.mem_of_getElem? ht)
      refine m2.St hj hlt hb fun h3 u3 m3 => fin h3 _ (K2.trans (u3.kl hmem)) m3 (by simpa using hyl) fun t => ?_
      rw [set_getD _ _ _ _ (by simp; omega), set_getD _ _ _ _ (by omega), fe d hlt, if_pos (show d < bs.length by omega)]
      split <;> rfl
    · refine fin h2 _ K2 m2 (by simpa using hyl) fun t => ?_
      rw [set_getD _ _ _ _ (by omega), fe d hlt, if_neg (show ¬ d < bs.length by omega)]
  · have : d = 4096 := by omega
    subst this
    have : ys = splice xs (j * 4096) (fillB bs) := by
      refine ext0 (by rw [splice_len (by rw [fillB_len]; omega)]; exact hyl) fun t _ => ?_
      rw [hy, splice_getD (by rw [fillB_len]; omega), fillB_len]
    subst this
    exact q j h1 rfl hj K1 m1
theorem fillB_full {bs : List Int} (h : bs.length = 4096) : fillB bs = bs := by
  refine ext0 (by rw [fillB_len, h]) fun t ht => ?_
  rw [fillB_len] at ht
  unfold fillB
  rw [splice_getD (by rw [List.length_replicate, List.length_take]; omega), List.take_of_length_le (by omega), if_pos (by omega), Nat.sub_zero]
theorem Y94 {i : Int} {Q : Sl → H → Prop} (m : RMem h rm rt cs n xs)
    (q : ∀ (j c cap : Nat) (ys : List Int) h', i = (j : Int) → j < n → Kept h h' → h.size ≤ c → BL h' c 5 ys → ys.take 4096 = frame xs j → 4096 ≤ ys.length → (∀ x ∈ ys, 0 ≤ x ∧ x < 256) → Q ⟨some ⟨c, 0, none⟩, 4096, cap⟩ h')
    (q0 : ¬ (0 ≤ i ∧ i < n) → Q ⟨none, 0, 0⟩ h) : F94 (some ⟨rm, 0, none⟩) i Q h := by
  rw [F94_eq]
  refine Y170 m ?_
  by_cases hi : 0 ≤ i ∧ i < (n : Int)
  rotate_left
  · rw [decide_eq_false hi]
    exact q0 hi
  rw [decide_eq_true hi]
  obtain ⟨j, rfl⟩ := Int.eq_ofNat_of_zero_le hi.1
  have hj : j < n := by omega
  simp only [Bool.not_true, Br_false]
  refine Nw_intro fun a h2 ha k2 e2 => ?_
  have m2 := m.kept k2
  obtain ⟨cap, c0⟩ := m2.c0
  simp only [NilP, add_mk]
  refine Ld_s (x := ⟨some ⟨rt, 0, none⟩, n, cap⟩) c0 ⟨⟨by omega, by simp; omega⟩, ?_⟩
  simp only [add_mk, Int.toNat_natCast, Nat.mul_one, Nat.add_zero, Nat.zero_add]
  refine Ld_s (x := ⟨some ⟨cs.getD j 0, 0, none⟩, 4096, 4096⟩) (m2.c1 hj) ?_
  have fl := m.fl hj
  refine ⟨(frame xs j).map (Value.int .u8), ⟨by simp [fl], ?_, oneB _⟩, .inr ⟨by simp, by simp, [], ⟨rfl, fun j v hv => by simp at hv, by simp⟩, fun cap hcap => ?_⟩⟩
  · intro jj v hv
    refine ⟨_, rfl, ?_⟩
    rw [add_mk, Nat.zero_add]
    rw [List.getElem?_map] at hv
    cases hj2 : (frame xs j)[jj]? with
    | none => rw [hj2] at hv; simp at hv
    | some x =>
      rw [hj2] at hv
      simp at hv
      subst hv
      exact (m2.row j hj).cell' hj2
  · have e : (([] : List Value).toArray ++ ((frame xs j).map (Value.int .u8)).toArray ++ zerosC Try.prog 5 (cap - (0 + 4096))) = V8 (frame xs j ++ List.replicate (cap - (0 + 4096)) 0) := by
      rw [zeros5]; simp [V8]
    simp only at e ⊢
    rw [e]
    refine q j h2.size cap _ _ rfl hj (k2.trans (Kept.new h2 _ _)) k2.1 (new_blk h2 _ _) ?_ (by simp [fl]) ?_
    · rw [List.take_append_of_le_length (by omega), List.take_of_length_le (by omega)]
    · intro x hx
      simp only [List.mem_append] at hx
      rcases hx with hx | hx
      · exact m.byte x (List.mem_of_mem_drop (List.mem_of_mem_take hx))
      · have := List.eq_of_mem_replicate hx; omega
theorem Y168 {a b : Int} {Q : Bool → H → Prop} (m : RMem h rm rt cs n xs) (hcs : ∀ c ∈ cs, c < h.size)
    (q : ∀ (j k : Nat) h', a = (j : Int) → b = (k : Int) → j < n → k < n → KL h cs h' → RMem h' rm rt cs n (splice xs (j * 4096) (frame xs k)) → Q true h')
    (q0 : ¬ (0 ≤ a ∧ a < n ∧ 0 ≤ b ∧ b < n) → Q false h) : F168 (some ⟨rm, 0, none⟩) a b Q h := by
  rw [F168_eq]
  refine Y170 m ?_
  by_cases ha : 0 ≤ a ∧ a < (n : Int)
  rotate_left
  · rw [decide_eq_false ha]
    exact q0 (by omega)
  rw [decide_eq_true ha]
  simp only [Br_true]
  refine Y170 m ?_
  by_cases hb : 0 ≤ b ∧ b < (n : Int)
  rotate_left
  · rw [decide_eq_false hb]
    exact q0 (by omega)
  rw [decide_eq_true hb]
  simp only [Br_true]
  refine Y94 m (fun k c cap ys h2 hk hkn k2 hc B2 hy hyl hyb => ?_) fun hh => absurd hb hh
  refine Y169 (bs := ys.take 4096) (m.kept k2) (fun h' k' => ?_) (fun j h3 hj hjn k3 m3 => ?_) fun hh => absurd ha hh
  · exact SB.frame (k'.blk B2 fun hm => absurd (hcs c hm) (by omega)) hyl hyb cap
  · rw [hy, fillB_full (m.fl hkn)] at m3
    exact q j k h3 hj hk hjn hkn (k2.kl.trans k3) m3
theorem bytes_beq : ∀ (xs ys : List Int), (∀ x ∈ xs, 0 ≤ x ∧ x < 256) → (∀ x ∈ ys, 0 ≤ x ∧ x < 256) → (((strOfNums xs).toList == (strOfNums ys).toList) = (xs == ys)) := by
  intro xs ys h1 h2
  rw [Go.Lib.strOfNums_toList, Go.Lib.strOfNums_toList]
  have inj : ∀ (xs ys : List Int), (∀ x ∈ xs, 0 ≤ x ∧ x < 256) → (∀ x ∈ ys, 0 ≤ x ∧ x < 256) → (xs.map fun n => UInt8.ofNat n.toNat) = (ys.map fun n => UInt8.ofNat n.toNat) → xs = ys := by
    intro xs
    induction xs with
    | nil => intro ys _ _ h; cases ys <;> simp at h ⊢
    | cons x xs ih =>
      intro ys h1 h2 h
      cases ys with
      | nil => simp at h
      | cons y ys =>
        simp only [List.map_cons, List.cons.injEq] at h
        have hx := h1 x List.mem_cons_self
        have hy := h2 y List.mem_cons_self
        have e := congrArg UInt8.toNat h.1
        simp only [UInt8.toNat_ofNat'] at e
        rw [ih ys (fun z hz => h1 z (List.mem_cons_of_mem _ hz)) (fun z hz => h2 z (List.mem_cons_of_mem _ hz)) h.2]
        congr 1
        omega
  by_cases e : xs = ys
  · subst e; simp
  · have : (xs == ys) = false := by simpa using e
    rw [this]
    have hne : ¬ Go.Lib.bytesOf xs = Go.Lib.bytesOf ys := fun hh => e (inj xs ys h1 h2 hh)
    simpa using hne
theorem Y92 {a b : Int} {Q : Bool → H → Prop} (m : RMem h rm rt cs n xs)
    (q : ∀ (j k : Nat), a = (j : Int) → b = (k : Int) → j < n → k < n → Q (frame xs j == frame xs k) h)
    (q0 : ¬ (0 ≤ a ∧ a < n ∧ 0 ≤ b ∧ b < n) → Q false h) : F92 (some ⟨rm, 0, none⟩) a b Q h := by
  rw [F92_eq]
  refine ⟨(decide (0 ≤ a ∧ a < (n : Int)), ()), Y170 m ⟨rfl, rfl⟩, ?_⟩
  by_cases ha : 0 ≤ a ∧ a < (n : Int)
  rotate_left
  · simp only [decide_eq_false ha, Br_false]
    exact q0 (by omega)
  simp only [decide_eq_true ha, Br_true]
  refine ⟨(decide (0 ≤ b ∧ b < (n : Int)), ()), Y170 m ⟨rfl, rfl⟩, ?_⟩
  by_cases hb : 0 ≤ b ∧ b < (n : Int)
  rotate_left
  · simp only [decide_eq_false hb, Br_false]
    exact q0 (by omega)
  simp only [decide_eq_true hb, Br_true]
  obtain ⟨j, rfl⟩ := Int.eq_ofNat_of_zero_le ha.1
  obtain ⟨k, rfl⟩ := Int.eq_ofNat_of_zero_le hb.1
  have hj : j < n := by omega
  have hk : k < n := by omega
  obtain ⟨cap, c0⟩ := m.c0
  have rd : ∀ j, j < n → Reads h (some ⟨cs.getD j 0, 0, none⟩) ((frame xs j).map (Value.int .u8)) := by
    intro j hj jj v hv
    refine ⟨_, rfl, ?_⟩
    rw [add_mk, Nat.zero_add]
    rw [List.getElem?_map] at hv
    cases hj2 : (frame xs j)[jj]? with
    | none => rw [hj2] at hv; simp at hv
    | some x =>
      rw [hj2] at hv
      simp at hv
      subst hv
      exact (m.row j hj).cell' hj2
  have fb : ∀ j, ∀ x ∈ frame xs j, 0 ≤ x ∧ x < 256 := fun j x hx => m.byte x (List.mem_of_mem_drop (List.mem_of_mem_take hx))
  simp only [NilP, add_mk]
  refine Ld_s (x := ⟨some ⟨rt, 0, none⟩, n, cap⟩) c0 ⟨⟨by omega, by simp; omega⟩, ?_⟩
  simp only [add_mk, Int.toNat_natCast, Nat.mul_one, Nat.add_zero, Nat.zero_add]
  refine Ld_s (x := ⟨some ⟨cs.getD j 0, 0, none⟩, 4096, 4096⟩) (m.c1 hj) ⟨frame xs j, ⟨m.fl hj, rd j hj⟩, ?_⟩
  refine Ld_s (x := ⟨some ⟨rt, 0, none⟩, n, cap⟩) c0 ⟨⟨by omega, by simp; omega⟩, ?_⟩
  simp only [add_mk, Int.toNat_natCast, Nat.mul_one, Nat.add_zero, Nat.zero_add]
  refine Ld_s (x := ⟨some ⟨cs.getD k 0, 0, none⟩, 4096, 4096⟩) (m.c1 hk) ⟨frame xs k, ⟨m.fl hk, rd k hk⟩, ?_⟩
  rw [bytes_beq _ _ (fb j) (fb k)]
  exact q j k rfl rfl hj hk
end
end Go.Proofs.Ytfijchofplkcoaa
