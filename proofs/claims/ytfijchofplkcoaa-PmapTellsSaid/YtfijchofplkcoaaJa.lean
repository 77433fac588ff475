/-
  A memory as words: both the program's and the document's; reading, setting and clearing words.
-/
import Derived.Test.YtfijchofplkcoaaDi
import Derived.Test.YtfijchofplkcoaaCe
set_option linter.unusedVariables false
set_option linter.unusedSimpArgs false
set_option maxRecDepth 100000
namespace Go.Proofs.Ytfijchofplkcoaa

def bytesW : List Int → List Int
  | [] => []
  | w :: r => wordB w 8 ++ bytesW r
theorem bytesW_len (ws : List Int) : (bytesW ws).length = 8 * ws.length := by
  induction ws with
  | nil => rfl
  | cons w r ih => simp only [bytesW, List.length_append, wordB_len, List.length_cons, ih]; omega
theorem bytesW_byte (ws : List Int) : ∀ x ∈ bytesW ws, 0 ≤ x ∧ x < 256 := by
  induction ws with
  | nil => intro x hx; simp [bytesW] at hx
  | cons w r ih =>
    intro x hx
    simp only [bytesW, List.mem_append] at hx
    rcases hx with hx | hx
    · exact wordB_byte w 8 x hx
    · exact ih x hx
theorem bytesW_getD : ∀ (ws : List Int) (i d : Nat), d < 8 → i < ws.length → (bytesW ws).getD (8 * i + d) 0 = ws.getD i 0 / p256 d % 256 := by
  intro ws
  induction ws with
  | nil => intro i d _ hi; simp at hi
  | cons w r ih =>
    intro i d hd hi
    cases i with
    | zero =>
      rw [List.getD_eq_getElem?_getD]
      simp only [bytesW, Nat.mul_zero, Nat.zero_add]
      rw [List.getElem?_append_left (by rw [wordB_len]; exact hd), wordB_get w 8 d hd]; rfl
    | succ i =>
      have := ih i d hd (by simpa using hi)
      rw [List.getD_eq_getElem?_getD] at this ⊢
      simp only [bytesW]
      rw [List.getElem?_append_right (by rw [wordB_len]; omega), wordB_len, show 8 * (i + 1) + d - 8 = 8 * i + d by omega, this]
      simp
theorem drop8 (ws : List Int) (i : Nat) (hi : i < ws.length) : ((bytesW ws).drop (8 * i)).take 8 = wordB (ws.getD i 0) 8 := by
  refine ext0 (by rw [wordB_len, List.length_take, List.length_drop, bytesW_len]; omega) fun t ht => ?_
  have ht : t < 8 := by rw [List.length_take] at ht; omega
  have := bytesW_getD ws i t ht hi
  rw [List.getD_eq_getElem?_getD] at this
  rw [List.getD_eq_getElem?_getD, List.getD_eq_getElem?_getD, List.getElem?_take, if_pos ht, List.getElem?_drop, this, wordB_get _ 8 t ht]; rfl
theorem wd_bytesW {ws : List Int} (hw : ∀ w ∈ ws, 0 ≤ w ∧ w < 18446744073709551616) {j l : Nat} (hi : j * 512 + l < ws.length) : wd (bytesW ws) j l = ws.getD (j * 512 + l) 0 := by
  unfold wd
  rw [show j * 4096 + 8 * l = 8 * (j * 512 + l) by omega, drop8 _ _ hi]
  have hm : ws.getD (j * 512 + l) 0 ∈ ws := by
    rw [List.getD_eq_getElem?_getD, List.getElem?_eq_getElem hi]; exact List.getElem_mem hi
  have := hw _ hm
  exact wordB_leV _ 8 this.1 (by have : p256 8 = 18446744073709551616 := by decide
                                 omega)
theorem bytesW_set {ws : List Int} {j l : Nat} {v : Int} (hi : j * 512 + l < ws.length) : splice (bytesW ws) (j * 4096 + 8 * l) (wordB v 8) = bytesW (ws.set (j * 512 + l) v) := by
  have hl := bytesW_len ws
  have hl' := bytesW_len (ws.set (j * 512 + l) v)
  rw [List.length_set] at hl'
  refine ext0 (by rw [splice_len (by rw [wordB_len]; omega), hl, hl']) fun t ht => ?_
  rw [splice_len (by rw [wordB_len]; omega), hl] at ht
  rw [splice_getD (by rw [wordB_len]; omega), wordB_len]
  obtain ⟨i, d, hd, rfl⟩ : ∃ i d, d < 8 ∧ t = 8 * i + d := ⟨t / 8, t % 8, Nat.mod_lt _ (by omega), by omega⟩
  rw [bytesW_getD ws i d hd (by omega), bytesW_getD (ws.set _ _) i d hd (by rw [List.length_set]; omega), set_getD _ _ _ _ hi]
  by_cases e : j * 512 + l = i
  · rw [if_pos (by omega), if_pos e, List.getD_eq_getElem?_getD, show 8 * i + d - (j * 4096 + 8 * l) = d by omega, wordB_get v 8 d hd]; rfl
  · rw [if_neg (by omega), if_neg e]
def zeroW (ws : List Int) (j : Nat) : List Int := splice ws (j * 512) (List.replicate 512 0)
theorem rep_getD (n t : Nat) : (List.replicate n (0 : Int)).getD t 0 = 0 := by
  rw [List.getD_eq_getElem?_getD, List.getElem?_replicate]; split <;> rfl
theorem zeroW_len {ws : List Int} {j : Nat} (h : j * 512 + 512 ≤ ws.length) : (zeroW ws j).length = ws.length := by
  unfold zeroW; rw [splice_len (by rw [List.length_replicate]; exact h)]
theorem zeroW_getD {ws : List Int} {j : Nat} (h : j * 512 + 512 ≤ ws.length) (t : Nat) : (zeroW ws j).getD t 0 = if j * 512 ≤ t ∧ t < j * 512 + 512 then 0 else ws.getD t 0 := by
  unfold zeroW
  rw [splice_getD (by rw [List.length_replicate]; exact h), List.length_replicate]
  split
  · rw [rep_getD]
  · rfl
theorem fill0 (t : Nat) : (fillB []).getD t 0 = 0 := by
  unfold fillB
  rw [splice_getD (by rw [List.length_replicate]; simp)]
  split
  · rename_i hh; simp at hh
  · rw [rep_getD]
theorem bytesW_zero {ws : List Int} {j : Nat} (h : j * 512 + 512 ≤ ws.length) : splice (bytesW ws) (j * 4096) (fillB []) = bytesW (zeroW ws j) := by
  have hl := bytesW_len ws
  have hl' := bytesW_len (zeroW ws j)
  rw [zeroW_len h] at hl'
  refine ext0 (by rw [splice_len (by rw [fillB_len]; omega), hl, hl']) fun t ht => ?_
  rw [splice_len (by rw [fillB_len]; omega), hl] at ht
  rw [splice_getD (by rw [fillB_len]; omega), fillB_len]
  obtain ⟨i, d, hd, rfl⟩ : ∃ i d, d < 8 ∧ t = 8 * i + d := ⟨t / 8, t % 8, Nat.mod_lt _ (by omega), by omega⟩
  rw [bytesW_getD ws i d hd (by omega), bytesW_getD (zeroW ws j) i d hd (by rw [zeroW_len h]; omega), zeroW_getD h]
  by_cases e : j * 512 ≤ i ∧ i < j * 512 + 512
  · rw [if_pos (by omega), if_pos e, fill0]
    have : (0 : Int) / p256 d = 0 := Int.zero_ediv _
    rw [this]; rfl
  · rw [if_neg (by omega), if_neg e]
theorem bytesW_rep (n : Nat) : bytesW (List.replicate n 0) = List.replicate (8 * n) 0 := by
  induction n with
  | zero => rfl
  | succ n ih =>
    rw [List.replicate_succ]
    simp only [bytesW]
    rw [ih, show wordB 0 8 = List.replicate 8 0 by decide, List.replicate_append_replicate]; congr 1; omega
theorem set_range {ws : List Int} {i : Nat} {v : Int} (hw : ∀ w ∈ ws, 0 ≤ w ∧ w < 18446744073709551616) (hv : 0 ≤ v ∧ v < 18446744073709551616) : ∀ w ∈ ws.set i v, 0 ≤ w ∧ w < 18446744073709551616 := by
  intro w h
  rcases List.mem_or_eq_of_mem_set h with h | rfl
  · exact hw w h
  · exact hv
theorem zero_range {ws : List Int} {j : Nat} (hw : ∀ w ∈ ws, 0 ≤ w ∧ w < 18446744073709551616) : ∀ w ∈ zeroW ws j, 0 ≤ w ∧ w < 18446744073709551616 := by
  intro w h
  unfold zeroW splice at h
  simp only [List.mem_append] at h
  rcases h with (h | h) | h
  · exact hw w (List.mem_of_mem_take h)
  · have := List.eq_of_mem_replicate h; omega
  · exact hw w (List.mem_of_mem_drop h)

/-- Words as they should be. -/
structure OkW (n : Nat) (ws : List Int) : Prop where
  len : ws.length = n * 512
  rng : ∀ w ∈ ws, 0 ≤ w ∧ w < 18446744073709551616
  le : n ≤ 256
theorem OkW.in_ {n : Nat} {ws : List Int} (o : OkW n ws) {j l : Nat} (hj : j < n) (hl : l < 512) : j * 512 + l < ws.length := by
  rw [o.len]; have : (j + 1) * 512 ≤ n * 512 := Nat.mul_le_mul_right _ hj; omega
theorem OkW.big {n : Nat} {ws : List Int} (o : OkW n ws) {j : Nat} (hj : j < n) : j * 512 + 512 ≤ ws.length := by
  rw [o.len]; have : (j + 1) * 512 ≤ n * 512 := Nat.mul_le_mul_right _ hj; omega
theorem OkW.set {n : Nat} {ws : List Int} (o : OkW n ws) (i : Nat) {v : Int} (hv : 0 ≤ v ∧ v < 18446744073709551616) : OkW n (ws.set i v) := ⟨by rw [List.length_set]; exact o.len, set_range o.rng hv, o.le⟩
theorem OkW.zero {n : Nat} {ws : List Int} (o : OkW n ws) {j : Nat} (hj : j < n) : OkW n (zeroW ws j) := ⟨by rw [zeroW_len (o.big hj)]; exact o.len, zero_range o.rng, o.le⟩
theorem OkW.get {n : Nat} {ws : List Int} (o : OkW n ws) (t : Nat) : 0 ≤ ws.getD t 0 ∧ ws.getD t 0 < 18446744073709551616 := by
  rw [List.getD_eq_getElem?_getD]
  cases ht : ws[t]? with
  | none => simp
  | some x => exact o.rng x (List.mem_of_getElem? ht)
structure MW (h : H) (bm bf n : Nat) (ws : List Int) : Prop where
  mem : Mem h bm bf n (bytesW ws)
  ok : OkW n ws
structure RW (h : H) (rm rt : Nat) (cs : List Nat) (n : Nat) (ws : List Int) : Prop where
  mem : RMem h rm rt cs n (bytesW ws)
  ok : OkW n ws
/-- The word at an index of a frame. -/
def wat (ws : List Int) (j l : Nat) : Int := ws.getD (j * 512 + l) 0
/-- What Word answers. -/
def wordF (n : Nat) (ws : List Int) (i k : Int) : Int × Bool := if 0 ≤ i ∧ i < n ∧ 0 ≤ k ∧ k < 512 then (wat ws i.toNat k.toNat, true) else (0, false)
/-- What SetWord makes. -/
def setF (n : Nat) (ws : List Int) (i k v : Int) : List Int := if 0 ≤ i ∧ i < n ∧ 0 ≤ k ∧ k < 512 then ws.set (i.toNat * 512 + k.toNat) v else ws
theorem wordF_range {n : Nat} {ws : List Int} (o : OkW n ws) (i k : Int) : 0 ≤ (wordF n ws i k).1 ∧ (wordF n ws i k).1 < 18446744073709551616 := by
  unfold wordF
  split
  · exact o.get _
  · simp
theorem setF_ok {n : Nat} {ws : List Int} (o : OkW n ws) {i k v : Int} (hv : 0 ≤ v ∧ v < 18446744073709551616) : OkW n (setF n ws i k v) := by
  unfold setF
  split
  · exact o.set _ hv
  · exact o
theorem wat_set {n : Nat} {ws : List Int} (o : OkW n ws) {j l j' l' : Nat} {v : Int} (hj : j < n) (hl : l < 512) (hl' : l' < 512) : wat (ws.set (j * 512 + l) v) j' l' = if j = j' ∧ l = l' then v else wat ws j' l' := by
  unfold wat
  rw [set_getD _ _ _ _ (o.in_ hj hl)]
  by_cases e : j = j' ∧ l = l'
  · rw [if_pos e, if_pos (by omega)]
  · rw [if_neg e, if_neg (by omega)]
theorem wat_zero {n : Nat} {ws : List Int} (o : OkW n ws) {j j' l' : Nat} (hj : j < n) (hl' : l' < 512) : wat (zeroW ws j) j' l' = if j = j' then 0 else wat ws j' l' := by
  unfold wat
  rw [zeroW_getD (o.big hj)]
  by_cases e : j = j'
  · rw [if_pos e, if_pos (by omega)]
  · rw [if_neg e, if_neg (by omega)]
section
variable {h : H} {bm bf n : Nat} {ws : List Int}
theorem MW.kept {h' : H} (m : MW h bm bf n ws) (k : Kept h h') : MW h' bm bf n ws := ⟨m.mem.kept k, m.ok⟩
theorem MW.kl {h' : H} {L : List Nat} (m : MW h bm bf n ws) (k : KL h L h') (h1 : bm ∉ L) (h2 : bf ∉ L) : MW h' bm bf n ws := ⟨m.mem.kl k h1 h2, m.ok⟩
theorem MW.lt (m : MW h bm bf n ws) : bm < h.size ∧ bf < h.size := ⟨(Array.getElem?_eq_some_iff.1 m.mem.top).1, (Array.getElem?_eq_some_iff.1 (show h[bf]? = some _ from m.mem.row)).1⟩
theorem M83 {i k : Int} {Q : Int → Bool → H → Prop} (m : MW h bm bf n ws) (q : Q (wordF n ws i k).1 (wordF n ws i k).2 h) : F83 (some ⟨bm, 0, none⟩) i k Q h := by
  unfold wordF at q
  refine V83 m.mem (fun j l hj hk hjn hl => ?_) fun hh => ?_
  · subst hj hk
    rw [if_pos (by omega)] at q
    rw [wd_bytesW m.ok.rng (m.ok.in_ hjn hl)]; exact q
  · rw [if_neg hh] at q; exact q
theorem M82 {i k v : Int} {Q : Bool → H → Prop} (m : MW h bm bf n ws) (hv : 0 ≤ v ∧ v < 18446744073709551616) (q : ∀ h', KB h bf h' → MW h' bm bf n (setF n ws i k v) → Q (wordF n ws i k).2 h') : F82 (some ⟨bm, 0, none⟩) i k v Q h := by
  unfold wordF setF at q
  refine C82 m.mem hv (fun j l h' hj hk hjn hl u m' => ?_) fun hh => ?_
  · subst hj hk
    rw [if_pos (by omega), if_pos (by omega)] at q
    rw [bytesW_set (m.ok.in_ hjn hl)] at m'
    exact q h' u.kb ⟨m', m.ok.set _ hv⟩
  · rw [if_neg hh, if_neg hh] at q; exact q h (Kept.refl h).kb m
theorem M87 {i : Int} {Q : Bool → H → Prop} (m : MW h bm bf n ws) (q : ∀ (j : Nat) h', i = (j : Int) → j < n → KB h bf h' → MW h' bm bf n (zeroW ws j) → Q true h') (q0 : ¬ (0 ≤ i ∧ i < n) → Q false h) : F87 (some ⟨bm, 0, none⟩) i Q h := by
  refine C87 m.mem (fun j h' hj hjn u m' => ?_) q0
  rw [bytesW_zero (m.ok.big hjn)] at m'
  exact q j h' hj hjn u ⟨m', m.ok.zero hjn⟩
theorem M61 {n : Nat} {Q : Option Addr → H → Prop} (h1 : 1 ≤ n) (h2 : n ≤ 256)
    (q : ∀ bm bf h', Kept h h' → h.size ≤ bm → h.size ≤ bf → MW h' bm bf n (List.replicate (n * 512) 0) → Q (some ⟨bm, 0, none⟩) h') : F61 n Q h :=
  C61 h1 h2 fun bm bf h' k a b m => q bm bf h' k a b ⟨by rw [bytesW_rep, show 8 * (n * 512) = n * 4096 by omega]; exact m, by simp, fun w hw => by rw [List.eq_of_mem_replicate hw]; omega, h2⟩
end
section
variable {h : H} {rm rt n : Nat} {cs : List Nat} {ws : List Int}
theorem RW.kept {h' : H} (m : RW h rm rt cs n ws) (k : Kept h h') : RW h' rm rt cs n ws := ⟨m.mem.kept k, m.ok⟩
theorem RW.kl {h' : H} {L : List Nat} (m : RW h rm rt cs n ws) (k : KL h L h') (h1 : rm ∉ L) (h2 : rt ∉ L) (h3 : ∀ c ∈ cs, c ∉ L) : RW h' rm rt cs n ws := ⟨m.mem.kl k h1 h2 h3, m.ok⟩
theorem R91 {i k : Int} {Q : Int → Bool → H → Prop} (m : RW h rm rt cs n ws) (q : Q (wordF n ws i k).1 (wordF n ws i k).2 h) : F91 (some ⟨rm, 0, none⟩) i k Q h := by
  unfold wordF at q
  refine Y91 m.mem (fun j l hj hk hjn hl => ?_) fun hh => ?_
  · subst hj hk
    rw [if_pos (by omega)] at q
    rw [wd_bytesW m.ok.rng (m.ok.in_ hjn hl)]; exact q
  · rw [if_neg hh] at q; exact q
theorem R166 {i k v : Int} {Q : Bool → H → Prop} (m : RW h rm rt cs n ws) (hv : 0 ≤ v ∧ v < 18446744073709551616) (q : ∀ h', KL h cs h' → RW h' rm rt cs n (setF n ws i k v) → Q (wordF n ws i k).2 h') : F166 (some ⟨rm, 0, none⟩) i k v Q h := by
  unfold wordF setF at q
  refine Y166 m.mem hv (fun j l h' hj hk hjn hl u m' => ?_) fun hh => ?_
  · subst hj hk
    rw [if_pos (by omega), if_pos (by omega)] at q
    rw [bytesW_set (m.ok.in_ hjn hl)] at m'
    exact q h' u ⟨m', m.ok.set _ hv⟩
  · rw [if_neg hh, if_neg hh] at q; exact q h (KL.refl h cs) m
theorem R167 {i : Int} {Q : Bool → H → Prop} (m : RW h rm rt cs n ws) (q : ∀ (j : Nat) h', i = (j : Int) → j < n → KL h cs h' → RW h' rm rt cs n (zeroW ws j) → Q true h') (q0 : ¬ (0 ≤ i ∧ i < n) → Q false h) : F167 (some ⟨rm, 0, none⟩) i Q h := by
  rw [F167_eq]
  refine Y169 m.mem (fun h' _ => SB.nil h') (fun j h' hj hjn u m' => ?_) q0
  rw [bytesW_zero (m.ok.big hjn)] at m'
  exact q j h' hj hjn u ⟨m', m.ok.zero hjn⟩
theorem R88 {n : Nat} {Q : Option Addr → H → Prop} (h1 : 1 ≤ n) (h2 : n ≤ 256)
    (q : ∀ rm rt cs h', Kept h h' → h.size ≤ rm → h.size ≤ rt → (∀ c ∈ cs, h.size ≤ c) → RW h' rm rt cs n (List.replicate (n * 512) 0) → Q (some ⟨rm, 0, none⟩) h') : F88 n Q h :=
  C88 h1 h2 fun rm rt cs h' k a b c m => q rm rt cs h' k a b c ⟨by rw [bytesW_rep, show 8 * (n * 512) = n * 4096 by omega]; exact m, by simp, fun w hw => by rw [List.eq_of_mem_replicate hw]; omega, h2⟩
end
end Go.Proofs.Ytfijchofplkcoaa
