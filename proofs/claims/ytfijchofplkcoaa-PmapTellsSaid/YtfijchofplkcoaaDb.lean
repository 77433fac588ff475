/-
  Fill, Page and Bytes of a memory of frames; and the laws PhysFills, PhysBytes, PhysOwn over the heap predicates.
-/
import Derived.Test.YtfijchofplkcoaaDa
set_option linter.unusedVariables false
set_option linter.unusedSimpArgs false
set_option maxRecDepth 100000
namespace Go.Proofs.Ytfijchofplkcoaa

/-- All that was there stays but for one block. -/
def KB (h : H) (b : Nat) (h' : H) : Prop := h.size ≤ h'.size ∧ ∀ i, i < h.size → i ≠ b → h'[i]? = h[i]?
theorem KB.kept {h0 h h' : H} {b : Nat} (u : KB h b h') (k : Kept h0 h) (hb : h0.size ≤ b) : Kept h0 h' :=
  ⟨Nat.le_trans k.1 u.1, fun i hi => (u.2 i (Nat.lt_of_lt_of_le hi k.1) (by omega)).trans (k.2 i hi)⟩
theorem KB.blk {h h' : H} {b c : Nat} {o : Obj} (u : KB h b h') (e : h[c]? = some o) (n : c ≠ b) : h'[c]? = some o := by
  rw [u.2 c (Array.getElem?_eq_some_iff.1 e).1 n, e]
theorem Upd.kb {h h' : H} {b : Nat} (u : Upd h b h') : KB h b h' := ⟨Nat.le_of_eq u.1.symm, fun i _ hn => u.2 i hn⟩
theorem Kept.kb {h h' : H} {b : Nat} (u : Kept h h') : KB h b h' := ⟨u.1, fun i hi _ => u.2 i hi⟩
theorem KB.trans {h h' h'' : H} {b : Nat} (u : KB h b h') (v : KB h' b h'') : KB h b h'' :=
  ⟨Nat.le_trans u.1 v.1, fun i hi hn => (v.2 i (Nat.lt_of_lt_of_le hi u.1) hn).trans (u.2 i hi hn)⟩

theorem rep_V8 (n : Nat) : Array.replicate n (Value.int .u8 0) = V8 (List.replicate n 0) := by simp [V8]
def fillB (bs : List Int) : List Int := splice (List.replicate 4096 0) 0 (bs.take 4096)
theorem fillB_len (bs : List Int) : (fillB bs).length = 4096 := by
  unfold fillB; rw [splice_len (by simp; omega)]; simp
theorem fillB_byte {bs : List Int} (hb : ∀ x ∈ bs, 0 ≤ x ∧ x < 256) : ∀ x ∈ fillB bs, 0 ≤ x ∧ x < 256 := by
  intro x hx
  simp only [fillB, splice, List.mem_append] at hx
  rcases hx with (hx | hx) | hx
  · simp at hx
  · exact hb x (List.mem_of_mem_take hx)
  · have := List.eq_of_mem_replicate (List.mem_of_mem_drop hx); omega
theorem oneB (l : List Int) : ∀ v ∈ l.map (Value.int .u8), v.oneCell' = true := by
  intro v hv
  simp only [List.mem_map] at hv
  obtain ⟨x, _, rfl⟩ := hv
  rfl
theorem BL.wr {h : H} {b t o n : Nat} {xs : List Int} (e : BL h b t xs) (hn : o + n ≤ xs.length) : Wr h ⟨b, o, none⟩ n := by
  intro j hj
  rw [add_mk]
  refine ⟨⟨_, e.cell (i := o + j) (by omega)⟩, ?_⟩
  unfold BL at e
  simp [hfroz, e]
theorem splice_byte {xs ys : List Int} {o : Nat} (h1 : ∀ x ∈ xs, 0 ≤ x ∧ x < 256) (h2 : ∀ x ∈ ys, 0 ≤ x ∧ x < 256) : ∀ x ∈ splice xs o ys, 0 ≤ x ∧ x < 256 := by
  intro x hx
  simp only [splice, List.mem_append] at hx
  rcases hx with (hx | hx) | hx
  · exact h1 x (List.mem_of_mem_take hx)
  · exact h2 x hx
  · exact h1 x (List.mem_of_mem_drop hx)

section
variable {h : H} {bm bf n : Nat} {xs : List Int}
theorem C63 {i : Int} {s : Sl} {bs : List Int} {Q : Bool → H → Prop} (m : Mem h bm bf n xs) (sb : SB h s bs)
    (q : ∀ (j : Nat) h', i = (j : Int) → j < n → KB h bf h' → Mem h' bm bf n (splice xs (j * 4096) (fillB bs)) → Q true h')
    (q0 : ¬ (0 ≤ i ∧ i < n) → Q false h) : F63 (some ⟨bm, 0, none⟩) i s Q h := by
  rw [F63_eq]
  refine C155 m (fun j hj hjn => ?_) q0
  simp only [Option.isNone_some, Br_false]
  refine Nw_intro fun c h4 hc k4 e4 => ?_
  rw [zero205] at e4
  have B4 : BL h4 c 205 (List.replicate 4096 0) := by unfold BL; rw [e4, rep_V8]
  refine ⟨⟨by omega, by omega, by simp⟩, ?_⟩
  have es : subA (some ⟨c, 0, none⟩) (Int.toNat 0) 4096 1 = some ⟨c, 0, none⟩ := by unfold subA; simp
  simp only [es]
  have sb4 := sb.kept k4
  refine ⟨(bs.take 4096).map (Value.int .u8), ⟨?_, ?_, oneB _⟩, ?_, ?_⟩
  · simp [sb.1]; try omega
  · intro jj v hv
    have : (bs.map (Value.int .u8))[jj]? = some v := by
      rw [List.map_take, List.getElem?_take] at hv
      split at hv
      · exact hv
      · simp at hv
    exact sb4.2.1 jj v this
  · rintro a ha
    simp only [Option.some.injEq] at ha
    subst ha
    exact B4.wr (by simp; try omega)
  simp only
  obtain ⟨u7, B7⟩ := hsetL_B (o := 0) (bs.take 4096) (List.replicate 4096 0) h4 0 B4 (by simp; omega)
  generalize hsetL h4 ⟨c, 0, none⟩ 0 ((bs.take 4096).map (Value.int .u8)) = h7 at *
  have B7' : BL h7 c 205 (fillB bs) := B7
  refine ⟨fillB bs, fillB_len bs, ?_, ?_⟩
  · intro jj hjj
    rw [add_mk, Nat.zero_add]
    exact B7'.cell (by rw [fillB_len]; exact hjj)
  have hcf : c ≠ bf := by
    have := (Array.getElem?_eq_some_iff.1 (show h[bf]? = some _ from m.row)).1; omega
  have hcm : c ≠ bm := by
    have := (Array.getElem?_eq_some_iff.1 m.top).1; omega
  have m7 : Mem h7 bm bf n xs := (m.kept k4).other u7 hcm hcf
  have hin : j * 4096 + 4096 ≤ xs.length := by
    rw [m.len]; have : (j + 1) * 4096 ≤ n * 4096 := Nat.mul_le_mul_right _ hjn; omega
  refine ⟨by simp [fillB_len], by intro v hv; exact oneB (fillB bs) v (by simpa using hv), m7.row.wr hin, ?_⟩
  obtain ⟨u10, B10⟩ := hsetL_B (o := j * 4096) (fillB bs) xs h7 0 m7.row (by rw [fillB_len]; omega)
  have hK : KB h bf h7 := by
    refine ⟨by rw [u7.1]; exact k4.1, fun ii hi hn => ?_⟩
    rw [u7.2 ii (by omega)]; exact k4.2 ii hi
  refine q j _ hj hjn (hK.trans u10.kb) (m7.set u10 ?_ (splice_len (by rw [fillB_len]; omega)) (splice_byte m.byte (fillB_byte sb.2.2)))
  exact B10

def frame (xs : List Int) (j : Nat) : List Int := (xs.drop (j * 4096)).take 4096
theorem frame_splice {xs ys : List Int} {j : Nat} (hy : ys.length = 4096) (hl : j * 4096 + 4096 ≤ xs.length) : frame (splice xs (j * 4096) ys) j = ys := by
  unfold frame splice
  have e : (xs.take (j * 4096)).length = j * 4096 := by simp; omega
  rw [List.append_assoc, List.drop_append_of_le_length (by omega), List.drop_of_length_le (by omega), List.nil_append, List.take_append_of_le_length (by omega), List.take_of_length_le (by omega)]
theorem zero5 : zeroC Try.prog 5 = #[.int .u8 0] := by kernel_rfl
theorem zeros5 (n : Nat) : zerosC Try.prog 5 n = V8 (List.replicate n 0) := by
  unfold zerosC
  rw [zero5]
  apply Array.ext
  · simp
  · intro i h1 h2
    simp only [Array.getElem_map, List.size_toArray, List.length_cons, List.length_nil, Nat.zero_add, Nat.mod_one]
    simp
theorem C64 {i : Int} {Q : Sl → H → Prop} (m : Mem h bm bf n xs)
    (q : ∀ (j c cap : Nat) (ys : List Int) h', i = (j : Int) → j < n → Kept h h' → h.size ≤ c → BL h' c 5 ys → ys.take 4096 = frame xs j → 4096 ≤ ys.length → (∀ x ∈ ys, 0 ≤ x ∧ x < 256) → Q ⟨some ⟨c, 0, none⟩, 4096, cap⟩ h')
    (q0 : ¬ (0 ≤ i ∧ i < n) → Q ⟨none, 0, 0⟩ h) : F64 (some ⟨bm, 0, none⟩) i Q h := by
  rw [F64_eq]
  refine C155 m (fun j hj hjn => ?_) q0
  simp only [Option.isNone_some, Br_false]
  have hin : j * 4096 + 4096 ≤ xs.length := by
    rw [m.len]; have : (j + 1) * 4096 ≤ n * 4096 := Nat.mul_le_mul_right _ hjn; omega
  refine ⟨⟨by omega, by omega, by simp⟩, ?_⟩
  have es : subA (some ⟨bf, j * 4096, none⟩) (Int.toNat 0) 4096 1 = some ⟨bf, j * 4096, none⟩ := by unfold subA; simp
  simp only [es]
  have fl : (frame xs j).length = 4096 := by simp [frame]; omega
  refine ⟨(frame xs j).map (Value.int .u8), ⟨by simp [fl], ?_, oneB _⟩, .inr ⟨by simp, by simp, [], ⟨rfl, fun j v hv => by simp at hv, by simp⟩, fun cap hcap => ?_⟩⟩
  · intro jj v hv
    refine ⟨_, rfl, ?_⟩
    rw [add_mk]
    rw [List.getElem?_map] at hv
    cases hj2 : (frame xs j)[jj]? with
    | none => rw [hj2] at hv; simp at hv
    | some x =>
      rw [hj2] at hv
      simp at hv
      subst hv
      refine m.row.cell' ?_
      unfold frame at hj2
      rw [List.getElem?_take] at hj2
      split at hj2
      · rw [List.getElem?_drop] at hj2; exact hj2
      · simp at hj2
  · have e : (([] : List Value).toArray ++ ((frame xs j).map (Value.int .u8)).toArray ++ zerosC Try.prog 5 (cap - (0 + (Int.toNat 4096 - Int.toNat 0)))) = V8 (frame xs j ++ List.replicate (cap - (0 + (Int.toNat 4096 - Int.toNat 0))) 0) := by
      rw [zeros5]; simp [V8]
    simp only at e ⊢
    rw [e]
    refine q j h.size cap _ _ hj hjn (Kept.new h _ _) (Nat.le_refl _) (new_blk h _ _) ?_ ?_ ?_
    · rw [List.take_append_of_le_length (by omega), List.take_of_length_le (by omega)]
    · simp [fl]
    · intro x hx
      simp only [List.mem_append] at hx
      rcases hx with hx | hx
      · exact m.byte x (List.mem_of_mem_drop (List.mem_of_mem_take hx))
      · have := List.eq_of_mem_replicate hx; omega
theorem C65 {s t : Sl} {bs : List Int} {Q : Bool → H → Prop} (a : SB h s bs) (b : SB h t bs) (q : Q true h) : F65 s t Q h := by
  rw [F65_eq]
  refine ⟨bs, a.1, a.2.1, bs, b.1, b.2.1, ?_⟩
  simpa using q
end

theorem L12 {a0 a1 : Option Addr} {l0 c0 l1 c1 : Nat} {Q : Bool → H → Prop} {h : H} (o0 : Opn h (.slice (.int .u8)) [.slice a0 l0 c0]) (o1 : Opn h (.slice (.int .u8)) [.slice a1 l1 c1])
    (q : ∀ h', Kept h h' → Q true h') : F12 ⟨a0, l0, c0⟩ ⟨a1, l1, c1⟩ Q h := by
  obtain ⟨bs, sb⟩ := SB.of o0
  obtain ⟨cs, sc⟩ := SB.of o1
  rw [F12_eq]
  refine C61 (n := 1) (by omega) (by omega) fun bm bf h1 k1 hbm hbf m => ?_
  simp only [JoinM, Option.isNone_some, Br_false, Bool.not_false, Br_true]
  have liv : ∀ h', Kept h h' → F62 (fun r6 h7 => Q r6 h7) h' := fun h' k => C62 fun h9 k9 => q h9 (k.trans k9)
  refine Br_dec (fun _ => liv h1 k1) fun _ => Br_dec (fun _ => liv h1 k1) fun _ => ?_
  refine C63 m (sb.kept k1) (fun j h2 hj _ u2 m2 => ?_) fun hh => absurd hh (by omega)
  obtain rfl : j = 0 := by omega
  simp only [Bool.not_true, Br_false]
  have k2 := u2.kept k1 hbf
  refine C63 m2 (sc.kept k2) (fun j h3 hj _ u3 m3 => ?_) fun hh => absurd hh (by omega)
  obtain rfl : j = 0 := by omega
  simp only [Bool.not_true, Br_false]
  have k3 := u3.kept k2 hbf
  refine C64 m3 (fun j c cap ys h4 hj _ k4 hc B4 hy hyl hyb => ?_) fun hh => absurd hh (by omega)
  obtain rfl : j = 0 := by omega
  have fr : ys.take 4096 = fillB cs := by
    rw [hy]
    exact frame_splice (fillB_len cs) (by rw [m2.len]; omega)
  have k04 := k3.trans k4
  refine Br_bne_int (fun hh => absurd rfl hh) fun _ => ?_
  refine Loop_intro (σ := Int × Unit) (x := (0, ())) (fun k z h' => ∃ i : Nat, z.1 = (i : Int) ∧ k = 4096 - i ∧ i ≤ 4096 ∧ h' = h4) 4096 ⟨0, rfl, rfl, by omega, rfl⟩ ?_
  rintro k ⟨ii, u⟩ h' ⟨i, hi, hk, hi4, rfl⟩
  simp only at hi
  subst hi
  refine Br_dec (fun hlt => ?_) fun _ => liv _ k04
  have hlt : i < 4096 := by simp at hlt; omega
  refine ⟨⟨by simp, by simp; omega⟩, ?_⟩
  simp only [add_mk, Int.toNat_natCast, Nat.mul_one, Nat.add_zero, Nat.zero_add]
  have ex : ys.getD i 0 = (fillB cs).getD i 0 := by
    rw [← fr, List.getD_eq_getElem?_getD, List.getD_eq_getElem?_getD, List.getElem?_take, if_pos hlt]
  refine Ld_i (x := (fillB cs).getD i 0) (by rw [← ex]; exact B4.cell (by omega)) ?_
  have go : ∃ k', k' < k ∧ ∃ i' : Nat, (IntKind.wrap .i64 ((i : Int) + 1)) = (i' : Int) ∧ k' = 4096 - i' ∧ i' ≤ 4096 ∧ True :=
    ⟨4096 - (i + 1), by omega, i + 1, by rw [wrap_i64' _ (by omega) (by omega)]; omega, rfl, by omega, trivial⟩
  have fe : (fillB cs).getD i 0 = if i < cs.length then cs.getD i 0 else 0 := by
    unfold fillB splice
    simp only [List.take_zero, List.nil_append, Nat.zero_add]
    rw [List.getD_eq_getElem?_getD, List.getElem?_append]
    split
    · rename_i hx
      rw [List.getElem?_take, if_pos hlt, if_pos (by simp at hx; omega), List.getD_eq_getElem?_getD]
    · rename_i hx
      rw [if_neg (by simp at hx; omega), List.getElem?_drop, List.getElem?_replicate]
      split <;> rfl
  refine Br_dec (fun hl => ?_) fun hl => ?_
  · have hl' : i < l1 := by simpa using hl
    obtain ⟨ad, had, hcell⟩ := (sc.kept k04).idx hl'
    simp only at had
    simp only [had]
    refine ⟨⟨by omega, by omega⟩, ?_⟩
    have : (ad.add (i * 1)).add 0 = ad.add i := by rw [add_add]; simp
    refine Ld_i (x := cs.getD i 0) (by simpa [add_add] using hcell) ?_
    have hcl : i < cs.length := by rw [sc.1]; exact hl'
    rw [fe, if_pos hcl]
    refine Br_bne_int (fun hh => absurd rfl hh) fun _ => Br_dec (fun hh => by omega) fun _ => go
  · refine Br_dec (fun _ => ?_) fun hh => by omega
    have hcl : ¬ i < cs.length := by rw [sc.1]; simpa using hl
    rw [fe, if_neg hcl]
    exact Br_bne_int (fun hh => absurd rfl hh) fun _ => go
end Go.Proofs.Ytfijchofplkcoaa
