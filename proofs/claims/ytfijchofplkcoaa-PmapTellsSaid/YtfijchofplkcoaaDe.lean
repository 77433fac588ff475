/-
  What an act does to a memory of frames; the law PhysApart over the heap predicates.
-/
import Derived.Test.YtfijchofplkcoaaDd
set_option linter.unusedVariables false
set_option linter.unusedSimpArgs false
set_option maxRecDepth 100000
namespace Go.Proofs.Ytfijchofplkcoaa

theorem splice_get {xs ys : List Int} {o i : Nat} (h : o + ys.length ≤ xs.length) (hi : i < o ∨ o + ys.length ≤ i) : (splice xs o ys)[i]? = xs[i]? := by
  unfold splice
  have e : (xs.take o).length = o := by simp; omega
  rcases hi with hi | hi
  · rw [List.append_assoc, List.getElem?_append_left (by omega), List.getElem?_take, if_pos hi]
  · rw [List.getElem?_append_right (by simp; omega), List.getElem?_drop]
    congr 1
    simp; omega
theorem frame_other {xs ys : List Int} {j j' : Nat} (hn : j ≠ j') (h : ∀ i, (i < j * 4096 ∨ j * 4096 + 4096 ≤ i) → ys[i]? = xs[i]?) : frame ys j' = frame xs j' := by
  apply List.ext_getElem?
  intro i
  unfold frame
  rw [List.getElem?_take, List.getElem?_take]
  split
  · rw [List.getElem?_drop, List.getElem?_drop]
    exact h _ (by omega)
  · rfl

section
variable {h : H} {bm bf n : Nat} {xs : List Int}
theorem C85 {a b : Int} {Q : Bool → H → Prop} (m : Mem h bm bf n xs)
    (q : ∀ (j k : Nat) h', a = (j : Int) → b = (k : Int) → j < n → k < n → Upd h bf h' → Mem h' bm bf n (splice xs (j * 4096) (frame xs k)) → Q true h')
    (q0 : ¬ (0 ≤ a ∧ a < n ∧ 0 ≤ b ∧ b < n) → Q false h) : F85 (some ⟨bm, 0, none⟩) a b Q h := by
  rw [F85_eq]
  refine C155 m (fun j hj hjn => ?_) fun hh => ?_
  · refine C155 m (fun k hk hkn => ?_) fun hh => q0 (by omega)
    have hin : j * 4096 + 4096 ≤ xs.length := by
      rw [m.len]; have : (j + 1) * 4096 ≤ n * 4096 := Nat.mul_le_mul_right _ hjn; omega
    have hik : k * 4096 + 4096 ≤ xs.length := by
      rw [m.len]; have : (k + 1) * 4096 ≤ n * 4096 := Nat.mul_le_mul_right _ hkn; omega
    have fl : (frame xs k).length = 4096 := by simp [frame]; omega
    refine ⟨frame xs k, fl, ?_, ?_⟩
    · intro i hi
      rw [add_mk]
      refine m.row.cell' ?_
      have : (frame xs k)[i]? = some ((frame xs k).getD i 0) := by
        rw [List.getD_eq_getElem?_getD, List.getElem?_eq_getElem (by omega)]; rfl
      rw [← this]; unfold frame; rw [List.getElem?_take, if_pos hi, List.getElem?_drop]
    · refine ⟨by simp [fl], by intro v hv; exact oneB (frame xs k) v (by simpa using hv), m.row.wr hin, ?_⟩
      obtain ⟨u, B⟩ := hsetL_B (o := j * 4096) (frame xs k) xs h 0 m.row (by rw [fl]; omega)
      exact q j k _ hj hk hjn hkn u (m.set u B (splice_len (by rw [fl]; omega)) (splice_byte m.byte fun x hx => m.byte x (List.mem_of_mem_drop (List.mem_of_mem_take hx))))
  · exact C155 m (fun k hk hkn => q0 (by omega)) fun _ => q0 (by omega)

theorem C87 {i : Int} {Q : Bool → H → Prop} (m : Mem h bm bf n xs)
    (q : ∀ (j : Nat) h', i = (j : Int) → j < n → KB h bf h' → Mem h' bm bf n (splice xs (j * 4096) (fillB [])) → Q true h')
    (q0 : ¬ (0 ≤ i ∧ i < n) → Q false h) : F87 (some ⟨bm, 0, none⟩) i Q h := by
  rw [F87_eq]; exact C63 m (SB.nil h) q q0

theorem C81 {k a b v : Int} {s : Sl} {bs : List Int} {Q : Bool → H → Prop} (m : Mem h bm bf n xs) (sb : SB h s bs) (hv : 0 ≤ v ∧ v < 18446744073709551616)
    (q : ∀ r h' xs', KB h bf h' → Mem h' bm bf n xs' → (∀ j : Nat, (j : Int) ≠ a → frame xs' j = frame xs j) → Q r h') : F81 (some ⟨bm, 0, none⟩) k a b v s Q h := by
  rw [F81_eq]
  refine Nw_intro fun c h2 hc k2 e2 => ?_
  simp only [add_mk]
  have m2 := m.kept k2
  have qf : ∀ r, Q r h2 := fun r => q r h2 xs k2.kb m2 fun _ _ => rfl
  have hl := m.len
  have big : ∀ j : Nat, j < n → j * 4096 + 4096 ≤ xs.length := by
    intro j hj; rw [hl]; have : (j + 1) * 4096 ≤ n * 4096 := Nat.mul_le_mul_right _ hj; omega
  refine Ld_i (x := k) (by rw [hcell_blk e2]; rfl) ?_
  refine Br_if (fun _ => Ld_i (x := a) (by rw [hcell_blk e2]; rfl) (Ld_i (x := b) (by rw [hcell_blk e2]; rfl) (Ld_i (x := v) (by rw [hcell_blk e2]; rfl) ?_))) fun _ => ?_
  · refine C74 m2 (by rw [wrap_u8]; omega) (fun j l h' hj hl' hjn hl4 u m' => q _ _ _ (k2.kb.trans u.kb) m' fun j' hj' => ?_) fun _ => qf _
    refine frame_other (j := j) (by omega) fun i hi => ?_
    rw [List.getElem?_set_ne (by omega)]
  refine Br_if (fun _ => Ld_i (x := a) (by rw [hcell_blk e2]; rfl) (Ld_i (x := b) (by rw [hcell_blk e2]; rfl) (Ld_i (x := v) (by rw [hcell_blk e2]; rfl) ?_))) fun _ => ?_
  · refine C82 m2 hv (fun j l h' hj hl' hjn hl5 u m' => q _ _ _ (k2.kb.trans u.kb) m' fun j' hj' => ?_) fun _ => qf _
    have := big j hjn
    refine frame_other (j := j) (by omega) fun i hi => splice_get (by rw [wordB_len]; omega) (by rw [wordB_len]; omega)
  refine Br_if (fun _ => Ld_i (x := a) (by rw [hcell_blk e2]; rfl) ?_) fun _ => ?_
  · refine C87 m2 (fun j h' hj hjn u m' => q _ _ _ (k2.kb.trans u) m' fun j' hj' => ?_) fun _ => qf _
    have := big j hjn
    refine frame_other (j := j) (by omega) fun i hi => splice_get (by rw [fillB_len]; omega) (by rw [fillB_len]; omega)
  refine Br_if (fun _ => Ld_i (x := a) (by rw [hcell_blk e2]; rfl) (Ld_i (x := b) (by rw [hcell_blk e2]; rfl) ?_)) fun _ => ?_
  · refine C85 m2 (fun j l h' hj hl' hjn hln u m' => q _ _ _ (k2.kb.trans u.kb) m' fun j' hj' => ?_) fun _ => qf _
    have := big j hjn
    have := big l hln
    have fl : (frame xs l).length = 4096 := by simp [frame]; omega
    refine frame_other (j := j) (by omega) fun i hi => splice_get (by rw [fl]; omega) (by rw [fl]; omega)
  refine Br_if (fun _ => Ld_i (x := a) (by rw [hcell_blk e2]; rfl) (Ld_s (x := s) (by rw [hcell_blk e2]; rfl) ?_)) fun _ => qf _
  · refine C63 m2 (sb.kept k2) (fun j h' hj hjn u m' => q _ _ _ (k2.kb.trans u) m' fun j' hj' => ?_) fun _ => qf _
    have := big j hjn
    refine frame_other (j := j) (by omega) fun i hi => splice_get (by rw [fillB_len]; omega) (by rw [fillB_len]; omega)
end

theorem zero77 : zeroC Try.prog 77 = #[.int .i64 0, .int .i64 0, .int .i64 0, .int .u64 0, .slice none 0 0] := by kernel_rfl
theorem zero80 : zeroC Try.prog 80 = #[.slice none 0 0, .slice none 0 0, .slice none 0 0, .slice none 0 0] := by kernel_rfl
/-- One act alone: light is told, nothing that was there changes. -/
theorem C80one {c : Nat} {k a b v : Int} {s : Sl} {Q : Bool → H → Prop} {h : H} (e : h[c]? = some (.cells #[(.int .i64 k), (.int .i64 a), (.int .i64 b), (.int .u64 v), (.slice s.a s.len s.cap)] 77))
    (q : ∀ r h', Kept h h' → Q r h') : F80 ⟨some ⟨c, 0, none⟩, 1, 1⟩ Q h := by
  rw [F80_eq]
  refine Br_dec (fun hh => absurd hh (by simp)) fun _ => ?_
  refine Loop_intro (σ := Int × Int × Unit) (x := (0, 0, ())) (fun d z h' => Kept h h' ∧ ((d = 1 ∧ z.2.1 = 0) ∨ (d = 0 ∧ z.2.1 = 1))) 1 ⟨Kept.refl h, .inl ⟨rfl, rfl⟩⟩ ?_
  rintro d ⟨acc, i, u⟩ h' ⟨kk, ⟨hd, hi⟩ | ⟨hd, hi⟩⟩ <;> simp only at hi <;> subst hi hd
  · refine Br_dec (fun _ => ⟨⟨by simp, by simp⟩, ?_⟩) fun hh => absurd (by simp) hh
    have e' := kk.blk e
    simp only [add_mk]
    refine Ld_i (x := k) (by rw [hcell_blk e']; rfl) (Ld_i (x := a) (by rw [hcell_blk e']; rfl) (Ld_i (x := b) (by rw [hcell_blk e']; rfl) (Ld_i (x := v) (by rw [hcell_blk e']; rfl) (Ld_s (x := s) (by rw [hcell_blk e']; rfl) ?_))))
    refine Nw_intro fun m h1 hm k1 e1 => ?_
    rw [zero77] at e1
    simp only [add_mk]
    refine St_intro e1 (by simp) fun h2 u2 e2 => St_intro e2 (by simp) fun h3 u3 e3 => St_intro e3 (by simp) fun h4 u4 e4 => St_intro e4 (by simp) fun h5 u5 e5 => St_intro e5 (by simp) fun h6 u6 e6 => ?_
    have hm' := kk.1
    have K6 : Kept h h6 := u6.kept (u5.kept (u4.kept (u3.kept (u2.kept (kk.trans k1) (by omega)) (by omega)) (by omega)) (by omega)) (by omega)
    refine Ld_s (x := s) (by rw [hcell_blk e6]; rfl) (Br_dec (fun _ => q _ _ K6) fun _ => Ld_s (x := s) (by rw [hcell_blk e6]; rfl) ⟨0, by omega, K6, .inr ⟨rfl, by rfl⟩⟩)
  · exact Br_dec (fun hh => absurd hh (by simp)) fun _ => q _ _ kk

abbrev VS (l : List Sl) : Array Value := (l.map fun s => Value.slice s.a s.len s.cap).toArray
structure S16 (h0 : H) (bm bf w : Nat) (xs : List Int) (i : Nat) (h' : H) : Prop where
  kept : Kept h0 h'
  mem : Mem h' bm bf 4 xs
  was : ∃ sl : List Sl, sl.length = 4 ∧ h'[w]? = some (.cells (VS sl) 80) ∧ ∀ j, j < i → ∃ (c cap : Nat) (ys : List Int), sl[j]? = some ⟨some ⟨c, 0, none⟩, 4096, cap⟩ ∧ BL h' c 5 ys ∧ ys.take 4096 = frame xs j ∧ 4096 ≤ ys.length ∧ (∀ x ∈ ys, 0 ≤ x ∧ x < 256) ∧ c ≠ bf ∧ c ≠ w

theorem L16 {k a b v : Int} {s : Sl} {a1 : Option Addr} {l1 c1 : Nat} {c : Int} {Q : Bool → H → Prop} {h : H} (os : Opn h (.slice (.int .u8)) [.slice s.a s.len s.cap]) (o1 : Opn h (.slice (.int .u8)) [.slice a1 l1 c1])
    (hv : 0 ≤ v ∧ v < 18446744073709551616) (hc : 0 ≤ c ∧ c < 256) (q : ∀ h', Kept h h' → Q true h') : F16 k a b v s ⟨a1, l1, c1⟩ c Q h := by
  obtain ⟨ss, sS⟩ := SB.of os
  obtain ⟨bs, sb⟩ := SB.of o1
  rw [F16_eq]
  refine Nw_intro fun n1 h1 hn1 k1 e1 => ?_
  refine C61 (n := 4) (by omega) (by omega) fun bm bf h2 k2 hbm hbf m => ?_
  have K2 := k1.trans k2
  have e2 := k2.blk e1
  have hn1lt : n1 < h1.size := (Array.getElem?_eq_some_iff.1 e1).1
  simp only [JoinM, Option.isNone_some, Br_false, Bool.not_false, Br_true]
  have liv : ∀ h', Kept h h' → F62 (fun r6 h7 => Q r6 h7) h' := fun h' k => C62 fun h9 k9 => q h9 (k.trans k9)
  refine Br_dec (fun _ => liv h2 K2) fun _ => ?_
  simp only [add_mk]
  refine Ld_i (x := k) (by rw [hcell_blk e2]; rfl) (Ld_i (x := a) (by rw [hcell_blk e2]; rfl) (Ld_i (x := b) (by rw [hcell_blk e2]; rfl) (Ld_i (x := v) (by rw [hcell_blk e2]; rfl) (Ld_s (x := s) (by rw [hcell_blk e2]; rfl) ?_))))
  refine Nw_intro fun n2 h3 hn2 k3 e3 => ?_
  refine C80one e3 fun r h4 k4 => ?_
  have K4 := (K2.trans k3).trans k4
  have m4 := (m.kept k3).kept k4
  have e4 := k4.blk (k3.blk e2)
  cases r
  · exact liv h4 K4
  simp only [Bool.not_true, Br_false]
  have hk1 := k1.1
  refine Loop_intro (σ := Int × Unit) (x := (0, ())) (fun d z h' => ∃ i : Nat, z.1 = (i : Int) ∧ d = 4 - i ∧ i ≤ 4 ∧ Kept h1 h' ∧ ∃ xs, Mem h' bm bf 4 xs) 4 ⟨0, rfl, rfl, by omega, (k2.trans k3).trans k4, _, m4⟩ ?_
  rintro d ⟨ii, u⟩ h5 ⟨i, hi, hd, hi4, K5, xs5, m5⟩
  simp only at hi
  subst hi
  refine Br_dec (fun hlt => ?_) fun _ => ?_
  · have hlt : i < 4 := by simp at hlt; omega
    have nx : ∀ h', Kept h1 h' → (∃ xs, Mem h' bm bf 4 xs) → ∃ k', k' < d ∧ ∃ i' : Nat, (IntKind.wrap .i64 ((i : Int) + 1)) = (i' : Int) ∧ k' = 4 - i' ∧ i' ≤ 4 ∧ Kept h1 h' ∧ ∃ xs, Mem h' bm bf 4 xs :=
      fun h' kk mm => ⟨4 - (i + 1), by omega, i + 1, by rw [wrap_i64' _ (by omega) (by omega)]; omega, rfl, by omega, kk, mm⟩
    refine C63 m5 ((sb.kept k1).kept K5) (fun j h6 hj hjn u6 m6 => ?_) fun hh => absurd hh (by simp; omega)
    have K6 := u6.kept K5 hbf
    refine C74 m6 hc (fun j l h7 hj hl hjn hl4 u7 m7 => ?_) fun hh => ?_
    · exact nx h7 (u7.kb.kept K6 hbf) ⟨_, m7⟩
    · exact nx h6 K6 ⟨_, m6⟩
  · refine Nw_intro fun w h6 hw k6 e6 => ?_
    rw [zero80] at e6
    have m6 := m5.kept k6
    have hbf5 : bf < h5.size := (Array.getElem?_eq_some_iff.1 (show h5[bf]? = some _ from m5.row)).1
    have hbm5 : bm < h5.size := (Array.getElem?_eq_some_iff.1 m5.top).1
    refine Loop_intro (σ := Int × Unit) (x := (0, ())) (fun d z h' => ∃ i : Nat, z.1 = (i : Int) ∧ d = 4 - i ∧ i ≤ 4 ∧ S16 h1 bm bf w xs5 i h') 4
      ⟨0, rfl, rfl, by omega, K5.trans k6, m6, ⟨[⟨none, 0, 0⟩, ⟨none, 0, 0⟩, ⟨none, 0, 0⟩, ⟨none, 0, 0⟩], rfl, e6, fun j hj => by omega⟩⟩ ?_
    rintro d ⟨ii, u⟩ h7 ⟨i, hi, hd, hi4, S7⟩
    simp only at hi
    subst hi
    refine Br_dec (fun hlt => ?_) fun hge => ?_
    · have hlt : i < 4 := by simp at hlt; omega
      obtain ⟨sl, hsl, E7, W7⟩ := S7.was
      refine C64 S7.mem (fun j p pc ps h8 hj _ k8 hp B8 hps hpl hpb => ?_) fun hh => absurd hh (by simp; omega)
      obtain rfl : j = i := by (try simp at hj); omega
      refine ⟨⟨by simp, by simp; omega⟩, ?_⟩
      simp only [add_mk, Int.toNat_natCast, Nat.mul_one, Nat.add_zero, Nat.zero_add]
      have hw7 : w < h7.size := (Array.getElem?_eq_some_iff.1 E7).1
      have hbf7 : bf < h7.size := (Array.getElem?_eq_some_iff.1 (show h7[bf]? = some _ from S7.mem.row)).1
      refine St_intro (k8.blk E7) (by simp; omega) fun h9 u9 e9 => ?_
      refine ⟨4 - (j + 1), by omega, j + 1, by show IntKind.wrap .i64 ((j : Int) + 1) = _; rw [wrap_i64' _ (by omega) (by omega)]; omega, rfl, by omega, ?_, (S7.mem.kept k8).other u9 (by omega) (by omega), sl.set j ⟨some ⟨p, 0, none⟩, 4096, pc⟩, by simpa using hsl, ?_, ?_⟩
      · exact u9.kept (S7.kept.trans k8) (by have := K5.1; omega)
      · rw [e9]; congr 2; simp [VS, List.map_set]
      · intro j' hj'
        by_cases hjj : j' = j
        · subst hjj
          exact ⟨p, pc, ps, by simp [hsl, hlt], B8.upd u9 (by omega), hps, hpl, hpb, by omega, by omega⟩
        · obtain ⟨c', cap', ys', g1, g2, g3, g4, g5, g6, g7⟩ := W7 j' (by omega)
          exact ⟨c', cap', ys', by rw [List.getElem?_set_ne (by omega)]; exact g1, (g2.kept k8).upd u9 g7, g3, g4, g5, g6, g7⟩
    · have hi4' : i = 4 := by simp at hge; omega
      subst hi4'
      obtain ⟨sl, hsl, E7, W7⟩ := S7.was
      have e7 := S7.kept.blk e1
      refine Ld_i (x := k) (by rw [hcell_blk e7]; rfl) (Ld_i (x := a) (by rw [hcell_blk e7]; rfl) (Ld_i (x := b) (by rw [hcell_blk e7]; rfl) (Ld_i (x := v) (by rw [hcell_blk e7]; rfl) (Ld_s (x := s) (by rw [hcell_blk e7]; rfl) ?_))))
      have sS7 : SB h7 s ss := (sS.kept k1).kept S7.kept
      refine C81 S7.mem sS7 hv fun r h8 xs' u8 m8 fr => ?_
      have hw7 : w < h7.size := (Array.getElem?_eq_some_iff.1 E7).1
      have E8 := u8.blk E7 (by omega)
      have K8 := u8.kept S7.kept hbf
      refine Loop_intro (σ := Int × Unit) (x := (0, ())) (fun d z h' => ∃ i : Nat, z.1 = (i : Int) ∧ d = 4 - i ∧ i ≤ 4 ∧ Kept h8 h') 4 ⟨0, rfl, rfl, by omega, Kept.refl h8⟩ ?_
      rintro d' ⟨ii, u⟩ h9 ⟨i, hi, hd', hi4', k9⟩
      simp only at hi
      subst hi
      refine Br_dec (fun hlt => ?_) fun _ => liv _ ((k1.trans K8).trans k9)
      have hlt : i < 4 := by simp at hlt; omega
      have nx : ∀ h', Kept h8 h' → ∃ k', k' < d' ∧ ∃ i' : Nat, (IntKind.wrap .i64 ((i : Int) + 1)) = (i' : Int) ∧ k' = 4 - i' ∧ i' ≤ 4 ∧ Kept h8 h' :=
        fun h' kk => ⟨4 - (i + 1), by omega, i + 1, by rw [wrap_i64' _ (by omega) (by omega)]; omega, rfl, by omega, kk⟩
      have e9 := k9.blk (K8.blk e1)
      refine Ld_i (x := a) (by rw [hcell_blk e9]; rfl) (Br_bne_int (fun hne => ?_) fun _ => nx h9 k9)
      refine ⟨⟨by simp, by simp; omega⟩, ?_⟩
      obtain ⟨c', cap', ys', g1, g2, g3, g4, g5, g6, g7⟩ := W7 i hlt
      have c9 : hcell h9 ⟨w, 0 + i * 1 + 0, none⟩ = some (.slice (some ⟨c', 0, none⟩) 4096 cap') := by
        rw [hcell_blk (k9.blk E8)]; simp [VS, g1]
      simp only [add_mk, Int.toNat_natCast]
      refine Ld_s (x := ⟨some ⟨c', 0, none⟩, 4096, cap'⟩) c9 ?_
      refine C64 (m8.kept k9) (fun j p pc ps h10 hj _ k10 hp B10 hps hpl hpb => ?_) fun hh => absurd hh (by simp; omega)
      obtain rfl : j = i := by (try simp at hj); omega
      refine ⟨k10.cell c9, ⟨(true, ()), ?_, nx h10 (k9.trans k10)⟩⟩
      have BC : BL h10 c' 5 ys' := (BL.kept (u8.blk g2 g6) k9).kept k10
      have T := SB.frame BC g4 g5 cap'
      have S := SB.frame B10 hpl hpb pc
      rw [hps, fr j hne, ← g3] at S
      exact C65 S T ⟨rfl, rfl⟩
end Go.Proofs.Ytfijchofplkcoaa
