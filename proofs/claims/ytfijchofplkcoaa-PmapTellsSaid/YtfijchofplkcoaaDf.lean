/-
  Words and equality of frames; the law PhysWords over the heap predicates.
-/
import Derived.Test.YtfijchofplkcoaaDe
set_option linter.unusedVariables false
set_option linter.unusedSimpArgs false
set_option maxRecDepth 100000
namespace Go.Proofs.Ytfijchofplkcoaa

theorem eqR_V8 (x y : List Int) : eqR ((x).map (Value.int .u8)).toArray ((y).map (Value.int .u8)).toArray = (x == y) := by
  have : ∀ l : List Int, (l.map (Value.int .u8)).map nOf = l := by
    intro l; induction l with
    | nil => rfl
    | cons a l ih => simp only [List.map_cons, ih]; rfl
  simp only [eqR, this]
def p256 : Nat → Int
  | 0 => 1
  | k + 1 => 256 * p256 k
theorem p256_pos (k : Nat) : 0 < p256 k := by
  induction k with
  | zero => decide
  | succ k ih => simp only [p256]; omega
theorem wordB_get (v : Int) : ∀ (k j : Nat), j < k → (wordB v k)[j]? = some (v / p256 j % 256) := by
  intro k
  induction k generalizing v with
  | zero => intro j hj; omega
  | succ k ih =>
    intro j hj
    cases j with
    | zero => simp [wordB, p256]
    | succ j =>
      simp only [wordB, List.getElem?_cons_succ]
      rw [ih _ j (by omega)]
      congr 2
      simp only [p256]
      rw [Int.ediv_ediv_of_nonneg (by omega)]
theorem div_step (v : Int) (j : Nat) : v / p256 (j + 1) * 256 + v / p256 j % 256 = v / p256 j := by
  have : v / p256 (j + 1) = v / p256 j / 256 := by
    simp only [p256]
    rw [Int.mul_comm, Int.ediv_ediv_of_nonneg (Int.le_of_lt (p256_pos j))]
  rw [this]; omega
theorem div_bound {v : Int} (hv : 0 ≤ v ∧ v < 18446744073709551616) (j : Nat) : 0 ≤ v / p256 (j + 1) ∧ v / p256 (j + 1) < 72057594037927936 := by
  have : v / p256 (j + 1) = v / 256 / p256 j := by
    simp only [p256]
    rw [Int.ediv_ediv_of_nonneg (by omega)]
  rw [this]
  refine ⟨Int.ediv_nonneg (by omega) (Int.le_of_lt (p256_pos j)), ?_⟩
  have h1 : v / 256 / p256 j ≤ v / 256 := Int.ediv_le_self _ (by omega)
  omega
theorem p8 {v : Int} (hv : 0 ≤ v ∧ v < 18446744073709551616) : v / p256 8 = 0 := by
  have : p256 8 = 18446744073709551616 := by decide
  rw [this]; omega

section
variable {h : H} {bm bf n : Nat} {xs : List Int}
theorem C86 {a b : Int} {Q : Bool → H → Prop} (m : Mem h bm bf n xs)
    (q : ∀ (j k : Nat), a = (j : Int) → b = (k : Int) → j < n → k < n → Q (frame xs j == frame xs k) h)
    (q0 : ¬ (0 ≤ a ∧ a < n ∧ 0 ≤ b ∧ b < n) → Q false h) : F86 (some ⟨bm, 0, none⟩) a b Q h := by
  rw [F86_eq]
  have row : ∀ j : Nat, j < n → (frame xs j).length = 4096 ∧ ∀ i, i < 4096 → hcell h ((⟨bf, j * 4096, none⟩ : Addr).add i) = some (.int .u8 ((frame xs j).getD i 0)) := by
    intro j hjn
    have hin : j * 4096 + 4096 ≤ xs.length := by
      rw [m.len]; have : (j + 1) * 4096 ≤ n * 4096 := Nat.mul_le_mul_right _ hjn; omega
    have fl : (frame xs j).length = 4096 := by simp [frame]; omega
    refine ⟨fl, fun i hi => ?_⟩
    rw [add_mk]
    refine m.row.cell' ?_
    have : (frame xs j)[i]? = some ((frame xs j).getD i 0) := by
      rw [List.getD_eq_getElem?_getD, List.getElem?_eq_getElem (by omega)]; rfl
    rw [← this]; unfold frame; rw [List.getElem?_take, if_pos hi, List.getElem?_drop]
  refine C155 m (fun j hj hjn => ?_) fun hh => ?_
  · refine C155 m (fun k hk hkn => ?_) fun hh => q0 (by omega)
    obtain ⟨l1, r1⟩ := row j hjn
    obtain ⟨l2, r2⟩ := row k hkn
    refine ⟨frame xs j, l1, r1, frame xs k, l2, r2, ⟨⟨_, l1, rfl⟩, ⟨_, l2, rfl⟩⟩, ?_⟩
    rw [eqR_V8]; exact q j k hj hk hjn hkn
  · exact C155 m (fun k hk hkn => q0 (by omega)) fun _ => q0 (by omega)

theorem C83 {i k v : Int} {Q : Int → Bool → H → Prop} (m : Mem h bm bf n xs) (hv : 0 ≤ v ∧ v < 18446744073709551616)
    (hw : ∀ (j l : Nat), i = (j : Int) → k = (l : Int) → ∀ d, d < 8 → xs[j * 4096 + 8 * l + d]? = some (v / p256 d % 256))
    (hin : 0 ≤ i ∧ i < n ∧ 0 ≤ k ∧ k < 512) (q : Q v true h) : F83 (some ⟨bm, 0, none⟩) i k Q h := by
  rw [F83_eq]
  refine C164 m (fun j l hj hl hjn hl5 => ?_) fun hh => absurd hin hh
  simp only [Option.isNone_some, Br_false]
  rw [show IntKind.wrap .i64 (((8 : Nat) : Int) - 1) = 7 by decide]
  unfold LetI
  refine Loop_intro (σ := Int × Int × Unit) (x := (0, 7, ())) (fun c z h' => z.2.1 = (c : Int) - 1 ∧ c ≤ 8 ∧ z.1 = v / p256 c ∧ h' = h) 8 ⟨rfl, by omega, (p8 hv).symm, rfl⟩ ?_
  rintro c ⟨acc, ii, u⟩ h' ⟨hi, hc, ha, rfl⟩
  simp only at hi ha
  subst hi ha
  refine Br_dec (fun hge => ?_) fun hlt => ?_
  · have hc1 : 1 ≤ c := by simp at hge; omega
    obtain ⟨d, rfl⟩ : ∃ d, c = d + 1 := ⟨c - 1, by omega⟩
    have e1 : (((d + 1 : Nat) : Int) - 1) = (d : Int) := by omega
    simp only [e1]
    refine ⟨by omega, ⟨by omega, by omega⟩, ?_⟩
    simp only [add_mk, Int.toNat_natCast, Nat.mul_one, Nat.add_zero]
    refine Ld_i (x := v / p256 d % 256) (m.row.cell' (hw j l hj hl d (by omega))) ?_
    obtain ⟨b1, b2⟩ := div_bound hv d
    refine ⟨d, by omega, ?_, by omega, ?_, by trivial⟩
    · show IntKind.wrap .i64 ((d : Int) - 1) = _
      rw [wrap_i64' _ (by omega) (by omega)]
    · show bOr .u64 (shL .u64 (v / p256 (d + 1)) 8) (IntKind.wrap .u64 (v / p256 d % 256)) = _
      have st := div_step v d
      have b3 : 0 ≤ v / p256 d % 256 ∧ v / p256 d % 256 < 256 := by omega
      refine Eq.trans ?_ st
      clear st
      generalize v / p256 (d + 1) = A at *
      generalize v / p256 d % 256 = B at *
      obtain ⟨A, rfl⟩ := Int.eq_ofNat_of_zero_le b1
      obtain ⟨B, rfl⟩ := Int.eq_ofNat_of_zero_le b3.1
      have e2 : shL .u64 (A : Int) 8 = ((A * 2 ^ 8 : Nat) : Int) := by
        rw [show (8 : Int) = ((8 : Nat) : Int) from rfl, shL_nat _ _ (by simp [IntKind.bits]), wrap_u64]; omega
      have e3 : IntKind.wrap .u64 (B : Int) = (B : Int) := by rw [wrap_u64]; omega
      rw [e2, e3, bOr_add A B 8 (by omega) (by omega)]
      omega
  · have : c = 0 := by simp at hlt; omega
    subst this
    have : v / p256 0 = v := by simp [p256]
    simp only [LetI, this]; exact q
end

theorem splice_in {xs ys : List Int} {o d : Nat} (h : o + ys.length ≤ xs.length) (hd : d < ys.length) : (splice xs o ys)[o + d]? = ys[d]? := by
  unfold splice
  have e : (xs.take o).length = o := by simp; omega
  rw [List.append_assoc, List.getElem?_append_right (by omega), e, List.getElem?_append_left (by omega)]
  congr 1; omega

theorem L17 {i v : Int} {Q : Bool → H → Prop} {h : H} (hi : 0 ≤ i ∧ i < 18446744073709551616) (hv : 0 ≤ v ∧ v < 18446744073709551616) (q : ∀ h', Kept h h' → Q true h') : F17 i v Q h := by
  rw [F17_eq]
  refine C61 (n := 2) (by omega) (by omega) fun bm bf h1 k1 hbm hbf m => ?_
  simp only [JoinM, Option.isNone_some, Br_false]
  refine ⟨by omega, ?_⟩
  obtain ⟨k, hk⟩ : ∃ k : Nat, k = (i % 512).toNat := ⟨_, rfl⟩
  have ek : IntKind.wrap .i64 (Int.tmod i 512) = (k : Int) := by
    rw [Int.tmod_eq_emod_of_nonneg hi.1, hk, wrap_i64'] <;> omega
  rw [ek]
  have hk5 : k < 512 := by omega
  simp only [LetI]
  refine C82 m hv (fun j l h2 hj hl _ _ u2 m2 => ?_) fun hh => absurd hh (by omega)
  obtain rfl : j = 0 := by omega
  obtain rfl : l = k := by omega
  have K2 := u2.kb.kept k1 hbf
  simp only [Bool.not_true, Br_false]
  generalize hxs : splice (List.replicate (2 * 4096) (0 : Int)) (0 * 4096 + 8 * l) (wordB v 8) = xs at *
  have hxl : xs.length = 8192 := by have := m2.len; omega
  have hw : ∀ d, d < 8 → xs[8 * l + d]? = some (v / p256 d % 256) := by
    intro d hd
    rw [← wordB_get v 8 d hd, ← hxs]
    have := splice_in (xs := List.replicate (2 * 4096) (0 : Int)) (ys := wordB v 8) (o := 0 * 4096 + 8 * l) (d := d) (by rw [wordB_len]; simp; omega) (by rw [wordB_len]; exact hd)
    rw [← this]; congr 1; omega
  refine C83 m2 hv (fun j l' hj hl' d hd => ?_) (by omega) ?_
  · obtain rfl : j = 0 := by omega
    obtain rfl : l' = l := by omega
    rw [← hw d hd]; congr 1; omega
  have e8 : IntKind.wrap .i64 (8 * (l : Int)) = ((8 * l : Nat) : Int) := by rw [wrap_i64' _ (by omega) (by omega)]; omega
  rw [e8]
  refine Loop_intro (σ := Int × Int × Unit) (x := (0, 7, ())) (fun c z h' => z.2.1 = (c : Int) - 1 ∧ c ≤ 8 ∧ z.1 = v / p256 c ∧ h' = h2) 8 ⟨rfl, by omega, (p8 hv).symm, rfl⟩ ?_
  rintro c ⟨acc, ii, u⟩ h' ⟨hi', hc, ha, rfl⟩
  simp only at hi' ha
  subst hi' ha
  refine Br_dec (fun hge => ?_) fun hlt => ?_
  · have hc1 : 1 ≤ c := by simp at hge; omega
    obtain ⟨d, rfl⟩ : ∃ d, c = d + 1 := ⟨c - 1, by omega⟩
    have e1 : (((d + 1 : Nat) : Int) - 1) = (d : Int) := by omega
    have e2 : IntKind.wrap .i64 (((8 * l : Nat) : Int) + (d : Int)) = ((8 * l + d : Nat) : Int) := by rw [wrap_i64' _ (by omega) (by omega)]; omega
    simp only [e1, e2]
    refine C84 m2 (fun j p hj hp _ hp4 => ?_) fun hh => absurd hh (by omega)
    obtain rfl : j = 0 := by omega
    obtain rfl : p = 8 * l + d := by omega
    have ex : xs.getD (0 * 4096 + (8 * l + d)) 0 = v / p256 d % 256 := by
      rw [List.getD_eq_getElem?_getD, show 0 * 4096 + (8 * l + d) = 8 * l + d by omega, hw d (by omega)]; rfl
    rw [ex]
    obtain ⟨b1, b2⟩ := div_bound hv d
    refine ⟨by omega, d, by omega, ?_, by omega, ?_, by trivial⟩
    · show IntKind.wrap .i64 ((d : Int) - 1) = _
      rw [wrap_i64' _ (by omega) (by omega)]
    · show IntKind.wrap .u64 ((shL .u64 (v / p256 (d + 1)) 8) + (IntKind.wrap .u64 (v / p256 d % 256))) = _
      have e3 : shL .u64 (v / p256 (d + 1)) 8 = v / p256 (d + 1) * 256 := by
        rw [show (8 : Int) = ((8 : Nat) : Int) from rfl, shL_nat _ _ (by simp [IntKind.bits]), wrap_u64]; omega
      refine Eq.trans ?_ (div_step v d)
      rw [e3, wrap_u64, wrap_u64]
      omega
  · have : c = 0 := by simp at hlt; omega
    subst this
    have : v / p256 0 = v := by simp [p256]
    simp only [this, bne_self_eq_false, Br_false]
    refine C85 m2 (fun j k' h3 hj hk' _ _ u3 m3 => ?_) fun hh => absurd hh (by omega)
    obtain rfl : j = 1 := by omega
    obtain rfl : k' = 0 := by omega
    simp only [Bool.not_true, Br_false]
    have K3 := u3.kb.kept K2 hbf
    have fl0 : (frame xs 0).length = 4096 := by simp [frame]; omega
    have f1 : frame (splice xs (1 * 4096) (frame xs 0)) 1 = frame xs 0 := frame_splice fl0 (by omega)
    have f0 : frame (splice xs (1 * 4096) (frame xs 0)) 0 = frame xs 0 :=
      frame_other (j := 1) (by omega) fun i hi => splice_get (by rw [fl0]; omega) (by rw [fl0]; omega)
    refine C86 m3 (fun j k' hj hk' _ _ => ?_) fun hh => absurd hh (by omega)
    obtain rfl : j = 0 := by omega
    obtain rfl : k' = 1 := by omega
    rw [f0, f1]
    simp only [beq_self_eq_true, Bool.not_true, Br_false]
    generalize hys : splice xs (1 * 4096) (frame xs 0) = ys at *
    have hyl : ys.length = 8192 := by have := m3.len; omega
    refine C84 m3 (fun j p hj hp _ hp4 => ?_) fun hh => absurd hh (by omega)
    obtain rfl : j = 1 := by omega
    obtain rfl : p = 8 * l := by omega
    refine C74 m3 (by rw [wrap_u8]; omega) (fun j p h4 hj hp _ _ u4 m4 => ?_) fun hh => absurd hh (by omega)
    obtain rfl : j = 1 := by omega
    obtain rfl : p = 8 * l := by omega
    have K4 := u4.kb.kept K3 hbf
    simp only [Br_true]
    refine C86 m4 (fun j k' hj hk' _ _ => ?_) fun hh => absurd hh (by omega)
    obtain rfl : j = 0 := by omega
    obtain rfl : k' = 1 := by omega
    rw [frame_set (by omega)]
    have g0 : frame (ys.set (1 * 4096 + 8 * l) (IntKind.wrap .u8 (ys.getD (1 * 4096 + 8 * l) 0 + 1))) 0 = frame ys 0 :=
      frame_other (j := 1) (by omega) fun i hi => by rw [List.getElem?_set_ne (by omega)]
    rw [g0]
    have ne : (frame ys 0 == (frame ys 1).set (8 * l) (IntKind.wrap .u8 (ys.getD (1 * 4096 + 8 * l) 0 + 1))) = false := by
      apply beq_false_of_ne
      intro e
      have e2 : (frame ys 1)[8 * l]? = ((frame ys 1).set (8 * l) (IntKind.wrap .u8 (ys.getD (1 * 4096 + 8 * l) 0 + 1)))[8 * l]? := by
        rw [← e, f0, f1]
      have fl1 : (frame ys 1).length = 4096 := by rw [f1]; exact fl0
      rw [List.getElem?_set_self (by omega)] at e2
      have e3 : (frame ys 1)[8 * l]? = some (ys.getD (1 * 4096 + 8 * l) 0) := by
        unfold frame
        rw [List.getElem?_take, if_pos (by omega), List.getElem?_drop, List.getD_eq_getElem?_getD, List.getElem?_eq_getElem (by omega)]; rfl
      rw [e3] at e2
      simp only [Option.some.injEq] at e2
      rw [wrap_u8] at e2
      have hm : ys.getD (1 * 4096 + 8 * l) 0 ∈ ys := by
        rw [List.getD_eq_getElem?_getD, List.getElem?_eq_getElem (by omega)]; exact List.getElem_mem _
      have := m3.byte _ hm
      omega
    rw [ne]
    simp only [Bool.not_false, Br_true]
    refine C87 m4 (fun j h5 hj _ u5 m5 => ?_) fun hh => absurd hh (by omega)
    obtain rfl : j = 1 := by omega
    have K5 := u5.kept K4 hbf
    simp only [Br_true]
    refine C87 m5 (fun j h6 hj _ u6 m6 => ?_) fun hh => absurd hh (by omega)
    obtain rfl : j = 0 := by omega
    have K6 := u6.kept K5 hbf
    simp only [Br_true]
    refine C86 m6 (fun j k' hj hk' _ _ => ?_) fun hh => absurd hh (by omega)
    obtain rfl : j = 1 := by omega
    obtain rfl : k' = 0 := by omega
    have hm5 := m5.len
    have hm4 := m4.len
    have z0 : frame (splice (splice (ys.set (1 * 4096 + 8 * l) (IntKind.wrap .u8 (ys.getD (1 * 4096 + 8 * l) 0 + 1))) (1 * 4096) (fillB [])) (0 * 4096) (fillB [])) 0 = fillB [] :=
      frame_splice (fillB_len _) (by omega)
    have z1 : frame (splice (splice (ys.set (1 * 4096 + 8 * l) (IntKind.wrap .u8 (ys.getD (1 * 4096 + 8 * l) 0 + 1))) (1 * 4096) (fillB [])) (0 * 4096) (fillB [])) 1 = fillB [] := by
      rw [frame_other (j := 0) (xs := splice (ys.set (1 * 4096 + 8 * l) (IntKind.wrap .u8 (ys.getD (1 * 4096 + 8 * l) 0 + 1))) (1 * 4096) (fillB [])) (by omega) fun i hi => splice_get (by rw [fillB_len]; omega) (by rw [fillB_len]; omega)]
      exact frame_splice (fillB_len _) (by omega)
    rw [z0, z1]
    simp only [beq_self_eq_true, Br_true]
    exact C62 fun h9 k9 => q h9 (K6.trans k9)
end Go.Proofs.Ytfijchofplkcoaa
