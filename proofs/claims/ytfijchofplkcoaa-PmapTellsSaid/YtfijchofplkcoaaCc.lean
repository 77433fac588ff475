/-
  The laws of addresses and of entries' numbers (PteBack, PteNext, PteParts, PteJoins) hold over the heap predicates.
-/
import Derived.Test.YtfijchofplkcoaaCb
set_option linter.unusedVariables false
set_option linter.unusedSimpArgs false
set_option maxRecDepth 100000
namespace Go.Proofs.Ytfijchofplkcoaa

theorem bAndNot_u (a b : Int) : bAndNot .u64 a b = IntKind.wrap .u64 ((BitVec.ofInt 64 a &&& ~~~ BitVec.ofInt 64 b).toNat : Int) := rfl

theorem back54 (v : Nat) (hv : v < 2 ^ 64) : bAndNot .u64 (bAnd .u64 (v : Int) 18014398509481983) 768 = encF ((v : Int) % 256) ((v : Int) / 1024 % 17592186044416) := by
  have h1 : bAnd .u64 (v : Int) 18014398509481983 = ((v % 2 ^ 54 : Nat) : Int) := by
    have := bAnd_u64 v 18014398509481983 hv (by omega)
    rw [show (18014398509481983 : Nat) = 2 ^ 54 - 1 from rfl, Nat.and_two_pow_sub_one_eq_mod] at this
    exact this
  rw [h1, bAndNot_u]
  have key : (BitVec.ofInt 64 ((v % 2 ^ 54 : Nat) : Int) &&& ~~~ BitVec.ofInt 64 768).toNat = (v / 1024 % 2 ^ 44) * 2 ^ 10 + v % 2 ^ 8 := by
    have e := Nat.shiftLeft_add_eq_or_of_lt (show v % 2 ^ 8 < 2 ^ 10 from Nat.lt_of_lt_of_le (Nat.mod_lt _ (by omega)) (by omega)) (v / 1024 % 2 ^ 44)
    rw [Nat.shiftLeft_eq] at e
    rw [e]
    apply Nat.eq_of_testBit_eq
    intro i
    rw [BitVec.toNat_and, Nat.testBit_and, BitVec.toNat_ofInt]
    have e1 : ((((v % 2 ^ 54 : Nat) : Int) % ((2 ^ 64 : Nat) : Int)).toNat) = v % 2 ^ 54 := by omega
    rw [e1]
    have e2 : (~~~ BitVec.ofInt 64 768).toNat = 2 ^ 64 - 1 - 768 := by decide
    rw [e2]
    have e3 : (2 ^ 64 - 1 - 768 : Nat).testBit i = (decide (i < 64) && !((768 : Nat).testBit i)) := by
      have := Nat.testBit_two_pow_sub_succ (x := 768) (n := 64) (by omega) i
      rw [show (2 ^ 64 - 1 - 768 : Nat) = 2 ^ 64 - (768 + 1) from rfl]; exact this
    have e4 : (768 : Nat).testBit i = (i == 8 || i == 9) := by
      by_cases h8 : i < 10
      · have : ∀ i, i < 10 → (768 : Nat).testBit i = (i == 8 || i == 9) := by decide
        exact this i h8
      · have : (768 : Nat).testBit i = false := Nat.testBit_lt_two_pow (Nat.lt_of_lt_of_le (show 768 < 2 ^ 10 by omega) (Nat.pow_le_pow_right (by omega) (by omega)))
        rw [this]; symm; simp; omega
    rw [e3, e4, Nat.testBit_or, Nat.testBit_mul_two_pow, Nat.testBit_mod_two_pow, Nat.testBit_mod_two_pow, Nat.testBit_mod_two_pow, show (1024 : Nat) = 2 ^ 10 from rfl, Nat.testBit_div_two_pow]
    rcases (by omega : i < 8 ∨ i = 8 ∨ i = 9 ∨ (10 ≤ i ∧ i < 54) ∨ 54 ≤ i) with c | rfl | rfl | c | c
    · simp [show i < 54 by omega, show i < 64 by omega, show ¬ 10 ≤ i by omega, show i ≠ 8 by omega, show i ≠ 9 by omega, c]
    · simp
    · simp
    · simp [show i < 54 by omega, show i < 64 by omega, c.1, show i ≠ 8 by omega, show i ≠ 9 by omega, show ¬ i < 8 by omega, show i - 10 < 44 by omega, show i - 10 + 10 = i by omega]
    · simp [show ¬ i < 54 by omega, show 10 ≤ i by omega, show ¬ i < 8 by omega, show ¬ i - 10 < 44 by omega]
  rw [key, wrap_u64]
  unfold encF
  omega

theorem L3 {a b v : Int} {Q : Bool → H → Prop} {h : H} (ha : 0 ≤ a ∧ a < 18446744073709551616) (hb : 0 ≤ b ∧ b < 18446744073709551616) (hv : 0 ≤ v ∧ v < 18446744073709551616)
    (q : ∀ h', Kept h h' → Q true h') : F3 a b v Q h := by
  rw [F3_eq]
  refine ⟨by omega, by omega, Nw_intro fun n h2 hn k2 e2 => ?_⟩
  simp only [add_mk]
  rw [zero25] at e2
  refine St_intro e2 (by simp) fun h3 u3 e3 => ?_
  refine St_intro e3 (by simp) fun h4 u4 e4 => ?_
  have k4 : Kept h h4 := u4.kept (u3.kept k2 (by omega)) (by omega)
  obtain ⟨x, hx⟩ : ∃ x : Int, x = a % 256 := ⟨_, rfl⟩
  obtain ⟨y, hy⟩ : ∃ y : Int, y = b % 17592186044416 := ⟨_, rfl⟩
  have ex : IntKind.wrap .i64 (Int.tmod a 256) = x := by rw [Int.tmod_eq_emod_of_nonneg ha.1, wrap_i64'] <;> omega
  have ey : IntKind.wrap .i64 (Int.tmod b 17592186044416) = y := by rw [Int.tmod_eq_emod_of_nonneg hb.1, wrap_i64'] <;> omega
  rw [ex, ey] at e4
  have c0 : hcell h4 ⟨n, 0 + 0, none⟩ = some (.int .i64 x) := by rw [hcell_blk e4]; rfl
  have c1 : hcell h4 ⟨n, 0 + 1, none⟩ = some (.int .i64 y) := by rw [hcell_blk e4]; rfl
  refine Ld_i c0 (Ld_i c1 (Ld_i c0 (Ld_i c1 (C41 fun h5 k5 => ⟨⟨k5.cell c0, k5.cell c1, trivial⟩, ?_⟩))))
  have r : 0 ≤ encF x y ∧ encF x y < 18446744073709551616 := by unfold encF; omega
  refine C40 r fun h6 k6 => ⟨⟨k6.cell (k5.cell c0), k6.cell (k5.cell c1), trivial⟩, ?_⟩
  have g1 : encF x y % 256 = x := by unfold encF; omega
  have g2 : encF x y / 1024 % 17592186044416 = y := by unfold encF; omega
  rw [g1, g2]
  simp only [beq_self_eq_true, Bool.and_self, Bool.not_true, Br_false]
  refine C40 hv fun h7 k7 => C41 fun h8 k8 => ?_
  obtain ⟨m, rfl⟩ := Int.eq_ofNat_of_zero_le hv.1
  rw [back54 m (by omega), show (encF ((m : Int) % 256) ((m : Int) / 1024 % 17592186044416) == encF ((m : Int) % 256) ((m : Int) / 1024 % 17592186044416)) = true by simp, Br_true]
  exact C42 fun h9 k9 => q h9 (((((k4.trans k5).trans k6).trans k7).trans k8).trans k9)

theorem L4 {a : Int} {Q : Bool → H → Prop} {h : H} (ha : 0 ≤ a ∧ a < 18446744073709551616) (q : ∀ h', Kept h h' → Q true h') : F4 a Q h := by
  rw [F4_eq]
  refine ⟨by omega, ?_⟩
  obtain ⟨n, hn⟩ : ∃ x : Int, x = a % 67108863 := ⟨_, rfl⟩
  have ex : IntKind.wrap .i64 (Int.tmod a 67108863) = n := by rw [Int.tmod_eq_emod_of_nonneg ha.1, wrap_i64'] <;> omega
  have hr : 0 ≤ n ∧ n < 67108863 := by omega
  rw [ex]
  have sh : shL .i64 n 12 = n * 4096 := by
    rw [show (12 : Int) = ((12 : Nat) : Int) from rfl, shL_nat _ _ (by simp [IntKind.bits]), wrap_i64'] <;> omega
  refine ⟨by omega, ?_⟩
  rw [sh, wrap_i64' (n * 4096 + 4095) (by omega) (by omega)]
  refine C43 ⟨by omega, ?_⟩
  rw [wrap_i64' (n * 4096 + 4096) (by omega) (by omega)]
  refine C43 ?_
  simp only [LetI, JoinM]
  rw [show (n * 4096 + 4095) / 4096 % 134217728 = n by omega, show (n * 4096 + 4096) / 4096 % 134217728 = n + 1 by omega,
    show (n * 4096 + 4095) % 4096 = 4095 by omega, show (n * 4096 + 4096) % 4096 = 0 by omega, wrap_i64' (n + 1) (by omega) (by omega)]
  simp only [bne_self_eq_false, Br_false]
  refine Loop_intro (fun k z h' => h' = h ∧ ((k = 3 ∧ z.1 = 1 ∧ z.2.1 = 0) ∨ (k = 2 ∧ z.1 = (if n % 512 = 511 then 1 else 0) ∧ z.2.1 = 1) ∨ (k = 1 ∧ z.1 = (if n % 262144 = 262143 then 1 else 0) ∧ z.2.1 = 2) ∨ (k = 0 ∧ z.2.1 = 3))) 3 ⟨rfl, .inl ⟨rfl, rfl, rfl⟩⟩ ?_
  rintro k ⟨c, i, u⟩ h' ⟨rfl, ⟨hk, h1, h2⟩ | ⟨hk, h1, h2⟩ | ⟨hk, h1, h2⟩ | ⟨hk, h2⟩⟩ <;> simp only at h2 <;> (try simp only at h1) <;> subst h2 hk
  · subst h1
    refine Br_dec (fun _ => C44 (C44 ⟨by omega, ?_⟩)) (fun hh => absurd (by simp) hh)
    simp only [idxF]
    refine Br_bne_int (fun hh => (hh ?_).elim) fun _ => ?_
    · simp only [ite_true]; rw [wrap_i64' _ (by omega) (by omega), Int.tmod_eq_emod_of_nonneg (by omega)]; omega
    · refine Br_dec (fun hh => ⟨2, by omega, by trivial, .inr (.inl ⟨rfl, ?_, by rfl⟩)⟩) (fun hh => ⟨2, by omega, by trivial, .inr (.inl ⟨rfl, ?_, by rfl⟩)⟩)
      · simp only [ite_true] at hh; rw [wrap_i64' _ (by omega) (by omega)] at hh; (try simp only); split <;> omega
      · simp only [ite_true] at hh; rw [wrap_i64' _ (by omega) (by omega)] at hh; (try simp only); split <;> omega
  · subst h1
    refine Br_dec (fun _ => C44 (C44 ⟨by omega, ?_⟩)) (fun hh => absurd (by simp) hh)
    simp only [idxF]
    refine Br_bne_int (fun hh => (hh ?_).elim) fun _ => ?_
    · simp; split <;> (rw [wrap_i64' _ (by omega) (by omega), Int.tmod_eq_emod_of_nonneg (by omega)]; omega)
    · refine Br_dec (fun hh => ⟨1, by omega, by trivial, .inr (.inr (.inl ⟨rfl, ?_, by rfl⟩))⟩) (fun hh => ⟨1, by omega, by trivial, .inr (.inr (.inl ⟨rfl, ?_, by rfl⟩))⟩)
      · simp at hh; split at hh <;> (rw [wrap_i64' _ (by omega) (by omega)] at hh; (try simp only); split <;> omega)
      · simp at hh; split at hh <;> (rw [wrap_i64' _ (by omega) (by omega)] at hh; (try simp only); split <;> omega)
  · subst h1
    refine Br_dec (fun _ => C44 (C44 ⟨by omega, ?_⟩)) (fun hh => absurd (by simp) hh)
    simp only [idxF]
    refine Br_bne_int (fun hh => (hh ?_).elim) fun _ => ?_
    · simp; split <;> (rw [wrap_i64' _ (by omega) (by omega), Int.tmod_eq_emod_of_nonneg (by omega)]; omega)
    · refine Br_dec (fun hh => ⟨0, by omega, by trivial, .inr (.inr (.inr ⟨rfl, by rfl⟩))⟩) (fun hh => ⟨0, by omega, by trivial, .inr (.inr (.inr ⟨rfl, by rfl⟩))⟩)
  · refine Br_dec (fun hh => absurd hh (by simp)) fun _ => C42 fun h9 k9 => q h9 k9

theorem L5 {a l x y z : Int} {Q : Bool → H → Prop} {h : H} (ha : -9223372036854775808 ≤ a ∧ a ≤ 9223372036854775807) (q : ∀ h', Kept h h' → Q true h') : F5 a l x y z Q h := by
  rw [F5_eq]
  refine Nw_intro fun n h2 hn k2 e2 => ?_
  have c0 : hcell h2 ⟨n, 0, none⟩ = some (.int .i64 x) := by rw [hcell_blk e2]; rfl
  have c1 : hcell h2 ⟨n, 1, none⟩ = some (.int .i64 y) := by rw [hcell_blk e2]; rfl
  have c2 : hcell h2 ⟨n, 2, none⟩ = some (.int .i64 z) := by rw [hcell_blk e2]; rfl
  refine C43 (C45 ?_)
  simp only [LetI, beq_self_eq_true, Br_true]
  refine ⟨(idxF a l, ()), C44 ⟨rfl, rfl⟩, ⟨(idxF a l, ()), C46 ⟨rfl, rfl⟩, ?_⟩⟩
  simp only [beq_self_eq_true, Br_true, add_mk]
  refine ⟨⟨by simp, by simp⟩, Ld_i c0 ⟨⟨by simp, by simp⟩, Ld_i c1 ⟨⟨by simp, by simp⟩, Ld_i c2 ⟨⟨by simp, by simp⟩, Ld_i c0 ⟨⟨by simp, by simp⟩, Ld_i c1 ⟨⟨by simp, by simp⟩, Ld_i c2 (C47 ⟨c2, c1, c0, ⟨(joinF x y z, ()), C48 ⟨rfl, rfl⟩, ?_⟩⟩)⟩⟩⟩⟩⟩⟩
  simp only [beq_self_eq_true, Br_true]
  refine ⟨(canF a, ()), C49 ⟨rfl, rfl⟩, ⟨(canF a, ()), C50 ha ⟨rfl, rfl⟩, ?_⟩⟩
  simp only [beq_self_eq_true, Br_true]
  exact C42 fun h9 k9 => q h9 (k2.trans k9)

theorem L6 {a : Int} {Q : Bool → H → Prop} {h : H} (ha : -9223372036854775808 ≤ a ∧ a ≤ 9223372036854775807) (q : ∀ h', Kept h h' → Q true h') : F6 a Q h := by
  rw [F6_eq]
  refine C43 ?_
  simp only [LetI, JoinM]
  obtain ⟨v, hv⟩ : ∃ x : Int, x = a / 4096 % 134217728 := ⟨_, rfl⟩
  obtain ⟨t, ht⟩ : ∃ x : Int, x = a % 4096 := ⟨_, rfl⟩
  rw [← hv, ← ht]
  refine C44 (C44 (C44 (C47 ?_)))
  have ej : joinF (idxF v 2) (idxF v 1) (idxF v 0) = v := by simp [joinF, idxF]; omega
  rw [ej]
  simp only [bne_self_eq_false, Br_false]
  refine Br_dec (fun hh => by omega) fun _ => Br_dec (fun hh => by omega) fun _ => Br_dec (fun hh => by omega) fun _ => Br_dec (fun hh => by omega) fun _ => ⟨by omega, ?_⟩
  have sh : shL .i64 v 12 = v * 4096 := by
    rw [show (12 : Int) = ((12 : Nat) : Int) from rfl, shL_nat _ _ (by simp [IntKind.bits]), wrap_i64'] <;> omega
  rw [sh, wrap_i64' (v * 4096 + t) (by omega) (by omega)]
  have fin : ∀ f : Int, canF a = (f == a) → F49 a (fun r22 h23 => Br (r22 == (f == a)) (F42 (fun r24 h25 => Q r24 h25) h23) (Q false h23)) h := by
    intro f hf
    refine C49 ?_
    rw [hf]
    simp only [beq_self_eq_true, Br_true]
    exact C42 fun h9 k9 => q h9 k9
  refine Br_dec (fun hh => ?_) fun hh => ?_
  · rw [wrap_i64' (v * 4096 + t - 549755813888) (by omega) (by omega)]
    apply fin
    unfold canF
    by_cases hc : v * 4096 + t - 549755813888 = a
    · have : (v * 4096 + t - 549755813888 == a) = true := by simpa using hc
      rw [this]; simp; omega
    · have : (v * 4096 + t - 549755813888 == a) = false := by simpa using hc
      rw [this]; simp; omega
  · apply fin
    unfold canF
    by_cases hc : v * 4096 + t = a
    · have : (v * 4096 + t == a) = true := by simpa using hc
      rw [this]; simp; omega
    · have : (v * 4096 + t == a) = false := by simpa using hc
      rw [this]; simp; omega
end Go.Proofs.Ytfijchofplkcoaa
