/-
  What the functions of page table entries and addresses answer (packages pte and pantryref03).
-/
import Derived.Test.YtfijchofplkcoaaCa
import Derived.Test.YtfijchofplkcoaaGa
set_option linter.unusedVariables false
set_option linter.unusedSimpArgs false
set_option maxRecDepth 100000
namespace Go.Proofs.Ytfijchofplkcoaa

theorem C150 {p : Int} {n : Nat} {Q : Int → H → Prop} {h : H} (hn : n ≤ 63) (hp : 0 ≤ p ∧ p < 18446744073709551616) (q : Q (p % ((2 ^ n : Nat) : Int)) h) : F150 p n Q h := by
  rw [F150_eq]
  refine ⟨by omega, ?_⟩
  show Q _ h
  have e1 : shL .u64 1 (n : Int) = ((2 ^ n : Nat) : Int) := by
    have p63 : (2 : Nat) ^ n ≤ 2 ^ 63 := Nat.pow_le_pow_right (by omega) hn
    have hpos : 0 < (2 : Nat) ^ n := Nat.pow_pos (by omega)
    unfold shL
    rw [wrap_u64]
    have : min (n : Int).toNat IntKind.u64.bits = n := by simp [IntKind.bits]; omega
    rw [this]
    rw [Int.one_mul, Int.emod_eq_of_lt]
    · simp
    · have : (0 : Int) ≤ (2 : Int) ^ n := Int.pow_nonneg (by omega)
      exact this
    · have : ((2 : Int) ^ n) = ((2 ^ n : Nat) : Int) := by simp
      rw [this]; omega
  have p63 : (2 : Nat) ^ n ≤ 2 ^ 63 := Nat.pow_le_pow_right (by omega) hn
  have hpos : 0 < (2 : Nat) ^ n := Nat.pow_pos (by omega)
  obtain ⟨m, rfl⟩ := Int.eq_ofNat_of_zero_le hp.1
  have e2 : IntKind.wrap .u64 (((2 ^ n : Nat) : Int) - 1) = ((2 ^ n - 1 : Nat) : Int) := by rw [wrap_u64]; omega
  rw [e1, e2, bAnd_u64 _ _ (by omega) (by omega), Nat.and_two_pow_sub_one_eq_mod]
  simpa using q

theorem shR_nat {k : IntKind} (p : Int) (n : Nat) (hn : n ≤ k.bits) : shR k p n = p / ((2 ^ n : Nat) : Int) := by
  unfold shR
  have : min (n : Int).toNat k.bits = n := by simp; omega
  rw [this]
  rw [Int.fdiv_eq_ediv_of_nonneg]
  · simp
  · exact Int.pow_nonneg (by omega)
theorem shL_nat {k : IntKind} (p : Int) (n : Nat) (hn : n ≤ k.bits) : shL k p n = k.wrap (p * ((2 ^ n : Nat) : Int)) := by
  unfold shL
  have : min (n : Int).toNat k.bits = n := by simp; omega
  rw [this]; simp

theorem mod_succ (g i : Nat) : g % 2 ^ (i + 1) = g % 2 ^ i + 2 ^ i * (g / 2 ^ i % 2) := Nat.mod_pow_succ

theorem C151 {p : Int} {n : Nat} {Q : Int → H → Prop} {h : H} (hn : n ≤ 63) (hp : 0 ≤ p ∧ p < 18446744073709551616) (q : Q (p % ((2 ^ n : Nat) : Int)) h) : F151 p n Q h := by
  rw [F151_eq]
  obtain ⟨m, rfl⟩ := Int.eq_ofNat_of_zero_le hp.1
  refine Loop_intro (fun k z h' => ∃ i : Nat, z.2.1 = (i : Int) ∧ k = n - i ∧ i ≤ n ∧ z.1 = ((m % 2 ^ i : Nat) : Int) ∧ h' = h) n ⟨0, rfl, by omega, by omega, by simp [Nat.mod_one], rfl⟩ ?_
  rintro k ⟨acc, ii, u⟩ h' ⟨i, hi, hk, hin, ha, rfl⟩
  simp only at hi ha
  subst hi ha
  refine Br_dec ?_ ?_
  · intro hlt
    have hlt : i < n := by simp at hlt; omega
    have w1 : IntKind.wrap .u64 (i : Int) = (i : Int) := by rw [wrap_u64]; omega
    have p63 : (2 : Nat) ^ (i + 1) ≤ 2 ^ 63 := Nat.pow_le_pow_right (by omega) (by omega)
    have hb : (m / 2 ^ i % 2) < 2 := Nat.mod_lt _ (by omega)
    refine ⟨by simp only [w1]; omega, by simp only [w1]; omega, ?_⟩
    refine ⟨n - (i + 1), by omega, i + 1, ?_, rfl, by omega, ?_, rfl⟩
    · simp only; rw [wrap_i64' _ (by omega) (by omega)]; simp
    · simp only [w1]
      rw [shR_nat _ _ (by simp [IntKind.bits]; omega), shL_nat _ _ (by simp [IntKind.bits]; omega)]
      have e1 : ((m : Int) / ((2 ^ i : Nat) : Int)) = ((m / 2 ^ i : Nat) : Int) := by simp
      rw [e1]
      have hm : m / 2 ^ i < 2 ^ 64 := Nat.lt_of_le_of_lt (Nat.div_le_self _ _) (by omega)
      have e2 : bAnd .u64 ((m / 2 ^ i : Nat) : Int) 1 = ((m / 2 ^ i % 2 : Nat) : Int) := by
        have := bAnd_u64 (m / 2 ^ i) 1 hm (by omega)
        rw [Nat.and_one_is_mod] at this
        exact this
      rw [e2]
      rw [mod_succ]
      have hlt2 : m % 2 ^ i < 2 ^ i := Nat.mod_lt _ (Nat.pow_pos (by omega))
      rw [Nat.pow_succ] at p63
      generalize m / 2 ^ i % 2 = bit at *
      generalize 2 ^ i = pw at *
      have : bit = 0 ∨ bit = 1 := by omega
      rw [wrap_u64, wrap_u64]
      rcases this with rfl | rfl <;> simp <;> omega
  · intro hge
    have : i = n := by simp at hge; omega
    subst this
    simpa [LetI] using q

theorem C153 {m c : Nat} {Q : Bool → H → Prop} {h : H} (hm : m < 2 ^ 63) (hc : 0 < c) (q : Q (m / c % 2 == 1) h) : F153 m c Q h := by
  rw [F153_eq]
  refine ⟨by omega, by omega, ?_⟩
  have e1 : Int.tdiv (m : Int) (c : Int) = ((m / c : Nat) : Int) := by simp
  have : m / c ≤ m := Nat.div_le_self _ _
  have hb : m / c < 2 ^ 63 := by omega
  rw [e1, wrap_i64' _ (by generalize m / c = g at *; omega) (by generalize m / c = g at *; omega)]
  have e2 : Int.tmod ((m / c : Nat) : Int) 2 = ((m / c % 2 : Nat) : Int) := by
    rw [Int.tmod_eq_emod_of_nonneg (by generalize m / c = g at *; omega)]; simp
  rw [e2]
  have e3 : (((m / c % 2 : Nat) : Int) == 1) = (m / c % 2 == 1) := by
    cases h : (m / c % 2 == 1) <;> simp at h ⊢ <;> omega
  rw [e3]; exact q

def encF (f p : Int) : Int := (p % 17592186044416) * 1024 + f % 256

theorem bOr_add (a b n : Nat) (hb : b < 2 ^ n) (ha : a * 2 ^ n + b < 2 ^ 64) : bOr .u64 ((a * 2 ^ n : Nat) : Int) (b : Int) = ((a * 2 ^ n + b : Nat) : Int) := by
  rw [bOr_u64 _ _ (by omega) (by omega)]
  have := Nat.shiftLeft_add_eq_or_of_lt hb a
  rw [Nat.shiftLeft_eq] at this
  rw [this]

theorem C41 {f p : Int} {Q : Int → H → Prop} {h : H} (q : ∀ h', Kept h h' → Q (encF f p) h') : F41 f p Q h := by
  rw [F41_eq]
  refine Nw_intro fun b h2 hb k e => ?_
  simp only [add_mk]
  refine Ld_i (x := p) (by rw [hcell_blk e]; rfl) ?_
  have r1 : 0 ≤ IntKind.wrap .u64 p ∧ IntKind.wrap .u64 p < 18446744073709551616 := by rw [wrap_u64]; omega
  have r2 : 0 ≤ IntKind.wrap .u64 f ∧ IntKind.wrap .u64 f < 18446744073709551616 := by rw [wrap_u64]; omega
  refine ⟨(_, ()), C150 (n := 44) (by omega) r1 ⟨rfl, rfl⟩, by omega, ?_⟩
  refine Ld_i (x := f) (by rw [hcell_blk e]; rfl) ?_
  refine ⟨(_, ()), C150 (n := 8) (by omega) r2 ⟨rfl, rfl⟩, ?_⟩
  show Q _ h2
  have e1 : IntKind.wrap .u64 p % ((2 ^ 44 : Nat) : Int) = p % 17592186044416 := by rw [wrap_u64]; omega
  have e2 : IntKind.wrap .u64 f % ((2 ^ 8 : Nat) : Int) = f % 256 := by rw [wrap_u64]; omega
  rw [e1, e2]
  have := shL_nat (k := .u64) (p % 17592186044416) 10 (by simp [IntKind.bits])
  rw [show ((10 : Int)) = ((10 : Nat) : Int) from rfl, this]
  obtain ⟨a, ha⟩ := Int.eq_ofNat_of_zero_le (show 0 ≤ p % 17592186044416 by omega)
  obtain ⟨c, hc⟩ := Int.eq_ofNat_of_zero_le (show 0 ≤ f % 256 by omega)
  have ha2 : a < 17592186044416 := by omega
  have hc2 : c < 256 := by omega
  have := q h2 k
  unfold encF at this
  rw [ha, hc] at this ⊢
  have e3 : IntKind.wrap .u64 ((a : Int) * ((2 ^ 10 : Nat) : Int)) = ((a * 2 ^ 10 : Nat) : Int) := by rw [wrap_u64]; omega
  rw [e3, bOr_add a c 10 (by omega) (by omega)]
  simpa using this

theorem C51 {f p : Int} {Q : Int → H → Prop} {h : H} (q : ∀ h', Kept h h' → Q (encF f p) h') : F51 f p Q h := by
  rw [F51_eq]
  refine Nw_intro fun b h2 hb k e => ?_
  simp only [add_mk]
  have r1 : 0 ≤ IntKind.wrap .u64 p ∧ IntKind.wrap .u64 p < 18446744073709551616 := by rw [wrap_u64]; omega
  have r2 : 0 ≤ IntKind.wrap .u64 f ∧ IntKind.wrap .u64 f < 18446744073709551616 := by rw [wrap_u64]; omega
  refine Ld_i (x := f) (by rw [hcell_blk e]; rfl) ?_
  refine ⟨(_, ()), C151 (n := 8) (by omega) r2 ⟨rfl, rfl⟩, ?_⟩
  refine Ld_i (x := p) (by rw [hcell_blk e]; rfl) ?_
  refine ⟨(_, ()), C151 (n := 44) (by omega) r1 ⟨rfl, rfl⟩, ?_⟩
  show Q _ h2
  have e1 : IntKind.wrap .u64 p % ((2 ^ 44 : Nat) : Int) = p % 17592186044416 := by rw [wrap_u64]; omega
  have e2 : IntKind.wrap .u64 f % ((2 ^ 8 : Nat) : Int) = f % 256 := by rw [wrap_u64]; omega
  rw [e1, e2]
  have := q h2 k
  unfold encF at this
  have e3 : IntKind.wrap .u64 (f % 256 + IntKind.wrap .u64 (p % 17592186044416 * 1024)) = p % 17592186044416 * 1024 + f % 256 := by
    rw [wrap_u64, wrap_u64]; omega
  rw [e3]; exact this

theorem zero25 : zeroC Try.prog 25 = #[.int .i64 0, .int .i64 0] := by kernel_rfl

theorem C40 {v : Int} {Q : Int → Int → H → Prop} {h : H} (hv : 0 ≤ v ∧ v < 18446744073709551616) (q : ∀ h', Kept h h' → Q (v % 256) (v / 1024 % 17592186044416) h') : F40 v Q h := by
  rw [F40_eq]
  refine Nw_intro fun b h2 hb k e => ?_
  simp only [add_mk]
  refine C150 (n := 8) (by omega) hv ⟨by omega, ?_⟩
  have s : shR .u64 v 10 = v / 1024 := by
    have := shR_nat (k := .u64) v 10 (by simp [IntKind.bits])
    simpa using this
  rw [s]
  refine C150 (n := 44) (by omega) (by omega) ?_
  rw [zero25] at e
  refine St_intro e (by simp) fun h3 u3 e3 => ?_
  refine St_intro e3 (by simp) fun h4 u4 e4 => ?_
  refine Ld_i (x := v % 256) ?_ (Ld_i (x := v / 1024 % 17592186044416) ?_ (q h4 ?_))
  · rw [hcell_blk e4]; simp [IntKind.wrap, IntKind.signed, IntKind.bits]; omega
  · rw [hcell_blk e4]; simp [IntKind.wrap, IntKind.signed, IntKind.bits]; omega
  · exact u4.kept (u3.kept k (by omega)) (by omega)

theorem C52 {v : Int} {Q : Int → Int → H → Prop} {h : H} (hv : 0 ≤ v ∧ v < 18446744073709551616) (q : ∀ h', Kept h h' → Q (v % 256) (v / 1024 % 17592186044416) h') : F52 v Q h := by
  rw [F52_eq]
  refine Nw_intro fun b h2 hb k e => ?_
  simp only [add_mk]
  refine C151 (n := 8) (by omega) hv ⟨by omega, ?_⟩
  have s : IntKind.wrap .u64 (Int.tdiv v 1024) = v / 1024 := by
    rw [Int.tdiv_eq_ediv_of_nonneg hv.1, wrap_u64]; omega
  rw [s]
  refine C151 (n := 44) (by omega) (by omega) ?_
  rw [zero25] at e
  refine St_intro e (by simp) fun h3 u3 e3 => ?_
  refine St_intro e3 (by simp) fun h4 u4 e4 => ?_
  refine Ld_i (x := v % 256) ?_ (Ld_i (x := v / 1024 % 17592186044416) ?_ (q h4 ?_))
  · rw [hcell_blk e4]; simp [IntKind.wrap, IntKind.signed, IntKind.bits]; omega
  · rw [hcell_blk e4]; simp [IntKind.wrap, IntKind.signed, IntKind.bits]; omega
  · exact u4.kept (u3.kept k (by omega)) (by omega)

theorem C43 {p : Int} {Q : Int → Int → H → Prop} {h : H} (q : Q (p / 4096 % 134217728) (p % 4096) h) : F43 p Q h := by
  rw [F43_eq]
  have s : shR .u64 (IntKind.wrap .u64 p) 12 = IntKind.wrap .u64 p / 4096 := by
    have := shR_nat (k := .u64) (IntKind.wrap .u64 p) 12 (by simp [IntKind.bits])
    simpa using this
  have r1 : 0 ≤ IntKind.wrap .u64 p ∧ IntKind.wrap .u64 p < 18446744073709551616 := by rw [wrap_u64]; omega
  have r2 : 0 ≤ IntKind.wrap .u64 p / 4096 ∧ IntKind.wrap .u64 p / 4096 < 18446744073709551616 := by omega
  refine ⟨by omega, ?_⟩
  rw [s]
  refine C150 (n := 27) (by omega) r2 (C150 (n := 12) (by omega) r1 ?_)
  show Q _ _ h
  have e1 : IntKind.wrap .i64 (IntKind.wrap .u64 p / 4096 % ((2 ^ 27 : Nat) : Int)) = p / 4096 % 134217728 := by
    rw [wrap_i64' _ (by omega) (by omega), wrap_u64]; omega
  have e2 : IntKind.wrap .i64 (IntKind.wrap .u64 p % ((2 ^ 12 : Nat) : Int)) = p % 4096 := by
    rw [wrap_i64' _ (by omega) (by omega), wrap_u64]; omega
  rw [e1, e2]; exact q
theorem C45 {p : Int} {Q : Int → Int → H → Prop} {h : H} (q : Q (p / 4096 % 134217728) (p % 4096) h) : F45 p Q h := by
  rw [F45_eq]
  have s : shR .u64 (IntKind.wrap .u64 p) 12 = IntKind.wrap .u64 p / 4096 := by
    have := shR_nat (k := .u64) (IntKind.wrap .u64 p) 12 (by simp [IntKind.bits])
    simpa using this
  have r1 : 0 ≤ IntKind.wrap .u64 p ∧ IntKind.wrap .u64 p < 18446744073709551616 := by rw [wrap_u64]; omega
  have r2 : 0 ≤ IntKind.wrap .u64 p / 4096 ∧ IntKind.wrap .u64 p / 4096 < 18446744073709551616 := by omega
  refine ⟨by omega, ?_⟩
  rw [s]
  refine C151 (n := 27) (by omega) r2 (C151 (n := 12) (by omega) r1 ?_)
  show Q _ _ h
  have e1 : IntKind.wrap .i64 (IntKind.wrap .u64 p / 4096 % ((2 ^ 27 : Nat) : Int)) = p / 4096 % 134217728 := by
    rw [wrap_i64' _ (by omega) (by omega), wrap_u64]; omega
  have e2 : IntKind.wrap .i64 (IntKind.wrap .u64 p % ((2 ^ 12 : Nat) : Int)) = p % 4096 := by
    rw [wrap_i64' _ (by omega) (by omega), wrap_u64]; omega
  rw [e1, e2]; exact q

def idxF (v l : Int) : Int := if l = 0 then v % 512 else if l = 1 then v / 512 % 512 else if l = 2 then v / 262144 % 512 else 0
theorem shR9 (v : Int) (l : Nat) (hl : l < 3) : shR .u64 (IntKind.wrap .u64 v) ((9 * l : Nat) : Int) % 512 = idxF v l := by
  rw [shR_nat (k := .u64) _ _ (by simp [IntKind.bits]; omega), wrap_u64]
  have : l = 0 ∨ l = 1 ∨ l = 2 := by omega
  rcases this with rfl | rfl | rfl <;> simp [idxF] <;> omega
theorem shR9r (v : Int) (l : Nat) (hl : l < 3) : 0 ≤ shR .u64 (IntKind.wrap .u64 v) ((9 * l : Nat) : Int) ∧ shR .u64 (IntKind.wrap .u64 v) ((9 * l : Nat) : Int) < 18446744073709551616 := by
  rw [shR_nat (k := .u64) _ _ (by simp [IntKind.bits]; omega), wrap_u64]
  have : l = 0 ∨ l = 1 ∨ l = 2 := by omega
  rcases this with rfl | rfl | rfl <;> simp <;> omega
theorem C44 {v l : Int} {Q : Int → H → Prop} {h : H} (q : Q (idxF v l) h) : F44 v l Q h := by
  rw [F44_eq]
  refine Br_dec ?_ fun h1 => Br_dec ?_ fun h2 => ?_
  · intro hl
    have : idxF v l = 0 := by unfold idxF; split; omega; split; omega; split; omega; rfl
    rwa [this] at q
  · intro hl
    have : idxF v l = 0 := by unfold idxF; split; omega; split; omega; split; omega; rfl
    rwa [this] at q
  · obtain ⟨n, rfl⟩ := Int.eq_ofNat_of_zero_le (show 0 ≤ l by omega)
    have hn : n < 3 := by omega
    have e : IntKind.wrap .i64 (9 * (n : Int)) = ((9 * n : Nat) : Int) := by rw [wrap_i64' _ (by omega) (by omega)]; omega
    refine ⟨by rw [e]; omega, ?_⟩
    rw [e]
    refine C150 (n := 9) (by omega) (shR9r v n hn) ?_
    show Q _ h
    have := shR9 v n hn
    rw [show (((2 ^ 9 : Nat) : Int)) = 512 from rfl, this]
    rw [wrap_i64']; exact q
    all_goals (rw [← this]; omega)
theorem C46 {v l : Int} {Q : Int → H → Prop} {h : H} (q : Q (idxF v l) h) : F46 v l Q h := by
  rw [F46_eq]
  refine Br_dec ?_ fun h1 => Br_dec ?_ fun h2 => ?_
  · intro hl
    have : idxF v l = 0 := by unfold idxF; split; omega; split; omega; split; omega; rfl
    rwa [this] at q
  · intro hl
    have : idxF v l = 0 := by unfold idxF; split; omega; split; omega; split; omega; rfl
    rwa [this] at q
  · obtain ⟨n, rfl⟩ := Int.eq_ofNat_of_zero_le (show 0 ≤ l by omega)
    have hn : n < 3 := by omega
    have e : IntKind.wrap .u64 (IntKind.wrap .i64 (9 * (n : Int))) = ((9 * n : Nat) : Int) := by rw [wrap_i64' _ (by omega) (by omega), wrap_u64]; omega
    refine ⟨by rw [e]; omega, ?_⟩
    rw [e]
    refine C151 (n := 9) (by omega) (shR9r v n hn) ?_
    show Q _ h
    have := shR9 v n hn
    rw [show (((2 ^ 9 : Nat) : Int)) = 512 from rfl, this]
    rw [wrap_i64']; exact q
    all_goals (rw [← this]; omega)

def joinF (a b c : Int) : Int := (a % 512) * 262144 + (b % 512) * 512 + c % 512
theorem C48 {a b c : Int} {Q : Int → H → Prop} {h : H} (q : Q (joinF a b c) h) : F48 a b c Q h := by
  rw [F48_eq]
  have r : ∀ a, 0 ≤ IntKind.wrap .u64 a ∧ IntKind.wrap .u64 a < 18446744073709551616 := by intro a; rw [wrap_u64]; omega
  refine C151 (n := 9) (by omega) (r a) (C151 (n := 9) (by omega) (r b) (C151 (n := 9) (by omega) (r c) ?_))
  show Q _ h
  have e : ∀ a : Int, IntKind.wrap .u64 a % ((2 ^ 9 : Nat) : Int) = a % 512 := by intro a; rw [wrap_u64]; omega
  rw [e, e, e]
  have : IntKind.wrap .i64 (IntKind.wrap .u64 (IntKind.wrap .u64 (IntKind.wrap .u64 (a % 512 * 262144) + IntKind.wrap .u64 (b % 512 * 512)) + c % 512)) = joinF a b c := by
    simp only [wrap_u64, joinF]
    rw [wrap_i64' _ (by omega) (by omega)]; omega
  rw [this]; exact q
theorem C47 {a b c : Int} {Q : Int → H → Prop} {h : H} (q : Q (joinF a b c) h) : F47 a b c Q h := by
  rw [F47_eq]
  have r : ∀ a, 0 ≤ IntKind.wrap .u64 a ∧ IntKind.wrap .u64 a < 18446744073709551616 := by intro a; rw [wrap_u64]; omega
  have e : ∀ a : Int, IntKind.wrap .u64 a % ((2 ^ 9 : Nat) : Int) = a % 512 := by intro a; rw [wrap_u64]; omega
  have st : ∀ x y : Int, 0 ≤ x → x < 262144 → bOr .u64 (shL .u64 x 9) (y % 512) = x * 512 + y % 512 := by
    intro x y h0 h1
    rw [show (9 : Int) = ((9 : Nat) : Int) from rfl, shL_nat _ _ (by simp [IntKind.bits])]
    obtain ⟨x, rfl⟩ := Int.eq_ofNat_of_zero_le h0
    obtain ⟨y', hy⟩ := Int.eq_ofNat_of_zero_le (show 0 ≤ y % 512 by omega)
    rw [hy]
    have e3 : IntKind.wrap .u64 ((x : Int) * ((2 ^ 9 : Nat) : Int)) = ((x * 2 ^ 9 : Nat) : Int) := by rw [wrap_u64]; omega
    rw [e3, bOr_add x y' 9 (by omega) (by omega)]
    omega
  refine Loop_intro (fun k z h' => h' = h ∧ ((k = 3 ∧ z.1 = 0 ∧ z.2.1 = 0) ∨ (k = 2 ∧ z.1 = a % 512 ∧ z.2.1 = 1) ∨ (k = 1 ∧ z.1 = a % 512 * 512 + b % 512 ∧ z.2.1 = 2) ∨ (k = 0 ∧ z.1 = joinF a b c ∧ z.2.1 = 3))) 3 ⟨rfl, .inl ⟨rfl, rfl, rfl⟩⟩ ?_
  rintro k ⟨acc, i, u⟩ h' ⟨rfl, ⟨hk, h1, h2⟩ | ⟨hk, h1, h2⟩ | ⟨hk, h1, h2⟩ | ⟨hk, h1, h2⟩⟩ <;> simp only at h1 h2 <;> subst h1 h2 hk
  · refine ⟨⟨by simp, by simp⟩, by simp, C150 (n := 9) (by omega) (r _) ⟨2, by omega, rfl, .inr (.inl ⟨rfl, ?_, by rfl⟩)⟩⟩
    show bOr .u64 (shL .u64 0 9) (IntKind.wrap .u64 a % ((2 ^ 9 : Nat) : Int)) = a % 512
    rw [e, st _ _ (by omega) (by omega)]; omega
  · refine ⟨⟨by simp, by simp⟩, by simp, C150 (n := 9) (by omega) (r _) ⟨1, by omega, rfl, .inr (.inr (.inl ⟨rfl, ?_, by rfl⟩))⟩⟩
    show bOr .u64 (shL .u64 (a % 512) 9) (IntKind.wrap .u64 b % ((2 ^ 9 : Nat) : Int)) = a % 512 * 512 + b % 512
    rw [e, st _ _ (by omega) (by omega)]
  · refine ⟨⟨by simp, by simp⟩, by simp, C150 (n := 9) (by omega) (r _) ⟨0, by omega, rfl, .inr (.inr (.inr ⟨rfl, ?_, by rfl⟩))⟩⟩
    show bOr .u64 (shL .u64 (a % 512 * 512 + b % 512) 9) (IntKind.wrap .u64 c % ((2 ^ 9 : Nat) : Int)) = joinF a b c
    rw [e, st _ _ (by omega) (by omega)]; unfold joinF; omega
  · show Q _ h'
    rw [wrap_i64' _ (by unfold joinF; omega) (by unfold joinF; omega)]; exact q

def canF (v : Int) : Bool := decide (-274877906944 ≤ v ∧ v < 274877906944)
theorem C49 {v : Int} {Q : Bool → H → Prop} {h : H} (q : Q (canF v) h) : F49 v Q h := by
  rw [F49_eq]
  refine ⟨by omega, ?_⟩
  show Br _ (Q true h) (Q _ h)
  rw [show (38 : Int) = ((38 : Nat) : Int) from rfl, shR_nat _ _ (by simp [IntKind.bits]), Br_Q]
  have : cond (v / ((2 ^ 38 : Nat) : Int) == 0) true (v / ((2 ^ 38 : Nat) : Int) == -1) = canF v := by
    unfold canF
    by_cases h0 : v / ((2 ^ 38 : Nat) : Int) = 0
    · have : (v / ((2 ^ 38 : Nat) : Int) == 0) = true := by simpa using h0
      rw [this]; symm; simp; omega
    · have : (v / ((2 ^ 38 : Nat) : Int) == 0) = false := by simpa using h0
      rw [this]
      by_cases h1 : v / ((2 ^ 38 : Nat) : Int) = -1
      · have : (v / ((2 ^ 38 : Nat) : Int) == -1) = true := by simpa using h1
        simp only [cond_false]
        rw [this]; symm; simp; omega
      · have : (v / ((2 ^ 38 : Nat) : Int) == -1) = false := by simpa using h1
        simp only [cond_false]
        rw [this]; symm; simp; omega
  rw [this]; exact q

theorem bitof (v : Int) (i : Nat) (hi : i < 64) : bAnd .u64 (shR .u64 (IntKind.wrap .u64 v) (i : Int)) 1 = v / ((2 ^ i : Nat) : Int) % 2 := by
  rw [shR_nat _ _ (by simp [IntKind.bits]; omega), wrap_u64]
  obtain ⟨g, hg⟩ := Int.eq_ofNat_of_zero_le (show 0 ≤ v % 18446744073709551616 by omega)
  have hg2 : g < 2 ^ 64 := by omega
  rw [hg]
  have hm : g / 2 ^ i < 2 ^ 64 := Nat.lt_of_le_of_lt (Nat.div_le_self _ _) (by omega)
  have e2 : bAnd .u64 ((g / 2 ^ i : Nat) : Int) 1 = ((g / 2 ^ i % 2 : Nat) : Int) := by
    have := bAnd_u64 (g / 2 ^ i) 1 hm (by omega)
    rw [Nat.and_one_is_mod] at this
    exact this
  have e1 : ((g : Int) / ((2 ^ i : Nat) : Int)) = ((g / 2 ^ i : Nat) : Int) := by simp
  rw [e1, e2]
  have e3 : v = 18446744073709551616 * (v / 18446744073709551616) + g := by omega
  generalize v / 18446744073709551616 = w at e3
  have e4 : (18446744073709551616 : Int) = ((2 ^ i : Nat) : Int) * ((2 ^ (63 - i) : Nat) : Int) * 2 := by
    rw [← Int.natCast_mul, ← Nat.pow_add, show i + (63 - i) = 63 by omega]; rfl
  rw [e3, e4]
  have hp : ((2 ^ i : Nat) : Int) ≠ 0 := by
    have := Nat.pow_pos (n := i) (show 0 < 2 by omega)
    omega
  have : ((2 ^ i : Nat) : Int) * ((2 ^ (63 - i) : Nat) : Int) * 2 * w + (g : Int) = (g : Int) + ((2 ^ i : Nat) : Int) * (((2 ^ (63 - i) : Nat) : Int) * w * 2) := by
    rw [Int.add_comm]; congr 1
    rw [Int.mul_assoc, Int.mul_assoc, Int.mul_comm 2 w, ← Int.mul_assoc (((2 ^ (63 - i) : Nat) : Int))]
  rw [this, Int.add_mul_ediv_left _ _ hp, e1]
  omega

theorem C50 {v : Int} {Q : Bool → H → Prop} {h : H} (hv : -9223372036854775808 ≤ v ∧ v ≤ 9223372036854775807) (q : Q (canF v) h) : F50 v Q h := by
  rw [F50_eq]
  have e38 : bAnd .u64 (shR .u64 (IntKind.wrap .u64 v) 38) 1 = v / 274877906944 % 2 := by
    have := bitof v 38 (by omega); simpa using this
  refine Loop_intro (fun k z h' => ∃ i : Nat, z.1 = (i : Int) ∧ k = 64 - i ∧ 39 ≤ i ∧ i ≤ 64 ∧ h' = h ∧
    (v / 274877906944) % ((2 ^ (i - 38) : Nat) : Int) = (v / 274877906944 % 2) * (((2 ^ (i - 38) : Nat) : Int) - 1)) 25 ⟨39, rfl, rfl, by omega, by omega, rfl, by omega⟩ ?_
  rintro k ⟨ii, u⟩ h' ⟨i, hi, hk, h39, h64, rfl, hI⟩
  simp only at hi
  subst hi
  have w1 : IntKind.wrap .u64 (i : Int) = (i : Int) := by rw [wrap_u64]; omega
  refine Br_dec ?_ ?_
  · intro hlt
    have hlt : i < 64 := by simp at hlt; omega
    refine ⟨by simp only [w1]; omega, by omega, ?_⟩
    simp only [w1]
    rw [bitof v i hlt, e38]
    have dv : v / ((2 ^ i : Nat) : Int) = v / 274877906944 / ((2 ^ (i - 38) : Nat) : Int) := by
      rw [show (274877906944 : Int) = ((2 ^ 38 : Nat) : Int) from rfl, Int.ediv_ediv_of_nonneg (by omega), ← Int.natCast_mul, ← Nat.pow_add, show 38 + (i - 38) = i by omega]
    rw [dv]
    have hpos : 0 < (2 : Nat) ^ (i - 38) := Nat.pow_pos (by omega)
    have hge : 2 ≤ (2 : Nat) ^ (i - 38) := by
      have := Nat.pow_le_pow_right (n := 2) (by omega) (show 1 ≤ i - 38 by omega); simpa using this
    refine Br_bne_int ?_ ?_
    · intro hne
      have : canF v = false := by
        unfold canF
        simp only [decide_eq_false_iff_not]
        intro hc
        apply hne
        have : v / 274877906944 = 0 ∨ v / 274877906944 = -1 := by omega
        rcases this with hx | hx <;> rw [hx]
        · simp
        · have : (-1 : Int) / ((2 ^ (i - 38) : Nat) : Int) = -1 := by
            rw [Int.ediv_eq_iff_of_pos (by omega)] <;> omega
          rw [this]
      rwa [this] at q
    · intro heq
      refine ⟨64 - (i + 1), by omega, i + 1, ?_, rfl, by omega, by omega, by trivial, ?_⟩
      · show IntKind.wrap .i64 ((i : Int) + 1) = _
        rw [wrap_i64' _ (by omega) (by omega)]; simp
      · rw [show i + 1 - 38 = (i - 38) + 1 by omega, Nat.pow_succ]
        generalize v / 274877906944 = x at *
        generalize (2 : Nat) ^ (i - 38) = pw at *
        have hp : (0 : Int) < (pw : Int) := by omega
        have h1 := Int.emod_add_mul_ediv x (pw : Int)
        have hd : x / (pw : Int) = 2 * (x / (pw : Int) / 2) + x / (pw : Int) % 2 := by omega
        rw [heq] at hd
        have hb : x % 2 = 0 ∨ x % 2 = 1 := by omega
        generalize x / (pw : Int) = d at *
        generalize d / 2 = d2 at *
        have : x = (x % 2) * (2 * (pw : Int) - 1) + (2 * (pw : Int)) * d2 := by
          rw [hI] at h1
          rw [hd] at h1
          rcases hb with hb | hb <;> rw [hb] at h1 ⊢
          · rw [← h1]; simp; rw [← Int.mul_assoc, Int.mul_comm (pw : Int) 2]
          · rw [← h1]; rw [Int.mul_add, ← Int.mul_assoc, Int.mul_comm (pw : Int) 2]; omega
        have e2 : ((pw * 2 : Nat) : Int) = 2 * (pw : Int) := by omega
        rw [e2]
        conv => lhs; rw [this]
        rw [Int.add_mul_emod_self_left]
        rcases hb with hb | hb <;> rw [hb]
        · simp
        · rw [Int.one_mul, Int.emod_eq_of_lt] <;> omega
  · intro hge
    have : i = 64 := by simp at hge; omega
    subst this
    have : canF v = true := by
      unfold canF
      simp only [decide_eq_true_eq]
      simp only [show (2 : Nat) ^ (64 - 38) = 67108864 from rfl] at hI
      omega
    rwa [this] at q

theorem C42 {Q : Bool → H → Prop} {h : H} (q : ∀ h', Kept h h' → Q true h') : F42 Q h := by
  rw [F42_eq]
  refine C41 fun h' k => ?_
  rw [show (encF 3 3 == 3075) = true by decide]
  refine C44 ?_
  rw [show (idxF 517 1 == 1) = true by decide]
  refine C49 ?_
  rw [show canF (-1) = true by decide]
  refine C49 ?_
  rw [show canF 274877906944 = false by decide]
  exact q h' k
end Go.Proofs.Ytfijchofplkcoaa
