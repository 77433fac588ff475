/-
  How many bits of a word are set: what math/bits.OnesCount64 computes, digit by digit (under way).
-/
import Derived.Test.YtfijchofplkcoaaHe
set_option linter.unusedVariables false
set_option linter.unusedSimpArgs false
namespace Go.Proofs.Ytfijchofplkcoaa

/-- A mask's lowest digit aside. -/
theorem and_digit (x m M d : Nat) (hm : m < 2 ^ d) : x &&& (2 ^ d * M + m) = 2 ^ d * ((x / 2 ^ d) &&& M) + ((x % 2 ^ d) &&& m) := by
  have hb : ((x % 2 ^ d) &&& m) < 2 ^ d := Nat.lt_of_le_of_lt Nat.and_le_right hm
  apply Nat.eq_of_testBit_eq
  intro i
  rw [Nat.testBit_and, Nat.testBit_two_pow_mul_add _ hm, Nat.testBit_two_pow_mul_add _ hb]
  by_cases h : i < d
  · rw [if_pos h, if_pos h, Nat.testBit_and, Nat.testBit_mod_two_pow, decide_eq_true h, Bool.true_and]
  · rw [if_neg h, if_neg h, Nat.testBit_and, Nat.testBit_div_two_pow, show i - d + d = i by omega]

/-- The mask that has in each of so many digits the same bits. -/
def mk (d m : Nat) : Nat → Nat
  | 0 => 0
  | k + 1 => 2 ^ d * mk d m k + m
/-- How many of the lowest bits are set. -/
def pc : Nat → Nat → Nat
  | 0, _ => 0
  | k + 1, x => x % 2 + pc k (x / 2)
/-- First step: pairs. -/
def f1 (k x : Nat) : Nat := ((x / 2) &&& mk 2 1 k) + (x &&& mk 2 1 k)
theorem f1_succ (k x : Nat) : f1 (k + 1) x = 4 * f1 k (x / 4) + pc 2 x := by
  unfold f1
  simp only [mk]
  rw [and_digit (x / 2) 1 (mk 2 1 k) 2 (by omega), and_digit x 1 (mk 2 1 k) 2 (by omega)]
  have e : x / 2 / 2 ^ 2 = x / 4 / 2 := by omega
  rw [e]
  have a : (x / 2 % 2 ^ 2) &&& 1 = x / 2 % 2 := by rw [Nat.and_one_is_mod]; omega
  have b : (x % 2 ^ 2) &&& 1 = x % 2 := by rw [Nat.and_one_is_mod]; omega
  rw [a, b]
  simp only [pc]
  generalize (x / 4 / 2) &&& mk 2 1 k = A
  have e3 : x / 2 ^ 2 = x / 4 := rfl
  rw [e3]
  generalize (x / 4) &&& mk 2 1 k = B
  omega
theorem pc2_le (x : Nat) : pc 2 x ≤ 2 := by simp only [pc]; omega
/-- Second step: fours. -/
def f2 (k y : Nat) : Nat := ((y / 4) &&& mk 4 3 k) + (y &&& mk 4 3 k)
theorem f2_succ (k y : Nat) : f2 (k + 1) y = 16 * f2 k (y / 16) + (y / 4 % 4 + y % 4) := by
  unfold f2
  simp only [mk]
  rw [and_digit (y / 4) 3 (mk 4 3 k) 4 (by omega), and_digit y 3 (mk 4 3 k) 4 (by omega)]
  have e : y / 4 / 2 ^ 4 = y / 16 / 4 := by omega
  rw [e]
  have t : ∀ z, z &&& 3 = z % 4 := fun z => Nat.and_two_pow_sub_one_eq_mod z 2
  rw [t, t]
  have e3 : y / 2 ^ 4 = y / 16 := rfl
  rw [e3]
  generalize (y / 16 / 4) &&& mk 4 3 k = A
  generalize (y / 16) &&& mk 4 3 k = B
  omega

def g2 (k x : Nat) : Nat := f2 k (f1 (2 * k) x)
theorem pc4 (x : Nat) : pc 4 x = pc 2 x + pc 2 (x / 4) := by
  simp only [pc]
  have : x / 2 / 2 = x / 4 := by omega
  rw [this]; omega
theorem g2_succ (k x : Nat) : g2 (k + 1) x = 16 * g2 k (x / 16) + pc 4 x := by
  unfold g2
  rw [f2_succ, show 2 * (k + 1) = (2 * k + 1) + 1 by omega, f1_succ, f1_succ, show x / 4 / 4 = x / 16 by omega, pc4]
  have a := pc2_le x
  have b := pc2_le (x / 4)
  generalize pc 2 x = p at *
  generalize pc 2 (x / 4) = r at *
  generalize f1 (2 * k) (x / 16) = F at *
  have e : (4 * (4 * F + r) + p) / 16 = F := by omega
  rw [e]
  omega
theorem pc4_le (x : Nat) : pc 4 x ≤ 4 := by
  rw [pc4]; have := pc2_le x; have := pc2_le (x / 4); omega
theorem g2_low (k x : Nat) : g2 k x % 16 ≤ 4 := by
  cases k with
  | zero => simp [g2, f2, mk]
  | succ k => rw [g2_succ]; have := pc4_le x; omega
/-- Third step: eights. -/
def f3 (k y : Nat) : Nat := (y / 16 + y) &&& mk 8 15 k
def g3 (k x : Nat) : Nat := f3 k (g2 (2 * k) x)
theorem pc8 (x : Nat) : pc 8 x = pc 4 x + pc 4 (x / 16) := by
  simp only [pc]
  have : x / 2 / 2 / 2 / 2 = x / 16 := by omega
  rw [this]; omega
theorem g3_succ (k x : Nat) : g3 (k + 1) x = 256 * g3 k (x / 256) + pc 8 x := by
  unfold g3 f3
  rw [show 2 * (k + 1) = (2 * k + 1) + 1 by omega, g2_succ, g2_succ, show x / 16 / 16 = x / 256 by omega, pc8]
  have a := pc4_le x
  have b := pc4_le (x / 16)
  have c := g2_low (2 * k) (x / 256)
  generalize pc 4 x = p at *
  generalize pc 4 (x / 16) = r at *
  generalize g2 (2 * k) (x / 256) = G at *
  simp only [mk]
  rw [and_digit _ 15 (mk 8 15 k) 8 (by omega)]
  have t : ∀ z, z &&& 15 = z % 16 := fun z => Nat.and_two_pow_sub_one_eq_mod z 4
  rw [t]
  have e1 : ((16 * (16 * G + r) + p) / 16 + (16 * (16 * G + r) + p)) / 2 ^ 8 = G / 16 + G := by omega
  rw [e1]
  generalize (G / 16 + G) &&& mk 8 15 k = A
  omega
theorem pc8_le (x : Nat) : pc 8 x ≤ 8 := by
  rw [pc8]; have := pc4_le x; have := pc4_le (x / 16); omega

theorem pc64 (x : Nat) : pc 64 x = pc 8 x + pc 8 (x / 256) + pc 8 (x / 65536) + pc 8 (x / 16777216) + pc 8 (x / 4294967296) + pc 8 (x / 1099511627776) + pc 8 (x / 281474976710656) + pc 8 (x / 72057594037927936) := by
  have step : ∀ k x, pc (k + 8) x = pc 8 x + pc k (x / 256) := by
    intro k x
    simp only [pc]
    have : x / 2 / 2 / 2 / 2 / 2 / 2 / 2 / 2 = x / 256 := by omega
    rw [this]; omega
  rw [step 56, step 48, step 40, step 32, step 24, step 16, step 8]
  have e1 : x / 256 / 256 = x / 65536 := by omega
  have e2 : x / 65536 / 256 = x / 16777216 := by omega
  have e3 : x / 16777216 / 256 = x / 4294967296 := by omega
  have e4 : x / 4294967296 / 256 = x / 1099511627776 := by omega
  have e5 : x / 1099511627776 / 256 = x / 281474976710656 := by omega
  have e6 : x / 281474976710656 / 256 = x / 72057594037927936 := by omega
  rw [e1, e2, e3, e4, e5, e6]; omega
theorem g3_8 (x : Nat) : ∃ b0 b1 b2 b3 b4 b5 b6 b7 : Nat, (b0 ≤ 8 ∧ b1 ≤ 8 ∧ b2 ≤ 8 ∧ b3 ≤ 8 ∧ b4 ≤ 8 ∧ b5 ≤ 8 ∧ b6 ≤ 8 ∧ b7 ≤ 8) ∧ pc 64 x = b0 + b1 + b2 + b3 + b4 + b5 + b6 + b7 ∧
    g3 8 x = b0 + 256 * (b1 + 256 * (b2 + 256 * (b3 + 256 * (b4 + 256 * (b5 + 256 * (b6 + 256 * b7)))))) := by
  refine ⟨_, _, _, _, _, _, _, _, ⟨pc8_le _, pc8_le _, pc8_le _, pc8_le _, pc8_le _, pc8_le _, pc8_le _, pc8_le _⟩, pc64 x, ?_⟩
  have z : ∀ y, g3 0 y = 0 := fun y => by simp [g3, f3, mk]
  rw [g3_succ, g3_succ, g3_succ, g3_succ, g3_succ, g3_succ, g3_succ, g3_succ, z]
  have e1 : x / 256 / 256 = x / 65536 := by omega
  have e2 : x / 65536 / 256 = x / 16777216 := by omega
  have e3 : x / 16777216 / 256 = x / 4294967296 := by omega
  have e4 : x / 4294967296 / 256 = x / 1099511627776 := by omega
  have e5 : x / 1099511627776 / 256 = x / 281474976710656 := by omega
  have e6 : x / 281474976710656 / 256 = x / 72057594037927936 := by omega
  rw [e1, e2, e3, e4, e5, e6]
  omega
theorem C203 {x : Nat} {Q : Int → H → Prop} {h : H} (hx : x < 2 ^ 64) (q : Q ((pc 64 x : Nat) : Int) h) : F203 (x : Int) Q h := by
  rw [F203_eq]
  refine ⟨by omega, ?_⟩
  simp only [LetI]
  have sh : ∀ (y n : Nat), n ≤ 64 → shR .u64 (y : Int) (n : Int) = ((y / 2 ^ n : Nat) : Int) := by
    intro y n hn
    rw [shR_nat _ _ (by simp [IntKind.bits]; omega)]; simp
  have M1 : mk 2 1 32 = 6148914691236517205 := by decide
  have M2 : mk 4 3 16 = 3689348814741910323 := by decide
  have M4 : mk 8 15 8 = 1085102592571150095 := by decide
  have s1 := sh x 1 (by omega)
  have s2 : shR .u64 (x : Int) 1 = ((x / 2 : Nat) : Int) := s1
  have a1 : bAnd .u64 ((x / 2 : Nat) : Int) 6148914691236517205 = (((x / 2) &&& mk 2 1 32 : Nat) : Int) := by rw [M1]; exact bAnd_u64 (x / 2) 6148914691236517205 (by omega) (by omega)
  have a2 : bAnd .u64 (x : Int) 6148914691236517205 = ((x &&& mk 2 1 32 : Nat) : Int) := by rw [M1]; exact bAnd_u64 x 6148914691236517205 hx (by omega)
  have l1 : (x / 2) &&& mk 2 1 32 ≤ 6148914691236517205 := by rw [M1]; exact Nat.and_le_right
  have l2 : x &&& mk 2 1 32 ≤ 6148914691236517205 := by rw [M1]; exact Nat.and_le_right
  have n1 : IntKind.wrap .u64 (bAnd .u64 (shR .u64 (x : Int) 1) 6148914691236517205 + bAnd .u64 (x : Int) 6148914691236517205) = ((f1 32 x : Nat) : Int) := by
    rw [s2, a1, a2, wrap_u64]; unfold f1; omega
  have hf1 : f1 32 x < 2 ^ 64 := by unfold f1; omega
  rw [n1]
  refine ⟨by omega, ?_⟩
  have s3 : shR .u64 ((f1 32 x : Nat) : Int) 2 = ((f1 32 x / 4 : Nat) : Int) := sh _ 2 (by omega)
  generalize hy : f1 32 x = y at *
  have a3 : bAnd .u64 ((y / 4 : Nat) : Int) 3689348814741910323 = (((y / 4) &&& mk 4 3 16 : Nat) : Int) := by rw [M2]; exact bAnd_u64 (y / 4) 3689348814741910323 (by omega) (by omega)
  have a4 : bAnd .u64 (y : Int) 3689348814741910323 = ((y &&& mk 4 3 16 : Nat) : Int) := by rw [M2]; exact bAnd_u64 y 3689348814741910323 hf1 (by omega)
  have l3 : (y / 4) &&& mk 4 3 16 ≤ 3689348814741910323 := by rw [M2]; exact Nat.and_le_right
  have l4 : y &&& mk 4 3 16 ≤ 3689348814741910323 := by rw [M2]; exact Nat.and_le_right
  have n2 : IntKind.wrap .u64 (bAnd .u64 (shR .u64 (y : Int) 2) 3689348814741910323 + bAnd .u64 (y : Int) 3689348814741910323) = ((f2 16 y : Nat) : Int) := by
    rw [s3, a3, a4, wrap_u64]; unfold f2; omega
  have hf2 : f2 16 y ≤ 7378697629483820646 := by unfold f2; omega
  rw [n2]
  refine ⟨by omega, ?_⟩
  have s4 : shR .u64 ((f2 16 y : Nat) : Int) 4 = ((f2 16 y / 16 : Nat) : Int) := sh _ 4 (by omega)
  have eg : g3 8 x = (f2 16 y / 16 + f2 16 y) &&& mk 8 15 8 := by rw [← hy]; rfl
  generalize f2 16 y = z at *
  have n3 : bAnd .u64 (IntKind.wrap .u64 (shR .u64 (z : Int) 4 + (z : Int))) 1085102592571150095 = ((g3 8 x : Nat) : Int) := by
    have : IntKind.wrap .u64 (shR .u64 (z : Int) 4 + (z : Int)) = ((z / 16 + z : Nat) : Int) := by rw [s4, wrap_u64]; omega
    rw [this, eg, M4]
    exact bAnd_u64 (z / 16 + z) 1085102592571150095 (by omega) (by omega)
  rw [n3]
  refine ⟨by omega, ?_⟩
  obtain ⟨b0, b1, b2, b3, b4, b5, b6, b7, ⟨h0, h1, h2, h3, h4, h5, h6, h7⟩, hp, hg⟩ := g3_8 x
  rw [hp] at q
  generalize g3 8 x = G at *
  have s5 : shR .u64 ((G : Nat) : Int) 8 = ((G / 256 : Nat) : Int) := sh _ 8 (by omega)
  have n4 : IntKind.wrap .u64 ((G : Int) + shR .u64 (G : Int) 8) = ((G + G / 256 : Nat) : Int) := by rw [s5, wrap_u64]; omega
  rw [n4]
  refine ⟨by omega, ?_⟩
  generalize hA : G + G / 256 = A at *
  have s6 : shR .u64 ((A : Nat) : Int) 16 = ((A / 65536 : Nat) : Int) := sh _ 16 (by omega)
  have n5 : IntKind.wrap .u64 ((A : Int) + shR .u64 (A : Int) 16) = ((A + A / 65536 : Nat) : Int) := by rw [s6, wrap_u64]; omega
  rw [n5]
  refine ⟨by omega, ?_⟩
  generalize hB : A + A / 65536 = B at *
  have s7 : shR .u64 ((B : Nat) : Int) 32 = ((B / 4294967296 : Nat) : Int) := sh _ 32 (by omega)
  have n6 : IntKind.wrap .u64 ((B : Int) + shR .u64 (B : Int) 32) = ((B + B / 4294967296 : Nat) : Int) := by rw [s7, wrap_u64]; omega
  rw [n6]
  generalize hC : B + B / 4294967296 = C at *
  have n7 : IntKind.wrap .i64 (C : Int) = (C : Int) := wrap_i64' _ (by omega) (by omega)
  rw [n7]
  have n8 : bAnd .i64 (C : Int) 127 = ((C % 128 : Nat) : Int) := by
    have := bAnd_low (C : Int) 7 127 (by omega) (by omega)
    rw [show ((127 : Nat) : Int) = 127 from rfl] at this
    rw [this, show (127 : Nat) = 2 ^ 7 - 1 from rfl, Nat.and_two_pow_sub_one_eq_mod]
    omega
  rw [n8]
  clear n8 n7 n6 n5 n4 n3 n2 n1 s7 s6 s5 s4 s3 s2 s1 a1 a2 a3 a4 l1 l2 l3 l4 hf1 hf2 eg hy M1 M2 M4 sh hx
  have g1 : G / 256 = b1 + 256 * (b2 + 256 * (b3 + 256 * (b4 + 256 * (b5 + 256 * (b6 + 256 * b7))))) := by omega
  have hA' : A = (b0 + b1) + 256 * ((b1 + b2) + 256 * ((b2 + b3) + 256 * ((b3 + b4) + 256 * ((b4 + b5) + 256 * ((b5 + b6) + 256 * ((b6 + b7) + 256 * b7)))))) := by omega
  have hA2 : A / 65536 = (b2 + b3) + 256 * ((b3 + b4) + 256 * ((b4 + b5) + 256 * ((b5 + b6) + 256 * ((b6 + b7) + 256 * b7)))) := by omega
  clear g1 hg hA
  have hB' : B = (b0 + b1 + b2 + b3) + 256 * ((b1 + b2 + b3 + b4) + 256 * ((b2 + b3 + b4 + b5) + 256 * ((b3 + b4 + b5 + b6) + 256 * ((b4 + b5 + b6 + b7) + 256 * ((b5 + b6 + b7) + 256 * ((b6 + b7) + 256 * b7)))))) := by omega
  clear hA2 hA' hB
  have hB2 : B / 4294967296 = (b4 + b5 + b6 + b7) + 256 * ((b5 + b6 + b7) + 256 * ((b6 + b7) + 256 * b7)) := by omega
  have fin : C % 128 = b0 + b1 + b2 + b3 + b4 + b5 + b6 + b7 := by omega
  rw [fin]; exact q
end Go.Proofs.Ytfijchofplkcoaa
