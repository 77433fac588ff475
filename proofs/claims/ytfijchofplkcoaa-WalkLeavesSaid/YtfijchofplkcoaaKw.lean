/-
  The leaves as the document lists them.
-/
import Derived.Test.YtfijchofplkcoaaKv
import Derived.Test.YtfijchofplkcoaaJd
set_option linter.unusedVariables false
set_option linter.unusedSimpArgs false
set_option maxRecDepth 100000
namespace Go.Proofs.Ytfijchofplkcoaa

def flat3 (l : List (Int × Int)) : List Int := l.flatMap fun e => [e.1, flg e.2, ppn e.2]
theorem flat3_append (a b : List (Int × Int)) : flat3 (a ++ b) = flat3 a ++ flat3 b := by unfold flat3; rw [List.flatMap_append]
theorem flat3_len (l : List (Int × Int)) : (flat3 l).length = 3 * l.length := by
  induction l with
  | nil => rfl
  | cons e l ih =>
    have : flat3 (e :: l) = [e.1, flg e.2, ppn e.2] ++ flat3 l := by unfold flat3; rw [List.flatMap_cons]
    rw [this, List.length_append, ih]; simp; omega
theorem flatMap_len {α : Type} (f : Nat → List α) (b : Nat) (hf : ∀ i, (f i).length ≤ b) : ∀ k, ((List.range k).flatMap f).length ≤ k * b := by
  intro k
  induction k with
  | zero => simp
  | succ k ih =>
    rw [List.range_succ, List.flatMap_append, List.length_append]
    have := hf k
    simp only [List.flatMap_cons, List.flatMap_nil, List.append_nil]
    rw [Nat.succ_mul]; omega
theorem entL_len (n : Nat) (ws : List Int) : ∀ lv f a i, (entL n ws lv f a i).length ≤ 512 ^ lv := by
  intro lv
  induction lv with
  | zero => intro f a i; show (if _ then _ else _ : List (Int × Int)).length ≤ 1; split <;> simp
  | succ lv ih =>
    intro f a i
    show (match lead n (wat ws f i) with | some m => leavesS n ws lv m (a * 512 + i) | none => []).length ≤ _
    cases lead n (wat ws f i) with
    | none => simp
    | some m =>
      simp only
      rw [leavesS_eq]
      have := flatMap_len (entL n ws lv m (a * 512 + i)) (512 ^ lv) (fun j => ih m _ j) 512
      rw [Nat.pow_succ, Nat.mul_comm]; exact this
theorem partL_len (n : Nat) (ws : List Int) (lv f : Nat) (a : Int) (i : Nat) : (partL n ws lv f a i).length ≤ i * 512 ^ lv := flatMap_len _ _ (fun j => entL_len n ws lv f a j) i
theorem zero165 : zeroC Try.prog 165 = VK .i64 (List.replicate 3 0) := by kernel_rfl
theorem zeros165 (n : Nat) : zerosC Try.prog 165 n = VK .i64 (List.replicate (3 * n) 0) := zeros_of (kd := .i64) zero165 n
section
variable {h : H} {rm rt n : Nat} {cs : List Nat} {ws : List Int}
theorem R185 {f i : Nat} {Q : Bool → H → Prop} (m : RW h rm rt cs n ws) (hf : f < n) (hi : i < 512) (q : ∀ h', Kept h h' → Q (lead n (wat ws f i)).isSome h') : F185 (some ⟨rm, 0, none⟩) f i Q h := by
  rw [F185_eq]
  refine R91 m ?_
  rw [wordF_in hf hi]
  simp only [LetI]
  refine C52 (m.ok.get _) fun h1 k1 => Nw_intro fun b h2 hb k2 e2 => ?_
  rw [zero25v] at e2
  simp only [add_mk]
  refine put25 e2 fun h3 u3 e3 => ?_
  have e3 : IL h3 b 25 [flg (wat ws f i), ppn (wat ws f i)] := e3
  have k13 : Kept h1 h3 := u3.kept k2 (by omega)
  simp only [Br_true]
  refine Ld_i (x := flg (wat ws f i)) (by rw [hcell_blk e3]; rfl) (Ld_i (x := ppn (wat ws f i)) (by rw [hcell_blk e3]; rfl) (C54 fun h4 k4 => ?_))
  have k := (k1.trans k13).trans k4
  have q := q h4 k
  unfold lead at q
  refine Br_beq_int (fun e => ?_) fun e => ?_
  · have m4 := m.kept k
    have hp := ppn_nn (wat ws f i)
    refine Ld_i (x := ppn (wat ws f i)) (by rw [hcell_blk (k4.blk e3)]; rfl) (R170 m4 ?_)
    by_cases hh : ppn (wat ws f i) < (n : Int)
    · rw [if_pos ⟨e, hh⟩] at q
      rw [decide_eq_true (show 0 ≤ ppn (wat ws f i) ∧ ppn (wat ws f i) < n from ⟨hp.1, hh⟩)]
      exact q
    · rw [if_neg (fun x => hh x.2)] at q
      rw [decide_eq_false (show ¬ (0 ≤ ppn (wat ws f i) ∧ ppn (wat ws f i) < n) from fun x => hh x.2)]
      exact q
  · rw [if_neg (fun x => e x.1)] at q
    exact q
theorem join_eq {a b c : Nat} (ha : a < 512) (hb : b < 512) (hc : c < 512) : joinF a b c = (a : Int) * 262144 + b * 512 + c := by
  unfold joinF; omega
theorem place_join {r a b c : Nat} (hr : r < n) (ha : a < 512) (hb : b < 512) (hc : c < 512) :
    placeS n ws (r : Int) ((a : Int) * 262144 + b * 512 + c) = (lead n (wat ws r a)).bind fun m => (lead n (wat ws m b)).map fun l => (l, c) := by
  unfold placeS
  rw [if_pos (by omega), Int.toNat_natCast, show (((a : Int) * 262144 + b * 512 + c) / 262144 % 512).toNat = a by omega, show (((a : Int) * 262144 + b * 512 + c) / 512 % 512).toNat = b by omega, show (((a : Int) * 262144 + b * 512 + c) % 512).toNat = c by omega]
theorem R185o {f : Int} {i : Nat} {Q : Bool → H → Prop} (m : RW h rm rt cs n ws) (hf : ¬ (0 ≤ f ∧ f < n)) (q : ∀ h', Kept h h' → Q false h') : F185 (some ⟨rm, 0, none⟩) f i Q h := by
  rw [F185_eq]
  refine R91 m ?_
  have : wordF n ws f i = (0, false) := by unfold wordF; rw [if_neg (fun x => hf ⟨x.1, x.2.1⟩)]
  rw [this]
  simp only [LetI]
  refine C52 (by omega) fun h1 k1 => Nw_intro fun b h2 hb k2 e2 => ?_
  rw [zero25v] at e2
  simp only [add_mk]
  refine put25 e2 fun h3 u3 e3 => ?_
  simp only [Br_false]
  exact q h3 (k1.trans (u3.kept k2 (by omega)))
theorem R126 {root : Int} {Q : Sl → H → Prop} (m : RW h rm rt cs n ws) (q : ∀ s h', Kept h h' → GS .i64 h' 165 3 s (flat3 (leavesT n ws root)) [] h.size → Q s h') : F126 (some ⟨rm, 0, none⟩) root Q h := by
  rw [F126_eq]
  unfold B126
  by_cases hr : 0 ≤ root ∧ root < (n : Int)
  · obtain ⟨r, rfl⟩ := Int.eq_ofNat_of_zero_le hr.1
    have hrn : r < n := by omega
    have hT : leavesT n ws (r : Int) = leavesS n ws 2 r 0 := by unfold leavesT; rw [if_pos hr, Int.toNat_natCast]
    refine Loop_intro (σ := Sl × Int × Unit) (x := (⟨none, 0, 0⟩, 0, ())) (fun c z h' => ∃ i : Nat, z.2.1 = (i : Int) ∧ c = 512 - i ∧ i ≤ 512 ∧ Kept h h' ∧ GS .i64 h' 165 3 z.1 (flat3 (partL n ws 2 r 0 i)) [] h.size) 512 ⟨0, rfl, rfl, by omega, Kept.refl h, GS.nil⟩ ?_
    rintro c ⟨z1, zz, u⟩ h1 ⟨i2, hi, hc, hi5, k1, g1⟩
    simp only at hi g1
    subst hi
    have m1 := m.kept k1
    refine Br_dec (fun hlt => ?_) fun hge => ?_
    · have hlt : i2 < 512 := by simp only at hlt; omega
      have hwi : IntKind.wrap .i64 ((i2 : Int) + 1) = ((i2 + 1 : Nat) : Int) := by rw [wrap_i64'] <;> omega
      have len2 := partL_len n ws 2 r 0 i2
      rw [show (512 : Nat) ^ 2 = 262144 by decide] at len2
      refine JoinI (fun _ h' => Kept h1 h' ∧ ∃ m2, lead n (wat ws r i2) = some m2) (fun J hJ => ?_) ?_
      · refine C48 ?_
        have hj := join_eq (a := i2) (b := 0) (c := 0) hlt (by omega) (by omega)
        simp only [Int.natCast_zero] at hj
        rw [show joinF ((i2 : Int)) 0 0 = (i2 : Int) * 262144 + ((0 : Nat) : Int) * 512 + ((0 : Nat) : Int) by rw [hj]; omega]
        refine R121 m1 fun h2 k2 => ?_
        simp only [LetI]
        rw [place_join hrn hlt (by omega) (by omega)]
        cases hm : lead n (wat ws r i2) with
        | none =>
          simp only [Option.bind_none, Option.isSome_none, Bool.not_false, Br_true]
          refine R185 (m1.kept k2) hrn hlt fun h3 k3 => ?_
          rw [hm]
          simp only [Option.isSome_none, Bool.not_false, Br_true]
          have ee : entL n ws 2 r 0 i2 = [] := by show (match lead n (wat ws r i2) with | some m => leavesS n ws 1 m (0 * 512 + i2) | none => []) = _; rw [hm]
          exact ⟨512 - (i2 + 1), by omega, i2 + 1, hwi, rfl, hlt, (k1.trans k2).trans k3, by rw [partL_succ, ee, List.append_nil]; exact (g1.kept k2).kept k3⟩
        | some m2 =>
          simp only [Option.bind_some]
          cases hl : lead n (wat ws m2 0) with
          | none =>
            simp only [Option.map_none, Option.isSome_none, Bool.not_false, Br_true]
            refine R185 (m1.kept k2) hrn hlt fun h3 k3 => ?_
            rw [hm]
            simp only [Option.isSome_some, Bool.not_true, Br_false]
            exact hJ () h3 ⟨k2.trans k3, m2, hm⟩
          | some l2 =>
            simp only [Option.map_some, Option.isSome_some, Bool.not_true, Br_false]
            exact hJ () h2 ⟨k2, m2, hm⟩
      rintro _ h2 ⟨k2, m2, hm⟩
      have ee2 : entL n ws 2 r 0 i2 = leavesS n ws 1 m2 (0 * 512 + i2) := by show (match lead n (wat ws r i2) with | some m => leavesS n ws 1 m (0 * 512 + i2) | none => []) = _; rw [hm]
      have hm2 := lead_lt hm
      refine Loop_intro (σ := Sl × Int × Unit) (x := (z1, 0, ())) (fun c' z h' => ∃ i : Nat, z.2.1 = (i : Int) ∧ c' = 512 - i ∧ i ≤ 512 ∧ Kept h h' ∧ GS .i64 h' 165 3 z.1 (flat3 (partL n ws 2 r 0 i2 ++ partL n ws 1 m2 (0 * 512 + i2) i)) [] h.size) 512
        ⟨0, rfl, rfl, by omega, k1.trans k2, by have := g1.kept k2; simpa [partL] using this⟩ ?_
      rintro c' ⟨z3, zz3, u3⟩ h3 ⟨i1, hi1, hc1, hi15, k3, g3⟩
      simp only at hi1 g3
      subst hi1
      have m3 := m.kept k3
      refine Br_dec (fun hlt1 => ?_) fun hge1 => ?_
      · have hlt1 : i1 < 512 := by simp only at hlt1; omega
        have hwi1 : IntKind.wrap .i64 ((i1 : Int) + 1) = ((i1 + 1 : Nat) : Int) := by rw [wrap_i64'] <;> omega
        have len1 := partL_len n ws 1 m2 (0 * 512 + i2) i1
        rw [show (512 : Nat) ^ 1 = 512 by decide] at len1
        refine C48 ?_
        have hj := join_eq (a := i2) (b := i1) (c := 0) hlt hlt1 (by omega)
        simp only [Int.natCast_zero] at hj
        rw [show joinF ((i2 : Int)) (i1 : Int) 0 = (i2 : Int) * 262144 + (i1 : Int) * 512 + ((0 : Nat) : Int) by rw [hj]; omega]
        refine R121 m3 fun h4 k4 => ?_
        simp only [LetI]
        rw [place_join hrn hlt hlt1 (by omega), hm]
        simp only [Option.bind_some]
        cases hl : lead n (wat ws m2 i1) with
        | none =>
          simp only [Option.map_none, Option.isSome_none, Bool.not_false, Br_true]
          have ee : entL n ws 1 m2 (0 * 512 + i2) i1 = [] := by show (match lead n (wat ws m2 i1) with | some m => leavesS n ws 0 m ((0 * 512 + i2) * 512 + i1) | none => []) = _; rw [hl]
          exact ⟨512 - (i1 + 1), by omega, i1 + 1, hwi1, rfl, hlt1, k3.trans k4, by rw [partL_succ, ee, List.append_nil]; exact g3.kept k4⟩
        | some l2 =>
          simp only [Option.map_some, Option.isSome_some, Bool.not_true, Br_false]
          have ee1 : entL n ws 1 m2 (0 * 512 + i2) i1 = leavesS n ws 0 l2 ((0 * 512 + i2) * 512 + i1) := by show (match lead n (wat ws m2 i1) with | some m => leavesS n ws 0 m ((0 * 512 + i2) * 512 + i1) | none => []) = _; rw [hl]
          have hl2 := lead_lt hl
          refine Loop_intro (σ := Sl × Int × Unit) (x := (z3, 0, ())) (fun c'' z h' => ∃ i : Nat, z.2.1 = (i : Int) ∧ c'' = 512 - i ∧ i ≤ 512 ∧ Kept h h' ∧ GS .i64 h' 165 3 z.1 (flat3 (partL n ws 2 r 0 i2 ++ partL n ws 1 m2 (0 * 512 + i2) i1 ++ partL n ws 0 l2 ((0 * 512 + i2) * 512 + i1) i)) [] h.size) 512
            ⟨0, rfl, rfl, by omega, k3.trans k4, by have := g3.kept k4; simpa [partL] using this⟩ ?_
          rintro c'' ⟨z5, zz5, u5⟩ h5 ⟨i0, hi0, hc0, hi05, k5, g5⟩
          simp only at hi0 g5
          subst hi0
          have m5 := m.kept k5
          refine Br_dec (fun hlt0 => ?_) fun hge0 => ?_
          · have hlt0 : i0 < 512 := by simp only at hlt0; omega
            have hwi0 : IntKind.wrap .i64 ((i0 : Int) + 1) = ((i0 + 1 : Nat) : Int) := by rw [wrap_i64'] <;> omega
            have len0 := partL_len n ws 0 l2 ((0 * 512 + i2) * 512 + i1) i0
            rw [show (512 : Nat) ^ 0 = 1 by decide] at len0
            refine C48 ?_
            have hj0 := join_eq (a := i2) (b := i1) (c := i0) hlt hlt1 hlt0
            simp only [LetI]
            rw [hj0]
            have hent : entS n ws (r : Int) ((i2 : Int) * 262144 + i1 * 512 + i0) = some (wat ws l2 i0) := by
              unfold entS
              rw [place_join hrn hlt hlt1 hlt0, hm]
              simp only [Option.bind_some]
              rw [hl]
              simp
            refine R123 m5 fun h6 k6 => ?_
            rw [hent]
            simp only [Option.getD_some]
            refine Nw_intro fun b h7 hb k7 e7 => ?_
            rw [zero25v] at e7
            simp only [add_mk]
            refine put25 e7 fun h8 u8 e8 => ?_
            have k8 : Kept h5 h8 := u8.kept (k6.trans k7) (by have := k6.1; omega)
            refine Ld_i (x := flg (wat ws l2 i0)) (by rw [hcell_blk e8]; rfl) (Ld_i (x := ppn (wat ws l2 i0)) (by rw [hcell_blk e8]; rfl) (C54 fun h9 k9 => ?_))
            have e9 := k9.blk e8
            have k59 := k8.trans k9
            refine Br_beq_int (fun hk => ?_) fun hk => ?_
            · have hk : kindM (lo8 (flg (wat ws l2 i0))) = 2 := hk
              have ee : entL n ws 0 l2 ((0 * 512 + i2) * 512 + i1) i0 = [((((0 : Int) * 512 + i2) * 512 + i1) * 512 + i0, wat ws l2 i0)] := by show (if _ then _ else _) = _; rw [if_pos hk]
              refine Ld_i (x := flg (wat ws l2 i0)) (by rw [hcell_blk e9]; rfl) (Ld_i (x := ppn (wat ws l2 i0)) (by rw [hcell_blk e9]; rfl) ?_)
              refine Nw_intro fun a h10 ha k10 e10 => ?_
              have e10 : IK .i64 h10 a 165 [(i2 : Int) * 262144 + i1 * 512 + i0, flg (wat ws l2 i0), ppn (wat ws l2 i0)] := e10
              have K10 := (k5.trans k59).trans k10
              have g10 := (g5.kept k59).kept k10
              have hsl : 3 * z5.len = 3 * (partL n ws 2 r 0 i2 ++ partL n ws 1 m2 (0 * 512 + i2) i1 ++ partL n ws 0 l2 ((0 * 512 + i2) * 512 + i1) i0).length := by rw [← flat3_len]; exact g10.1.symm
              simp only [List.length_append] at hsl
              refine AppG (kd := .i64) zeros165 g10 (x := ⟨some ⟨a, 0, none⟩, 1, 1⟩) (ys := [(i2 : Int) * 262144 + i1 * 512 + i0, flg (wat ws l2 i0), ppn (wat ws l2 i0)]) (RdSl.one e10) (by simp only; omega) (by simp) K10.1 fun s' h11 hs' G11 x11 => ?_
              refine ⟨512 - (i0 + 1), by omega, i0 + 1, hwi0, rfl, hlt0, x11.kept K10 (Nat.le_refl _), ?_⟩
              rw [partL_succ, ee, ← List.append_assoc, flat3_append]
              have : flat3 [((((0 : Int) * 512 + i2) * 512 + i1) * 512 + i0, wat ws l2 i0)] = [(i2 : Int) * 262144 + i1 * 512 + i0, flg (wat ws l2 i0), ppn (wat ws l2 i0)] := by
                show [_, _, _] ++ [] = _
                rw [List.append_nil]
                congr 1
                show (((0 : Int) * 512 + i2) * 512 + i1) * 512 + i0 = _
                omega
              rw [this]; exact G11
            · have hk : ¬ kindM (lo8 (flg (wat ws l2 i0))) = 2 := hk
              have ee : entL n ws 0 l2 ((0 * 512 + i2) * 512 + i1) i0 = [] := by show (if _ then _ else _) = _; rw [if_neg hk]
              exact ⟨512 - (i0 + 1), by omega, i0 + 1, hwi0, rfl, hlt0, k5.trans k59, by rw [partL_succ, ee, List.append_nil]; exact g5.kept k59⟩
          · have : i0 = 512 := by simp only at hge0; omega
            subst this
            exact ⟨512 - (i1 + 1), by omega, i1 + 1, hwi1, rfl, hlt1, k5, by rw [partL_succ, ee1, leavesS_eq, ← List.append_assoc]; exact g5⟩
      · have : i1 = 512 := by simp only at hge1; omega
        subst this
        exact ⟨512 - (i2 + 1), by omega, i2 + 1, hwi, rfl, hlt, k3, by rw [partL_succ, ee2, leavesS_eq]; exact g3⟩
    · have : i2 = 512 := by simp only at hge; omega
      subst this
      exact q z1 h1 k1 (by rw [hT, leavesS_eq]; exact g1)
  · have hT : leavesT n ws root = [] := by unfold leavesT; rw [if_neg hr]
    refine Loop_intro (σ := Sl × Int × Unit) (x := (⟨none, 0, 0⟩, 0, ())) (fun c z h' => ∃ i : Nat, z.2.1 = (i : Int) ∧ c = 512 - i ∧ i ≤ 512 ∧ Kept h h' ∧ z.1 = ⟨none, 0, 0⟩) 512 ⟨0, rfl, rfl, by omega, Kept.refl h, rfl⟩ ?_
    rintro c ⟨z1, zz, u⟩ h1 ⟨i2, hi, hc, hi5, k1, g1⟩
    simp only at hi g1
    subst hi g1
    have m1 := m.kept k1
    refine Br_dec (fun hlt => ?_) fun hge => ?_
    · have hlt : i2 < 512 := by simp only at hlt; omega
      have hwi : IntKind.wrap .i64 ((i2 : Int) + 1) = ((i2 + 1 : Nat) : Int) := by rw [wrap_i64'] <;> omega
      refine JoinI (fun _ _ => False) (fun J hJ => ?_) (fun _ _ hf => hf.elim)
      refine C48 (R121 m1 fun h2 k2 => ?_)
      have hp : placeS n ws root (joinF (i2 : Int) 0 0) = none := by unfold placeS; rw [if_neg (fun x => hr ⟨x.1, x.2.1⟩)]
      simp only [LetI]
      rw [hp]
      simp only [Option.isSome_none, Bool.not_false, Br_true]
      refine R185o (m1.kept k2) hr fun h3 k3 => ?_
      simp only [Bool.not_false, Br_true]
      exact ⟨512 - (i2 + 1), by omega, i2 + 1, hwi, rfl, hlt, (k1.trans k2).trans k3, by trivial⟩
    · exact q _ h1 k1 (by rw [hT]; exact GS.nil)
end
end Go.Proofs.Ytfijchofplkcoaa
