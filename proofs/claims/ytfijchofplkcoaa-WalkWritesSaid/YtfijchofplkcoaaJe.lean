/-
  The law WalkWrites over the heap predicates.
-/
import Derived.Test.YtfijchofplkcoaaJd
import Derived.Test.YtfijchofplkcoaaDe
set_option linter.unusedVariables false
set_option linter.unusedSimpArgs false
set_option maxRecDepth 100000
namespace Go.Proofs.Ytfijchofplkcoaa

theorem zero156 : zeroC Try.prog 156 = #[.slice none 0 0, .slice none 0 0, .slice none 0 0, .slice none 0 0, .slice none 0 0, .slice none 0 0, .slice none 0 0, .slice none 0 0] := by kernel_rfl
/-- Pages that were taken. -/
def Was (h' : H) (w bf : Nat) (xs : List Int) (i : Nat) : Prop := ∃ sl : List Sl, sl.length = 8 ∧ h'[w]? = some (.cells (VS sl) 156) ∧
  ∀ j, j < i → ∃ (c cap : Nat) (ys : List Int), sl[j]? = some ⟨some ⟨c, 0, none⟩, 4096, cap⟩ ∧ BL h' c 5 ys ∧ ys.take 4096 = frame xs j ∧ 4096 ≤ ys.length ∧ (∀ x ∈ ys, 0 ≤ x ∧ x < 256) ∧ c ≠ bf ∧ c ≠ w
theorem Was.kb {h h' : H} {w bf : Nat} {xs : List Int} {i : Nat} (e : Was h w bf xs i) (k : KB h bf h') (hw : w ≠ bf) : Was h' w bf xs i := by
  obtain ⟨sl, h1, h2, h3⟩ := e
  refine ⟨sl, h1, k.blk h2 hw, fun j hj => ?_⟩
  obtain ⟨c, cap, ys, g1, g2, g3, g4, g5, g6, g7⟩ := h3 j hj
  exact ⟨c, cap, ys, g1, k.blk g2 g6, g3, g4, g5, g6, g7⟩
theorem Was.kept {h h' : H} {w bf : Nat} {xs : List Int} {i : Nat} (e : Was h w bf xs i) (k : Kept h h') : Was h' w bf xs i := by
  obtain ⟨sl, h1, h2, h3⟩ := e
  refine ⟨sl, h1, k.blk h2, fun j hj => ?_⟩
  obtain ⟨c, cap, ys, g1, g2, g3, g4, g5, g6, g7⟩ := h3 j hj
  exact ⟨c, cap, ys, g1, g2.kept k, g3, g4, g5, g6, g7⟩
theorem bOr_i (a b : Nat) (ha : a < 256) (hb : b < 256) : bOr .i64 (a : Int) (b : Int) = ((a ||| b : Nat) : Int) := bOr_i64 a b (by omega) (by omega)

theorem L31 {p0 p1 r0 va0 acc : Int} {ub : Bool} {Q : Bool → H → Prop} {h : H} (hp0 : 0 ≤ p0 ∧ p0 < 18446744073709551616) (hp1 : 0 ≤ p1 ∧ p1 < 18446744073709551616)
    (q : ∀ h', Kept h h' → Q true h') : F31 p0 p1 r0 va0 acc ub Q h := by
  have liv : ∀ h', Kept h h' → F115 (fun r6 h7 => Q r6 h7) h' := fun h' k => C115 fun h9 k9 => q h9 (k.trans k9)
  rw [F31_eq]
  unfold B31
  refine Nw_intro fun a1 h1 ha1 k1 e1 => ⟨by omega, ?_⟩
  have ha1' := (Array.getElem?_eq_some_iff.1 e1).1
  obtain ⟨k, hk⟩ : ∃ k : Nat, p0 % 512 = (k : Int) := Int.eq_ofNat_of_zero_le (by omega)
  have hk5 : k < 512 := by omega
  have t1 : IntKind.wrap .i64 (Int.tmod p0 512) = (k : Int) := by rw [Int.tmod_eq_emod_of_nonneg hp0.1, hk, wrap_i64' _ (by omega) (by omega)]
  obtain ⟨f, hf⟩ : ∃ f : Nat, p1 % 256 = (f : Int) := Int.eq_ofNat_of_zero_le (by omega)
  have hf5 : f < 256 := by omega
  have t2 : IntKind.wrap .i64 (Int.tmod p1 256) = (f : Int) := by rw [Int.tmod_eq_emod_of_nonneg hp1.1, hf, wrap_i64' _ (by omega) (by omega)]
  have t3 : IntKind.wrap .i64 (IntKind.wrap .i64 ((k : Int) * 4096) + 5) = (k : Int) * 4096 + 5 := by
    rw [wrap_i64' ((k : Int) * 4096) (by omega) (by omega), wrap_i64' _ (by omega) (by omega)]
  simp only [t1, t2, t3, LetI]
  refine ⟨by omega, C124 fun s h2 k2 hs2 W2 => C116 W2 (by omega) fun bm bf rm rt cs h3 T3 => ?_⟩
  simp only [Option.isNone_some, Br_false]
  obtain ⟨q0, q1, q2⟩ := one_at (i := k) (f := (f : Int)) (p := 3) hk5
  obtain ⟨ws, hws⟩ : ∃ ws, ws = madeS (oneQ k f 3) := ⟨_, rfl⟩
  rw [← hws] at q0 q1 q2 T3
  have ev : encF (f : Int) 3 = ((3 * 1024 + f : Nat) : Int) := by unfold encF; omega
  have fv : flg (encF (f : Int) 3) = (f : Int) := by rw [ev]; unfold flg; omega
  have pv : ppn (encF (f : Int) 3) = 3 := by rw [ev]; unfold ppn; omega
  have lf : lo8 (f : Int) = f := by unfold lo8; omega
  have K3 := (k1.trans k2).trans T3.kept
  have hk1 := k1.1
  have hk2 := k2.1
  have hbf := T3.l1
  have E3 := (k2.trans T3.kept).blk e1
  have hbf3 := T3.mw.lt
  refine Nw_intro fun a9 h4 ha9 k4 e4 => ?_
  rw [zero156] at e4
  have w0 : Was h4 a9 bf (bytesW ws) 0 := ⟨List.replicate 8 ⟨none, 0, 0⟩, rfl, e4, fun j hj => by omega⟩
  refine Loop_intro (σ := Int × Unit) (x := (0, ())) (fun d z h' => ∃ i : Nat, z.1 = (i : Int) ∧ d = 8 - i ∧ i ≤ 8 ∧ Kept h3 h' ∧ Was h' a9 bf (bytesW ws) i) 8 ⟨0, rfl, rfl, by omega, k4, w0⟩ ?_
  rintro d ⟨ii, u⟩ h5 ⟨i, hi, hd, hi8, K5, W5⟩
  simp only at hi
  subst hi
  have m5 := T3.mw.kept K5
  refine Br_dec (fun hlt => ?_) fun hge => ?_
  · have hlt : i < 8 := by simp only at hlt; omega
    obtain ⟨sl, hsl, E5, W5⟩ := W5
    have ha9' := (Array.getElem?_eq_some_iff.1 E5).1
    refine C64 m5.mem (fun j p pc ps h6 hj _ k6 hp B6 hps hpl hpb => ?_) fun hh => absurd ⟨by omega, by omega⟩ hh
    obtain rfl : j = i := by omega
    refine ⟨⟨by omega, by omega⟩, ?_⟩
    simp only [add_mk, Int.toNat_natCast, Nat.mul_one, Nat.add_zero, Nat.zero_add]
    refine St_intro (k6.blk E5) (by simp; omega) fun h7 u7 e7 => ?_
    have hk5 := K5.1
    refine ⟨8 - (j + 1), by omega, j + 1, by rw [wrap_i64' _ (by omega) (by omega)]; omega, rfl, by omega, u7.kept (K5.trans k6) (by omega), sl.set j ⟨some ⟨p, 0, none⟩, 4096, pc⟩, by simpa using hsl, ?_, ?_⟩
    · rw [e7]; congr 2; simp [VS, List.map_set]
    · intro j' hj'
      by_cases hjj : j' = j
      · subst hjj
        exact ⟨p, pc, ps, by simp [hsl, hlt], B6.upd u7 (by omega), hps, hpl, hpb, by omega, by omega⟩
      · obtain ⟨c', cap', ys', g1, g2, g3, g4, g5, g6, g7⟩ := W5 j' (by omega)
        exact ⟨c', cap', ys', by rw [List.getElem?_set_ne (by omega)]; exact g1, (g2.kept k6).upd u7 g7, g3, g4, g5, g6, g7⟩
  · have hi8 : i = 8 := by simp only at hge; omega
    subst hi8
    have E5 := K5.blk E3
    have ent1 : entS 8 ws 0 (k : Int) = some (encF (f : Int) 3) := by unfold entS; rw [place_one q0 q1 hk5, Option.map_some, q2]
    refine M122 m5 fun h6 k6 => ?_
    rw [ent1]
    simp only [Option.getD_some, Option.isSome_some, fv, pv]
    refine Nw_intro fun a22 h7 h22 k7 e7 => ?_
    rw [zero25] at e7
    simp only [add_mk]
    refine put25 e7 fun h8 u8 e8 => ?_
    have k68 : Kept h6 h8 := u8.kept k7 (by omega)
    have K8 := (K5.trans k6).trans k68
    have E8 := K8.blk E3
    have hs5 := K5.1
    have hs6 := k6.1
    have m8 := T3.mw.kept K8
    refine Ld_i (x := acc) (by rw [hcell_blk E8]; rfl) (Ld_b (x := ub) (by rw [hcell_blk E8]; rfl) ?_)
    refine M117 m8 fun h9 x y z ws' hs u9 m9 => ?_
    obtain ⟨pw, hpw⟩ : ∃ pw, pw = mayM f (wOf acc) ub := ⟨_, rfl⟩
    rw [walk_one q0 q1 hk5 rfl (by omega), q2, fv, pv, lf, ← hpw] at hs
    have wv := encF_range (f : Int) 3
    obtain ⟨g1, g2, g3⟩ := orS_flg wv.1 acc
    rw [fv, lf] at g1 g3
    rw [pv] at g2
    have o := T3.mw.ok
    -- the words behind the walk
    have key : (x = 0 ↔ pw = true) ∧ (x = 0 → y = 3 ∧ z = 5) ∧ wat ws' 0 0 = 1025 ∧ wat ws' 1 0 = 2049 ∧ (wat ws' 2 k = if x = 0 then orS (encF (f : Int) 3) acc else encF (f : Int) 3) ∧ ws'.set (2 * 512 + k) (encF (f : Int) 3) = ws := by
      have back : ws.set (2 * 512 + k) (encF (f : Int) 3) = ws := by
        refine ext0 (by simp) fun t ht => ?_
        rw [set_getD _ _ _ _ (o.in_ (by omega) hk5)]
        split
        · rename_i e; subst e; exact q2.symm
        · rfl
      by_cases hkd : kindM f = 2 ∧ (3 : Int) < 8
      · rw [if_neg (fun x => x hkd)] at hs
        cases hb : pw
        · rw [hb, if_pos rfl] at hs
          simp only [Prod.mk.injEq] at hs
          obtain ⟨⟨rfl, rfl, rfl⟩, rfl⟩ := hs
          exact ⟨by simp, by simp, q0, q1, by rw [if_neg (by omega)]; exact q2, back⟩
        · rw [hb, if_neg (by simp)] at hs
          simp only [Prod.mk.injEq] at hs
          obtain ⟨⟨rfl, rfl, rfl⟩, rfl⟩ := hs
          refine ⟨by simp, fun _ => ⟨rfl, rfl⟩, ?_, ?_, ?_, ?_⟩
          · rw [wat_set o (by omega) hk5 (by omega), if_neg (by omega)]; exact q0
          · rw [wat_set o (by omega) hk5 (by omega), if_neg (by omega)]; exact q1
          · rw [wat_set o (by omega) hk5 hk5, if_pos ⟨rfl, rfl⟩, if_pos rfl]
          · rw [List.set_set]; exact back
      · rw [if_pos hkd] at hs
        simp only [Prod.mk.injEq] at hs
        obtain ⟨⟨rfl, rfl, rfl⟩, rfl⟩ := hs
        have hb : pw = false := by
          rw [hpw]; unfold mayM
          have : (kindM f == 2) = false := by
            by_cases e : kindM f = 2
            · exact absurd ⟨e, by omega⟩ hkd
            · simpa using e
          rw [this]; rfl
        rw [hb]
        exact ⟨by simp, by simp, q0, q1, by rw [if_neg (by omega)]; exact q2, back⟩
    obtain ⟨kx, kyz, b0, b1, b2, b3⟩ := key
    have W9 := ((W5.kept k6).kept k68).kb u9 (by omega)
    have E9 := u9.blk E8 (by omega)
    have e9 : IL h9 a22 25 [(f : Int), 3] := u9.blk e8 (by omega)
    have ent2 : entS 8 ws' 0 (k : Int) = some (wat ws' 2 k) := by unfold entS; rw [place_one b0 b1 hk5]; rfl
    have hp2 : ppn (wat ws' 2 k) = 3 := by rw [b2]; split; exact g2; exact pv
    refine M122 m9 fun h10 k10 => ?_
    rw [ent2]
    simp only [Option.getD_some, Option.isSome_some, hp2]
    refine Nw_intro fun a39 h11 h39 k11 e11 => ?_
    rw [zero25] at e11
    simp only [add_mk]
    refine put25 e11 fun h12 u12 e12 => ?_
    have k1012 : Kept h10 h12 := u12.kept k11 (by omega)
    have k912 := k10.trans k1012
    have W12 := W9.kept k912
    have E12 := k912.blk E9
    have e12' : IL h12 a22 25 [(f : Int), 3] := k912.blk e9
    have m12 := m9.kept k912
    simp only [Bool.not_true, Br_false]
    refine JoinI (fun _ h' => h' = h12) (fun J hJ => ?_) ?_
    · refine Ld_i (x := 3) (by rw [hcell_blk e12]; rfl) (Ld_i (x := 3) (by rw [hcell_blk e12']; rfl) ?_)
      simp only [bne_self_eq_false, Br_false]
      exact hJ () h12 rfl
    rintro u h12' rfl
    refine Ld_i (x := (f : Int)) (by rw [hcell_blk e12']; rfl) ?_
    refine JoinI (fun y h' => h' = h12' ∧ y.1 = flg (wat ws' 2 k)) (fun J hJ => ?_) ?_
    · refine Br_beq_int (fun e => Ld_i (x := acc) (by rw [hcell_blk E12]; rfl) (Br_beq_int (fun ea => hJ _ _ ⟨rfl, ?_⟩) fun ea => hJ _ _ ⟨rfl, ?_⟩)) fun e => hJ _ _ ⟨rfl, ?_⟩
      · have ea : acc = 2 := ea
        show bOr .i64 (bOr .i64 (f : Int) 64) 128 = _
        rw [b2, if_pos e, g3, if_pos ea]
        have h1 := bOr_i f 64 hf5 (by omega)
        have h2 := bOr_i (f ||| 64) 128 (Nat.or_lt_two_pow (n := 8) hf5 (by omega)) (by omega)
        rw [show ((64 : Nat) : Int) = 64 from rfl] at h1
        rw [show ((128 : Nat) : Int) = 128 from rfl] at h2
        rw [h1, h2, Nat.or_assoc]; rfl
      · have ea : ¬ acc = 2 := ea
        show bOr .i64 (f : Int) 64 = _
        rw [b2, if_pos e, g3, if_neg ea]
        exact bOr_i f 64 hf5 (by omega)
      · show (f : Int) = _
        rw [b2, if_neg e, fv]
    rintro ⟨fl, u⟩ h12'' ⟨rfl, hfl⟩
    simp only at hfl
    subst hfl
    refine JoinI (fun _ h' => Kept h12'' h') (fun J hJ => ?_) ?_
    · refine Ld_i (x := flg (wat ws' 2 k)) (by rw [hcell_blk e12]; rfl) ?_
      simp only [bne_self_eq_false, Br_false]
      refine Ld_i (x := (f : Int)) (by rw [hcell_blk e12']; rfl) (Ld_i (x := 3) (by rw [hcell_blk e12']; rfl) (Ld_i (x := acc) (by rw [hcell_blk E12]; rfl) (Ld_b (x := ub) (by rw [hcell_blk E12]; rfl) ?_)))
      refine C55 fun h13 k13 => ?_
      rw [lf, ← hpw]
      have : ((x == 0) == pw) = true := by
        cases hb : pw
        · have : x ≠ 0 := fun e => by rw [hb] at kx; exact absurd (kx.1 e) (by simp)
          have : (x == 0) = false := by simpa using this
          rw [this]; rfl
        · have : x = 0 := kx.2 hb
          rw [this]; rfl
      rw [this]
      simp only [Bool.not_true, Br_false]
      refine Br_beq_int (fun e => ?_) fun _ => hJ () h13 k13
      obtain ⟨rfl, rfl⟩ := kyz e
      simp only [bne_self_eq_false, Br_false]
      exact hJ () h13 k13
    rintro u h13 k13
    refine Ld_i (x := (f : Int)) (by rw [hcell_blk (k13.blk e12')]; rfl) (Ld_i (x := 3) (by rw [hcell_blk (k13.blk e12')]; rfl) (C51 fun h14 k14 => ?_))
    have k1214 := k13.trans k14
    refine M82 (m12.kept k1214) wv fun h15 u15 m15 => ?_
    have es : setF 8 ws' 2 (k : Int) (encF (f : Int) 3) = ws := by rw [show (2 : Int) = ((2 : Nat) : Int) from rfl, setF_in (by omega) hk5]; exact b3
    rw [es] at m15
    have W15 := (W12.kept k1214).kb u15 (by omega)
    have K15 : Kept h h15 := by
      have := u15.kept ((u9.kept (((k1.trans k2).trans T3.kept).trans K8) (by omega)).trans (k912.trans k1214)) (by omega)
      exact this
    refine Loop_intro (σ := Int × Unit) (x := (0, ())) (fun d z h' => ∃ i : Nat, z.1 = (i : Int) ∧ d = 8 - i ∧ i ≤ 8 ∧ Kept h15 h') 8 ⟨0, rfl, rfl, by omega, Kept.refl h15⟩ ?_
    rintro d ⟨ii, u⟩ h16 ⟨i, hi, hd, hi8, K16⟩
    simp only at hi
    subst hi
    refine Br_dec (fun hlt => ?_) fun _ => liv h16 (K15.trans K16)
    have hlt : i < 8 := by simp only at hlt; omega
    obtain ⟨sl, hsl, ES, WS⟩ := W15.kept K16
    obtain ⟨c', cap', ys', r1, r2, r3, r4, r5, r6, r7⟩ := WS i hlt
    have c9 : hcell h16 ⟨a9, 0 + i * 1 + 0, none⟩ = some (.slice (some ⟨c', 0, none⟩) 4096 cap') := by
      rw [hcell_blk ES]; simp [VS, r1]
    refine ⟨⟨by omega, by omega⟩, ?_⟩
    simp only [add_mk, Int.toNat_natCast]
    refine Ld_s (x := ⟨some ⟨c', 0, none⟩, 4096, cap'⟩) c9 ?_
    refine C64 (m15.mem.kept K16) (fun j p pc ps h17 hj _ k17 hp B17 hps hpl hpb => ?_) fun hh => absurd ⟨by omega, by omega⟩ hh
    obtain rfl : j = i := by omega
    refine ⟨k17.cell c9, ⟨(true, ()), ?_, ?_⟩⟩
    · have T := SB.frame (r2.kept k17) r4 r5 cap'
      have S := SB.frame B17 hpl hpb pc
      rw [hps, ← r3] at S
      exact C65 S T ⟨rfl, rfl⟩
    · exact ⟨8 - (j + 1), by omega, j + 1, by rw [wrap_i64' _ (by omega) (by omega)]; omega, rfl, by omega, K16.trans k17⟩
end Go.Proofs.Ytfijchofplkcoaa
