/-
  PmapFlags.
-/
import Derived.Test.YtfijchofplkcoaaKj
set_option linter.unusedVariables false
set_option linter.unusedSimpArgs false
set_option maxRecDepth 100000
namespace Go.Proofs.Ytfijchofplkcoaa

def cpy (xs : List Int) (n i : Nat) : List Int := xs.take (i * 4096) ++ List.replicate ((n - i) * 4096) 0
theorem cpy_step {xs : List Int} {n i : Nat} (hl : xs.length = n * 4096) (hi : i < n) : splice (cpy xs n i) (i * 4096) (fillB (frame xs i)) = cpy xs n (i + 1) := by
  have h1 : i * 4096 + 4096 ≤ n * 4096 := by omega
  have fl : (frame xs i).length = 4096 := by unfold frame; simp; omega
  rw [fillB_full fl]
  unfold splice cpy
  have tl : (xs.take (i * 4096)).length = i * 4096 := by simp; omega
  rw [fl, List.take_append_of_le_length (by omega), List.take_of_length_le (by omega), List.drop_append, tl, List.drop_of_length_le (by omega), List.drop_replicate]
  rw [show (i + 1) * 4096 = i * 4096 + 4096 by omega, List.take_add]
  unfold frame
  rw [show (n - i) * 4096 - (i * 4096 + 4096 - i * 4096) = (n - (i + 1)) * 4096 by omega]
  simp
theorem M135 {h : H} {bm bf n : Nat} {ws : List Int} {Q : Option Addr → H → Prop} (m : MW h bm bf n ws) (hn : 1 ≤ n)
    (q : ∀ rm rt cs h', Kept h h' → RW h' rm rt cs n ws → Q (some ⟨rm, 0, none⟩) h') : F135 (some ⟨bm, 0, none⟩) Q h := by
  rw [F135_eq]
  unfold B135
  have hle := m.ok.le
  refine M93 m (R88 hn hle fun rm rt cs h1 k1 hrm hrt hcs r1 => ?_)
  simp only [Option.isNone_some, Br_false, NilP, add_mk, Nat.add_zero, Nat.zero_add]
  obtain ⟨cap, c0⟩ := r1.mem.c0
  refine Ld_s (x := ⟨some ⟨rt, 0, none⟩, n, cap⟩) c0 ?_
  have hbl : (bytesW ws).length = n * 4096 := by rw [bytesW_len, m.ok.len]; omega
  have cs1 := r1.mem.lt.2.2
  refine Loop_intro (σ := Int × Unit) (x := (0, ())) (fun c z h' => ∃ i : Nat, z.1 = (i : Int) ∧ c = n - i ∧ i ≤ n ∧ KL h1 cs h' ∧ RMem h' rm rt cs n (cpy (bytesW ws) n i)) n ⟨0, rfl, rfl, by omega, KL.refl _ _, ?_⟩ ?_
  · have := r1.mem
    rw [bytesW_rep] at this
    unfold cpy
    simp only [Nat.zero_mul, List.take_zero, List.nil_append, Nat.sub_zero]
    rw [show 8 * (n * 512) = n * 4096 by omega] at this
    exact this
  rintro c ⟨zz, u⟩ h2 ⟨i, hi, hc, hin, k2, r2⟩
  simp only at hi
  subst hi
  have K2 : Kept h h2 := k2.kept k1 hcs
  refine Br_dec (fun hlt => ?_) fun hge => ?_
  · have hlt : i < n := by simp only at hlt; omega
    simp only [LetI]
    refine C64 (m.kept K2).mem (fun j c cap ys h3 hj hjn k3 hc3 e3 ht hy hb => ?_) fun hh => absurd ⟨by omega, by omega⟩ hh
    obtain rfl : j = i := by omega
    have r3 := r2.kept k3
    have r3lt := r2.lt.2.2
    have hk3 := k3.1
    refine Y169 (bs := frame (bytesW ws) j) r3 (fun h' k' => ?_) (fun j' h4 hj' _ k4 r4 => ?_) fun hh => absurd ⟨by omega, by omega⟩ hh
    · rw [← ht]
      exact SB.row (k'.blk e3 (fun hc => by have := r3lt c hc; omega)) hy hb
    · obtain rfl : j' = j := by omega
      rw [cpy_step hbl hlt] at r4
      exact ⟨n - (j' + 1), by omega, j' + 1, by rw [wrap_i64' _ (by omega) (by omega)]; omega, rfl, by omega, (k2.trans k3.kl).trans k4, r4⟩
  · have : i = n := by simp only at hge; omega
    subst this
    have e : cpy (bytesW ws) i i = bytesW ws := by
      unfold cpy
      rw [List.take_of_length_le (by omega)]; simp
    rw [e] at r2
    exact q rm rt cs h2 K2 ⟨r2, m.ok⟩
/-- A word of a page set by hand. -/
theorem WH.poke {K : WK} {h0 h : H} {nt : Nat → Int} {ws ps : List Int} {s : Nat} {vpn v : Int} (w : WH K h0 h nt ws ps) (hs : K.L s = true) (hp : pgv K.n ws (K.rt s) vpn ≠ 0)
    (hv : 0 ≤ v ∧ v < 18446744073709551616) (hv0 : v ≠ 0) (hk : kindM (lo8 (flg v)) = 2) :
    ∃ l, placeS K.n ws (K.rt s) vpn = some (l, ix0 vpn) ∧ l < K.n ∧ wat ws l (ix0 vpn) = pgv K.n ws (K.rt s) vpn ∧
      ∀ h', KB h K.bf h' → MW h' K.bm K.bf K.n (ws.set (l * 512 + ix0 vpn) v) → WH K h0 h' nt (ws.set (l * 512 + ix0 vpn) v) ps ∧ PgSet K ws (ws.set (l * 512 + ix0 vpn) v) s vpn v := by
  have hf := w.wd.find hs vpn
  rw [if_neg hp] at hf
  have c := w.wd.chg hs hp hv (fun _ => hk)
  obtain ⟨ro, V⟩ := w.wd
  obtain ⟨m, l, hm, hl, hpl, hx, _⟩ := findS_at V.iv hs hf
  have e : changeS K.n (K.rt s) vpn v (ws, ps, nt s) = (ws.set (l * 512 + ix0 vpn) v, ps, nt s) := by
    unfold changeS
    simp only
    rw [hpl]
    simp only
    rw [if_neg hv0]
  rw [e] at c
  refine ⟨l, hpl, lead_lt hl, hx.symm, fun h' u m' => ⟨?_, c.pg⟩⟩
  have := w.upd hs (u.kl (by simp)) ((w.w1 hs).mem u m') c.wd
  simp only at this
  rw [setN_self] at this
  exact this
theorem fA : ∀ m, m < 8 → 1 ≤ m → bOr .u64 (bOr .u64 (encF (flagsN m true) 2) 64) 128 = encF (((flagsN m true).toNat + 192 : Nat) : Int) 2 := by decide +kernel
def proVb (m : Nat) (v : Int) : Int := if v = 0 then 0 else if flagsN m true = 0 then 0 else encF (((flagsN m true).toNat ||| (lo8 (flg v) &&& 192) : Nat) : Int) (ppn v)
theorem fB : ∀ m, m < 8 → 1 ≤ m → ∀ m', m' < 8 → 1 ≤ m' → proVb m' (encF (((flagsN m true).toNat + 192 : Nat) : Int) 2) = encF (((flagsN m' true).toNat + 192 : Nat) : Int) 2 := by decide +kernel
theorem fC : ∀ m, m < 8 → 1 ≤ m → kindM ((flagsN m true).toNat + 192) = 2 ∧ (flagsN m true).toNat + 192 < 256 := by decide +kernel
theorem fD : ∀ m, m < 8 → 1 ≤ m → ∀ y, y < 4 → ((flagsN m true).toNat + 192) &&& (y * 64) = y * 64 ∧ ((flagsN m true).toNat + 192 - y * 64) &&& (y * 64) = 0 ∧ y * 64 ≤ (flagsN m true).toNat + 192 ∧
   (flagsN m true).toNat + 192 - y * 64 ≠ 0 ∧ ((flagsN m true).toNat + 192) &&& 192 = 192 := by decide +kernel
theorem L35 {p0 p1 p2 : Int} {Q : Bool → H → Prop} {h : H} (hp0 : 0 ≤ p0 ∧ p0 < 18446744073709551616) (hp1 : 0 ≤ p1 ∧ p1 < 18446744073709551616)
    (q : ∀ h', Kept h h' → Q true h') : F35 p0 p1 p2 Q h := by
  have liv : ∀ h', Kept h h' → F129 (fun r6 h7 => Q r6 h7) h' := fun h' k => C129 fun h9 k9 => q h9 (k.trans k9)
  rw [F35_eq]
  unfold B35
  simp only [JoinM]
  refine QN (n := 8) (h0 := h) (Kept.refl h) (by omega) (by omega) 1 fun K h2 ws ps hn one w z => ?_
  simp only [LetI, bne_self_eq_false, Br_false]
  have ep : ∀ p : Int, 0 ≤ p ∧ p < 18446744073709551616 → IntKind.wrap .i64 (1 + IntKind.wrap .i64 (Int.tmod p 7)) = p % 7 + 1 := fun p hp => by rw [Int.tmod_eq_emod_of_nonneg hp.1, wrap_i64' (p % 7) (by omega) (by omega), wrap_i64'] <;> omega
  rw [ep p0 hp0, ep p1 hp1]
  have l0 : lo3 (p0 % 7 + 1) < 8 ∧ 1 ≤ lo3 (p0 % 7 + 1) := ⟨lo3_lt _, by unfold lo3; omega⟩
  have l1 : lo3 (p1 % 7 + 1) < 8 ∧ 1 ≤ lo3 (p1 % 7 + 1) := ⟨lo3_lt _, by unfold lo3; omega⟩
  have c1 := w.wd.one one.l1
  rw [hn, setN_at] at c1
  refine ⟨by omega, Q130 w one.l0 (fun h3 hb _ _ => absurd hb (okE (by omega) (by omega) (by rw [hn]; omega))) (fun h3 nd ws3 ps3 _ hnd hN hc w3 pg3 _ _ => ?_) fun h3 nd ws3 ps3 _ hnd hN hc w3 c0 pg3 _ => by rw [hn] at hc; omega⟩
  simp only [bne_self_eq_false, Br_false]
  have v3 : pgv K.n ws3 (K.rt 0) 9 = encF (flagsN (lo3 (p0 % 7 + 1)) true) 2 := by rw [pg3 0 9 one.l0, if_pos ⟨rfl, rfl⟩]; rfl
  have ne3 : pgv K.n ws3 (K.rt 0) 9 ≠ 0 := by rw [pg3 0 9 one.l0, if_pos ⟨rfl, rfl⟩]; exact leafV_ne (by omega) _
  refine M135 w3.pw.mw (by omega) fun rm rt cs h4 k4 r4 => ?_
  have w4 := w3.kept k4
  refine Q136 w4 one.l0 (R121 r4 fun h5 k5 => ?_)
  have w5 := w4.kept k5
  have f1 := fC _ l0.1 l0.2
  obtain ⟨l, hpl, hln, hwat, hpoke⟩ := w5.poke (v := encF (((flagsN (lo3 (p0 % 7 + 1)) true).toNat + 192 : Nat) : Int) 2) one.l0 ne3 (encF_range _ _) (enc_ne f1.2 (by omega) _) (by rw [lo8_of f1.2]; exact f1.1)
  rw [hpl]
  obtain ⟨i2, i1, i0⟩ := ix_lt 9
  refine M83 w5.pw.mw ?_
  simp only [plF, plI, Option.isSome_some]
  rw [wordF_in hln i0]
  simp only
  rw [hwat, v3, fA _ l0.1 l0.2]
  refine M82 w5.pw.mw (encF_range _ _) fun h6 u6 m6 => ?_
  rw [setF_in hln i0] at m6
  obtain ⟨w6, pg6⟩ := hpoke h6 u6 m6
  simp only [Bool.not_true, Br_false]
  refine ⟨by omega, Q137 w6 one.l0 fun h7 nt7 ws7 ps7 w7 pg7 _ => ?_⟩
  generalize ws3.set (l * 512 + ix0 9) (encF (((flagsN (lo3 (p0 % 7 + 1)) true).toNat + 192 : Nat) : Int) 2) = ws6 at *
  have v6 : pgv K.n ws6 (K.rt 0) 9 = encF (((flagsN (lo3 (p0 % 7 + 1)) true).toNat + 192 : Nat) : Int) 2 := by rw [pg6 0 9 one.l0, if_pos ⟨rfl, rfl⟩]
  have v7 : pgv K.n ws7 (K.rt 0) 9 = encF (((flagsN (lo3 (p1 % 7 + 1)) true).toNat + 192 : Nat) : Int) 2 := by
    rw [pg7 0 9 one.l0, if_pos ⟨rfl, rfl⟩, v6]
    exact fB _ l0.1 l0.2 _ l1.1 l1.2
  rw [decide_eq_true (by rw [v6]; exact enc_ne f1.2 (by omega) _)]
  simp only [Bool.not_true, Br_false]
  have f2 := fC _ l1.1 l1.2
  have hy := lo8_lt p2
  have f3 := fD _ l1.1 l1.2 (lo8 p2 / 64) (by omega)
  generalize (flagsN (lo3 (p1 % 7 + 1)) true).toNat + 192 = D at *
  refine Q131 w7 one.l0 fun h8 w8 k8 => ?_
  rw [v7, flg_of f2.2, ppn_of]
  refine Q25 fun a h9 k9 ha e9 => ?_
  have w9 := w8.kept k9
  have ha9 := (Array.getElem?_eq_some_iff.1 e9).1
  refine Q138 w9 one.l0 fun h10 nt10 ws10 ps10 w10 pg10 k10 => ?_
  have hadD : hadN D p2 = lo8 p2 / 64 * 64 := by rw [hadN_eq]; exact f3.1
  have e10 : IL h10 a 25 [(D : Int), 2 % 17592186044416] := k10.blk e9 (by
    simp only [L3b, List.mem_cons, List.not_mem_nil, or_false, not_or]
    have q1 := (w8.w1 one.l0).lt
    omega)
  have hv : hadV p2 (pgv K.n ws7 (K.rt 0) 9) = ((lo8 p2 / 64 * 64 : Nat) : Int) := by
    rw [v7]
    unfold hadV
    rw [if_neg (enc_ne f2.2 (by omega) _), lo8_of f2.2, hadD]
  rw [hv]
  have v10 : pgv K.n ws10 (K.rt 0) 9 = encF ((D - lo8 p2 / 64 * 64 : Nat) : Int) 2 := by
    rw [pg10 0 9 one.l0, if_pos ⟨rfl, rfl⟩, v7]
    unfold clrV
    rw [if_neg (enc_ne f2.2 (by omega) _), lo8_of f2.2, hadD, ppn_of]
    rfl
  have lt10 : D - lo8 p2 / 64 * 64 < 256 := by omega
  refine Q131 w10 one.l0 fun h11 w11 k11 => ?_
  rw [v10, flg_of lt10, ppn_of]
  refine Q25 fun b h12 k12 hb e12 => ?_
  have w12 := w11.kept k12
  have e12' : IL h12 a 25 [(D : Int), 2 % 17592186044416] := (k11.trans k12).blk e10
  simp only [add_mk, Nat.add_zero, Nat.zero_add]
  refine Ld_i (x := (D : Int)) (by rw [hcell_blk e12']; rfl) ?_
  have b1 : bAnd .i64 (D : Int) 192 = 192 := by
    have := bA8 (D : Int) 192 (by omega)
    rw [show ((192 : Nat) : Int) = 192 from rfl] at this
    rw [this, lo8_nat f2.2, f3.2.2.2.2]; rfl
  have b2 : bAnd .i64 p2 192 = ((lo8 p2 / 64 * 64 : Nat) : Int) := by
    have := bA8 p2 192 (by omega)
    rw [show ((192 : Nat) : Int) = 192 from rfl] at this
    rw [this, key_192 _ hy]
  rw [b1, b2]
  simp only [beq_self_eq_true, Br_true]
  refine Ld_i (x := ((D - lo8 p2 / 64 * 64 : Nat) : Int)) (by rw [hcell_blk e12]; rfl) (Ld_i (x := (D : Int)) (by rw [hcell_blk e12']; rfl) ?_)
  rw [wrap_i64' _ (by omega) (by omega), show ((D - lo8 p2 / 64 * 64 : Nat) : Int) = (D : Int) - ((lo8 p2 / 64 * 64 : Nat) : Int) by omega]
  simp only [beq_self_eq_true, Br_true]
  refine Ld_i (x := 2 % 17592186044416) (by rw [hcell_blk e12]; rfl) ?_
  simp only [show ((2 : Int) % 17592186044416 == 2) = true by decide, Br_true]
  refine Q138 w12 one.l0 fun h13 nt13 ws13 ps13 w13 pg13 k13 => ?_
  have hv2 : hadV p2 (pgv K.n ws10 (K.rt 0) 9) = 0 := by
    rw [v10]
    unfold hadV
    rw [if_neg (enc_ne lt10 f3.2.2.2.1 _), lo8_of lt10, hadN_eq, f3.2.1]; rfl
  rw [hv2]
  simp only [beq_self_eq_true, Br_true]
  exact liv h13 w13.kp
end Go.Proofs.Ytfijchofplkcoaa
