/-
  PmapApart.
-/
import Derived.Test.YtfijchofplkcoaaKm
set_option linter.unusedVariables false
set_option linter.unusedSimpArgs false
set_option maxRecDepth 100000
namespace Go.Proofs.Ytfijchofplkcoaa

theorem QN2 {n : Nat} {h0 h : H} {J : Option Addr → Option Addr → Option Addr → Int → Option Addr → Int → H → Prop} (k0 : Kept h0 h) (h1 : 2 ≤ n) (h2 : n ≤ 256) (a1 a2 : Int)
    (q : ∀ (K : WK) h' nt ws ps, K.n = n → (∀ s, K.L s = true ↔ s = 0 ∨ s = 1) → WH K h0 h' nt ws ps → nt 0 = 1 → nt 1 = 1 → (∀ u, pgv K.n ws (K.rt 0) u = 0) → (∀ u, pgv K.n ws (K.rt 1) u = 0) →
      J (some ⟨K.bm, 0, none⟩) (some ⟨K.bp, 0, none⟩) (some ⟨K.bx 0, 0, none⟩) 0 (some ⟨K.bx 1, 0, none⟩) 0 h') :
    F61 n (fun r1 h2 => F75 n 0 (fun r3 h4 => F128 r1 r3 a1 (fun r5 r6 h7 => F128 r1 r3 a2 (fun r9 r10 h11 => J r1 r3 r5 r6 r9 r10 h11) h7) h4) h2) h := by
  refine QN (J := fun r1 r3 r5 r6 h7 => F128 r1 r3 a2 (fun r9 r10 h11 => J r1 r3 r5 r6 r9 r10 h11) h7) k0 (by omega) h2 a1 fun K h3 ws ps hn one w z => ?_
  have c1 := w.wd.one one.l1
  rw [setN_at, hn] at c1
  have L1 : K.L 1 = false := by
    cases h : K.L 1
    · rfl
    · exact absurd ((one.l1 1).1 h) (by omega)
  refine Q128 (s := 1) w (by omega) L1 (fun h' hh _ _ => by rw [hn] at hh; omega) fun b r h' ws' ps' hc' hb w' c0 c1 P P0 P00 k => ?_
  have e0 : (K.add 1 r b a2).bx 0 = K.bx 0 := K.bx1 1 r b a2 (by omega)
  have e1 : (K.add 1 r b a2).bx 1 = b := K.bx0 1 r b a2
  have f0 : (K.add 1 r b a2).rt 0 = K.rt 0 := K.rt1 1 r b a2 (by omega)
  have f1 : (K.add 1 r b a2).rt 1 = r := K.rt0 1 r b a2
  have := q (K.add 1 r b a2) h' _ ws' ps' hn (fun s => by
    by_cases e : s = 1
    · subst e; rw [K.L0 1 r b a2]; simp
    · rw [K.L1 1 r b a2 e, one.l1]; simp [e]) w' (by unfold setN; rfl) (by rw [setN_at]) (fun u => by rw [f0]; exact (P 0 u one.l0).trans (z u)) (fun u => by rw [f1]; exact P0 u)
  rw [e0, e1] at this
  exact this
theorem L36 {p0 p1 : Int} {a2 : Option Addr} {l2 c2 : Nat} {Q : Bool → H → Prop} {h : H} (hp0 : 0 ≤ p0 ∧ p0 < 18446744073709551616) (hp1 : 0 ≤ p1 ∧ p1 < 18446744073709551616) (o2 : Opn h (.slice D5) [.slice a2 l2 c2])
    (q : ∀ h', Kept h h' → Q true h') : F36 p0 p1 ⟨a2, l2, c2⟩ Q h := by
  have liv : ∀ h', Kept h h' → F129 (fun r6 h7 => Q r6 h7) h' := fun h' k => C129 fun h9 k9 => q h9 (k.trans k9)
  have acts := Acts5.of o2
  rw [F36_eq]
  unfold B36
  simp only [LetI]
  refine QN2 (n := 60) (h0 := h) (Kept.refl h) (by omega) (by omega) 1 2 fun K h2 nt ws ps hn hL w n0 n1 z0 z1 => ?_
  have l0 : K.L 0 = true := (hL 0).2 (.inl rfl)
  have l1 : K.L 1 = true := (hL 1).2 (.inr rfl)
  have ea : ∀ p : Int, 0 ≤ p ∧ p < 18446744073709551616 → IntKind.wrap .i64 (Int.tmod p 67108864) = p % 67108864 := fun p hp => by rw [Int.tmod_eq_emod_of_nonneg hp.1, wrap_i64'] <;> omega
  rw [ea p0 hp0, ea p1 hp1]
  obtain ⟨a, ha⟩ : ∃ a, a = p0 % 67108864 := ⟨_, rfl⟩
  obtain ⟨b, hb⟩ : ∃ b, b = p1 % 67108864 := ⟨_, rfl⟩
  rw [← ha, ← hb]
  have va : 0 ≤ a ∧ a < 67108864 := by omega
  have vb : 0 ≤ b ∧ b < 67108864 := by omega
  have lne : leafV 1 1 ≠ 0 := leafV_ne (by omega) _
  refine ⟨by omega, by omega, ?_⟩
  simp only [bne_self_eq_false, Br_false, beq_self_eq_true, Br_true]
  refine JoinI (fun _ h' => l2 ≤ 12 ∧ ∃ nt ws fs, WH K h h' nt ws fs ∧ nt 0 = 3 ∧ ∀ u, pgv K.n ws (K.rt 0) u = if u = a then leafV 1 1 else 0) (fun J hJ => ?_) ?_
  · refine Br_dec (fun hh => Br_dec (fun _ => liv h2 w.kp) fun hh2 => absurd hh hh2) fun hl => ?_
    have hl12 : l2 ≤ 12 := by simp at hl; omega
    have c1 := w.wd.two hL
    rw [hn] at c1
    refine Q130 w l0 (fun h3 hb _ _ => absurd hb (okE va (by omega) (by rw [hn]; omega))) (fun h3 nd ws3 ps3 _ hnd hN hc w3 pg3 _ _ => ?_) fun h3 nd ws3 ps3 _ hnd hN hc w3 c0 pg3 _ => by rw [hn] at hc; omega
    obtain rfl := need2 z0 hN
    simp only [bne_self_eq_false, Br_false]
    have c3 := w3.wd.two hL
    rw [hn, setN_at, show setN nt 0 (nt 0 + 2) 1 = nt 1 from rfl] at c3
    refine Q130 w3 l1 (fun h4 hb _ _ => absurd hb (okE vb (by omega) (by rw [hn]; omega))) (fun h4 nd ws4 ps4 _ hnd hN hc w4 pg4 _ _ => ?_) fun h4 nd ws4 ps4 _ hnd hN hc w4 c0 pg4 _ => by rw [hn] at hc; omega
    simp only [bne_self_eq_false, Br_false]
    refine hJ () h4 ⟨hl12, _, ws4, ps4, w4, by show nt 0 + 2 = 3; omega, fun u => ?_⟩
    rw [pg4 0 u l0, if_neg (by omega), pg3 0 u l0]
    by_cases e : u = a
    · rw [if_pos ⟨rfl, e⟩, if_pos e]
    · rw [if_neg (fun x => e x.2), if_neg e]; exact z0 u
  rintro _ h3 ⟨hl12, nt3, ws3, fs3, w3, n3, z3⟩
  refine Loop_intro (σ := Int × Unit) (x := (0, ())) (fun c z h' => ∃ (i : Nat) (nt : Nat → Int) (ws fs : List Int), z.1 = (i : Int) ∧ c = l2 - i ∧ i ≤ l2 ∧ WH K h h' nt ws fs ∧ nt 0 = 3 ∧ ∀ u, pgv K.n ws (K.rt 0) u = if u = a then leafV 1 1 else 0) l2
    ⟨0, nt3, ws3, fs3, rfl, rfl, by omega, w3, n3, z3⟩ ?_
  rintro c ⟨zz, u⟩ h4 ⟨i, nt4, ws4, fs4, hi, hc, hil, w4, n4, z4⟩
  simp only at hi
  subst hi
  have pa4 : pgv K.n ws4 (K.rt 0) a = leafV 1 1 := by rw [z4, if_pos rfl]
  have pp : ppn (leafV 1 1) = 1 := by unfold leafV; rw [ppn_of]; rfl
  refine Br_dec (fun hlt => ?_) fun hge => ?_
  · have hlt : i < l2 := by simp only at hlt; omega
    have hwi : IntKind.wrap .i64 ((i : Int) + 1) = ((i + 1 : Nat) : Int) := by rw [wrap_i64'] <;> omega
    obtain ⟨ad, had, k, f, av, bv, cv, hr, g0, g1, g2, g3, g4⟩ := (acts.kept w4.kp) i hlt
    simp only at had
    simp only [had]
    refine ⟨⟨Int.natCast_nonneg i, Int.ofNat_lt.2 hlt⟩, ?_⟩
    simp only [add_add, Int.toNat_natCast]
    refine Ld_i g0 (Ld_i g1 (Ld_i g2 (Ld_i g3 (Ld_i g4 ?_))))
    refine Nw_intro fun a41 h5 h41 k5 e5 => ?_
    have e5 : IL h5 a41 179 [0, 0, 0, 0, 0] := by
      have : zeroC Try.prog 179 = VI [0, 0, 0, 0, 0] := by kernel_rfl
      rw [this] at e5; exact e5
    simp only [add_mk]
    refine put5 e5 fun h6 u6 e6 => ?_
    have k6 : Kept h4 h6 := u6.kept k5 (by omega)
    have w6 := w4.kept k6
    refine JoinI (fun _ h' => ∃ nt ws fs, WH K h h' nt ws fs ∧ nt 0 = 3 ∧ ∀ u, pgv K.n ws (K.rt 0) u = if u = a then leafV 1 1 else 0) (fun J hJ => ?_) ?_
    · have set : ∀ (h' : H) (x : Int) (ws' fs' : List Int) (vpn y : Int), WH K h h' (setN nt4 1 x) ws' fs' → PgSet K ws4 ws' 1 vpn y → J () h' := fun h' x ws' fs' vpn y w' pg' =>
        hJ () h' ⟨_, ws', fs', w', by show nt4 0 = 3; exact n4, fun u => by rw [pg' 0 u l0, if_neg (by omega)]; exact z4 u⟩
      refine Ld_i (x := k) (by rw [hcell_blk e6]; rfl) (Br_beq_int (fun _ => ?_) fun _ => Br_beq_int (fun _ => ?_) fun _ => Br_beq_int (fun _ => ?_) fun _ => Br_beq_int (fun _ => ?_) fun _ => ?_)
      · refine Ld_i (x := av) (by rw [hcell_blk e6]; rfl) (Ld_i (x := bv) (by rw [hcell_blk e6]; rfl) (Ld_i (x := cv) (by rw [hcell_blk e6]; rfl) ?_))
        exact Q130 w6 l1 (fun h7 _ w7 _ => hJ () h7 ⟨_, _, _, w7, n4, z4⟩) (fun h7 nd ws7 fs7 _ _ _ _ w7 pg7 _ _ => set h7 _ ws7 fs7 _ _ w7 pg7) fun h7 nd ws7 fs7 _ _ _ _ w7 _ pg7 _ => hJ () h7 ⟨_, _, _, w7, n4, fun u => by rw [pg7 0 u l0]; exact z4 u⟩
      · refine Ld_i (x := av) (by rw [hcell_blk e6]; rfl) ?_
        exact Q134 w6 l1 fun h7 nt7 ws7 fs7 w7 pg7 _ => set h7 _ ws7 fs7 _ _ w7 pg7
      · refine Ld_i (x := av) (by rw [hcell_blk e6]; rfl) (Ld_i (x := cv) (by rw [hcell_blk e6]; rfl) ?_)
        exact Q137 w6 l1 fun h7 nt7 ws7 fs7 w7 pg7 _ => set h7 _ ws7 fs7 _ _ w7 pg7
      · refine Ld_i (x := av) (by rw [hcell_blk e6]; rfl) (Ld_i (x := cv) (by rw [hcell_blk e6]; rfl) ?_)
        exact Q138 w6 l1 fun h7 nt7 ws7 fs7 w7 pg7 _ => set h7 _ ws7 fs7 _ _ w7 pg7
      · exact hJ () h6 ⟨_, _, _, w6, n4, z4⟩
    rintro _ h7 ⟨nt7, ws7, fs7, w7, n7, z7⟩
    have pa7 : pgv K.n ws7 (K.rt 0) a = leafV 1 1 := by rw [z7, if_pos rfl]
    refine Q131 w7 l0 fun h8 w8 k8 => ?_
    rw [pa7, pp, decide_eq_true lne]
    refine Q25 fun a72 h9 k9 h72 e9 => ?_
    have w9 := w8.kept k9
    simp only [Bool.not_true, Br_false, add_mk]
    refine Ld_i (x := 1) (by rw [hcell_blk e9]; rfl) ?_
    simp only [bne_self_eq_false, Br_false]
    refine Q132 w9 l0 ?_
    rw [n7]
    simp only [bne_self_eq_false, Br_false]
    exact ⟨l2 - (i + 1), by omega, i + 1, nt7, ws7, fs7, hwi, rfl, by omega, w9, n7, z7⟩
  · refine JoinI (fun _ h' => WH K h h' nt4 ws4 fs4) (fun J hJ => ?_) ?_
    · refine Br_bne_int (fun hab => ?_) fun _ => hJ () h4 w4
      refine Q131 w4 l0 fun h5 w5 k5 => ?_
      rw [z4 b, if_neg (fun x => hab x.symm)]
      refine Q25 fun a72 h9 k9 h72 e9 => ?_
      simp only [ne_eq, not_true_eq_false, decide_false, Br_false]
      exact hJ () h9 (w5.kept k9)
    rintro _ h5 w5
    refine Q139 w5 l1 fun h6 nt6 ws6 fs6 w6 o6 pg6 _ _ => ?_
    have l06 : (K.del 1).L 0 = true := l0
    have L6 : ∀ s, (K.del 1).L s = true ↔ s = 0 := fun s => by
      show delL K.L 1 s = true ↔ _
      unfold delL
      by_cases e : s = 1
      · rw [if_pos e]; simp [e]
      · rw [if_neg e, hL]; simp [e]
    have p6 : pgv (K.del 1).n ws6 ((K.del 1).rt 0) a = leafV 1 1 := (pg6 0 a l0 (by omega)).trans pa4
    refine Q131 (K := K.del 1) w6 l06 fun h7 w7 k7 => ?_
    rw [p6, pp, decide_eq_true lne]
    refine Q25 fun a72 h9 k9 h72 e9 => ?_
    have w9 := w7.kept k9
    simp only [Br_true, add_mk]
    refine Ld_i (x := 1) (by rw [hcell_blk e9]; rfl) ?_
    simp only [beq_self_eq_true, Br_true]
    refine Q100 (K := K.del 1) w9 fun h10 w10 k10 => ?_
    have c10 : cnt fs6 1 (K.del 1).n = nt6 0 := (w10.wd.one L6).1
    rw [o6 0 (by omega), n4] at c10
    rw [c10]
    simp only [beq_self_eq_true, Br_true]
    exact liv h10 w10.kp
end Go.Proofs.Ytfijchofplkcoaa
