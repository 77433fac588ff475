/-
  The law PhysActs over the heap predicates.
-/
import Derived.Test.YtfijchofplkcoaaDh
set_option linter.unusedVariables false
set_option linter.unusedSimpArgs false
set_option maxRecDepth 100000
namespace Go.Proofs.Ytfijchofplkcoaa

structure S18 (h0 : H) (bm bf rm rt n : Nat) (cs : List Nat) (h' : H) : Prop where
  kept : Kept h0 h'
  both : ∃ xs, Mem h' bm bf n xs ∧ RMem h' rm rt cs n xs
theorem S18.k {h0 h h' : H} {bm bf rm rt n : Nat} {cs : List Nat} (s : S18 h0 bm bf rm rt n cs h) (k : Kept h h') : S18 h0 bm bf rm rt n cs h' := by
  obtain ⟨k0, xs, m, r⟩ := s
  exact ⟨k0.trans k, xs, m.kept k, r.kept k⟩
theorem L18 {n0 at0 at1 : Int} {a1 : Option Addr} {l1 c1 : Nat} {Q : Bool → H → Prop} {h : H} (o1 : Opn h (.slice DA) [.slice a1 l1 c1])
    (q : ∀ h', Kept h h' → Q true h') : F18 n0 ⟨a1, l1, c1⟩ at0 at1 Q h := by
  have acts := ActsB.of o1
  have liv : ∀ h', Kept h h' → F62 (fun r6 h7 => Q r6 h7) h' := fun h' k => C62 fun h9 k9 => q h9 (k.trans k9)
  rw [F18_eq]
  unfold B18
  refine Nw_intro fun wa h1 hwa k1 e1 => Y80 (acts.kept k1) fun lr h2 hlr k2 => ?_
  have K2 := k1.trans k2
  have e2 := k2.blk e1
  cases lr
  · exact liv h2 K2
  have hl60 : l1 ≤ 60 := hlr rfl
  simp only [Bool.not_true, Br_false]
  by_cases hv : 1 ≤ n0 ∧ n0 ≤ 256
  rotate_left
  · exact N61 hv (N88 hv (liv h2 K2))
  obtain ⟨n, rfl⟩ : ∃ n : Nat, n0 = (n : Int) := Int.eq_ofNat_of_zero_le (show 0 ≤ n0 by omega)
  refine C61 (n := n) (by omega) (by omega) fun bm bf h3 k3 hbm hbf m3 => C88 (by omega) (by omega) fun rm rt cs h4 k4 hrm hrt hcs r4 => ?_
  have K4 := (K2.trans k3).trans k4
  have hk2 := K2.1
  have hk3 := k3.1
  have hk1 := k1.1
  simp only [Option.isNone_some, beq_self_eq_true, Bool.not_true, Br_false]
  have q1 := (Array.getElem?_eq_some_iff.1 m3.top).1
  have q2 := (Array.getElem?_eq_some_iff.1 (show h3[bf]? = some _ from m3.row)).1
  have hwa1 := (Array.getElem?_eq_some_iff.1 e1).1
  have hs21 := k2.1
  have dj : ∀ c ∈ cs, c ≠ bm ∧ c ≠ bf := fun c hc => by have := hcs c hc; omega
  have e4 := k4.blk (k3.blk e2)
  refine Loop_intro (σ := Int × Unit) (x := (0, ())) (fun c z h' => ∃ i : Nat, z.1 = (i : Int) ∧ c = l1 - i ∧ i ≤ l1 ∧ S18 h1 bm bf rm rt n cs h') l1
    ⟨0, rfl, rfl, by omega, (k2.trans k3).trans k4, _, m3.kept k4, r4⟩ ?_
  rintro d ⟨ii, u⟩ h5 ⟨i, hi, hd, hil, S5⟩
  simp only at hi
  subst hi
  obtain ⟨K5, xs, m5, r5⟩ := S5
  have e5 := K5.blk e1
  refine Br_dec (fun hlt => ?_) fun _ => ?_
  · have hlt : i < l1 := by simpa using hlt
    obtain ⟨ad, had, k, a, b, v, t, bs, hvv, sb, g0, g1, g2, g3, g4⟩ := (acts.kept k1).kept K5 i hlt
    simp only at had
    simp only [had]
    refine ⟨⟨by omega, by omega⟩, ?_⟩
    simp only [add_add, Int.toNat_natCast]
    refine Ld_i g0 (Ld_i g1 (Ld_i g2 (Ld_i g3 (Ld_s g4 (Nw_intro fun w h6 hw k6 e6 => ?_)))))
    rw [zero77] at e6
    simp only [add_mk]
    refine putA e6 fun h7 u7 e7 => ?_
    have k57 : Kept h5 h7 := u7.kept k6 (by omega)
    have hk57 := k57.1
    have hK5 := K5.1
    have m7 := m5.kept k57
    have r7 := r5.kept k57
    have lt7 := r5.lt
    have q1' := (Array.getElem?_eq_some_iff.1 m5.top).1
    have q2' := (Array.getElem?_eq_some_iff.1 (show h5[bf]? = some _ from m5.row)).1
    refine Ld_i (x := k) (by rw [hcell_blk e7]; rfl) (Ld_i (x := a) (by rw [hcell_blk e7]; rfl) (Ld_i (x := b) (by rw [hcell_blk e7]; rfl) (Ld_i (x := v) (by rw [hcell_blk e7]; rfl) (Ld_s (x := t) (by rw [hcell_blk e7]; rfl) ?_))))
    refine Ld_i (x := k) (by rw [hcell_blk e7]; rfl) (Ld_i (x := a) (by rw [hcell_blk e7]; rfl) (Ld_i (x := b) (by rw [hcell_blk e7]; rfl) (Ld_i (x := v) (by rw [hcell_blk e7]; rfl) (Ld_s (x := t) (by rw [hcell_blk e7]; rfl) ?_))))
    refine X81 m7 (sb.kept k57) hvv fun r ys h8 hp u8 m8 => ?_
    have e8 := u8.blk e7 (show w ≠ bf by omega)
    have hu8 := u8.1
    refine ⟨⟨by rw [hcell_blk e8]; rfl, by rw [hcell_blk e8]; rfl, by rw [hcell_blk e8]; rfl, by rw [hcell_blk e8]; rfl, by rw [hcell_blk e8]; rfl, trivial⟩, ?_⟩
    have r8 : RMem h8 rm rt cs n xs := r7.kl (L := [bf]) (u8.kl (by simp)) (by simp; omega) (by simp; omega) (fun c hc => by simp; exact (dj c hc).2)
    have K18 : Kept h1 h8 := u8.kept (K5.trans k57) (by omega)
    have sb1 : SB h5 t bs := sb
    obtain ⟨ad', had', k', a', b', v', t', bs', hvv', sb', g0', g1', g2', g3', g4'⟩ := (acts.kept k1) i hlt
    have sbk : ∀ h', KL h8 cs h' → SB h' t bs := by
      intro h' kk
      have K' : Kept h1 h' := kk.kept K18 fun c hc => by have := hcs c hc; omega
      simp only at had'
      rw [had] at had'
      simp only [Option.some.injEq] at had'
      subst had'
      have e := K5.cell g4'
      rw [g4] at e
      simp only [Option.some.injEq, Value.slice.injEq] at e
      obtain ⟨ea, el, ec⟩ := e
      have et : t = t' := by cases t; cases t'; simp_all
      subst et
      have ebs : bs = bs' := by
        have h1 := sb1.2.1
        have h2 := (sb'.kept K5).2.1
        have hl1 := sb1.1
        have hl2 := sb'.1
        apply List.ext_getElem (by omega)
        intro j j1 j2
        obtain ⟨x, hx1, hx2⟩ := h1 j (.int .u8 bs[j]) (by simp [j1])
        obtain ⟨y, hy1, hy2⟩ := h2 j (.int .u8 bs'[j]) (by simp [j2])
        rw [hx1] at hy1
        simp only [Option.some.injEq] at hy1
        subst hy1
        rw [hx2] at hy2
        simpa using hy2
      subst ebs
      exact sb'.kept K'
    refine Z89 r8 sbk hvv fun r' ys' h9 hp' u9 r9 => ?_
    rw [hp] at hp'
    simp only [Prod.mk.injEq] at hp'
    obtain ⟨rfl, rfl⟩ := hp'
    have m9 : Mem h9 bm bf n ys := m8.kl u9 (fun hx => absurd rfl (dj bm hx).1) (fun hx => absurd rfl (dj bf hx).2)
    have K19 : Kept h1 h9 := u9.kept K18 fun c hc => by have := hcs c hc; omega
    have e9 := u9.blk e8 (fun hx => by have := lt7.2.2 w hx; omega)
    have ea9 := K19.blk e1
    simp only [beq_self_eq_true, Bool.not_true, Br_false, add_mk, LetI]
    have ca : hcell h9 ⟨wa, 0 + Int.toNat 0 * 1 + 0, none⟩ = some (.int .i64 at0) := by rw [hcell_blk ea9]; rfl
    have cb : hcell h9 ⟨wa, 0 + Int.toNat 1 * 1 + 0, none⟩ = some (.int .i64 at1) := by rw [hcell_blk ea9]; rfl
    refine ⟨⟨by omega, by omega⟩, Ld_i ca ⟨⟨by omega, by omega⟩, Ld_i cb (X84 m9 ⟨⟨by omega, by omega⟩, Ld_i ca ⟨⟨by omega, by omega⟩, Ld_i cb (Z90 r9 ?_)⟩⟩)⟩⟩
    refine ⟨⟨by omega, by omega⟩, Ld_i ca ⟨⟨by omega, by omega⟩, Ld_i cb (X83 m9 ⟨⟨by omega, by omega⟩, Ld_i ca ⟨⟨by omega, by omega⟩, Ld_i cb (Z91 r9 ?_)⟩⟩)⟩⟩
    simp only [bne_self_eq_false, beq_self_eq_true, Bool.not_true, Br_false]
    have c1 : hcell h9 ⟨w, 0 + 1 + 0, none⟩ = some (.int .i64 a) := by rw [hcell_blk e9]; rfl
    have c2 : hcell h9 ⟨w, 0 + 2 + 0, none⟩ = some (.int .i64 b) := by rw [hcell_blk e9]; rfl
    refine Ld_i c1 (Ld_i c2 ⟨(sameS n ys a b, ()), X86 m9 ⟨rfl, rfl⟩, Ld_i c1 (Ld_i c2 ⟨(sameS n ys a b, ()), Z92 r9 ⟨rfl, rfl⟩, ?_⟩)⟩)
    simp only [beq_self_eq_true, Bool.not_true, Br_false]
    exact ⟨l1 - (i + 1), by omega, i + 1, by rw [wrap_i64' _ (by omega) (by omega)]; omega, rfl, by omega, K19, ys, m9, r9⟩
  · obtain ⟨cap, c0⟩ := r5.c0
    simp only [NilP, add_mk, Nat.add_zero]
    refine Ld_s (x := ⟨some ⟨rt, 0, none⟩, n, cap⟩) c0 ?_
    refine Loop_intro (σ := Int × Unit) (x := (0, ())) (fun c z h' => ∃ j : Nat, z.1 = (j : Int) ∧ c = n - j ∧ j ≤ n ∧ Kept h5 h') n ⟨0, rfl, rfl, by omega, Kept.refl h5⟩ ?_
    rintro c ⟨jj, u⟩ h6 ⟨j, hj, hc, hjn, k6⟩
    simp only at hj
    subst hj
    have m6 := m5.kept k6
    have r6 := r5.kept k6
    refine Br_dec (fun hlt => ?_) fun _ => ?_
    · have hlt : j < n := by simpa using hlt
      simp only [LetI, NilP, add_mk, Nat.add_zero]
      refine Ld_s (x := ⟨some ⟨rt, 0, none⟩, n, cap⟩) (k6.cell c0) ⟨⟨by omega, by simp; omega⟩, ?_⟩
      simp only [add_mk, Int.toNat_natCast, Nat.mul_one, Nat.add_zero, Nat.zero_add]
      refine Ld_s (x := ⟨some ⟨cs.getD j 0, 0, none⟩, 4096, 4096⟩) (r6.c1 hlt) ?_
      refine C64 m6 (fun j' p pc ps h7 hj' _ k7 hp B7 hps hpl hpb => ?_) fun hh => absurd ⟨by omega, by omega⟩ hh
      obtain rfl : j' = j := by omega
      have r7 := r6.kept k7
      refine ⟨r7.c1 hlt, (k6.trans k7).cell c0, ⟨(true, ()), ?_, ?_⟩⟩
      · have S1 := SB.frame B7 hpl hpb pc
        have S2 : SB h7 ⟨some ⟨cs.getD j' 0, 0, none⟩, 4096, 4096⟩ (frame xs j') := by
          have := SB.row (n := 4096) (c := 4096) (r7.row j' hlt) (by rw [r7.fl hlt]; exact Nat.le_refl _) (fun x hx => r7.byte x (List.mem_of_mem_drop (List.mem_of_mem_take hx)))
          rw [List.take_of_length_le (by rw [r7.fl hlt]; exact Nat.le_refl _)] at this
          exact this
        rw [hps] at S1
        exact C65 S1 S2 ⟨rfl, rfl⟩
      · exact ⟨n - (j' + 1), by omega, j' + 1, by rw [wrap_i64' _ (by omega) (by omega)]; omega, rfl, by omega, k6.trans k7⟩
    · refine ⟨((n : Int), ()), C93 m6 ⟨rfl, rfl⟩, ?_⟩
      refine Ld_s (x := ⟨some ⟨rt, 0, none⟩, n, cap⟩) (k6.cell c0) ?_
      simp only [beq_self_eq_true, Br_true, add_mk]
      have e6 := k6.blk e5
      have ca : ∀ h', Kept h6 h' → hcell h' ⟨wa, 0 + Int.toNat 0 * 1 + 0, none⟩ = some (.int .i64 at0) := fun h' kk => by rw [hcell_blk (kk.blk e6)]; rfl
      refine ⟨⟨by omega, by omega⟩, Ld_i (ca h6 (Kept.refl h6)) ⟨⟨by omega, by omega⟩, Ld_i (ca h6 (Kept.refl h6)) ?_⟩⟩
      have fin : ∀ h', Kept h6 h' → F62 (fun r99 h100 => Q r99 h100) h' := fun h' kk => liv h' (k1.trans ((K5.trans k6).trans kk))
      by_cases hin : 0 ≤ at0 ∧ at0 < (n : Int)
      · refine C64 m6 (fun j' p pc ps h7 hj' _ k7 hp B7 hps hpl hpb => ⟨ca h7 k7, Y94 (r6.kept k7) (fun j2 p2 pc2 ps2 h8 hj2 _ k8 _ _ _ _ _ => ?_) fun hh => absurd hin hh⟩) fun hh => absurd hin hh
        simp only [beq_self_eq_true, Br_true]
        exact fin h8 (k7.trans k8)
      · refine C64 m6 (fun j' p pc ps h7 hj' hjn' k7 hp B7 hps hpl hpb => absurd ⟨by omega, by omega⟩ hin) fun _ => ⟨ca h6 (Kept.refl h6), Y94 r6 (fun j2 p2 pc2 ps2 h8 hj2 hj2n k8 _ _ _ _ _ => absurd ⟨by omega, by omega⟩ hin) fun _ => ?_⟩
        simp only [beq_self_eq_true, Br_true]
        exact fin h6 (Kept.refl h6)
end Go.Proofs.Ytfijchofplkcoaa
