/-
  PmapLeast.
-/
import Derived.Test.YtfijchofplkcoaaKj
import Derived.Test.YtfijchofplkcoaaJd
set_option linter.unusedVariables false
set_option linter.unusedSimpArgs false
set_option maxRecDepth 100000
namespace Go.Proofs.Ytfijchofplkcoaa

theorem zero3i : zeroC Try.prog 3 = VK .i64 [0] := by kernel_rfl
theorem zeros3i (n : Nat) : zerosC Try.prog 3 n = VK .i64 (List.replicate (1 * n) 0) := zeros_of (kd := .i64) zero3i n
section
variable {h : H} {s : Sl} {xs : List Int} {ex : List Nat} {lo : Nat}
theorem GS.one_len (g : GS .i64 h 3 1 s xs ex lo) : s.len = xs.length := by have := g.1; omega
theorem AppO {x : Int} {K : Sl → H → Prop} (g : GS .i64 h 3 1 s xs [] lo) (hl : xs.length ≤ 100000) (hlo : lo ≤ h.size)
    (q : ∀ s' h', GS .i64 h' 3 1 s' (xs ++ [x]) [] lo → KX h [] lo h' → K s' h') : Nw h #[(.int .i64 x)] 3 fun a10 h11 => App Try.prog ⟨none, 3, 1, 8⟩ h11 s ⟨(some a10), 1, 1⟩ K := by
  refine Nw_intro fun a h1 ha k1 e1 => ?_
  have e1 : IK .i64 h1 a 3 [x] := e1
  have hk := k1.1
  have hsl := g.one_len
  refine AppG (kd := .i64) zeros3i (g.kept k1) (x := ⟨some ⟨a, 0, none⟩, 1, 1⟩) (ys := [x]) (RdSl.one e1) (by simp only; omega) (by simp) (by omega) fun s' h6 hs' G6 x6 => ?_
  exact q s' h6 G6 (k1.kx.trans x6)
/-- Numbers with one more, each once. -/
theorem P133 {x : Int} {Q : Sl → H → Prop} (g : GS .i64 h 3 1 s xs ex lo) (hl : xs.length ≤ 1000)
    (q : ∀ s' ys h', Kept h h' → GS .i64 h' 3 1 s' ys [] h.size → ys.Perm (x :: xs.filter (· != x)) → Q s' h') : F133 s x Q h := by
  rw [F133_eq]
  unfold B133
  have hsl := g.one_len
  refine Loop_intro (σ := Sl × Bool × Int × Unit) (x := (⟨none, 0, 0⟩, false, 0, ())) (fun c z h' => ∃ (i : Nat) (ys : List Int), z.2.2.1 = (i : Int) ∧ c = xs.length - i ∧ i ≤ xs.length ∧ Kept h h' ∧ GS .i64 h' 3 1 z.1 ys [] h.size ∧
    ys.Perm ((if z.2.1 = true then [x] else []) ++ (xs.take i).filter (· != x))) xs.length ⟨0, [], rfl, rfl, by omega, Kept.refl h, GS.nil, by simp⟩ ?_
  rintro c ⟨zs, zd, zz, u⟩ h2 ⟨i, ys, hi, hc, hin, k2, g2, pm⟩
  simp only at hi pm g2
  subst hi
  have ylen : ys.length ≤ i + 1 := by
    rw [pm.length_eq, List.length_append]
    have h1 := List.length_filter_le (· != x) (xs.take i)
    rw [List.length_take] at h1
    have : (if zd = true then [x] else []).length ≤ 1 := by cases zd <;> simp
    omega
  have hk2 := k2.1
  refine Br_dec (fun hlt => ?_) fun hge => ?_
  · have hlt : i < xs.length := by rw [hsl] at hlt; simp only at hlt; omega
    obtain ⟨b, hb, hcell⟩ := (g.kept k2).idx (i := i) (d := 0) (by omega) (by omega)
    have hat : s.a = some ⟨b, 0, none⟩ := hb
    rw [hat]
    refine ⟨⟨by simp only; omega, by simp only; omega⟩, ?_⟩
    simp only [add_mk, Int.toNat_natCast]
    refine Ld_i (x := xs.getD (1 * i + 0) 0) (by rw [← hcell]) ?_
    rw [show 1 * i + 0 = i by omega]
    simp only [LetI]
    generalize hy : xs.getD i 0 = y
    have tk : xs.take (i + 1) = xs.take i ++ [y] := by
      rw [List.take_succ_eq_append_getElem hlt, ← hy]
      simp [List.getD_eq_getElem?_getD, hlt]
    refine JoinI (fun z h' => ∃ zs : List Int, Kept h h' ∧ GS .i64 h' 3 1 z.1 zs [] h.size ∧ zs.Perm ((if z.2.1 = true then [x] else []) ++ (xs.take i).filter (· != x)) ∧ zs.length ≤ i + 1) (fun J hJ => ?_) ?_
    · refine Br_dec (fun hge => ?_) fun _ => hJ _ h2 ⟨ys, k2, g2, pm, ylen⟩
      cases zd
      · simp only [Bool.not_false, Br_true]
        refine AppO g2 (by omega) hk2 fun s' h3 g3 x3 => hJ _ h3 ⟨_, x3.kept k2 (Nat.le_refl _), g3, ?_, ?_⟩
        · simp only [if_pos]
          simp only [Bool.false_eq_true, if_false, List.nil_append] at pm
          exact (List.perm_append_comm (l₁ := ys) (l₂ := [x])).trans (List.Perm.append_left _ pm)
        · rw [List.length_append]
          simp only [Bool.false_eq_true, if_false, List.nil_append] at pm
          have h1 := List.length_filter_le (· != x) (xs.take i)
          rw [← pm.length_eq, List.length_take] at h1
          simp; omega
      · simp only [Bool.not_true, Br_false]
        exact hJ _ h2 ⟨ys, k2, g2, pm, ylen⟩
    · rintro ⟨ys1, d1, u1⟩ h3 ⟨zs, k3, g3, pm3, zl⟩
      simp only at pm3 g3
      have hk3 := k3.1
      have hw : IntKind.wrap .i64 ((i : Int) + 1) = ((i + 1 : Nat) : Int) := by rw [wrap_i64'] <;> omega
      refine Br_bne_int (fun hne => ?_) fun he => ?_
      · refine AppO g3 (by omega) hk3 fun s' h4 g4 x4 => ?_
        refine ⟨xs.length - (i + 1), by omega, i + 1, _, hw, rfl, by omega, x4.kept k3 (Nat.le_refl _), g4, ?_⟩
        simp only
        rw [tk, List.filter_append, ← List.append_assoc]
        refine List.Perm.append pm3 ?_
        rw [List.filter_cons_of_pos (by simp; exact hne)]
        simp
      · refine ⟨xs.length - (i + 1), by omega, i + 1, zs, hw, rfl, by omega, k3, g3, ?_⟩
        simp only
        rw [tk, List.filter_append, List.filter_cons_of_neg (by simp; exact he)]
        simpa using pm3
  · have : i = xs.length := by rw [hsl] at hge; simp only at hge; omega
    subst this
    rw [List.take_of_length_le (Nat.le_refl _)] at pm
    cases zd
    · simp only [Bool.not_false, Br_true]
      refine AppO g2 (by omega) hk2 fun s' h3 g3 x3 => q s' _ h3 (x3.kept k2 (Nat.le_refl _)) g3 ?_
      simp only [Bool.false_eq_true, if_false, List.nil_append] at pm
      exact (List.perm_append_comm (l₁ := ys) (l₂ := [x])).trans (List.Perm.append_left _ pm)
    · simp only [Bool.not_true, Br_false]
      exact q _ ys h2 k2 g2 (by simpa using pm)
end
/-- A list of just these, each once. -/
structure SetOf (l : List Int) (P : Int → Prop) : Prop where
  nd : l.Nodup
  mem : ∀ y, y ∈ l ↔ P y
theorem SetOf.put {l l' : List Int} {P : Int → Prop} {x : Int} (s : SetOf l P) (pm : l'.Perm (x :: l.filter (· != x))) :
    SetOf l' (fun y => y = x ∨ P y) ∧ (P x → l'.length = l.length) ∧ (¬ P x → l'.length = l.length + 1) := by
  refine ⟨⟨?_, fun y => ?_⟩, fun hp => ?_, fun hp => ?_⟩
  · rw [pm.nodup_iff, List.nodup_cons]
    exact ⟨by simp, s.nd.filter _⟩
  · rw [pm.mem_iff, List.mem_cons, List.mem_filter, s.mem]
    by_cases e : y = x
    · simp [e]
    · simp [e]
  · rw [pm.length_eq, List.length_cons]
    have hm := (s.mem x).2 hp
    have : (l.filter (· != x)) = l.erase x := (s.nd.erase_eq_filter x).symm
    rw [this, List.length_erase_of_mem hm]
    have := List.length_pos_of_mem hm
    omega
  · rw [pm.length_eq, List.length_cons]
    have hm : x ∉ l := fun h => hp ((s.mem x).1 h)
    rw [List.filter_eq_self.2 fun a ha => by simp; intro e; exact hm (e ▸ ha)]
theorem GS.wide {h : H} {s : Sl} {xs : List Int} {ex : List Nat} {lo : Nat} (g : GS .i64 h 3 1 s xs [] lo) (he : ∀ b ∈ ex, b < lo) : GS .i64 h 3 1 s xs ex 0 := by
  refine ⟨g.1, ?_⟩
  rcases g.2 with g | ⟨b, zs, h1, h2, h3, h4, h5⟩
  · exact .inl g
  · exact .inr ⟨b, zs, h1, by omega, fun hm => by have := he b hm; omega, h4, h5⟩
theorem SetOf.congr {l : List Int} {P P' : Int → Prop} (s : SetOf l P) (h : ∀ y, P y ↔ P' y) : SetOf l P' := ⟨s.nd, fun y => (s.mem y).trans (h y)⟩
/-- Where the first loop of PmapLeast stands. -/
structure LeastI (K : WK) (h0 h : H) (ps : List Int) (i : Nat) (st sm : Sl) : Prop where
  ex : ∃ (nt : Nat → Int) (ws fs tl ml : List Int), WH K h0 h nt ws fs ∧ GS .i64 h 3 1 st tl (L3b K.bf K.pf (K.bx 0)) 0 ∧ GS .i64 h 3 1 sm ml (L3b K.bf K.pf (K.bx 0)) 0 ∧
    SetOf tl (fun y => ∃ u, pgv K.n ws (K.rt 0) u ≠ 0 ∧ u / 262144 = y) ∧ SetOf ml (fun y => ∃ u, pgv K.n ws (K.rt 0) u ≠ 0 ∧ u / 512 = y) ∧
    nt 0 = 1 + tl.length + ml.length ∧ tl.length ≤ i ∧ ml.length ≤ i ∧ (∀ u, pgv K.n ws (K.rt 0) u ≠ 0 → ∃ j, j < i ∧ u = ps.getD j 0 % 67108864)
theorem ixT {u v : Int} (hu : 0 ≤ u ∧ u < 134217728) (hv : 0 ≤ v ∧ v < 134217728) : ix2 u = ix2 v ↔ u / 262144 = v / 262144 := by unfold ix2; omega
theorem ixM {u v : Int} (hu : 0 ≤ u ∧ u < 134217728) (hv : 0 ≤ v ∧ v < 134217728) : ix2 u = ix2 v ∧ ix1 u = ix1 v ↔ u / 512 = v / 512 := by unfold ix2 ix1; omega
theorem L34 {a0 : Option Addr} {l0 c0 : Nat} {Q : Bool → H → Prop} {h : H} (o0 : Opn h (.slice (.int .u64)) [.slice a0 l0 c0])
    (q : ∀ h', Kept h h' → Q true h') : F34 ⟨a0, l0, c0⟩ Q h := by
  obtain ⟨ps, P⟩ := SU.of o0
  have liv : ∀ h', Kept h h' → F129 (fun r6 h7 => Q r6 h7) h' := fun h' k => C129 fun h9 k9 => q h9 (k.trans k9)
  rw [F34_eq]
  unfold B34
  refine Br_dec (fun _ => liv h (Kept.refl h)) fun hl => ?_
  have hl0 : l0 ≤ 25 := by simp at hl; omega
  have plen : ps.length = l0 := P.1
  refine QN (n := 128) (h0 := h) (Kept.refl h) (by omega) (by omega) 1 fun K h2 ws fs hn one w z => ?_
  simp only [LetI, bne_self_eq_false, Br_false]
  refine Loop_intro (σ := Sl × Sl × Int × Unit) (x := (⟨none, 0, 0⟩, ⟨none, 0, 0⟩, 0, ())) (fun c z h' => ∃ i : Nat, z.2.2.1 = (i : Int) ∧ c = l0 - i ∧ i ≤ l0 ∧ LeastI K h h' ps i z.1 z.2.1) l0
    ⟨0, rfl, rfl, by omega, ⟨_, ws, fs, [], [], w, GS.nil, GS.nil, ⟨List.nodup_nil, fun y => ⟨fun h => absurd h (by simp), fun ⟨u, hu, _⟩ => absurd (z u) hu⟩⟩, ⟨List.nodup_nil, fun y => ⟨fun h => absurd h (by simp), fun ⟨u, hu, _⟩ => absurd (z u) hu⟩⟩, by rw [setN_at]; rfl, by simp, by simp, fun u hu => absurd (z u) hu⟩⟩ ?_
  rintro c ⟨st, sm, zz, u⟩ h3 ⟨i, hi, hc, hin, ⟨nt, ws3, fs3, tl, ml, w3, gt, gm, ST, SM, hnt, htl, hml, hpg⟩⟩
  simp only at hi gt gm
  subst hi
  clear z
  refine Br_dec (fun hlt => ?_) fun hge => ?_
  · have hlt : i < l0 := by simp only at hlt; omega
    have hdec : l0 - (i + 1) < c := by omega
    have hwi : IntKind.wrap .i64 ((i : Int) + 1) = ((i + 1 : Nat) : Int) := by rw [wrap_i64'] <;> omega
    have hle1 : i + 1 ≤ l0 := hlt
    obtain ⟨ad, had, hcell⟩ := (P.kept w3.kp).idx (i := i) (by simpa using hlt)
    have had : a0 = some ad := had
    subst had
    refine ⟨⟨Int.natCast_nonneg i, Int.ofNat_lt.2 hlt⟩, ?_⟩
    simp only [add_add, Int.toNat_natCast, Nat.mul_one, Nat.add_zero]
    have hx : 0 ≤ ps.getD i 0 ∧ ps.getD i 0 < 18446744073709551616 := P.2.2 _ (by rw [List.getD_eq_getElem?_getD, List.getElem?_eq_getElem (by omega)]; exact List.getElem_mem _)
    refine Ld_i (x := ps.getD i 0) hcell ?_
    generalize hpx : ps.getD i 0 = x at *
    have ev : IntKind.wrap .i64 (Int.tmod x 67108864) = x % 67108864 := by rw [Int.tmod_eq_emod_of_nonneg hx.1, wrap_i64'] <;> omega
    rw [ev]
    obtain ⟨v, hv⟩ : ∃ v, v = x % 67108864 := ⟨_, rfl⟩
    rw [← hv]
    have hv0 : 0 ≤ v ∧ v < 67108864 := by omega
    have hv1 : 0 ≤ v ∧ v < 134217728 := by omega
    obtain ⟨i2, i1, i0⟩ := ix_lt v
    have cn := w3.wd.one one.l1
    rw [hn] at cn
    refine ⟨by omega, Q130 w3 one.l0 (fun h4 hb _ _ => absurd hb (okE (by omega) (by omega) (by rw [hn]; omega))) (fun h4 nd ws4 fs4 _ hnd hN hc4 w4 pg4 _ k4 => ?_) fun h4 nd ws4 fs4 _ hnd hN hc4 w4 _ pg4 _ => by rw [hn, cn.2] at hc4; omega⟩
    simp only [bne_self_eq_false, Br_false]
    have lex : ∀ b ∈ L3b K.bf K.pf (K.bx 0), b < h4.size := by
      intro b hb
      have := (w4.w1 one.l0).lt
      simp only [L3b, List.mem_cons, List.not_mem_nil, or_false] at hb
      omega
    have gt4 := gt.kl k4 (fun b hb => hb)
    have gm4 := gm.kl k4 (fun b hb => hb)
    have t1 : IntKind.wrap .i64 (Int.tdiv v 262144) = v / 262144 := by rw [Int.tdiv_eq_ediv_of_nonneg hv0.1, wrap_i64'] <;> omega
    have t2 : IntKind.wrap .i64 (Int.tdiv v 512) = v / 512 := by rw [Int.tdiv_eq_ediv_of_nonneg hv0.1, wrap_i64'] <;> omega
    rw [t1, t2]
    refine ⟨by omega, P133 gt4 (by omega) fun s5 tl5 h5 k5 g5 p5 => ⟨by omega, P133 (gm4.kept k5) (by omega) fun s6 ml6 h6 k6 g6 p6 => ?_⟩⟩
    have hk5 := k5.1
    have hk6 := k6.1
    have w6 := (w4.kept k5).kept k6
    obtain ⟨ST5, a1, a2⟩ := ST.put p5
    obtain ⟨SM6, b1, b2⟩ := SM.put p6
    have hT : (∃ u, pgv K.n ws3 (K.rt 0) u ≠ 0 ∧ u / 262144 = v / 262144) ↔ hasT (pgW K.n ws3 (K.rt 0)) (ix2 v) := by
      rw [hasT_iff i2]
      constructor
      · rintro ⟨u, hu, e⟩; exact ⟨u, hu, (ixT (pgv_ne hu) hv1).2 e⟩
      · rintro ⟨u, hu, e⟩; exact ⟨u, hu, (ixT (pgv_ne hu) hv1).1 e⟩
    have hM : (∃ u, pgv K.n ws3 (K.rt 0) u ≠ 0 ∧ u / 512 = v / 512) ↔ hasM (pgW K.n ws3 (K.rt 0)) (ix2 v) (ix1 v) := by
      rw [hasM_iff i2 i1]
      constructor
      · rintro ⟨u, hu, e⟩; exact ⟨u, hu, (ixM (pgv_ne hu) hv1).2 e⟩
      · rintro ⟨u, hu, e⟩; exact ⟨u, hu, (ixM (pgv_ne hu) hv1).1 e⟩
    have lens : (tl5.length : Int) + ml6.length = tl.length + ml.length + nd ∧ tl5.length ≤ i + 1 ∧ ml6.length ≤ i + 1 := by
      rcases hN with ⟨n1, n2⟩ | ⟨n1, n2, n3⟩ | ⟨n1, n2⟩
      · have := a2 (fun h => n1 (hT.1 h))
        have := b2 (fun h => n1 (hasM_T i1 (hM.1 h)))
        omega
      · have := a1 (hT.2 n1)
        have := b2 (fun h => n2 (hM.1 h))
        omega
      · have := a1 (hT.2 (hasM_T i1 n1))
        have := b1 (hM.2 n1)
        omega
    have pg' : ∀ u, pgv K.n ws4 (K.rt 0) u = if u = v then leafV 1 1 else pgv K.n ws3 (K.rt 0) u := by
      intro u
      rw [pg4 0 u one.l0]
      by_cases e : u = v
      · rw [if_pos ⟨rfl, e⟩, if_pos e]
      · rw [if_neg (fun x => e x.2), if_neg e]
    have lne : leafV 1 1 ≠ 0 := leafV_ne (by omega) _
    have fin : ∀ h7, Kept h6 h7 → LeastI K h h7 ps (i + 1) s5 s6 := fun h7 k7 => by
      refine ⟨_, ws4, fs4, tl5, ml6, w6.kept k7, ((g5.kept k6).kept k7).wide lex, (g6.kept k7).wide (fun b hb => by have := lex b hb; omega), ST5.congr fun y => ?_, SM6.congr fun y => ?_, by rw [setN_at]; omega, lens.2.1, lens.2.2, fun u hu => ?_⟩
      · constructor
        · rintro (rfl | ⟨u, hu, e⟩)
          · exact ⟨v, by rw [pg', if_pos rfl]; exact lne, rfl⟩
          · refine ⟨u, ?_, e⟩
            rw [pg']; split
            · exact lne
            · exact hu
        · rintro ⟨u, hu, e⟩
          rw [pg'] at hu
          by_cases ee : u = v
          · subst ee; exact .inl e.symm
          · rw [if_neg ee] at hu; exact .inr ⟨u, hu, e⟩
      · constructor
        · rintro (rfl | ⟨u, hu, e⟩)
          · exact ⟨v, by rw [pg', if_pos rfl]; exact lne, rfl⟩
          · refine ⟨u, ?_, e⟩
            rw [pg']; split
            · exact lne
            · exact hu
        · rintro ⟨u, hu, e⟩
          rw [pg'] at hu
          by_cases ee : u = v
          · subst ee; exact .inl e.symm
          · rw [if_neg ee] at hu; exact .inr ⟨u, hu, e⟩
      · rw [pg'] at hu
        by_cases ee : u = v
        · exact ⟨i, by omega, by rw [ee, hv, hpx]⟩
        · rw [if_neg ee] at hu
          obtain ⟨j, hj, e⟩ := hpg u hu
          exact ⟨j, by omega, e⟩
    have e5 := g5.one_len
    have e6 := g6.one_len
    have cn6 := w6.wd.one one.l1
    rw [setN_at] at cn6
    refine Q132 w6 one.l0 ?_
    rw [setN_at]
    have hadd : IntKind.wrap .i64 (IntKind.wrap .i64 (1 + (s5.len : Int)) + (s6.len : Int)) = nt 0 + nd := by
      rw [wrap_i64' (1 + (s5.len : Int)) (by omega) (by omega), wrap_i64'] <;> omega
    rw [hadd]
    simp only [bne_self_eq_false, Br_false]
    refine Q100 w6 fun h7 w7 k7 => Q132 w7 one.l0 ?_
    rw [setN_at, cn6.1]
    simp only [bne_self_eq_false, Br_false]
    exact ⟨l0 - (i + 1), hdec, i + 1, hwi, rfl, hle1, fin h7 k7⟩
  · have hil : i = l0 := by simp only at hge; omega
    subst hil
    refine Loop_intro (σ := Int × Unit) (x := (0, ())) (fun c z h' => ∃ (k : Nat) (nt : Nat → Int) (ws fs : List Int), z.1 = (k : Int) ∧ c = i - k ∧ k ≤ i ∧ WH K h h' nt ws fs ∧ (∀ u, pgv K.n ws (K.rt 0) u ≠ 0 → ∃ j, k ≤ j ∧ j < i ∧ u = ps.getD j 0 % 67108864)) i
      ⟨0, _, _, _, rfl, rfl, by omega, w3, fun u hu => by obtain ⟨j, hj, e⟩ := hpg u hu; exact ⟨j, by omega, hj, e⟩⟩ ?_
    rintro c2 ⟨zz, u2⟩ h4 ⟨k, nt4, ws4, fs4, hk, hc4, hki, w4, pg4⟩
    simp only at hk
    subst hk
    refine Br_dec (fun hlt => ?_) fun hge2 => ?_
    · have hlt : k < i := by simp only at hlt; omega
      have hwi : IntKind.wrap .i64 ((k : Int) + 1) = ((k + 1 : Nat) : Int) := by rw [wrap_i64'] <;> omega
      obtain ⟨ad, had, hcell⟩ := (P.kept w4.kp).idx (i := k) (by simpa using hlt)
      have had : a0 = some ad := had
      subst had
      refine ⟨⟨Int.natCast_nonneg k, Int.ofNat_lt.2 hlt⟩, ?_⟩
      simp only [add_add, Int.toNat_natCast, Nat.mul_one, Nat.add_zero]
      have hx : 0 ≤ ps.getD k 0 ∧ ps.getD k 0 < 18446744073709551616 := P.2.2 _ (by rw [List.getD_eq_getElem?_getD, List.getElem?_eq_getElem (by omega)]; exact List.getElem_mem _)
      refine Ld_i (x := ps.getD k 0) hcell ⟨by omega, ?_⟩
      have ev : IntKind.wrap .i64 (Int.tmod (ps.getD k 0) 67108864) = ps.getD k 0 % 67108864 := by rw [Int.tmod_eq_emod_of_nonneg hx.1, wrap_i64'] <;> omega
      rw [ev]
      refine Q134 w4 one.l0 fun h5 nt5 ws5 fs5 w5 pg5 _ => ?_
      refine ⟨i - (k + 1), by omega, k + 1, _, ws5, fs5, hwi, rfl, by omega, w5, fun u hu => ?_⟩
      rw [pg5 0 u one.l0] at hu
      by_cases e : u = ps.getD k 0 % 67108864
      · rw [if_pos ⟨rfl, e⟩] at hu; exact absurd rfl hu
      · rw [if_neg (fun x => e x.2)] at hu
        obtain ⟨j, h1, h2, h3⟩ := pg4 u hu
        exact ⟨j, by
          by_cases ej : j = k
          · subst ej; exact absurd h3 e
          · omega, h2, h3⟩
    · have : k = i := by simp only at hge2; omega
      subst this
      refine Q132 w4 one.l0 ?_
      rw [w4.wd.bare' one.l0 fun u => by
        apply Classical.byContradiction
        intro hu
        obtain ⟨j, h1, h2, _⟩ := pg4 u hu
        omega]
      simp only [beq_self_eq_true, Br_true]
      exact liv h4 w4.kp
end Go.Proofs.Ytfijchofplkcoaa
