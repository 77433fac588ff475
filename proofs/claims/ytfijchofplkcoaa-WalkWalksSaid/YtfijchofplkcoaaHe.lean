/-
  Spoil; acts that came in; the law SlotsWords over the heap predicates.
-/
import Derived.Test.YtfijchofplkcoaaHd
set_option linter.unusedVariables false
set_option linter.unusedSimpArgs false
set_option maxRecDepth 100000
namespace Go.Proofs.Ytfijchofplkcoaa

/-- All that was there stays but for two blocks. -/
def K2 (h : H) (b c : Nat) (h' : H) : Prop := h.size ≤ h'.size ∧ ∀ i, i < h.size → i ≠ b → i ≠ c → h'[i]? = h[i]?
theorem K2.kept {h0 h h' : H} {b c : Nat} (u : K2 h b c h') (k : Kept h0 h) (hb : h0.size ≤ b) (hc : h0.size ≤ c) : Kept h0 h' :=
  ⟨Nat.le_trans k.1 u.1, fun i hi => (u.2 i (Nat.lt_of_lt_of_le hi k.1) (by omega) (by omega)).trans (k.2 i hi)⟩
theorem K2.refl (h : H) (b c : Nat) : K2 h b c h := ⟨Nat.le_refl _, fun _ _ _ _ => rfl⟩
theorem Upd.k2 {h h' : H} {b : Nat} (u : Upd h b h') (c : Nat) : K2 h b c h' := ⟨Nat.le_of_eq u.1.symm, fun i _ hn _ => u.2 i hn⟩
theorem SlM.setB {h h' : H} {bs bt bb n : Nat} {tw bw bw' : List Nat} (m : SlM h bs bt bb n tw bw) (u : Upd h bb h') (e : WB h' bb bw') (hl : bw'.length = (n + 63) / 64) : SlM h' bs bt bb n tw bw' :=
  ⟨u.blk m.top m.n2, ⟨u.blk m.tak.1 m.n3, m.tak.2⟩, e, m.lt, hl, m.n1, m.n2, m.n3, m.le⟩
/-- No bit of no place; what is bad is not free. -/
def Good2 (n : Nat) (tw bw : List Nat) : Prop := (∀ x, bit tw x = true → x < n) ∧ ∀ x, bit bw x = true → bit tw x = true

section
variable {h : H} {bs bt bb n : Nat} {tw bw : List Nat}
theorem C71 {i : Int} {Q : Bool → H → Prop} (m : SlM h bs bt bb n tw bw)
    (q : ∀ (j : Nat) h' tw' bw', i = (j : Int) → j < n → bit bw j = false → K2 h bt bb h' → SlM h' bs bt bb n tw' bw' → (∀ x, bit tw' x = (bit tw x || decide (x = j))) → (∀ x, bit bw' x = (bit bw x || decide (x = j))) → Q true h')
    (q0 : (∀ j : Nat, i = (j : Int) → j < n → bit bw j = true) → Q false h) : F71 (some ⟨bs, 0, none⟩) i Q h := by
  have hn := m.le
  rw [F71_eq]
  refine C73 m (fun j hj hjn => ?_) fun hh => q0 fun j hj hjn => by omega
  cases hb : bit bw j
  · have go : NilP (some ⟨bs, 0, none⟩) fun a7 => Ld .s h ((a7.add 1).add 0) fun x8 => F157 x8 i (fun h9 => NilP (some ⟨bs, 0, none⟩) fun a10 => Ld .s h9 ((a10.add 2).add 0) fun x11 => F157 x11 i (fun h12 => Q true h12) h9) h := by
      subst hj
      simp only [NilP, add_mk, Nat.add_zero, Nat.zero_add]
      refine Ld_s (x := ⟨some ⟨bt, 0, none⟩, (n + 63) / 64, (n + 63) / 64⟩) m.c1 (C157 m.tak m.lt (by omega) (by omega) fun h4 tw4 u4 e4 l4 b4 => ?_)
      have m4 := m.setT u4 e4 l4
      refine Ld_s (x := ⟨some ⟨bb, 0, none⟩, (n + 63) / 64, (n + 63) / 64⟩) m4.c2 (C157 m4.bad m4.lb (by omega) (by omega) fun h5 bw5 u5 e5 l5 b5 => ?_)
      refine q j h5 tw4 bw5 rfl hjn hb ⟨by rw [u5.1, u4.1]; exact Nat.le_refl _, fun i _ h1 h2 => (u5.2 i h2).trans (u4.2 i h1)⟩ (m4.setB u5 e5 l5) b4 b5
    cases ht : bit tw j
    · exact go
    · exact go
  · exact q0 fun j' hj' _ => (show j = j' by omega) ▸ hb
end

def Acts2 (h : H) (s : Sl) : Prop := ∀ i, i < s.len → ∃ ad, s.a = some ad ∧ ∃ k n : Int, hcell h (ad.add (i * 2 + 0)) = some (.int .i64 k) ∧ hcell h (ad.add (i * 2 + 1)) = some (.int .i64 n)
theorem Acts2.kept {h h' : H} {s : Sl} (e : Acts2 h s) (k : Kept h h') : Acts2 h' s := by
  intro i hi
  obtain ⟨ad, h1, a, b, h2, h3⟩ := e i hi
  exact ⟨ad, h1, a, b, k.cell h2, k.cell h3⟩
theorem Acts2.of {h : H} {a : Option Addr} {l c : Nat} (o : Opn h (.slice (.pair (.int .i64) (.pair (.int .i64) .unit))) [.slice a l c]) : Acts2 h ⟨a, l, c⟩ := by
  rcases o with o | ⟨x, l', c', o, hl, hm, hx⟩
  · simp only [List.cons.injEq, Value.slice.injEq, and_true] at o
    obtain ⟨rfl, rfl, rfl⟩ := o
    intro i hi; exact absurd hi (by simp)
  · simp only [List.cons.injEq, Value.slice.injEq, and_true] at o
    obtain ⟨rfl, rfl, rfl⟩ := o
    intro i hi
    obtain ⟨es, h1, h2, h3⟩ := hx i hi
    obtain ⟨k, n, rfl, _, _⟩ := opn_II h2
    exact ⟨x, rfl, k, n, h3 0 _ rfl, h3 1 _ rfl⟩

theorem hasbit1 (x m : Nat) (hx : x < 2 ^ 64) (hm : m < 64) : (bAnd .u64 (shR .u64 (x : Int) (m : Int)) 1 == 1) = x.testBit m := by
  rw [shR_nat _ _ (by simp [IntKind.bits]; omega)]
  have e1 : ((x : Int) / ((2 ^ m : Nat) : Int)) = ((x / 2 ^ m : Nat) : Int) := by simp
  have hb : x / 2 ^ m < 2 ^ 64 := Nat.lt_of_le_of_lt (Nat.div_le_self _ _) hx
  have e2 : bAnd .u64 ((x / 2 ^ m : Nat) : Int) 1 = ((x / 2 ^ m % 2 : Nat) : Int) := by
    have := bAnd_u64 (x / 2 ^ m) 1 hb (by omega)
    rw [Nat.and_one_is_mod] at this
    exact this
  rw [e1, e2, Nat.testBit_eq_decide_div_mod_eq]
  have : x / 2 ^ m % 2 < 2 := Nat.mod_lt _ (by omega)
  by_cases hh : x / 2 ^ m % 2 = 1
  · rw [decide_eq_true hh, hh]; decide
  · rw [decide_eq_false hh, show x / 2 ^ m % 2 = 0 by omega]; decide
theorem zero55 : zeroC Try.prog 55 = #[.int .i64 0, .int .i64 0] := by kernel_rfl

/-- What the law has behind each act. -/
def S13 (h0 : H) (bs bt bb n : Nat) (h' : H) : Prop := Kept h0 h' ∧ ∃ tw bw, SlM h' bs bt bb n tw bw ∧ Good2 n tw bw
theorem S13.fresh {h0 h1 h2 : H} {bs bt bb n : Nat} (s : S13 h0 bs bt bb n h1) (k : Kept h1 h2) : S13 h0 bs bt bb n h2 := by
  obtain ⟨a, tw, bw, m, g⟩ := s; exact ⟨a.trans k, tw, bw, m.kept k, g⟩

theorem T69 {h0 h : H} {bs bt bb n : Nat} {k : Int} {Q : Int → Bool → H → Prop} (s : S13 h0 bs bt bb n h) (hbt : h0.size ≤ bt) (q : ∀ i r h', S13 h0 bs bt bb n h' → Q i r h') : F69 (some ⟨bs, 0, none⟩) k Q h := by
  obtain ⟨a, tw, bw, m, g⟩ := id s
  refine C69 m (fun i kk h' tw' hk h1 hi hf hl u m' hb => q _ _ _ ⟨u.kept a hbt, tw', bw, m', fun x hx => ?_, fun x hx => ?_⟩) fun _ => q _ _ _ s
  · rw [hb] at hx
    simp only [Bool.or_eq_true, decide_eq_true_eq] at hx
    rcases hx with hx | hx
    · exact g.1 x hx
    · omega
  · rw [hb, g.2 x hx, Bool.true_or]
theorem T70 {h0 h : H} {bs bt bb n : Nat} {k : Int} {Q : Bool → H → Prop} (s : S13 h0 bs bt bb n h) (hbt : h0.size ≤ bt) (q : ∀ r h', S13 h0 bs bt bb n h' → Q r h') : F70 (some ⟨bs, 0, none⟩) k Q h := by
  obtain ⟨a, tw, bw, m, g⟩ := id s
  refine C70 m (fun j h' tw' hj hjn hb ht u m' hb' => q _ _ ⟨u.kept a hbt, tw', bw, m', fun x hx => ?_, fun x hx => ?_⟩) fun _ => q _ _ s
  · rw [hb'] at hx
    simp only [Bool.and_eq_true] at hx
    exact g.1 x hx.1
  · rw [hb', g.2 x hx]
    have : x ≠ j := by intro e; subst e; rw [hb] at hx; cases hx
    rw [decide_eq_false this]; rfl
theorem T71 {h0 h : H} {bs bt bb n : Nat} {k : Int} {Q : Bool → H → Prop} (s : S13 h0 bs bt bb n h) (hbt : h0.size ≤ bt) (hbb : h0.size ≤ bb) (q : ∀ r h', S13 h0 bs bt bb n h' → Q r h') : F71 (some ⟨bs, 0, none⟩) k Q h := by
  obtain ⟨a, tw, bw, m, g⟩ := id s
  refine C71 m (fun j h' tw' bw' hj hjn hb u m' ht' hb' => q _ _ ⟨u.kept a hbt hbb, tw', bw', m', fun x hx => ?_, fun x hx => ?_⟩) fun _ => q _ _ s
  · rw [ht'] at hx
    simp only [Bool.or_eq_true, decide_eq_true_eq] at hx
    rcases hx with hx | hx
    · exact g.1 x hx
    · omega
  · rw [hb'] at hx
    rw [ht']
    simp only [Bool.or_eq_true, decide_eq_true_eq] at hx ⊢
    rcases hx with hx | hx
    · exact .inl (g.2 x hx)
    · exact .inr hx

theorem L13 {n0 : Int} {a1 : Option Addr} {l1 c1 : Nat} {Q : Bool → H → Prop} {h : H} (hn : 0 ≤ n0 ∧ n0 < 18446744073709551616)
    (o : Opn h (.slice (.pair (.int .i64) (.pair (.int .i64) .unit))) [.slice a1 l1 c1]) (q : ∀ h', Kept h h' → Q true h') : F13 n0 ⟨a1, l1, c1⟩ Q h := by
  have acts := Acts2.of o
  rw [F13_eq]
  refine ⟨by omega, ?_⟩
  obtain ⟨n, hnn⟩ : ∃ n : Nat, n = (n0 % 257).toNat := ⟨_, rfl⟩
  have en : IntKind.wrap .i64 (Int.tmod n0 257) = (n : Int) := by
    rw [Int.tmod_eq_emod_of_nonneg hn.1, hnn, wrap_i64'] <;> omega
  have hle : n ≤ 256 := by omega
  rw [en]
  simp only [LetI]
  refine C66 hle fun bs bt bb h1 k1 hbs hbt hbb m => ?_
  simp only [JoinM, Option.isNone_some, Br_false, Bool.not_false, Br_true]
  have liv : ∀ h', Kept h h' → F67 (fun r6 h7 => Q r6 h7) h' := fun h' k => C67 fun h9 k9 => q h9 (k.trans k9)
  refine Br_dec (fun _ => liv h1 k1) fun hl100 => ?_
  have hl100 : l1 ≤ 100 := by simp at hl100; omega
  refine Loop_intro (σ := Int × Unit) (x := (0, ())) (fun c z h' => ∃ i : Nat, z.1 = (i : Int) ∧ c = l1 - i ∧ i ≤ l1 ∧ S13 h bs bt bb n h') l1
    ⟨0, rfl, rfl, by omega, k1, _, _, m, fun x hx => (by rw [bit_zero] at hx; cases hx), fun x hx => (by rw [bit_zero] at hx; cases hx)⟩ ?_
  rintro c ⟨ii, u⟩ h2 ⟨i, hi, hc, hil, S2⟩
  simp only at hi
  subst hi
  refine Br_dec (fun hlt => ?_) fun hge => ?_
  · have hlt : i < l1 := by simp at hlt; omega
    obtain ⟨ad, had, k, v, ca, cb⟩ := acts.kept S2.1 i hlt
    simp only at had
    simp only [had]
    refine ⟨⟨by omega, by omega⟩, ?_⟩
    simp only [add_add, Int.toNat_natCast]
    refine Ld_i ca (Ld_i cb (Nw_intro fun w h3 hw k3 e3 => ?_))
    rw [zero55] at e3
    simp only [add_mk]
    refine St_intro e3 (by simp) fun h4 u4 e4 => St_intro e4 (by simp) fun h5 u5 e5 => ?_
    have S5 : S13 h bs bt bb n h5 := S2.fresh (u5.kept (u4.kept k3 (by omega)) (by omega))
    have nx : ∀ h', S13 h bs bt bb n h' → ∃ k', k' < c ∧ ∃ i' : Nat, (IntKind.wrap .i64 ((i : Int) + 1)) = (i' : Int) ∧ k' = l1 - i' ∧ i' ≤ l1 ∧ S13 h bs bt bb n h' :=
      fun h' ss => ⟨l1 - (i + 1), by omega, i + 1, by rw [wrap_i64' _ (by omega) (by omega)]; omega, rfl, by omega, ss⟩
    refine Ld_i (x := k) (by rw [hcell_blk e5]; rfl) ?_
    refine Br_if (fun _ => ?_) fun _ => ?_
    · rw [F68_eq]; exact T69 S5 hbt fun _ _ h' ss => nx h' ss
    refine Br_if (fun _ => Ld_i (x := v) (by rw [hcell_blk e5]; rfl) (T69 S5 hbt fun _ _ h' ss => nx h' ss)) fun _ => ?_
    refine Br_if (fun _ => Ld_i (x := v) (by rw [hcell_blk e5]; rfl) (T70 S5 hbt fun _ h' ss => nx h' ss)) fun _ => ?_
    exact Br_if (fun _ => Ld_i (x := v) (by rw [hcell_blk e5]; rfl) (T71 S5 hbt hbb fun _ h' ss => nx h' ss)) fun _ => nx h5 S5
  · obtain ⟨K, tw, bw, m2, g⟩ := S2
    refine C72 m2 fun c h3 k3 hc W3 => ⟨by omega, ?_⟩
    have m3 := m2.kept k3
    have e1 : IntKind.wrap .i64 (Int.tdiv (IntKind.wrap .i64 ((n : Int) + 63)) 64) = (((n + 63) / 64 : Nat) : Int) := by
      rw [wrap_i64' ((n : Int) + 63) (by omega) (by omega), Int.tdiv_eq_ediv_of_nonneg (by omega), wrap_i64'] <;> omega
    have e2 : IntKind.wrap .i64 (64 * (((n + 63) / 64 : Nat) : Int)) = ((64 * ((n + 63) / 64) : Nat) : Int) := by
      rw [wrap_i64' _ (by omega) (by omega)]; omega
    simp only [e1, e2, bne_self_eq_false, Br_false]
    generalize hN : 64 * ((n + 63) / 64) = N at *
    refine Loop_intro (σ := Int × Unit) (x := (0, ())) (fun c z h' => ∃ i : Nat, z.1 = (i : Int) ∧ c = N - i ∧ i ≤ N ∧ h3 = h') N ⟨0, rfl, rfl, by omega, rfl⟩ ?_
    rintro d ⟨ii, u⟩ h4 ⟨j, hj, hd, hjN, rfl⟩
    simp only at hj
    subst hj
    refine Br_dec (fun hlt => ⟨by omega, ?_⟩) fun _ => liv _ (K.trans k3)
    have hlt : j < N := by simp at hlt; omega
    have f1 : IntKind.wrap .i64 (Int.tdiv (j : Int) 64) = ((j / 64 : Nat) : Int) := by
      rw [Int.tdiv_eq_ediv_of_nonneg (by omega), wrap_i64'] <;> omega
    have f2 : IntKind.wrap .u64 (Int.tmod (j : Int) 64) = ((j % 64 : Nat) : Int) := by
      rw [Int.tmod_eq_emod_of_nonneg (by omega), wrap_u64]; omega
    simp only [f1, f2]
    have hlt2 := m2.lt
    refine ⟨⟨by omega, by omega⟩, ?_⟩
    simp only [add_mk, Int.toNat_natCast, Nat.mul_one, Nat.add_zero, Nat.zero_add]
    refine Ld_i (W3.cell (i := j / 64) (by omega)) ⟨by omega, by omega, ?_⟩
    have hbit : (bAnd .u64 (shR .u64 ((tw.getD (j / 64) 0 : Nat) : Int) ((j % 64 : Nat) : Int)) 1 == 1) = bit tw j := hasbit1 _ _ (W3.lt _) (Nat.mod_lt _ (by omega))
    rw [hbit]
    have nx : ∃ k', k' < d ∧ ∃ i' : Nat, (IntKind.wrap .i64 ((j : Int) + 1)) = (i' : Int) ∧ k' = N - i' ∧ i' ≤ N ∧ True :=
      ⟨N - (j + 1), by omega, j + 1, by rw [wrap_i64' _ (by omega) (by omega)]; omega, rfl, by omega, trivial⟩
    by_cases hjn : j < n
    · refine ⟨(cond (bit bw j) 2 (cond (bit tw j) 1 0), ()), C73 m3 (fun j' hj' _ => ?_) (fun hh => absurd hh (by omega)), ?_⟩
      · obtain rfl : j' = j := by omega
        exact ⟨rfl, rfl⟩
      · have : (bit tw j == decide ((cond (bit bw j) 2 (cond (bit tw j) 1 0) : Int) > 0)) = true := by
          have := g.2 j
          cases hb : bit bw j <;> cases ht : bit tw j <;> simp_all
        simp only [this, Bool.not_true, Br_false]
        exact nx
    · refine ⟨(-1, ()), C73 m3 (fun j' hj' hh => absurd hh (by omega)) (fun _ => ⟨rfl, rfl⟩), ?_⟩
      have ht : bit tw j = false := by
        cases e : bit tw j
        · rfl
        · exact absurd (g.1 j e) hjn
      rw [ht]
      exact nx
end Go.Proofs.Ytfijchofplkcoaa
