/-
  The law SlotsRuns over the heap predicates.
-/
import Derived.Test.YtfijchofplkcoaaHg
import Derived.Test.YtfijchofplkcoaaDb
set_option linter.unusedVariables false
set_option linter.unusedSimpArgs false
set_option maxRecDepth 100000
namespace Go.Proofs.Ytfijchofplkcoaa

def Nums (h : H) (s : Sl) : Prop := ∀ i, i < s.len → ∃ ad, s.a = some ad ∧ ∃ x : Int, (0 ≤ x ∧ x < 18446744073709551616) ∧ hcell h (ad.add i) = some (.int .u64 x)
theorem Nums.kept {h h' : H} {s : Sl} (e : Nums h s) (k : Kept h h') : Nums h' s := by
  intro i hi
  obtain ⟨ad, h1, x, h2, h3⟩ := e i hi
  exact ⟨ad, h1, x, h2, k.cell h3⟩
theorem Nums.of {h : H} {a : Option Addr} {l c : Nat} (o : Opn h (.slice (.int .u64)) [.slice a l c]) : Nums h ⟨a, l, c⟩ := by
  rcases o with o | ⟨x, l', c', o, hl, hm, hx⟩
  · simp only [List.cons.injEq, Value.slice.injEq, and_true] at o
    obtain ⟨rfl, rfl, rfl⟩ := o
    intro i hi; exact absurd hi (by simp)
  · simp only [List.cons.injEq, Value.slice.injEq, and_true] at o
    obtain ⟨rfl, rfl, rfl⟩ := o
    intro i hi
    obtain ⟨es, h1, ⟨k, rfl, w⟩, h3⟩ := hx i hi
    have := h3 0 _ rfl
    simp only [DTy.size, Nat.mul_one, Nat.add_zero] at this
    exact ⟨x, rfl, k, wf_u64 w, this⟩
theorem cb_run {tw tw' : List Nat} {i kk : Nat} (hf : free tw kk i) (hb : ∀ x, bit tw' x = (bit tw x || decide (i ≤ x ∧ x < i + kk))) : ∀ m, cb tw' m + min m i = cb tw m + min m (i + kk) := by
  intro m
  induction m with
  | zero => simp [cb]
  | succ m ih =>
    simp only [cb]
    rw [hb]
    by_cases h : i ≤ m ∧ m < i + kk
    · rw [decide_eq_true h]
      have := hf (m - i) (by omega)
      rw [show i + (m - i) = m by omega] at this
      rw [this]
      simp only [Bool.or_true, Bool.toNat_true, Bool.toNat_false]
      omega
    · rw [decide_eq_false h, Bool.or_false]
      omega
theorem cb_same {l l' : List Nat} (h : ∀ x, bit l x = bit l' x) : ∀ m, cb l m = cb l' m := by
  intro m
  induction m with
  | zero => rfl
  | succ m ih => simp only [cb]; rw [ih, h]
theorem hasbit0 (x m : Nat) (hx : x < 2 ^ 64) (hm : m < 64) : (bAnd .u64 (shR .u64 (x : Int) (m : Int)) 1 == 0) = !x.testBit m := by
  rw [shR_nat _ _ (by simp [IntKind.bits]; omega)]
  have e1 : ((x : Int) / ((2 ^ m : Nat) : Int)) = ((x / 2 ^ m : Nat) : Int) := by simp
  have hb : x / 2 ^ m < 2 ^ 64 := Nat.lt_of_le_of_lt (Nat.div_le_self _ _) hx
  have e2 : bAnd .u64 ((x / 2 ^ m : Nat) : Int) 1 = ((x / 2 ^ m % 2 : Nat) : Int) := by
    have := bAnd_u64 (x / 2 ^ m) 1 hb (by omega)
    rw [Nat.and_one_is_mod] at this
    exact this
  rw [e1, e2, Nat.testBit_eq_decide_div_mod_eq]
  have : x / 2 ^ m % 2 < 2 := Nat.mod_lt _ (by omega)
  by_cases hh : x / 2 ^ m % 2 = 1
  · rw [decide_eq_true hh, hh]; decide
  · rw [decide_eq_false hh, show x / 2 ^ m % 2 = 0 by omega]; decide
/-- What the law has behind each spoilt place. -/
def S26 (h0 : H) (bs bt bb n : Nat) (h' : H) : Prop := Kept h0 h' ∧ ∃ tw bw, SlM h' bs bt bb n tw bw ∧ Good2 n tw bw ∧ ∀ x, bit tw x = bit bw x
theorem T26 {h0 h : H} {bs bt bb n : Nat} {k : Int} {Q : Bool → H → Prop} (s : S26 h0 bs bt bb n h) (hbt : h0.size ≤ bt) (hbb : h0.size ≤ bb) (q : ∀ r h', S26 h0 bs bt bb n h' → Q r h') : F71 (some ⟨bs, 0, none⟩) k Q h := by
  obtain ⟨a, tw, bw, m, g, hs⟩ := id s
  refine C71 m (fun j h' tw' bw' hj hjn hb u m' ht' hb' => q _ _ ⟨u.kept a hbt hbb, tw', bw', m', ⟨fun x hx => ?_, fun x hx => ?_⟩, fun x => by rw [ht', hb', hs]⟩) fun _ => q _ _ s
  · rw [ht'] at hx
    simp only [Bool.or_eq_true, decide_eq_true_eq] at hx
    rcases hx with hx | hx
    · exact g.1 x hx
    · omega
  · rw [hb'] at hx
    rw [ht']
    simp only [Bool.or_eq_true, decide_eq_true_eq] at hx ⊢
    rcases hx with hx | hx
    · exact .inl (g.2 x hx)
    · exact .inr hx
theorem L26 {n0 : Int} {a1 : Option Addr} {l1 c1 : Nat} {Q : Bool → H → Prop} {h : H} (o : Opn h (.slice (.int .u64)) [.slice a1 l1 c1]) (hn : 0 ≤ n0 ∧ n0 < 18446744073709551616)
    (q : ∀ h', Kept h h' → Q true h') : F26 ⟨a1, l1, c1⟩ n0 Q h := by
  have nums := Nums.of o
  rw [F26_eq]
  unfold B26
  refine C66 (n := 100) (by omega) fun bs bt bb h1 k1 hbs hbt hbb m => ?_
  simp only [JoinM, Option.isNone_some, Br_false, Bool.not_false, Br_true]
  have liv : ∀ h', Kept h h' → F67 (fun r6 h7 => Q r6 h7) h' := fun h' k => C67 fun h9 k9 => q h9 (k.trans k9)
  refine Br_dec (fun _ => liv h1 k1) fun hl200 => ?_
  have hl200 : l1 ≤ 200 := by simp at hl200; omega
  refine Loop_intro (σ := Int × Unit) (x := (0, ())) (fun c z h' => ∃ i : Nat, z.1 = (i : Int) ∧ c = l1 - i ∧ i ≤ l1 ∧ S26 h bs bt bb 100 h') l1
    ⟨0, rfl, rfl, by omega, k1, _, _, m, ⟨fun x hx => (by rw [bit_zero] at hx; cases hx), fun x hx => (by rw [bit_zero] at hx; cases hx)⟩, fun x => rfl⟩ ?_
  rintro c ⟨ii, u⟩ h2 ⟨i, hi, hc, hil, S2⟩
  simp only at hi
  subst hi
  refine Br_dec (fun hlt => ?_) fun hge => ?_
  · have hlt : i < l1 := by simp at hlt; omega
    obtain ⟨ad, had, x, hx, cx⟩ := nums.kept S2.1 i hlt
    simp only at had
    simp only [had]
    refine ⟨⟨by omega, by omega⟩, ?_⟩
    simp only [add_add, Int.toNat_natCast, Nat.mul_one, Nat.add_zero]
    refine Ld_i cx ?_
    simp only [LetI]
    refine ⟨by omega, T26 S2 hbt hbb fun _ h' ss => ?_⟩
    exact ⟨l1 - (i + 1), by omega, i + 1, by show IntKind.wrap .i64 ((i : Int) + 1) = _; rw [wrap_i64' _ (by omega) (by omega)]; omega, rfl, by omega, ss⟩
  · obtain ⟨K2, tw, bw, m2, g2, hs⟩ := S2
    refine ⟨by omega, ?_⟩
    obtain ⟨k, hk⟩ : ∃ k : Nat, k = (1 + n0 % 20).toNat := ⟨_, rfl⟩
    have ek : IntKind.wrap .i64 (1 + IntKind.wrap .i64 (Int.tmod n0 20)) = (k : Int) := by
      rw [Int.tmod_eq_emod_of_nonneg hn.1, wrap_i64' (n0 % 20) (by omega) (by omega), wrap_i64' _ (by omega) (by omega)]; omega
    have hk1 : 1 ≤ k ∧ k ≤ 20 := by omega
    rw [ek]
    simp only [LetI]
    refine C72 m2 fun c h3 k3 hc3 W3 => ?_
    have m3 := m2.kept k3
    refine Br_bne_int (fun hh => absurd rfl hh) fun _ => ?_
    have hbt2 : bt < h2.size := (Array.getElem?_eq_some_iff.1 m2.tak.1).1
    refine V69 m3 fun r ok tw' h4 rs u4 m4 => ?_
    have W4 : WB h4 c tw := ⟨u4.blk W3.1 (by omega), W3.2⟩
    have K4 : Kept h h4 := u4.kept (K2.trans k3) hbt
    have g4 := rs.good g2
    have hlt := m2.lt
    refine Loop_intro (σ := Int × Unit) (x := (0, ())) (fun d z h' => ∃ j : Nat, z.1 = (j : Int) ∧ d = 101 - j ∧ j ≤ 100 ∧ h4 = h' ∧ ∀ j', j' < j → ¬ free tw k j') 101 ⟨0, rfl, rfl, by omega, rfl, fun j' hj' => by omega⟩ ?_
    rintro d ⟨jj, u⟩ h5 ⟨j, hj, hd, hj100, rfl, hJ⟩
    simp only at hj
    subst hj
    have e1 : IntKind.wrap .i64 ((j : Int) + (k : Int)) = ((j + k : Nat) : Int) := by rw [wrap_i64' _ (by omega) (by omega)]; omega
    simp only [e1]
    refine Br_dec (fun hle => ?_) fun hgt => ?_
    · have hle : j + k ≤ 100 := by omega
      refine Loop_intro (σ := Bool × Int × Unit) (x := (true, (j : Int), ())) (fun d2 z h' => ∃ e : Nat, z.2.1 = ((j + e : Nat) : Int) ∧ d2 = k - e ∧ e ≤ k ∧ h4 = h' ∧ (z.1 = true ↔ free tw e j)) k ⟨0, by simp, rfl, by omega, rfl, by simp [free]⟩ ?_
      rintro d2 ⟨fr, ee, u⟩ h5 ⟨e, he, hd2, hek, rfl, hF⟩
      simp only at he hF
      subst he
      refine Br_dec (fun hlt2 => ?_) fun hge2 => ?_
      · have hlt2 : e < k := by simp only at hlt2; omega
        have nx : IntKind.wrap .i64 (((j + e : Nat) : Int) + 1) = ((j + (e + 1) : Nat) : Int) := by rw [wrap_i64' _ (by omega) (by omega)]; omega
        cases fr
        · refine ⟨k - (e + 1), by omega, e + 1, nx, rfl, by omega, by trivial, ⟨fun hh => absurd hh (by simp), fun hh => ?_⟩⟩
          have := hF.2 fun d hd => hh d (by omega)
          cases this
        · have f1 : IntKind.wrap .i64 (Int.tdiv ((j + e : Nat) : Int) 64) = (((j + e) / 64 : Nat) : Int) := by
            rw [Int.tdiv_eq_ediv_of_nonneg (by omega), wrap_i64'] <;> omega
          have f2 : IntKind.wrap .u64 (Int.tmod ((j + e : Nat) : Int) 64) = (((j + e) % 64 : Nat) : Int) := by
            rw [Int.tmod_eq_emod_of_nonneg (by omega), wrap_u64]; omega
          refine ⟨by omega, ?_⟩
          simp only [f1, f2]
          refine ⟨⟨by omega, by omega⟩, ?_⟩
          simp only [add_mk, Int.toNat_natCast, Nat.mul_one, Nat.add_zero, Nat.zero_add]
          refine Ld_i (W4.cell (i := (j + e) / 64) (by omega)) ⟨by omega, by omega, ?_⟩
          have hbit : (bAnd .u64 (shR .u64 ((tw.getD ((j + e) / 64) 0 : Nat) : Int) (((j + e) % 64 : Nat) : Int)) 1 == 0) = !bit tw (j + e) := hasbit0 _ _ (W4.lt _) (Nat.mod_lt _ (by omega))
          refine ⟨k - (e + 1), by omega, e + 1, nx, rfl, by omega, by trivial, ?_⟩
          simp only [hbit]
          refine ⟨fun hh d hd => ?_, fun hh => ?_⟩
          · by_cases e2 : d = e
            · subst e2; simpa using hh
            · exact hF.1 rfl d (by omega)
          · have := hh e (by omega)
            rw [this]; rfl
      · have : e = k := by simp only at hge2; omega
        subst this
        cases fr
        · refine ⟨101 - (j + 1), by omega, j + 1, by show IntKind.wrap .i64 ((j : Int) + 1) = _; rw [wrap_i64' _ (by omega) (by omega)]; omega, rfl, by omega, by trivial, fun j' hj' => ?_⟩
          by_cases e2 : j' = j
          · subst e2; intro hh; have := hF.2 hh; cases this
          · exact hJ j' (by omega)
        · have hfr := hF.1 rfl
          rcases rs with ⟨hok, i2, kk, hr, hkk, _, hi2, hf2, hlow, hb⟩ | ⟨hok, hr, htw, hno⟩
          · obtain rfl : kk = e := by omega
            have : i2 = j := by
              by_cases h1 : i2 < j
              · exact absurd hf2 (hJ i2 h1)
              · by_cases h2 : j < i2
                · exact absurd hfr (hlow j h2)
                · omega
            subst this
            subst hok hr
            simp only [Br_true, beq_self_eq_true]
            refine C111 m4 g4 ?_
            have hc1 := (cst_cb g4.2 100).2.1
            have hc2 := cb_run hf2 hb 100
            have hc3 := cb_same hs 100
            have e3 : cst (stt tw' bw) 1 100 = (kk : Int) := by rw [hc1]; omega
            rw [e3]
            simp only [beq_self_eq_true, Br_true]
            exact liv _ K4
          · exact absurd hfr (hno e rfl hk1.1 j hle)
    · have hgt : 100 < j + k := by omega
      rcases rs with ⟨hok, i2, kk, hr, hkk, _, hi2, hf2, hlow, hb⟩ | ⟨hok, hr, htw, hno⟩
      · obtain rfl : kk = k := by omega
        exact absurd hf2 (hJ i2 (by omega))
      · subst hok hr htw
        simp only [Bool.not_false, Br_true, beq_self_eq_true]
        refine C72 m4 fun c5 h5 k5 hc5 W5 => ?_
        refine C113 W5 (c := c5) (d := c) ⟨k5.blk W4.1, W4.2⟩ hlt (by omega) ?_
        simp only [Br_true]
        exact liv _ (K4.trans k5)
end Go.Proofs.Ytfijchofplkcoaa
