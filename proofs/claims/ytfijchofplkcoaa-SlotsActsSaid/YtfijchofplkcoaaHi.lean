/-
  The law SlotsApart over the heap predicates.
-/
import Derived.Test.YtfijchofplkcoaaHh
import Derived.Test.YtfijchofplkcoaaIh
set_option linter.unusedVariables false
set_option linter.unusedSimpArgs false
set_option maxRecDepth 100000
namespace Go.Proofs.Ytfijchofplkcoaa

theorem zero3 : zeroC Try.prog 3 = #[.int .i64 0] := by kernel_rfl
theorem zeros3 (n : Nat) : zerosC Try.prog 3 n = VI (List.replicate n 0) := by
  unfold zerosC
  rw [zero3]
  apply Array.ext
  · simp
  · intro i h1 h2
    simp only [Array.getElem_map, List.size_toArray, List.length_cons, List.length_nil, Nat.zero_add, Nat.mod_one]
    simp
theorem SlM.kb {h h' : H} {bs bt bb n b : Nat} {tw bw : List Nat} (m : SlM h bs bt bb n tw bw) (k : KB h b h') (h1 : bs ≠ b) (h2 : bt ≠ b) (h3 : bb ≠ b) : SlM h' bs bt bb n tw bw :=
  ⟨k.blk m.top h1, ⟨k.blk m.tak.1 h2, m.tak.2⟩, ⟨k.blk m.bad.1 h3, m.bad.2⟩, m.lt, m.lb, m.n1, m.n2, m.n3, m.le⟩
theorem put2 {h : H} {w t : Nat} {a b : Int} {K : H → Prop} (e1 : h[w]? = some (.cells #[.int .i64 0, .int .i64 0] t)) (k : ∀ h', Upd h w h' → IL h' w t [a, b] → K h') :
    St h ⟨w, 0 + 0, none⟩ (.int .i64 a) fun h2 => St h2 ⟨w, 0 + 1, none⟩ (.int .i64 b) K :=
  St_I (xs := [0, 0]) e1 (by simp) fun h2 u2 e2 => St_I e2 (by simp) fun h3 u3 e3 => k h3 (u2.trans u3) e3
theorem stt_01 {tw bw : List Nat} {x : Nat} (h : bit bw x = true → bit tw x = true) (hf : bit tw x = false) : stt tw bw x = 0 := by
  unfold stt
  cases hb : bit bw x
  · rw [hf]; rfl
  · rw [h hb] at hf; cases hf

/-- What the law has: the list that it holds is the places' states. -/
structure S25 (h0 : H) (bs bt bb bh n : Nat) (h' : H) : Prop where
  kept : Kept h0 h'
  all : ∃ tw bw xs, SlM h' bs bt bb n tw bw ∧ Good2 n tw bw ∧ IL h' bh 3 xs ∧ xs.length = n ∧ ∀ x, x < n → xs.getD x 0 = stt tw bw x
theorem S25.k {h0 h h' : H} {bs bt bb bh n : Nat} (s : S25 h0 bs bt bb bh n h) (k : Kept h h') : S25 h0 bs bt bb bh n h' := by
  obtain ⟨k0, tw, bw, xs, m, g, e, hl, hx⟩ := s
  exact ⟨k0.trans k, tw, bw, xs, m.kept k, g, k.blk e, hl, hx⟩

theorem L25 {n0 : Int} {a1 : Option Addr} {l1 c1 : Nat} {Q : Bool → H → Prop} {h : H} (hn : 0 ≤ n0 ∧ n0 < 18446744073709551616)
    (o : Opn h (.slice (.pair (.int .i64) (.pair (.int .i64) .unit))) [.slice a1 l1 c1]) (q : ∀ h', Kept h h' → Q true h') : F25 n0 ⟨a1, l1, c1⟩ Q h := by
  have acts := Acts2.of o
  rw [F25_eq]
  unfold B25
  refine ⟨by omega, ?_⟩
  obtain ⟨n, hnn⟩ : ∃ n : Nat, n = (n0 % 200).toNat := ⟨_, rfl⟩
  have en : IntKind.wrap .i64 (Int.tmod n0 200) = (n : Int) := by
    rw [Int.tmod_eq_emod_of_nonneg hn.1, hnn, wrap_i64'] <;> omega
  have hle : n ≤ 200 := by omega
  rw [en]
  refine C66 (by omega) fun bs bt bb h1 k1 hbs hbt hbb m => ?_
  have liv : ∀ h', Kept h h' → F67 (fun r6 h7 => Q r6 h7) h' := fun h' k => C67 fun h9 k9 => q h9 (k.trans k9)
  simp only [Option.isNone_some, Br_false, Bool.not_false, Br_true]
  refine Join_intro (fun _ h' => h' = h1 ∧ l1 ≤ 200) (fun J hJ => Br_dec (fun _ => liv h1 k1) fun hl200 => hJ () h1 ⟨rfl, by simp at hl200; omega⟩) ?_
  rintro u h1' ⟨rfl, hl200⟩
  refine ⟨⟨by omega, by omega, by simp; omega⟩, Nw_intro fun bh h2 hbh k2 e2 => ?_⟩
  rw [show ((n : Int).toNat) = n from rfl, zeros3] at e2
  have m2 := m.kept k2
  have l1' := (Array.getElem?_eq_some_iff.1 m.top).1
  have l2' := (Array.getElem?_eq_some_iff.1 m.tak.1).1
  have l3' := (Array.getElem?_eq_some_iff.1 m.bad.1).1
  have hb0 : h.size ≤ bh := by have := k1.1; omega
  have S0 : S25 h bs bt bb bh n h2 := by
    refine ⟨k1.trans k2, _, _, _, m2, ⟨fun x hx => (by rw [bit_zero] at hx; cases hx), fun x hx => (by rw [bit_zero] at hx; cases hx)⟩, e2, by simp, fun x hx => ?_⟩
    rw [stt_01 (fun hh => by rw [bit_zero] at hh; cases hh) (bit_zero _ _), List.getD_eq_getElem?_getD, List.getElem?_replicate]
    split <;> rfl
  refine Loop_intro (σ := Int × Unit) (x := (0, ())) (fun c z h' => ∃ i : Nat, z.1 = (i : Int) ∧ c = l1 - i ∧ i ≤ l1 ∧ S25 h bs bt bb bh n h') l1 ⟨0, rfl, rfl, by omega, S0⟩ ?_
  rintro c ⟨ii, u⟩ h3 ⟨i, hi, hc, hil, S3⟩
  simp only at hi
  subst hi
  refine Br_dec (fun hlt => ?_) fun hge => ?_
  · have hlt : i < l1 := by simpa using hlt
    obtain ⟨ad, had, k, v, ca, cbb⟩ := acts.kept S3.kept i hlt
    simp only at had
    simp only [had]
    refine ⟨⟨by omega, by omega⟩, ?_⟩
    simp only [add_add, Int.toNat_natCast]
    refine Ld_i ca (Ld_i cbb (Nw_intro fun w h4 hw k4 e4 => ?_))
    rw [zero55] at e4
    simp only [add_mk]
    refine put2 e4 fun h5 u5 e5 => ?_
    have S5 : S25 h bs bt bb bh n h5 := S3.k (u5.kept k4 (by omega))
    have hs3 := S3.kept.1
    have hw5 : w < h5.size := (Array.getElem?_eq_some_iff.1 (show h5[w]? = some _ from e5)).1
    have hob : bs < h5.size ∧ bt < h5.size ∧ bb < h5.size ∧ bh < h5.size ∧ w ≠ bs ∧ w ≠ bt ∧ w ≠ bb ∧ w ≠ bh := by
      obtain ⟨_, tw, bw, xs, m, g, e, hl, hx⟩ := S3
      have q1 := (Array.getElem?_eq_some_iff.1 m.top).1
      have q2 := (Array.getElem?_eq_some_iff.1 m.tak.1).1
      have q3 := (Array.getElem?_eq_some_iff.1 m.bad.1).1
      have q4 := (Array.getElem?_eq_some_iff.1 (show h3[bh]? = some _ from e)).1
      have := k4.1
      have := u5.1
      omega
    clear S3
    refine Join_intro (fun _ h' => S25 h bs bt bb bh n h') (fun J hJ => ?_) ?_
    · -- one act
      have run : ∀ (want : Int) (K : Prop), (∀ r ok (tw' tw bw : List Nat) (xs : List Int) h', RunS n tw tw' want r ok → Kept h h' → SlM h' bs bt bb n tw' bw → Good2 n tw bw → IL h' bh 3 xs → xs.length = n → (∀ x, x < n → xs.getD x 0 = stt tw bw x) →
          LoopM (σ := Int × Unit) (fun self38 z39 h40 =>
            JoinM (σ := Unit) (fun J41 =>
            Br ok
            (Br (decide (z39.1 < (IntKind.wrap .i64 (r + want))))
            (J41 (()) h40)
            (J (()) h40))
            (J (()) h40))
            (fun y42 h43 =>
            JoinM (σ := Unit) (fun J44 =>
            Br (decide (z39.1 < 0))
            (Q false h43)
            (Br (decide (z39.1 ≥ (n : Int)))
            (Q false h43)
            (IdxS (some (⟨bh, 0, none⟩ : Addr)) n z39.1 fun a47 =>
            Ld (.i .i64) h43 ((a47.add (Int.toNat z39.1 * 1)).add 0) fun x48 =>
            Br (x48 != 0)
            (Q false h43)
            (J44 (()) h43))))
            (fun y45 h46 =>
            IdxS (some (⟨bh, 0, none⟩ : Addr)) n z39.1 fun a49 =>
            St h46 ((a49.add (Int.toNat z39.1 * 1)).add 0) (.int .i64 1) fun h50 =>
            self38 ((IntKind.wrap .i64 (z39.1 + 1)), ()) h50))) (r, ()) h') := by
        intro want K r ok tw' tw bw xs h' rs K' m' g e hl hx
        have g' := rs.good g
        rcases rs with ⟨hok, i2, kk, hr, hkk, hkk1, hi2, hf, hlow, hb⟩ | ⟨hok, hr, htw, hno⟩
        · subst hok hr hkk
          have e1 : IntKind.wrap .i64 ((i2 : Int) + (kk : Int)) = ((i2 + kk : Nat) : Int) := by rw [wrap_i64' _ (by omega) (by omega)]; omega
          simp only [e1, Br_true]
          refine Loop_intro (σ := Int × Unit) (x := ((i2 : Int), ())) (fun c z h'' => ∃ d : Nat, z.1 = ((i2 + d : Nat) : Int) ∧ c = kk - d ∧ d ≤ kk ∧ Kept h h'' ∧ SlM h'' bs bt bb n tw' bw ∧ ∃ ys, IL h'' bh 3 ys ∧ ys.length = n ∧
              ∀ x, x < n → ys.getD x 0 = if i2 ≤ x ∧ x < i2 + d then 1 else stt tw bw x) kk ⟨0, rfl, rfl, by omega, K', m', xs, e, hl, fun x hx' => by rw [if_neg (by omega)]; exact hx x hx'⟩ ?_
          rintro c2 ⟨zz, u⟩ h6 ⟨d, hd, hc2, hdk, K6, m6, ys, e6, hl6, hy⟩
          simp only at hd
          subst hd
          refine Join_intro (fun _ h'' => h'' = h6 ∧ d < kk) (fun J2 hJ2 => Br_dec (fun hlt => hJ2 () h6 ⟨rfl, by omega⟩) fun hge => hJ () h6 ?_) ?_
          · have : d = kk := by omega
            subst this
            refine ⟨K6, tw', bw, ys, m6, g', e6, hl6, fun x hx' => ?_⟩
            rw [hy x hx']
            unfold stt
            rw [hb]
            split
            · rename_i hh
              rw [decide_eq_true hh, Bool.or_true]
              have := hf (x - i2) (by omega)
              rw [show i2 + (x - i2) = x by omega] at this
              cases hbb2 : bit bw x
              · rfl
              · rw [g.2 x hbb2] at this; cases this
            · rename_i hh
              rw [decide_eq_false hh, Bool.or_false]
          · rintro u h6' ⟨rfl, hdlt⟩
            refine Join_intro (fun _ h'' => h'' = h6') (fun J2 hJ2 => Br_dec (fun hh => absurd hh (by omega)) fun _ => Br_dec (fun hh => absurd hh (by omega)) fun _ => ⟨⟨by omega, by omega⟩, ?_⟩) ?_
            · simp only [add_mk, Int.toNat_natCast, Nat.mul_one, Nat.add_zero, Nat.zero_add]
              refine Ld_i (e6.cell (i := i2 + d) (by omega)) ?_
              have : ys.getD (i2 + d) 0 = 0 := by
                rw [hy _ (by omega), if_neg (by omega)]
                exact stt_01 (g.2 _) (hf d hdlt)
              rw [this]
              exact hJ2 () h6' rfl
            · rintro u h7 rfl
              refine ⟨⟨by omega, by omega⟩, ?_⟩
              simp only [add_mk, Int.toNat_natCast, Nat.mul_one, Nat.add_zero, Nat.zero_add]
              refine St_I e6 (by omega) fun h8 u8 e8 => ?_
              have hs : bh < h7.size := (Array.getElem?_eq_some_iff.1 (show h7[bh]? = some _ from e6)).1
              refine ⟨kk - (d + 1), by omega, d + 1, by show IntKind.wrap .i64 (((i2 + d : Nat) : Int) + 1) = _; rw [wrap_i64' _ (by omega) (by omega)]; omega, rfl, by omega, u8.kept K6 hb0, m6.kb u8.kb (by omega) (by omega) (by omega), _, e8, by simpa using hl6, fun x hx' => ?_⟩
              rw [getD_set _ _ _ _ (by omega)]
              split
              · rw [if_pos (by omega)]
              · rw [hy x hx']
                by_cases hh : i2 ≤ x ∧ x < i2 + d
                · rw [if_pos hh, if_pos (by omega)]
                · rw [if_neg hh, if_neg (by omega)]
        · subst hok
          simp only [Br_false, JoinM]
          refine Loop_intro (σ := Int × Unit) (x := (r, ())) (fun c z h'' => h'' = h') 0 rfl ?_
          rintro c2 z h'' rfl
          exact hJ () h'' ⟨K', tw', bw, xs, m', g', e, hl, by rw [htw]; exact hx⟩
      have both : ∀ (want : Int) (self : Prop), True := fun _ _ => trivial
      obtain ⟨K5, tw, bw, xs, m5, g5, eh5, hl5, hx5⟩ := S5
      have take : ∀ want : Int, ∀ (T : Int → Bool → H → Prop), (∀ r ok (tw' : List Nat) h', RunS n tw tw' want r ok → Kept h h' → SlM h' bs bt bb n tw' bw → IL h' bh 3 xs → T r ok h') → F69 (some ⟨bs, 0, none⟩) want T h5 := by
        intro want T hT
        refine V69 m5 fun r ok tw' h6 rs u6 m6 => hT r ok tw' h6 rs (u6.kept K5 hbt) m6 (u6.blk eh5 (by omega))
      have c0 : hcell h5 ⟨w, 0, none⟩ = some (.int .i64 k) := by rw [hcell_blk e5]; rfl
      have c1 : hcell h5 ⟨w, 1, none⟩ = some (.int .i64 v) := by rw [hcell_blk e5]; rfl
      simp only [add_mk, Nat.add_zero, Nat.zero_add]
      refine Ld_i c0 (Br_beq_int (fun hk => ?_) fun hk0 => Br_beq_int (fun hk => ?_) fun hk1 => Br_beq_int (fun hk => ?_) fun hk2 => Br_beq_int (fun hk => ?_) fun hk3 => ?_)
      · subst hk
        simp only [beq_self_eq_true, Br_true, JoinM]
        refine Ld_i c0 ?_
        simp only [show ((0 : Int) == 1) = false by decide, Br_false]
        refine take 1 _ fun r ok tw' h6 rs K6 m6 eh6 => ?_
        exact run 1 True r ok tw' tw bw xs h6 rs K6 m6 g5 eh6 hl5 hx5
      · subst hk
        simp only [JoinM]
        refine Ld_i c0 ?_
        simp only [beq_self_eq_true, Br_true, LetI]
        refine Ld_i c1 ?_
        refine take v _ fun r ok tw' h6 rs K6 m6 eh6 => ?_
        exact run v True r ok tw' tw bw xs h6 rs K6 m6 g5 eh6 hl5 hx5
      · refine Ld_i c1 (C70 m5 (fun j h6 tw' hj hjn hb ht u6 m6 hb' => ?_) fun hh => ?_)
        · subst hj
          have E6 : IL h6 w 55 [k, (j : Int)] := u6.blk e5 (by omega)
          have c6 : hcell h6 ⟨w, 1, none⟩ = some (.int .i64 (j : Int)) := by rw [hcell_blk E6]; rfl
          have eh6 : IL h6 bh 3 xs := u6.blk eh5 (by omega)
          simp only [Br_true]
          refine Join_intro (fun _ h' => h' = h6) (fun J2 hJ2 => ?_) ?_
          · refine Ld_i c6 (Br_dec (fun (hh : (j : Int) < 0) => absurd hh (by omega)) fun _ => Ld_i c6 (Br_dec (fun (hh : (j : Int) ≥ n) => absurd hh (by omega)) fun _ => Ld_i c6 ⟨⟨by omega, by simp; omega⟩, ?_⟩))
            simp only [add_mk, Int.toNat_natCast, Nat.mul_one, Nat.add_zero, Nat.zero_add]
            refine Ld_i (eh6.cell (i := j) (by omega)) ?_
            have : xs.getD j 0 = 1 := by rw [hx5 j hjn]; unfold stt; rw [hb, ht]; rfl
            rw [this]
            exact hJ2 () h6 rfl
          · rintro u h7 rfl
            refine Ld_i c6 ⟨⟨by omega, by simp; omega⟩, ?_⟩
            simp only [add_mk, Int.toNat_natCast, Nat.mul_one, Nat.add_zero, Nat.zero_add]
            refine St_I eh6 (by omega) fun h8 u8 e8 => ?_
            refine hJ () h8 ⟨u8.kept (u6.kept K5 hbt) hb0, tw', bw, _, m6.kb u8.kb (by omega) (by omega) (by omega), ⟨fun x hx => ?_, fun x hx => ?_⟩, e8, by simpa using hl5, fun x hx => ?_⟩
            · rw [hb'] at hx
              simp only [Bool.and_eq_true] at hx
              exact g5.1 x hx.1
            · rw [hb', g5.2 x hx]
              have : x ≠ j := by intro e; subst e; rw [hb] at hx; cases hx
              rw [decide_eq_false this]; rfl
            · rw [getD_set _ _ _ _ (by omega)]
              unfold stt
              rw [hb']
              split
              · rename_i e; subst e; rw [hb]; simp
              · rename_i e
                rw [hx5 x hx, decide_eq_false (fun e' => e e'.symm)]
                unfold stt; simp
        · simp only [Br_false]
          exact hJ () h5 ⟨K5, tw, bw, xs, m5, g5, eh5, hl5, hx5⟩
      · refine Ld_i c1 (C71 m5 (fun j h6 tw' bw' hj hjn hb u6 m6 ht' hb' => ?_) fun hh => ?_)
        · subst hj
          have kb6 : ∀ {d : Nat} {o : Obj}, h5[d]? = some o → d ≠ bt → d ≠ bb → h6[d]? = some o := by
            intro d o he h1 h2
            rw [u6.2 d (Array.getElem?_eq_some_iff.1 he).1 h1 h2, he]
          have E6 : IL h6 w 55 [k, (j : Int)] := kb6 e5 (by omega) (by omega)
          have c6 : hcell h6 ⟨w, 1, none⟩ = some (.int .i64 (j : Int)) := by rw [hcell_blk E6]; rfl
          have eh6 : IL h6 bh 3 xs := kb6 eh5 (by omega) (by omega)
          have hs6 := u6.1
          simp only [Br_true]
          refine Join_intro (fun _ h' => h' = h6) (fun J2 hJ2 => ?_) ?_
          · refine Ld_i c6 (Br_dec (fun (hh : (j : Int) < 0) => absurd hh (by omega)) fun _ => Ld_i c6 (Br_dec (fun (hh : (j : Int) ≥ n) => absurd hh (by omega)) fun _ => Ld_i c6 ⟨⟨by omega, by simp; omega⟩, ?_⟩))
            simp only [add_mk, Int.toNat_natCast, Nat.mul_one, Nat.add_zero, Nat.zero_add]
            refine Ld_i (eh6.cell (i := j) (by omega)) (Br_beq_int (fun h2 => ?_) fun _ => hJ2 () h6 rfl)
            exfalso
            rw [hx5 j hjn] at h2
            unfold stt at h2
            rw [hb] at h2
            cases ht : bit tw j <;> rw [ht] at h2 <;> simp at h2
          · rintro u h7 rfl
            refine Ld_i c6 ⟨⟨by omega, by simp; omega⟩, ?_⟩
            simp only [add_mk, Int.toNat_natCast, Nat.mul_one, Nat.add_zero, Nat.zero_add]
            refine St_I eh6 (by omega) fun h8 u8 e8 => ?_
            refine hJ () h8 ⟨u8.kept (u6.kept K5 hbt hbb) hb0, tw', bw', _, m6.kb u8.kb (by omega) (by omega) (by omega), ⟨fun x hx => ?_, fun x hx => ?_⟩, e8, by simpa using hl5, fun x hx => ?_⟩
            · rw [ht'] at hx
              simp only [Bool.or_eq_true, decide_eq_true_eq] at hx
              rcases hx with hx | hx
              · exact g5.1 x hx
              · omega
            · rw [hb'] at hx
              rw [ht']
              simp only [Bool.or_eq_true, decide_eq_true_eq] at hx ⊢
              rcases hx with hx | hx
              · exact .inl (g5.2 x hx)
              · exact .inr hx
            · rw [getD_set _ _ _ _ (by omega)]
              unfold stt
              rw [hb', ht']
              split
              · rename_i e; subst e; simp
              · rename_i e
                rw [hx5 x hx, decide_eq_false (fun e' => e e'.symm)]
                unfold stt; simp
        · simp only [Br_false]
          exact hJ () h5 ⟨K5, tw, bw, xs, m5, g5, eh5, hl5, hx5⟩
      · exact hJ () h5 ⟨K5, tw, bw, xs, m5, g5, eh5, hl5, hx5⟩
    · rintro u h6 ⟨K6, tw, bw, xs, m6, g6, eh6, hl6, hx6⟩
      refine C111 m6 g6 (C111 m6 g6 (C111 m6 g6 ?_))
      have := @cst_all tw bw n
      have a0 := cst_le (stt tw bw) 0 n
      have a1 := cst_le (stt tw bw) 1 n
      have a2 := cst_le (stt tw bw) 2 n
      rw [wrap_i64' (cst (stt tw bw) 0 n + cst (stt tw bw) 1 n) (by omega) (by omega), wrap_i64' _ (by omega) (by omega), this]
      simp only [bne_self_eq_false, Br_false]
      exact ⟨l1 - (i + 1), by omega, i + 1, by show IntKind.wrap .i64 ((i : Int) + 1) = _; rw [wrap_i64' _ (by omega) (by omega)]; omega, rfl, by omega, K6, tw, bw, xs, m6, g6, eh6, hl6, hx6⟩
  · obtain ⟨K3, tw, bw, xs, m3, g3, e3, hl3, hx3⟩ := S3
    refine Loop_intro (σ := Int × Unit) (x := (0, ())) (fun c z h' => ∃ j : Nat, z.1 = (j : Int) ∧ c = n - j ∧ j ≤ n ∧ h' = h3) n ⟨0, rfl, rfl, by omega, rfl⟩ ?_
    rintro c ⟨jj, u⟩ h4 ⟨j, hj, hc, hjn, rfl⟩
    simp only at hj
    subst hj
    refine Br_dec (fun hlt => ?_) fun _ => liv _ K3
    have hlt : j < n := by simpa using hlt
    refine ⟨⟨by omega, by simp; omega⟩, ?_⟩
    simp only [add_mk, Int.toNat_natCast, Nat.mul_one, Nat.add_zero, Nat.zero_add]
    refine Ld_i (e3.cell (i := j) (by omega)) ?_
    simp only [LetI]
    refine C73 m3 (fun j' hj' _ => ?_) fun hh => absurd ⟨by omega, by omega⟩ hh
    obtain rfl : j' = j := by omega
    rw [hx3 _ hlt]
    simp only [show (cond (bit bw j') 2 (cond (bit tw j') 1 0) : Int) = stt tw bw j' from rfl, bne_self_eq_false, Br_false]
    exact ⟨n - (j' + 1), by omega, j' + 1, by show IntKind.wrap .i64 ((j' : Int) + 1) = _; rw [wrap_i64' _ (by omega) (by omega)]; omega, rfl, by omega, by trivial⟩
end Go.Proofs.Ytfijchofplkcoaa
