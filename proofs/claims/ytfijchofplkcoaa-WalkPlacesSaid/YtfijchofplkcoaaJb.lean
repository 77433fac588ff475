/-
  The way through tables: what Place, Look and Walk answer, of words; the program's (package walk) and the document's (pantryref04).
-/
import Derived.Test.YtfijchofplkcoaaJa
import Derived.Test.YtfijchofplkcoaaKa
import Derived.Test.YtfijchofplkcoaaGi
set_option linter.unusedVariables false
set_option linter.unusedSimpArgs false
set_option maxRecDepth 100000
namespace Go.Proofs.Ytfijchofplkcoaa

def ppn (v : Int) : Int := v / 1024 % 17592186044416
def flg (v : Int) : Int := v % 256
theorem ppn_nn (v : Int) : 0 ≤ ppn v ∧ ppn v < 17592186044416 := by unfold ppn; omega
/-- The table that an entry leads to. -/
def lead (n : Nat) (v : Int) : Option Nat := if kindM (lo8 (flg v)) = 1 ∧ ppn v < n then some (ppn v).toNat else none
def placeS (n : Nat) (ws : List Int) (root vpn : Int) : Option (Nat × Nat) :=
  if 0 ≤ root ∧ root < n ∧ 0 ≤ vpn ∧ vpn < 134217728 then
    (lead n (wat ws root.toNat (vpn / 262144 % 512).toNat)).bind fun m => (lead n (wat ws m (vpn / 512 % 512).toNat)).map fun l => (l, (vpn % 512).toNat)
  else none
def plF (p : Option (Nat × Nat)) : Int := match p with | some (f, _) => (f : Int) | none => 0
def plI (p : Option (Nat × Nat)) : Int := match p with | some (_, i) => (i : Int) | none => 0
theorem lead_lt {n : Nat} {v : Int} {m : Nat} (h : lead n v = some m) : m < n := by
  unfold lead at h
  have := ppn_nn v
  split at h
  · rename_i hh
    simp only [Option.some.injEq] at h; omega
  · cases h
theorem lead_some {n : Nat} {v : Int} {m : Nat} (h : lead n v = some m) : kindM (lo8 (flg v)) = 1 ∧ ppn v = (m : Int) := by
  unfold lead at h
  have := ppn_nn v
  split at h
  · rename_i hh
    simp only [Option.some.injEq] at h; omega
  · cases h
theorem placeS_lt {n : Nat} {ws : List Int} {root vpn : Int} {f i : Nat} (h : placeS n ws root vpn = some (f, i)) : f < n ∧ i < 512 ∧ (i : Int) = vpn % 512 := by
  unfold placeS at h
  split at h
  · simp only [Option.bind_eq_some_iff, Option.map_eq_some_iff] at h
    obtain ⟨m, hm, l, hl, e⟩ := h
    simp only [Prod.mk.injEq] at e
    obtain ⟨rfl, rfl⟩ := e
    exact ⟨lead_lt hl, by omega, by omega⟩
  · cases h
theorem wordF_in {n : Nat} {ws : List Int} {f i : Nat} (hf : f < n) (hi : i < 512) : wordF n ws f i = (wat ws f i, true) := by
  unfold wordF; rw [if_pos (by omega)]; rfl
theorem put25 {h : H} {w t : Nat} {a b : Int} {K : H → Prop} (e1 : h[w]? = some (.cells #[.int .i64 0, .int .i64 0] t)) (k : ∀ h', Upd h w h' → IL h' w t [a, b] → K h') :
    St h ⟨w, 0 + 0, none⟩ (.int .i64 a) fun h2 => St h2 ⟨w, 0 + 1, none⟩ (.int .i64 b) K :=
  St_I (xs := [0, 0]) e1 (by simp) fun h2 u2 e2 => St_I e2 (by simp) fun h3 u3 e3 => k h3 (u2.trans u3) e3

section
variable {h : H} {bm bf n : Nat} {ws : List Int}
theorem M183 {i k : Int} {Q : Int → Int → H → Prop} (m : MW h bm bf n ws) (q : ∀ h', Kept h h' → Q (flg (wordF n ws i k).1) (ppn (wordF n ws i k).1) h') : F183 (some ⟨bm, 0, none⟩) i k Q h := by
  rw [F183_eq]
  refine Nw_intro fun w h1 hw k1 e1 => ?_
  rw [zero25] at e1
  refine M83 (m.kept k1) ?_
  simp only [LetI]
  refine C40 (wordF_range m.ok i k) fun h2 k2 => ?_
  simp only [add_mk]
  refine put25 (k2.blk e1) fun h3 u3 e3 => ?_
  have hk2 := k2.1
  have hk1 := k1.1
  refine Ld_i (x := flg (wordF n ws i k).1) (by rw [hcell_blk e3]; rfl) (Ld_i (x := ppn (wordF n ws i k).1) (by rw [hcell_blk e3]; rfl) ?_)
  exact q h3 (u3.kept (k1.trans k2) (by omega))
theorem M93 {Q : Int → H → Prop} (m : MW h bm bf n ws) (q : Q (n : Int) h) : F93 (some ⟨bm, 0, none⟩) Q h := C93 m.mem q
theorem kind_two (f : Nat) : kindM f = 0 ∨ kindM f = 1 ∨ kindM f = 2 := by
  unfold kindM
  cases (f &&& 1 == 0) <;> cases (f &&& 6 == 4) <;> cases (f &&& 10 == 0) <;> simp
theorem M184 {f i : Nat} {Q : Int → Bool → H → Prop} (m : MW h bm bf n ws) (hf : f < n) (hi : i < 512)
    (q : ∀ h', Kept h h' → Q (ppn (wat ws f i)) (lead n (wat ws f i)).isSome h') : F184 (some ⟨bm, 0, none⟩) f i Q h := by
  rw [F184_eq]
  refine M183 m fun h1 k1 => ?_
  rw [wordF_in hf hi]
  refine Nw_intro fun w h2 hw k2 e2 => ?_
  rw [zero25] at e2
  simp only [add_mk]
  refine put25 e2 fun h3 u3 e3 => ?_
  have k13 : Kept h1 h3 := u3.kept k2 (by omega)
  refine Ld_i (x := ppn (wat ws f i)) (by rw [hcell_blk e3]; rfl) (Ld_i (x := flg (wat ws f i)) (by rw [hcell_blk e3]; rfl) (Ld_i (x := ppn (wat ws f i)) (by rw [hcell_blk e3]; rfl) ?_))
  refine C53 fun h4 k4 => ⟨by rw [hcell_blk (k4.blk e3)]; rfl, ?_⟩
  have k := (k1.trans k13).trans k4
  have q := q h4 k
  unfold lead at q
  simp only [LetI]
  refine Br_beq_int (fun e => ?_) fun e => ?_
  · refine Ld_i (x := ppn (wat ws f i)) (by rw [hcell_blk (k4.blk e3)]; rfl) ⟨((n : Int), ()), M93 (m.kept k) ⟨rfl, rfl⟩, ?_⟩
    by_cases hh : ppn (wat ws f i) < (n : Int)
    · rw [if_pos ⟨e, hh⟩] at q
      simp only [decide_eq_true hh]; exact q
    · rw [if_neg (fun x => hh x.2)] at q
      simp only [decide_eq_false hh]; exact q
  · rw [if_neg (fun x => e x.1)] at q
    exact q
theorem idx2 (v : Int) : idxF v 2 = v / 262144 % 512 := rfl
theorem idx1 (v : Int) : idxF v 1 = v / 512 % 512 := rfl
theorem idx0 (v : Int) : idxF v 0 = v % 512 := rfl
/-- What Place answers. -/
theorem M120 {root vpn : Int} {Q : Int → Int → Bool → H → Prop} (m : MW h bm bf n ws)
    (q : ∀ h', Kept h h' → Q (plF (placeS n ws root vpn)) (plI (placeS n ws root vpn)) (placeS n ws root vpn).isSome h') : F120 (some ⟨bm, 0, none⟩) root vpn Q h := by
  rw [F120_eq]
  unfold B120 JoinM
  have no : placeS n ws root vpn = none → ∀ h', Kept h h' → Q 0 0 false h' := by
    intro e h' k
    have := q h' k
    rw [e] at this; exact this
  have out : ¬ (0 ≤ root ∧ root < n ∧ 0 ≤ vpn ∧ vpn < 134217728) → ∀ h', Kept h h' → Q 0 0 false h' := fun hh => no (by unfold placeS; rw [if_neg hh])
  refine Br_dec (fun hh => out (by omega) h (Kept.refl h)) fun h1 => M93 m ?_
  refine Br_dec (fun hh => out (by omega) h (Kept.refl h)) fun h2 => Br_dec (fun hh => out (by omega) h (Kept.refl h)) fun h3 => Br_dec (fun hh => out (by omega) h (Kept.refl h)) fun h4 => ?_
  have hin : 0 ≤ root ∧ root < n ∧ 0 ≤ vpn ∧ vpn < 134217728 := by omega
  obtain ⟨r, rfl⟩ := Int.eq_ofNat_of_zero_le hin.1
  have hr : r < n := by omega
  obtain ⟨i2, hi2⟩ := Int.eq_ofNat_of_zero_le (show 0 ≤ vpn / 262144 % 512 by omega)
  obtain ⟨i1, hi1⟩ := Int.eq_ofNat_of_zero_le (show 0 ≤ vpn / 512 % 512 by omega)
  have e2 : (vpn / 262144 % 512).toNat = i2 := by omega
  have e1 : (vpn / 512 % 512).toNat = i1 := by omega
  have pl : placeS n ws r vpn = (lead n (wat ws r i2)).bind fun m => (lead n (wat ws m i1)).map fun l => (l, (vpn % 512).toNat) := by
    unfold placeS; rw [if_pos hin, e2, e1]; rfl
  simp only [LetI]
  refine Loop_intro (σ := Int × Int × Unit) (x := ((r : Int), 2, ())) (fun c z h' => Kept h h' ∧ ∃ f : Nat, f < n ∧ z.1 = (f : Int) ∧ z.2.1 = (c : Int) ∧
      ((c = 2 ∧ f = r) ∨ (c = 1 ∧ lead n (wat ws r i2) = some f) ∨ (c = 0 ∧ ∃ mm, lead n (wat ws r i2) = some mm ∧ lead n (wat ws mm i1) = some f))) 2 ⟨Kept.refl h, r, hr, rfl, rfl, .inl ⟨rfl, rfl⟩⟩ ?_
  rintro c ⟨zf, zl, u⟩ h5 ⟨k5, f, hf, hzf, hzl, hc⟩
  simp only at hzf hzl
  subst hzf hzl
  have m5 := m.kept k5
  rcases hc with ⟨rfl, rfl⟩ | ⟨rfl, hl⟩ | ⟨rfl, mm, hl2, hl1⟩
  · refine Br_beq_int (fun e => absurd e (by simp)) fun _ => C44 ?_
    have : idxF vpn ((2 : Nat) : Int) = (i2 : Int) := by rw [show ((2 : Nat) : Int) = 2 from rfl, idx2, hi2]
    rw [this]
    refine M184 m5 hf (by omega) fun h6 k6 => ?_
    cases hl : lead n (wat ws f i2) with
    | none =>
      simp only [Option.isSome_none, Bool.not_false, Br_true]
      exact no (by rw [pl, hl]; rfl) h6 (k5.trans k6)
    | some x =>
      simp only [Option.isSome_some, Bool.not_true, Br_false]
      exact ⟨1, by omega, k5.trans k6, x, lead_lt hl, (lead_some hl).2, by rfl, .inr (.inl ⟨rfl, rfl⟩)⟩
  · refine Br_beq_int (fun e => absurd e (by simp)) fun _ => C44 ?_
    have : idxF vpn ((1 : Nat) : Int) = (i1 : Int) := by rw [show ((1 : Nat) : Int) = 1 from rfl, idx1, hi1]
    rw [this]
    refine M184 m5 hf (by omega) fun h6 k6 => ?_
    cases hl' : lead n (wat ws f i1) with
    | none =>
      simp only [Option.isSome_none, Bool.not_false, Br_true]
      exact no (by rw [pl, hl]; simp [hl']) h6 (k5.trans k6)
    | some x =>
      simp only [Option.isSome_some, Bool.not_true, Br_false]
      exact ⟨0, by omega, k5.trans k6, x, lead_lt hl', (lead_some hl').2, by rfl, .inr (.inr ⟨rfl, f, hl, hl'⟩)⟩
  · refine Br_beq_int (fun _ => C44 ?_) fun e => absurd rfl e
    have pl' : placeS n ws r vpn = some (f, (vpn % 512).toNat) := by rw [pl, hl2]; simp [hl1]
    have := q h5 k5
    rw [pl'] at this
    rw [idx0]
    simp only [plF, plI, Option.isSome_some] at this
    rw [show (((vpn % 512).toNat : Nat) : Int) = vpn % 512 by omega] at this
    exact this
/-- The entry at a place. -/
def entS (n : Nat) (ws : List Int) (root vpn : Int) : Option Int := (placeS n ws root vpn).map fun p => wat ws p.1 p.2
theorem M122 {root vpn : Int} {Q : Int → Int → Bool → H → Prop} (m : MW h bm bf n ws)
    (q : ∀ h', Kept h h' → Q (flg ((entS n ws root vpn).getD 0)) (ppn ((entS n ws root vpn).getD 0)) (entS n ws root vpn).isSome h') : F122 (some ⟨bm, 0, none⟩) root vpn Q h := by
  rw [F122_eq]
  refine Nw_intro fun w h1 hw k1 e1 => ?_
  rw [zero25] at e1
  refine M120 (m.kept k1) fun h2 k2 => ?_
  simp only [LetI, add_mk]
  have k12 := k1.trans k2
  unfold entS at q
  cases hp : placeS n ws root vpn with
  | none =>
    rw [hp] at q
    simp only [Option.isSome_none, Bool.not_false, Br_true]
    refine put25 (k2.blk e1) fun h3 u3 e3 => ?_
    exact Ld_i (x := 0) (by rw [hcell_blk e3]; rfl) (Ld_i (x := 0) (by rw [hcell_blk e3]; rfl) (q h3 (u3.kept k12 (by omega))))
  | some p =>
    obtain ⟨f, i⟩ := p
    rw [hp] at q
    have hlt := placeS_lt hp
    simp only [Option.isSome_some, Bool.not_true, Br_false, plF, plI]
    refine M183 (m.kept k12) fun h3 k3 => ?_
    rw [wordF_in hlt.1 hlt.2.1]
    refine put25 (k3.blk (k2.blk e1)) fun h4 u4 e4 => ?_
    exact Ld_i (x := flg (wat ws f i)) (by rw [hcell_blk e4]; rfl) (Ld_i (x := ppn (wat ws f i)) (by rw [hcell_blk e4]; rfl) (q h4 (u4.kept (k12.trans k3) (by omega))))
def orS (v acc : Int) : Int := ((v.toNat ||| (if acc = 2 then 192 else 64) : Nat) : Int)
theorem orS_range {v : Int} (hv : 0 ≤ v ∧ v < 18446744073709551616) (acc : Int) : 0 ≤ orS v acc ∧ orS v acc < 18446744073709551616 := by
  unfold orS
  have : v.toNat ||| (if acc = 2 then 192 else 64) < 2 ^ 64 := Nat.or_lt_two_pow (by omega) (by split <;> omega)
  omega
/-- What a walk answers, and the words behind it. -/
def walkS (n : Nat) (ws : List Int) (root va acc : Int) (user : Bool) : (Int × Int × Int) × List Int :=
  if ¬ (canF va = true ∧ 0 ≤ root ∧ root < n) then ((2, 0, 0), ws) else
  match placeS n ws root (va / 4096 % 134217728) with
  | none => ((1, 0, 0), ws)
  | some (f, i) =>
    if ¬ (kindM (lo8 (flg (wat ws f i))) = 2 ∧ ppn (wat ws f i) < n) then ((1, 0, 0), ws) else
    if mayM (lo8 (flg (wat ws f i))) (wOf acc) user = false then ((3, 0, 0), ws) else
    ((0, ppn (wat ws f i), va % 4096), ws.set (f * 512 + i) (orS (wat ws f i) acc))
theorem walkS_ok {ws : List Int} (o : OkW n ws) (root va acc : Int) (user : Bool) : OkW n (walkS n ws root va acc user).2 := by
  unfold walkS
  repeat' split
  all_goals first | exact o | exact o.set _ (orS_range (o.get _) acc)
theorem M117 {root va acc : Int} {user : Bool} {Q : Int → Int → Int → H → Prop} (m : MW h bm bf n ws)
    (q : ∀ h' x y z ws', walkS n ws root va acc user = ((x, y, z), ws') → KB h bf h' → MW h' bm bf n ws' → Q x y z h') : F117 (some ⟨bm, 0, none⟩) root va acc user Q h := by
  rw [F117_eq]
  unfold B117
  have wrong : ¬ (canF va = true ∧ 0 ≤ root ∧ root < n) → ∀ h', Kept h h' → Q 2 0 0 h' := fun hh h' k => q h' 2 0 0 ws (by unfold walkS; rw [if_pos hh]) k.kb (m.kept k)
  refine JoinI (fun _ h' => h' = h ∧ canF va = true ∧ 0 ≤ root ∧ root < n) (fun J hJ => C49 ?_) ?_
  · cases hc : canF va
    · exact wrong (by rw [hc]; simp) h (Kept.refl h)
    · simp only [Bool.not_true, Br_false]
      refine Br_dec (fun hh => wrong (by omega) h (Kept.refl h)) fun h1 => M93 m (Br_dec (fun hh => wrong (by omega) h (Kept.refl h)) fun h2 => hJ () h ⟨rfl, hc, by omega, by omega⟩)
  rintro u h' ⟨rfl, hok⟩
  refine C43 ?_
  simp only [LetI]
  refine M120 m fun h1 k1 => ?_
  have m1 := m.kept k1
  have empty : placeS n ws root (va / 4096 % 134217728) = none → Q 1 0 0 h1 := fun e => q h1 1 0 0 ws (by unfold walkS; rw [if_neg (fun x => x hok), e]) k1.kb m1
  cases hp : placeS n ws root (va / 4096 % 134217728) with
  | none =>
    simp only [Option.isSome_none, Bool.not_false, Br_true]
    exact empty hp
  | some p =>
    obtain ⟨f, i⟩ := p
    have hlt := placeS_lt hp
    simp only [Option.isSome_some, Bool.not_true, Br_false, plF, plI]
    refine M183 m1 fun h2 k2 => ?_
    rw [wordF_in hlt.1 hlt.2.1]
    simp only
    have wr := m.ok.get (f * 512 + i)
    have sp : walkS n ws root va acc user = if ¬ (kindM (lo8 (flg (wat ws f i))) = 2 ∧ ppn (wat ws f i) < n) then ((1, 0, 0), ws) else
        if mayM (lo8 (flg (wat ws f i))) (wOf acc) user = false then ((3, 0, 0), ws) else ((0, ppn (wat ws f i), va % 4096), ws.set (f * 512 + i) (orS (wat ws f i) acc)) := by
      unfold walkS; rw [if_neg (fun x => x hok), hp]
    have hwat : wat ws f i = ws.getD (f * 512 + i) 0 := rfl
    rw [← hwat] at wr
    obtain ⟨v, hv⟩ : ∃ v, v = wat ws f i := ⟨_, rfl⟩
    rw [← hv] at sp wr ⊢
    refine Nw_intro fun w h3 hw k3 e3 => ?_
    rw [zero25] at e3
    simp only [add_mk]
    refine put25 e3 fun h4 u4 e4 => ?_
    have k24 : Kept h2 h4 := u4.kept k3 (by omega)
    have k4 := (k1.trans k2).trans k24
    have m4 := m.kept k4
    refine JoinI (fun _ h5 => Kept h4 h5 ∧ kindM (lo8 (flg v)) = 2 ∧ ppn v < n) (fun J hJ => ?_) ?_
    · refine Ld_i (x := flg v) (by rw [hcell_blk e4]; rfl) (Ld_i (x := ppn v) (by rw [hcell_blk e4]; rfl) (C53 fun h5 k5 => ?_))
      have k05 := k4.trans k5
      refine Br_bne_int (fun hh => q h5 1 0 0 ws (by rw [sp, if_pos (fun x => hh x.1)]) k05.kb (m.kept k05)) fun e2 => ?_
      refine Ld_i (x := ppn v) (by rw [hcell_blk (k5.blk e4)]; rfl) ⟨((n : Int), ()), M93 (m.kept k05) ⟨rfl, rfl⟩, ?_⟩
      refine Br_dec (fun (hh : ppn v ≥ (n : Int)) => q h5 1 0 0 ws (by rw [sp, if_pos (fun x => absurd x.2 (by omega))]) k05.kb (m.kept k05)) fun (hh : ¬ ppn v ≥ (n : Int)) => hJ () h5 ⟨k5, e2, by omega⟩
    · rintro u h5 ⟨k5, hk, hpp⟩
      have k05 := k4.trans k5
      rw [if_neg (fun x => x ⟨hk, hpp⟩)] at sp
      refine Ld_i (x := flg v) (by rw [hcell_blk (k5.blk e4)]; rfl) (Ld_i (x := ppn v) (by rw [hcell_blk (k5.blk e4)]; rfl) (C55 fun h6 k6 => ?_))
      have k06 := k05.trans k6
      cases hm : mayM (lo8 (flg v)) (wOf acc) user
      · exact q h6 3 0 0 ws (by rw [sp, if_pos hm]) k06.kb (m.kept k06)
      · rw [if_neg (by rw [hm]; simp)] at sp
        simp only [Bool.not_true, Br_false]
        refine JoinI (fun y h7 => h7 = h6 ∧ y.1 = if acc = 2 then 192 else 64) (fun J hJ => Br_beq_int (fun e => hJ _ h6 ⟨rfl, ?_⟩) fun e => hJ _ h6 ⟨rfl, ?_⟩) ?_
        · rw [if_pos e]; rfl
        · rw [if_neg e]
        · rintro ⟨s, u⟩ h7 ⟨rfl, hs⟩
          simp only at hs
          subst hs
          refine M83 (m.kept k06) ?_
          rw [wordF_in hlt.1 hlt.2.1]
          simp only
          rw [← hv]
          have eo : bOr .u64 v (if acc = 2 then 192 else 64) = orS v acc := by
            obtain ⟨x, rfl⟩ := Int.eq_ofNat_of_zero_le wr.1
            unfold orS
            split
            · exact bOr_u64 x 192 (by omega) (by omega)
            · exact bOr_u64 x 64 (by omega) (by omega)
          rw [eo]
          refine M82 (m.kept k06) (orS_range wr acc) fun h8 u8 m8 => ?_
          have e8 : IL h8 w 25 [flg v, ppn v] := u8.blk (k6.blk (k5.blk e4)) (by
            have := m.lt.2
            have := (k1.trans k2).1
            omega)
          refine Ld_i (x := ppn v) (by rw [hcell_blk e8]; rfl) ?_
          have es : setF n ws (f : Int) (i : Int) (orS v acc) = ws.set (f * 512 + i) (orS v acc) := by unfold setF; rw [if_pos (by omega)]; rfl
          rw [es] at m8
          exact q h8 0 (ppn v) (va % 4096) _ sp (k06.kb.trans u8) m8
end

section
variable {h : H} {rm rt n : Nat} {cs : List Nat} {ws : List Int}
theorem R170 {i : Int} {Q : Bool → H → Prop} (m : RW h rm rt cs n ws) (q : Q (decide (0 ≤ i ∧ i < n)) h) : F170 (some ⟨rm, 0, none⟩) i Q h := Y170 m.mem q
theorem R121 {root vpn : Int} {Q : Int → Int → Bool → H → Prop} (m : RW h rm rt cs n ws)
    (q : ∀ h', Kept h h' → Q (plF (placeS n ws root vpn)) (plI (placeS n ws root vpn)) (placeS n ws root vpn).isSome h') : F121 (some ⟨rm, 0, none⟩) root vpn Q h := by
  rw [F121_eq]
  unfold B121 JoinM
  have no : placeS n ws root vpn = none → ∀ h', Kept h h' → Q 0 0 false h' := by
    intro e h' k
    have := q h' k
    rw [e] at this; exact this
  have out : ¬ (0 ≤ root ∧ root < n ∧ 0 ≤ vpn ∧ vpn < 134217728) → ∀ h', Kept h h' → Q 0 0 false h' := fun hh => no (by unfold placeS; rw [if_neg hh])
  refine R170 m ?_
  by_cases hro : 0 ≤ root ∧ root < (n : Int)
  rotate_left
  · rw [decide_eq_false hro]
    exact out (fun x => hro ⟨x.1, x.2.1⟩) h (Kept.refl h)
  rw [decide_eq_true hro]
  simp only [Bool.not_true, Br_false]
  refine Br_dec (fun hh => out (by omega) h (Kept.refl h)) fun h3 => Br_dec (fun hh => out (by omega) h (Kept.refl h)) fun h4 => ?_
  have hin : 0 ≤ root ∧ root < n ∧ 0 ≤ vpn ∧ vpn < 134217728 := by omega
  obtain ⟨r, rfl⟩ := Int.eq_ofNat_of_zero_le hin.1
  have hr : r < n := by omega
  obtain ⟨i2, hi2⟩ := Int.eq_ofNat_of_zero_le (show 0 ≤ vpn / 262144 % 512 by omega)
  obtain ⟨i1, hi1⟩ := Int.eq_ofNat_of_zero_le (show 0 ≤ vpn / 512 % 512 by omega)
  have e2 : (vpn / 262144 % 512).toNat = i2 := by omega
  have e1 : (vpn / 512 % 512).toNat = i1 := by omega
  have pl : placeS n ws r vpn = (lead n (wat ws r i2)).bind fun m => (lead n (wat ws m i1)).map fun l => (l, (vpn % 512).toNat) := by
    unfold placeS; rw [if_pos hin, e2, e1]; rfl
  simp only [LetI]
  -- one level
  have step : ∀ (f i : Nat) (S : Int → H → Prop) (h5 : H), f < n → i < 512 → Kept h h5 → (lead n (wat ws f i) = none → ∀ h', Kept h h' → Q 0 0 false h') →
      (∀ x h', lead n (wat ws f i) = some x → Kept h h' → S (x : Int) h') →
      F91 (some ⟨rm, 0, none⟩) f i (fun r12 r13 h14 =>
        F52 r12 (fun r16 r17 h18 =>
        Nw h18 (zeroC Try.prog 25) 25 fun a19 h20 =>
        St h20 (a19.add 0) (.int .i64 r16) fun h21 =>
        St h21 (a19.add 1) (.int .i64 r17) fun h22 =>
        Ld (.i .i64) h22 (a19.add 0) fun x23 =>
        Ld (.i .i64) h22 (a19.add 1) fun x24 =>
        F54 x23 x24 (fun r25 h26 =>
        Br (r25 != 1)
        (Q 0 0 false h26)
        (Ld (.i .i64) h26 ((a19.add 1).add 0) fun x27 =>
        F170 (some ⟨rm, 0, none⟩) x27 (fun r28 h29 =>
        Br (!r28)
        (Q 0 0 false h29)
        (Ld (.i .i64) h29 ((a19.add 1).add 0) fun x30 =>
        S x30 h29)) h26)) h22) h14) h5 := by
    intro f i S h5 hf hi k5 hno hyes
    refine R91 (m.kept k5) ?_
    rw [wordF_in hf hi]
    simp only
    refine C52 (m.ok.get _) fun h6 k6 => Nw_intro fun w h7 hw k7 e7 => ?_
    rw [zero25] at e7
    simp only [add_mk]
    refine put25 e7 fun h8 u8 e8 => ?_
    have k68 : Kept h6 h8 := u8.kept k7 (by omega)
    have k8 := (k5.trans k6).trans k68
    have e8 : IL h8 w 25 [flg (wat ws f i), ppn (wat ws f i)] := e8
    refine Ld_i (x := flg (wat ws f i)) (by rw [hcell_blk e8]; rfl) (Ld_i (x := ppn (wat ws f i)) (by rw [hcell_blk e8]; rfl) (C54 fun h9 k9 => ?_))
    have k09 := k8.trans k9
    have pn := ppn_nn (wat ws f i)
    refine Br_bne_int (fun hh => hno (by unfold lead; rw [if_neg (fun x => hh x.1)]) h9 k09) fun e => ?_
    refine Ld_i (x := ppn (wat ws f i)) (by rw [hcell_blk (k9.blk e8)]; rfl) (R170 (m.kept k09) ?_)
    by_cases hh : ppn (wat ws f i) < (n : Int)
    · rw [decide_eq_true ⟨pn.1, hh⟩]
      simp only [Bool.not_true, Br_false]
      refine Ld_i (x := ppn (wat ws f i)) (by rw [hcell_blk (k9.blk e8)]; rfl) ?_
      have := hyes (ppn (wat ws f i)).toNat h9 (by unfold lead; rw [if_pos ⟨e, hh⟩]) k09
      rw [show (((ppn (wat ws f i)).toNat : Nat) : Int) = ppn (wat ws f i) by omega] at this
      exact this
    · rw [decide_eq_false (fun x => hh x.2)]
      simp only [Bool.not_false, Br_true]
      exact hno (by unfold lead; rw [if_neg (fun x => hh x.2)]) h9 k09
  refine Loop_intro (σ := Int × Int × Unit) (x := ((r : Int), 2, ())) (fun c z h' => Kept h h' ∧ ∃ f : Nat, f < n ∧ z.1 = (f : Int) ∧ z.2.1 = (c : Int) ∧
      ((c = 2 ∧ f = r) ∨ (c = 1 ∧ lead n (wat ws r i2) = some f) ∨ (c = 0 ∧ ∃ mm, lead n (wat ws r i2) = some mm ∧ lead n (wat ws mm i1) = some f))) 2 ⟨Kept.refl h, r, hr, rfl, rfl, .inl ⟨rfl, rfl⟩⟩ ?_
  rintro c ⟨zf, zl, u⟩ h5 ⟨k5, f, hf, hzf, hzl, hc⟩
  simp only at hzf hzl
  subst hzf hzl
  have m5 := m.kept k5
  rcases hc with ⟨rfl, rfl⟩ | ⟨rfl, hl⟩ | ⟨rfl, mm, hl2, hl1⟩
  · refine Br_dec (fun _ => C46 ?_) fun e => absurd e (by simp)
    have : idxF vpn ((2 : Nat) : Int) = (i2 : Int) := by rw [show ((2 : Nat) : Int) = 2 from rfl, idx2, hi2]
    simp only [this]
    refine step f i2 _ h5 hf (by omega) k5 (fun e => no (by rw [pl, e]; rfl)) fun x h6 hl k6 => ?_
    exact ⟨1, by omega, k6, x, lead_lt hl, rfl, by rfl, .inr (.inl ⟨rfl, hl⟩)⟩
  · refine Br_dec (fun _ => C46 ?_) fun e => absurd e (by simp)
    have : idxF vpn ((1 : Nat) : Int) = (i1 : Int) := by rw [show ((1 : Nat) : Int) = 1 from rfl, idx1, hi1]
    simp only [this]
    refine step f i1 _ h5 hf (by omega) k5 (fun e => no (by rw [pl, hl]; simp [e])) fun x h6 hl' k6 => ?_
    exact ⟨0, by omega, k6, x, lead_lt hl', rfl, by rfl, .inr (.inr ⟨rfl, f, hl, hl'⟩)⟩
  · refine Br_dec (fun e => absurd e (by simp)) fun _ => C46 ?_
    have pl' : placeS n ws r vpn = some (f, (vpn % 512).toNat) := by rw [pl, hl2]; simp [hl1]
    have := q h5 k5
    rw [pl'] at this
    rw [idx0]
    simp only [plF, plI, Option.isSome_some] at this
    rw [show (((vpn % 512).toNat : Nat) : Int) = vpn % 512 by omega] at this
    exact this
theorem R123 {root vpn : Int} {Q : Int → Int → Bool → H → Prop} (m : RW h rm rt cs n ws)
    (q : ∀ h', Kept h h' → Q (flg ((entS n ws root vpn).getD 0)) (ppn ((entS n ws root vpn).getD 0)) (entS n ws root vpn).isSome h') : F123 (some ⟨rm, 0, none⟩) root vpn Q h := by
  rw [F123_eq]
  refine Nw_intro fun w h1 hw k1 e1 => ?_
  rw [zero25] at e1
  refine R121 (m.kept k1) fun h2 k2 => ?_
  simp only [LetI, add_mk]
  have k12 := k1.trans k2
  unfold entS at q
  cases hp : placeS n ws root vpn with
  | none =>
    rw [hp] at q
    simp only [Option.isSome_none, Bool.not_false, Br_true]
    refine put25 (k2.blk e1) fun h3 u3 e3 => ?_
    exact Ld_i (x := 0) (by rw [hcell_blk e3]; rfl) (Ld_i (x := 0) (by rw [hcell_blk e3]; rfl) (q h3 (u3.kept k12 (by omega))))
  | some p =>
    obtain ⟨f, i⟩ := p
    rw [hp] at q
    have hlt := placeS_lt hp
    simp only [Option.isSome_some, Bool.not_true, Br_false, plF, plI]
    refine R91 (m.kept k12) ?_
    rw [wordF_in hlt.1 hlt.2.1]
    simp only
    refine C52 (m.ok.get _) fun h3 k3 => ?_
    refine put25 (k3.blk (k2.blk e1)) fun h4 u4 e4 => ?_
    have e4 : IL h4 w 25 [flg (wat ws f i), ppn (wat ws f i)] := e4
    exact Ld_i (x := flg (wat ws f i)) (by rw [hcell_blk e4]; rfl) (Ld_i (x := ppn (wat ws f i)) (by rw [hcell_blk e4]; rfl) (q h4 (u4.kept (k12.trans k3) (by omega))))
theorem R118 {root va acc : Int} {user : Bool} {Q : Int → Int → Int → H → Prop} (m : RW h rm rt cs n ws) (hva : -9223372036854775808 ≤ va ∧ va ≤ 9223372036854775807)
    (q : ∀ h' x y z ws', walkS n ws root va acc user = ((x, y, z), ws') → KL h cs h' → RW h' rm rt cs n ws' → Q x y z h') : F118 (some ⟨rm, 0, none⟩) root va acc user Q h := by
  rw [F118_eq]
  unfold B118
  have wrong : ¬ (canF va = true ∧ 0 ≤ root ∧ root < n) → ∀ h', Kept h h' → Q 2 0 0 h' := fun hh h' k => q h' 2 0 0 ws (by unfold walkS; rw [if_pos hh]) k.kl (m.kept k)
  refine JoinI (fun _ h' => h' = h ∧ canF va = true ∧ 0 ≤ root ∧ root < n) (fun J hJ => C50 hva ?_) ?_
  · cases hc : canF va
    · exact wrong (by rw [hc]; simp) h (Kept.refl h)
    · simp only [Bool.not_true, Br_false]
      refine R170 m ?_
      by_cases hr : 0 ≤ root ∧ root < (n : Int)
      · rw [decide_eq_true hr]; exact hJ () h ⟨rfl, hc, hr⟩
      · rw [decide_eq_false hr]; exact wrong (fun x => hr x.2) h (Kept.refl h)
  rintro u h' ⟨rfl, hok⟩
  refine C45 ?_
  simp only [LetI]
  refine R121 m fun h1 k1 => ?_
  have m1 := m.kept k1
  have empty : placeS n ws root (va / 4096 % 134217728) = none → Q 1 0 0 h1 := fun e => q h1 1 0 0 ws (by unfold walkS; rw [if_neg (fun x => x hok), e]) k1.kl m1
  cases hp : placeS n ws root (va / 4096 % 134217728) with
  | none =>
    simp only [Option.isSome_none, Bool.not_false, Br_true]
    exact empty hp
  | some p =>
    obtain ⟨f, i⟩ := p
    have hlt := placeS_lt hp
    simp only [Option.isSome_some, Bool.not_true, Br_false, plF, plI]
    refine R91 m1 ?_
    rw [wordF_in hlt.1 hlt.2.1]
    simp only
    have wr := m.ok.get (f * 512 + i)
    have sp : walkS n ws root va acc user = if ¬ (kindM (lo8 (flg (wat ws f i))) = 2 ∧ ppn (wat ws f i) < n) then ((1, 0, 0), ws) else
        if mayM (lo8 (flg (wat ws f i))) (wOf acc) user = false then ((3, 0, 0), ws) else ((0, ppn (wat ws f i), va % 4096), ws.set (f * 512 + i) (orS (wat ws f i) acc)) := by
      unfold walkS; rw [if_neg (fun x => x hok), hp]
    have hwat : wat ws f i = ws.getD (f * 512 + i) 0 := rfl
    rw [← hwat] at wr
    obtain ⟨v, hv⟩ : ∃ v, v = wat ws f i := ⟨_, rfl⟩
    rw [← hv] at sp wr ⊢
    refine C52 wr fun h2 k2 => Nw_intro fun w h3 hw k3 e3 => ?_
    rw [zero25] at e3
    simp only [add_mk]
    refine put25 e3 fun h4 u4 e4 => ?_
    have e4 : IL h4 w 25 [flg v, ppn v] := e4
    have k24 : Kept h2 h4 := u4.kept k3 (by omega)
    have k4 := (k1.trans k2).trans k24
    have pn := ppn_nn v
    refine JoinI (fun _ h5 => Kept h4 h5 ∧ (kindM (lo8 (flg v)) = 2 ∧ ppn v < n) ∧ mayM (lo8 (flg v)) (wOf acc) user = true) (fun J hJ => ?_) ?_
    · refine Ld_i (x := flg v) (by rw [hcell_blk e4]; rfl) (Ld_i (x := ppn v) (by rw [hcell_blk e4]; rfl) (C54 fun h5 k5 => ?_))
      have k05 := k4.trans k5
      refine Br_bne_int (fun hh => q h5 1 0 0 ws (by rw [sp, if_pos (fun x => hh x.1)]) k05.kl (m.kept k05)) fun e2 => ?_
      refine Ld_i (x := ppn v) (by rw [hcell_blk (k5.blk e4)]; rfl) (R170 (m.kept k05) ?_)
      by_cases hh : ppn v < (n : Int)
      · rw [decide_eq_true ⟨pn.1, hh⟩]
        simp only [Bool.not_true, Br_false]
        refine Ld_i (x := flg v) (by rw [hcell_blk (k5.blk e4)]; rfl) (Ld_i (x := ppn v) (by rw [hcell_blk (k5.blk e4)]; rfl) (C57 fun h6 k6 => ?_))
        have k06 := k05.trans k6
        cases hm : mayM (lo8 (flg v)) (wOf acc) user
        · exact q h6 3 0 0 ws (by rw [sp, if_neg (fun x => x ⟨e2, hh⟩), if_pos hm]) k06.kl (m.kept k06)
        · exact hJ () h6 ⟨k5.trans k6, ⟨e2, hh⟩, hm⟩
      · rw [decide_eq_false (fun x => hh x.2)]
        exact q h5 1 0 0 ws (by rw [sp, if_pos (fun x => hh x.2)]) k05.kl (m.kept k05)
    · rintro u h5 ⟨k5, hk, hm⟩
      have k05 := k4.trans k5
      rw [if_neg (fun x => x hk), if_neg (by rw [hm]; simp)] at sp
      have e1 : bOr .u64 v 64 = ((v.toNat ||| 64 : Nat) : Int) := by
        obtain ⟨x, rfl⟩ := Int.eq_ofNat_of_zero_le wr.1
        exact bOr_u64 x 64 (by omega) (by omega)
      have l1 : v.toNat ||| 64 < 2 ^ 64 := Nat.or_lt_two_pow (by omega) (by omega)
      refine JoinI (fun y h7 => h7 = h5 ∧ y.1 = orS v acc) (fun J hJ => Br_beq_int (fun e => hJ _ h5 ⟨rfl, ?_⟩) fun e => hJ _ h5 ⟨rfl, ?_⟩) ?_
      · show bOr .u64 (bOr .u64 v 64) 128 = _
        rw [e1]
        have := bOr_u64 (v.toNat ||| 64) 128 l1 (by omega)
        rw [show ((128 : Nat) : Int) = 128 from rfl] at this
        rw [this]; unfold orS; rw [if_pos e, Nat.or_assoc]; rfl
      · show bOr .u64 v 64 = _
        rw [e1]; unfold orS; rw [if_neg e]
      · rintro ⟨s, u⟩ h7 ⟨rfl, hs⟩
        simp only at hs
        subst hs
        refine R166 (m.kept k05) (orS_range wr acc) fun h8 u8 m8 => ?_
        have e8 : IL h8 w 25 [flg v, ppn v] := u8.blk (k5.blk e4) (fun hx => by
          have := (m.mem.kept (k1.trans k2)).lt.2.2 w hx
          omega)
        refine Ld_i (x := ppn v) (by rw [hcell_blk e8]; rfl) ?_
        have es : setF n ws (f : Int) (i : Int) (orS v acc) = ws.set (f * 512 + i) (orS v acc) := by unfold setF; rw [if_pos (by omega)]; rfl
        rw [es] at m8
        exact q h8 0 (ppn v) (va % 4096) _ sp (k05.kl.trans u8) m8
end
end Go.Proofs.Ytfijchofplkcoaa
