/-
  The laws PhysBytes and PhysOwn hold over the heap predicates.
-/
import Derived.Test.YtfijchofplkcoaaDb
set_option linter.unusedVariables false
set_option linter.unusedSimpArgs false
set_option maxRecDepth 100000
namespace Go.Proofs.Ytfijchofplkcoaa

theorem frame_set {xs : List Int} {j k : Nat} {v : Int} (hk : k < 4096) : frame (xs.set (j * 4096 + k) v) j = (frame xs j).set k v := by
  unfold frame
  rw [List.drop_set, if_neg (by omega), List.take_set]
  congr 1
  omega
theorem SB.frame {h : H} {c : Nat} {ys : List Int} (B : BL h c 5 ys) (hl : 4096 ≤ ys.length) (hb : ∀ x ∈ ys, 0 ≤ x ∧ x < 256) (cap : Nat) : SB h ⟨some ⟨c, 0, none⟩, 4096, cap⟩ (ys.take 4096) :=
  SB.row B hl hb

theorem L14 {a0 : Option Addr} {l0 c0 : Nat} {at_ v : Int} {Q : Bool → H → Prop} {h : H} (o0 : Opn h (.slice (.int .u8)) [.slice a0 l0 c0]) (hat : 0 ≤ at_ ∧ at_ < 18446744073709551616) (hv : 0 ≤ v ∧ v < 256)
    (q : ∀ h', Kept h h' → Q true h') : F14 ⟨a0, l0, c0⟩ at_ v Q h := by
  obtain ⟨bs, sb⟩ := SB.of o0
  rw [F14_eq]
  refine C61 (n := 2) (by omega) (by omega) fun bm bf h1 k1 hbm hbf m => ?_
  simp only [JoinM, Option.isNone_some, Br_false, Bool.not_false, Br_true]
  have liv : ∀ h', Kept h h' → F62 (fun r6 h7 => Q r6 h7) h' := fun h' k => C62 fun h9 k9 => q h9 (k.trans k9)
  refine Br_dec (fun hl => ?_) fun _ => ?_
  · rw [decide_eq_true hl]; exact liv h1 k1
  refine C63 m (sb.kept k1) (fun j h2 hj _ u2 m2 => ?_) fun hh => absurd hh (by omega)
  obtain rfl : j = 1 := by omega
  simp only [Bool.not_true, Br_false]
  have k2 := u2.kept k1 hbf
  refine C64 m2 (fun j c cap ys h3 hj _ k3 hc B3 hy hyl hyb => ?_) fun hh => absurd hh (by omega)
  obtain rfl : j = 1 := by omega
  have k03 := k2.trans k3
  have m3 := m2.kept k3
  have hbf2 : bf < h2.size := (Array.getElem?_eq_some_iff.1 (show h2[bf]? = some _ from m2.row)).1
  have hbm2 : bm < h2.size := (Array.getElem?_eq_some_iff.1 m2.top).1
  refine ⟨by omega, ?_⟩
  obtain ⟨k, hk⟩ : ∃ k : Nat, k = (at_ % 4096).toNat := ⟨_, rfl⟩
  have ek : IntKind.wrap .i64 (Int.tmod at_ 4096) = (k : Int) := by
    rw [Int.tmod_eq_emod_of_nonneg hat.1, hk, wrap_i64'] <;> omega
  rw [ek]
  have hk4 : k < 4096 := by omega
  refine C74 m3 hv (fun j k' h4 hj hk' _ _ u4 m4 => ?_) fun hh => absurd hh (by omega)
  obtain rfl : j = 1 := by omega
  obtain rfl : k' = k := by omega
  simp only [Bool.not_true, Br_false]
  refine C74 m4 hv (fun j k'' h5 hj hk' _ h6 _ _ => by omega) fun _ => ?_
  try simp only [Br_false]
  refine C74 m4 hv (fun j k'' h5 hj hk' h6 _ _ _ => by omega) fun _ => ?_
  rw [Br_false]
  refine Br_bne_int (fun hh => absurd rfl hh) fun _ => ?_
  refine ⟨⟨by omega, by simp; omega⟩, ?_⟩
  simp only [add_mk, Int.toNat_natCast, Nat.mul_one, Nat.add_zero, Nat.zero_add]
  have B4 : BL h4 c 5 ys := B3.upd u4 (by omega)
  refine St_B B4 (by omega) fun h5 u5 B5 => ?_
  have m5 := m4.other u5 (by omega) (by omega)
  refine C64 m5 (fun j c' cap' zs h6 hj _ k6 hc' B6 hz hzl hzb => ?_) fun hh => absurd hh (by omega)
  obtain rfl : j = 1 := by omega
  have S6 := SB.frame B6 hzl hzb cap'
  have hb5 : ∀ x ∈ ys.set k' v, 0 ≤ x ∧ x < 256 := by
    intro x hx
    rcases List.mem_or_eq_of_mem_set hx with hx | rfl
    · exact hyb x hx
    · exact hv
  have T6 := (SB.frame B5 (by simp; omega) hb5 cap).kept k6
  have eq : zs.take 4096 = (ys.set k' v).take 4096 := by
    rw [hz, frame_set hk4, List.take_set, hy]
  rw [eq] at S6
  refine C65 S6 T6 ?_
  refine liv _ ?_
  have hb : bf ≥ h.size := hbf
  have k4 : Kept h h4 := u4.kb.kept k03 hbf
  have k5 : Kept h h5 := u5.kb.kept k4 (by have := k2.1; omega)
  exact k5.trans k6

theorem L11 {a0 : Option Addr} {l0 c0 : Nat} {at_ : Int} {Q : Bool → H → Prop} {h : H} (o0 : Opn h (.slice (.int .u8)) [.slice a0 l0 c0]) (hat : 0 ≤ at_ ∧ at_ < 18446744073709551616)
    (q : ∀ h', Kept h h' → Q true h') : F11 ⟨a0, l0, c0⟩ at_ Q h := by
  obtain ⟨bs, sb⟩ := SB.of o0
  have hbl : bs.length = l0 := sb.1
  rw [F11_eq]
  refine C61 (n := 1) (by omega) (by omega) fun bm bf h1 k1 hbm hbf m => ?_
  simp only [JoinM, Option.isNone_some, Br_false, Bool.not_false, Br_true]
  have liv : ∀ h', Kept h h' → F62 (fun r6 h7 => Q r6 h7) h' := fun h' k => C62 fun h9 k9 => q h9 (k.trans k9)
  refine Br_dec (fun hl => liv h1 k1) fun hl5 => ?_
  have hl5 : l0 ≤ 5000 := by simp at hl5; omega
  refine Nw_intro fun e0 h2 he0 k2 E0 => ?_
  have sb2 := (sb.kept k1).kept k2
  have m2 := m.kept k2
  have rest : ∀ (c cap : Nat) (ys : List Int) (h3 : H), Kept h2 h3 → h1.size ≤ c → BL h3 c 5 ys → l0 ≤ ys.length → (∀ x ∈ ys, 0 ≤ x ∧ x < 256) →
      F63 (some ⟨bm, 0, none⟩) 0 ⟨some ⟨c, 0, none⟩, l0, cap⟩ (fun r14 h15 =>
  F64 (some ⟨bm, 0, none⟩) 0 (fun r16 h17 =>
  LoopM (σ := Int × Unit) (fun self18 z19 h20 =>
  Br (decide (z19.1 < ((l0 : Nat) : Int)))
  (IdxS (some ⟨c, 0, none⟩) l0 z19.1 fun a22 =>
  Ld (.i .u8) h20 ((a22.add (Int.toNat z19.1 * 1)).add 0) fun x23 =>
  IdxS (some ⟨c, 0, none⟩) l0 z19.1 fun a24 =>
  St h20 ((a24.add (Int.toNat z19.1 * 1)).add 0) (.int .u8 (IntKind.wrap .u8 (x23 + 1))) fun h25 =>
  self18 ((IntKind.wrap .i64 (z19.1 + 1)), ()) h25)
  (F64 (some ⟨bm, 0, none⟩) 0 (fun r26 h27 =>
  Br (((r26.len : Nat) : Int) != 4096)
  (Q false h27)
  (Asr ((4096 : Int) ≠ 0)
  (IdxS r26.a r26.len (Int.tmod at_ 4096) fun a28 =>
  Ld (.i .u8) h27 ((a28.add (Int.toNat (Int.tmod at_ 4096) * 1)).add 0) fun x29 =>
  IdxS r26.a r26.len (Int.tmod at_ 4096) fun a30 =>
  St h27 ((a30.add (Int.toNat (Int.tmod at_ 4096) * 1)).add 0) (.int .u8 (IntKind.wrap .u8 (x29 + 1))) fun h31 =>
  F64 (some ⟨bm, 0, none⟩) 0 (fun r32 h33 =>
  F65 r32 r16 (fun r34 h35 =>
  Br r34
  (F62  (fun r36 h37 =>
  Q r36 h37) h35)
  (Q false h35)) h33) h31))) h20)) (0, ()) h17) h15) h3 := by
    intro c cap ys h3 k3 hc B3 hl hyb
    have m3 := m2.kept k3
    have hbf1 : bf < h1.size := (Array.getElem?_eq_some_iff.1 (show h1[bf]? = some _ from m.row)).1
    have hbm1 : bm < h1.size := (Array.getElem?_eq_some_iff.1 m.top).1
    have hc3 : c < h3.size := (Array.getElem?_eq_some_iff.1 (show h3[c]? = some _ from B3)).1
    have k03 : Kept h h3 := (k1.trans k2).trans k3
    refine C63 m3 (SB.row B3 hl hyb (c := cap)) (fun j h4 hj _ u4 m4 => ?_) fun hh => absurd hh (by omega)
    obtain rfl : j = 0 := by omega
    have k04 := u4.kept k03 hbf
    have B4 : BL h4 c 5 ys := u4.blk B3 (by omega)
    refine C64 m4 (fun j p pc ps h5 hj _ k5 hp B5 hps hpl hpb => ?_) fun hh => absurd hh (by omega)
    obtain rfl : j = 0 := by omega
    have hcp : c ≠ p := by have := u4.1; omega
    refine Loop_intro (σ := Int × Unit) (x := (0, ())) (fun k z h' => ∃ i : Nat, z.1 = (i : Int) ∧ k = l0 - i ∧ i ≤ l0 ∧ Kept h h' ∧ Kept h1 h1 ∧ (∃ zs, BL h' c 5 zs ∧ l0 ≤ zs.length) ∧ Mem h' bm bf 1 (splice (List.replicate (1 * 4096) 0) (0 * 4096) (fillB (List.take l0 ys))) ∧ BL h' p 5 ps ∧ p < h'.size) l0
      ⟨0, rfl, rfl, by omega, k04.trans k5, Kept.refl h1, ⟨ys, B4.kept k5, hl⟩, m4.kept k5, B5, (Array.getElem?_eq_some_iff.1 (show h5[p]? = some _ from B5)).1⟩ ?_
    rintro k ⟨ii, u⟩ h6 ⟨i, hi, hk, hil, K6, _, ⟨zs, Z6, zl⟩, m6, P6, hp6⟩
    simp only at hi
    subst hi
    refine Br_dec (fun hlt => ?_) fun _ => ?_
    · have hlt : i < l0 := by simp at hlt; omega
      refine ⟨⟨by simp, by simp; omega⟩, ?_⟩
      simp only [add_mk, Int.toNat_natCast, Nat.mul_one, Nat.add_zero, Nat.zero_add]
      refine Ld_i (Z6.cell (i := i) (by omega)) ⟨⟨by simp, by simp; omega⟩, ?_⟩
      simp only [add_mk, Nat.zero_add]
      refine St_B Z6 (by omega) fun h7 u7 Z7 => ?_
      refine ⟨l0 - (i + 1), by omega, i + 1, by show IntKind.wrap .i64 ((i : Int) + 1) = _; rw [wrap_i64' _ (by omega) (by omega)]; omega, rfl, by omega, ?_, Kept.refl h1, ⟨_, Z7, by simp; omega⟩, m6.other u7 (by omega) (by omega), P6.upd u7 (Ne.symm hcp), by rw [u7.1]; exact hp6⟩
      exact u7.kb.kept K6 (by have := k1.1; omega)
    · refine C64 m6 (fun j r rc rs h7 hj _ k7 hr B7 hrs hrl hrb => ?_) fun hh => absurd hh (by omega)
      obtain rfl : j = 0 := by omega
      refine Br_bne_int (fun hh => absurd rfl hh) fun _ => ⟨by omega, ?_⟩
      obtain ⟨t, ht⟩ : ∃ t : Nat, t = (at_ % 4096).toNat := ⟨_, rfl⟩
      have et : Int.tmod at_ 4096 = (t : Int) := by rw [Int.tmod_eq_emod_of_nonneg hat.1]; omega
      rw [et]
      have ht4 : t < 4096 := by omega
      refine ⟨⟨by omega, by simp; omega⟩, ?_⟩
      simp only [add_mk, Int.toNat_natCast, Nat.mul_one, Nat.add_zero, Nat.zero_add]
      refine Ld_i (B7.cell (i := t) (by omega)) ⟨⟨by omega, by simp; omega⟩, ?_⟩
      simp only [add_mk, Nat.zero_add]
      refine St_B B7 (by omega) fun h8 u8 B8 => ?_
      have hbf6 : bf < h6.size := (Array.getElem?_eq_some_iff.1 (show h6[bf]? = some _ from m6.row)).1
      have hbm6 : bm < h6.size := (Array.getElem?_eq_some_iff.1 m6.top).1
      have m8 := (m6.kept k7).other u8 (by omega) (by omega)
      have P8 := (P6.kept k7).upd u8 (by omega)
      refine C64 m8 (fun j s sc ss h9 hj _ k9 hs B9 hss hsl hsb => ?_) fun hh => absurd hh (by omega)
      obtain rfl : j = 0 := by omega
      have S9 := SB.frame B9 hsl hsb sc
      have T9 := (SB.frame P8 hpl hpb pc).kept k9
      rw [hss, ← hps] at S9
      refine C65 S9 T9 (liv _ ?_)
      exact (u8.kb.kept (K6.trans k7) (by have := K6.1; omega)).trans k9
  have e1 : h1.size ≤ e0 := by omega
  refine ⟨bs.map (Value.int .u8), ⟨by simp [hbl], sb2.2.1, oneB _⟩, ?_⟩
  by_cases hz : l0 = 0
  · left
    subst hz
    have hb0 : bs = [] := List.eq_nil_of_length_eq_zero hbl
    subst hb0
    refine ⟨by simp, fun a ha j hj => by simp at hj, ?_⟩
    simp only [List.map_nil, hsetL]
    exact rest e0 0 [] h2 (Kept.refl h2) e1 (by unfold BL; rw [E0]; rfl) (by simp) (by simp)
  · right
    refine ⟨by simp; omega, by simp; omega, [], ⟨rfl, fun j v hv => by simp at hv, by simp⟩, fun cap hcap => ?_⟩
    have e : (([] : List Value).toArray ++ (bs.map (Value.int .u8)).toArray ++ zerosC Try.prog 5 (cap - (0 + l0))) = V8 (bs ++ List.replicate (cap - (0 + l0)) 0) := by
      rw [zeros5]; simp [V8]
    simp only at e ⊢
    rw [e]
    have := rest h2.size cap (bs ++ List.replicate (cap - (0 + l0)) 0) _ (Kept.new h2 (V8 (bs ++ List.replicate (cap - (0 + l0)) 0)) 5) (by have := k2.1; omega) (new_blk h2 _ _) (by simp; omega) ?_
    · simp only [Nat.zero_add] at this ⊢; exact this
    · intro x hx
      simp only [List.mem_append] at hx
      rcases hx with hx | hx
      · exact sb.2.2 x hx
      · have := List.eq_of_mem_replicate hx; omega
end Go.Proofs.Ytfijchofplkcoaa
