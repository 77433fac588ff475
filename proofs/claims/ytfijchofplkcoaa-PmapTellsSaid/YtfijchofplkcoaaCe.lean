/-
  The laws PteCodes, PteKinds, PteRights, PteGrants hold over the heap predicates.
-/
import Derived.Test.YtfijchofplkcoaaCd
set_option linter.unusedVariables false
set_option linter.unusedSimpArgs false
set_option maxRecDepth 100000
namespace Go.Proofs.Ytfijchofplkcoaa

theorem L7 {f p v : Int} {Q : Bool → H → Prop} {h : H} (hv : 0 ≤ v ∧ v < 18446744073709551616) (q : ∀ h', Kept h h' → Q true h') : F7 f p v Q h := by
  rw [F7_eq]
  refine Nw_intro fun n h2 hn k2 e2 => ?_
  refine C40 hv fun h3 k3 => ?_
  refine Nw_intro fun m h4 hm k4 e4 => ?_
  rw [zero25] at e4
  simp only [add_mk]
  refine St_intro e4 (by simp) fun h5 u5 e5 => ?_
  refine St_intro e5 (by simp) fun h6 u6 e6 => ?_
  have k6 : Kept h3 h6 := u6.kept (u5.kept k4 (by omega)) (by omega)
  have e2' := (k3.trans k6).blk e2
  have c0 : hcell h6 ⟨n, 0 + 0, none⟩ = some (.int .i64 f) := by rw [hcell_blk e2']; rfl
  have c1 : hcell h6 ⟨n, 0 + 1, none⟩ = some (.int .i64 p) := by rw [hcell_blk e2']; rfl
  have d0 : hcell h6 ⟨m, 0 + 0, none⟩ = some (.int .i64 (v % 256)) := by rw [hcell_blk e6]; rfl
  have d1 : hcell h6 ⟨m, 0 + 1, none⟩ = some (.int .i64 (v / 1024 % 17592186044416)) := by rw [hcell_blk e6]; rfl
  have K6 : Kept h h6 := (k2.trans k3).trans k6
  refine Ld_i c0 (Ld_i c1 (Ld_i c0 (Ld_i c1 (C41 fun h7 k7 => ⟨⟨k7.cell c0, k7.cell c1, trivial⟩, C51 fun h8 k8 => ?_⟩))))
  simp only [beq_self_eq_true, Br_true]
  have k68 := k7.trans k8
  refine Ld_i (k68.cell d0) (Ld_i (k68.cell d1) (C52 hv fun h9 k9 => ⟨⟨(k68.trans k9).cell d0, (k68.trans k9).cell d1, trivial⟩, ?_⟩))
  simp only [beq_self_eq_true, Br_true, Bool.and_self]
  have k69 := k68.trans k9
  refine Ld_i (k69.cell c0) (Ld_i (k69.cell c1) (Ld_i (k69.cell c0) (Ld_i (k69.cell c1) (C53 fun h10 k10 => ⟨⟨(k69.trans k10).cell c0, (k69.trans k10).cell c1, trivial⟩, C54 fun h11 k11 => ?_⟩))))
  simp only [beq_self_eq_true, Br_true]
  have k6b := (k69.trans k10).trans k11
  refine Ld_i (k6b.cell d0) (Ld_i (k6b.cell d1) (Ld_i (k6b.cell d0) (Ld_i (k6b.cell d1) (C53 fun h12 k12 => ⟨⟨(k6b.trans k12).cell d0, (k6b.trans k12).cell d1, trivial⟩, C54 fun h13 k13 => ?_⟩))))
  simp only [beq_self_eq_true, Br_true]
  exact C42 fun h14 k14 => q h14 (K6.trans (((k6b.trans k12).trans k13).trans k14))

theorem key_k : ∀ m, m < 256 → ((m &&& 1 == 0) = true → kindM m = 0) ∧ (decide (0 < m &&& 1) = true → (m &&& 14 == 0) = true → kindM m = 1) ∧ ((m &&& 6 == 4) = true → kindM m = 0) ∧ (kindM m = 0 ∨ kindM m = 1 ∨ kindM m = 2) := by
  have : ∀ m, m < 256 → (((m &&& 1 == 0) = true → kindM m = 0) ∧ (decide (0 < m &&& 1) = true → (m &&& 14 == 0) = true → kindM m = 1) ∧ ((m &&& 6 == 4) = true → kindM m = 0) ∧ (kindM m = 0 ∨ kindM m = 1 ∨ kindM m = 2)) := by decide +kernel
  exact this

theorem L8 {f p a : Int} {u : Bool} {Q : Bool → H → Prop} {h : H} (q : ∀ h', Kept h h' → Q true h') : F8 f p a u Q h := by
  rw [F8_eq]
  refine Nw_intro fun n h2 hn k2 e2 => ?_
  simp only [add_mk]
  have c0 : hcell h2 ⟨n, 0 + 0, none⟩ = some (.int .i64 f) := by rw [hcell_blk e2]; rfl
  have c1 : hcell h2 ⟨n, 0 + 1, none⟩ = some (.int .i64 p) := by rw [hcell_blk e2]; rfl
  refine Ld_i c0 (Ld_i c1 (C53 fun h3 k3 => ?_))
  simp only [LetI]
  refine Ld_i (k3.cell c0) ?_
  have hm := lo8_lt f
  obtain ⟨y1, y2, y3, y4⟩ := key_k _ hm
  have e1 := bA8 f 1 (by omega)
  have e6 := bA8 f 6 (by omega)
  have e14 := bA8 f 14 (by omega)
  have g1 : (bAnd .i64 f 1 == 0) = (lo8 f &&& 1 == 0) := by rw [show (1 : Int) = ((1 : Nat) : Int) from rfl, e1]; exact beqN _ 0
  have g1' : decide (bAnd .i64 f 1 > 0) = decide (0 < lo8 f &&& 1) := by rw [show (1 : Int) = ((1 : Nat) : Int) from rfl, e1]; exact gtN _
  have g6 : (bAnd .i64 f 6 == 4) = (lo8 f &&& 6 == 4) := by rw [show (6 : Int) = ((6 : Nat) : Int) from rfl, e6]; exact beqN _ 4
  have g14 : (bAnd .i64 f 14 == 0) = (lo8 f &&& 14 == 0) := by rw [show (14 : Int) = ((14 : Nat) : Int) from rfl, e14]; exact beqN _ 0
  rw [g1, g1', g6, g14]
  have rest : Br (decide (kindM (lo8 f) ≥ 0)) (Br (decide (kindM (lo8 f) ≤ 2)) (Br (kindM (lo8 f) == 2) (F42 (fun r13 h14 => Q r13 h14) h3)
      (Ld (.i .i64) h3 ⟨n, 0 + 0, none⟩ fun x15 => Ld (.i .i64) h3 ⟨n, 0 + 1, none⟩ fun x16 => F55 x15 x16 a u (fun r17 h18 => Br (!r17)
        (Ld (.i .i64) h18 ⟨n, 0 + 0, none⟩ fun x19 => Ld (.i .i64) h18 ⟨n, 0 + 1, none⟩ fun x20 => F56 x19 x20 (fun r21 h22 => Br (r21 == 0) (F42 (fun r23 h24 => Q r23 h24) h22) (Q false h22)) h18)
        (Q false h18)) h3)) (Q false h3)) (Q false h3) := by
    refine Br_dec (fun _ => Br_dec (fun _ => Br_beq_int (fun _ => C42 fun h9 k9 => q h9 ((k2.trans k3).trans k9)) fun hk => ?_) fun hh => by omega) fun hh => by omega
    refine Ld_i (k3.cell c0) (Ld_i (k3.cell c1) (C55 fun h4 k4 => ?_))
    have hne : (kindM (lo8 f) == 2) = false := by simpa using hk
    have hmay : mayM (lo8 f) (wOf a) u = false := by unfold mayM; rw [hne]; rfl
    rw [hmay]
    simp only [Bool.not_false, Br_true]
    refine Ld_i ((k3.trans k4).cell c0) (Ld_i ((k3.trans k4).cell c1) (C56 fun h5 k5 => ?_))
    have hp : protM (lo8 f) = 0 := by unfold protM; rw [hne]; rfl
    rw [hp]
    exact C42 fun h9 k9 => q h9 ((((k2.trans k3).trans k4).trans k5).trans k9)
  revert rest
  generalize hX : Br (decide (kindM (lo8 f) ≥ 0)) _ _ = X
  intro rest
  simp only [JoinM]
  rw [hX]
  clear hX g1 g1' g6 g14 e1 e6 e14
  generalize (lo8 f &&& 1 == 0) = b1 at *
  generalize decide (0 < lo8 f &&& 1) = b2 at *
  generalize (lo8 f &&& 14 == 0) = b3 at *
  generalize (lo8 f &&& 6 == 4) = b4 at *
  generalize kindM (lo8 f) = K at *
  rcases y4 with rfl | rfl | rfl <;> cases b1 <;> cases b2 <;> cases b3 <;> cases b4 <;> first | exact rest | (exfalso; simp at y1 y2 y3)

theorem L9 {f p a : Int} {u : Bool} {Q : Bool → H → Prop} {h : H} (q : ∀ h', Kept h h' → Q true h') : F9 f p a u Q h := by
  rw [F9_eq]
  refine Nw_intro fun n h2 hn k2 e2 => ?_
  simp only [add_mk]
  have c0 : hcell h2 ⟨n, 0 + 0, none⟩ = some (.int .i64 f) := by rw [hcell_blk e2]; rfl
  have c1 : hcell h2 ⟨n, 0 + 1, none⟩ = some (.int .i64 p) := by rw [hcell_blk e2]; rfl
  refine Ld_i c0 (Ld_i c1 (Ld_i c0 (Ld_i c1 (C55 fun h3 k3 => ⟨⟨k3.cell c0, k3.cell c1, trivial⟩, C57 fun h4 k4 => ?_⟩))))
  simp only [beq_self_eq_true, Br_true]
  refine C58 fun h5 k5 => ⟨(flagsN (lo3 a) u, ()), C59 ⟨rfl, rfl⟩, ?_⟩
  simp only [beq_self_eq_true, Br_true]
  have k25 := (k3.trans k4).trans k5
  refine Ld_i (k25.cell c0) (Ld_i (k25.cell c1) (Ld_i (k25.cell c0) (Ld_i (k25.cell c1) (C56 fun h6 k6 => ⟨⟨(k25.trans k6).cell c0, (k25.trans k6).cell c1, trivial⟩, C60 fun h7 k7 => ?_⟩))))
  simp only [beq_self_eq_true, Br_true]
  exact C42 fun h9 k9 => q h9 (k2.trans (((k25.trans k6).trans k7).trans k9))

def wantN (p : Nat) : Nat := cond (decide (0 < p &&& 2)) (p ||| 1) p
def fl (p : Nat) (u : Bool) : Nat := lo8 (flagsN p u)
theorem key_g : ∀ p, p < 8 → ∀ u, (p = 0 → kindM (fl p u) = 0) ∧ (p ≠ 0 → kindM (fl p u) = 2 ∧ protM (fl p u) = (wantN p : Nat) ∧
    (∀ w, (w = 2 ∨ w = 4 ∨ w = 8) → mayM (fl p u) w u = decide (0 < wantN p &&& (w / 2)) ∧ mayM (fl p u) w (!u) = false)) := by
  have : ∀ p, p < 8 → ∀ u, (p = 0 → kindM (fl p u) = 0) ∧ (p ≠ 0 → kindM (fl p u) = 2 ∧ protM (fl p u) = (wantN p : Nat) ∧
    ((mayM (fl p u) 2 u = decide (0 < wantN p &&& (2 / 2)) ∧ mayM (fl p u) 2 (!u) = false) ∧ (mayM (fl p u) 4 u = decide (0 < wantN p &&& (4 / 2)) ∧ mayM (fl p u) 4 (!u) = false) ∧ (mayM (fl p u) 8 u = decide (0 < wantN p &&& (8 / 2)) ∧ mayM (fl p u) 8 (!u) = false))) := by decide +kernel
  intro p hp u
  obtain ⟨a, b⟩ := this p hp u
  refine ⟨a, fun h => ?_⟩
  obtain ⟨b1, b2, b3, b4, b5⟩ := b h
  refine ⟨b1, b2, ?_⟩
  rintro w (rfl | rfl | rfl) <;> assumption

def I10 (h6 : H) (m : Nat) (k : Nat) (z : Int × Unit) (h' : H) : Prop :=
  Kept h6 h' ∧ h'[m]? = some (.cells #[(.int .i64 1), (.int .i64 2), (.int .i64 4)] 3) ∧ ((k = 3 ∧ z.1 = 0) ∨ (k = 2 ∧ z.1 = 1) ∨ (k = 1 ∧ z.1 = 2) ∨ (k = 0 ∧ z.1 = 3))
set_option maxHeartbeats 1000000 in
theorem L10 {a : Int} {u : Bool} {Q : Bool → H → Prop} {h : H} (ha : 0 ≤ a ∧ a < 18446744073709551616) (q : ∀ h', Kept h h' → Q true h') : F10 a u Q h := by
  rw [F10_eq]
  refine ⟨by omega, ?_⟩
  obtain ⟨p, hp⟩ : ∃ p : Nat, p = lo3 a := ⟨_, rfl⟩
  have hp8 : p < 8 := hp ▸ lo3_lt a
  have ep : IntKind.wrap .i64 (Int.tmod a 8) = (p : Int) := by
    rw [Int.tmod_eq_emod_of_nonneg ha.1, hp]; unfold lo3; rw [wrap_i64'] <;> omega
  rw [ep]
  simp only [LetI]
  have e3 : lo3 (p : Int) = p := by unfold lo3; omega
  refine C58 fun h3 k3 => ?_
  rw [e3]
  obtain ⟨y0, y1⟩ := key_g p hp8 u
  refine Nw_intro fun n h4 hn k4 e4 => ?_
  rw [zero25] at e4
  simp only [add_mk]
  refine St_intro e4 (by simp) fun h5 u5 e5 => ?_
  refine St_intro e5 (by simp) fun h6 u6 e6 => ?_
  have k6 : Kept h h6 := u6.kept (u5.kept (k3.trans k4) (by have := k3.1; omega)) (by have := k3.1; omega)
  have c0 : hcell h6 ⟨n, 0 + 0, none⟩ = some (.int .i64 (flagsN p u)) := by rw [hcell_blk e6]; rfl
  have c1 : hcell h6 ⟨n, 0 + 1, none⟩ = some (.int .i64 1) := by rw [hcell_blk e6]; rfl
  refine Br_beq_int (fun hz => ?_) fun hz => ?_
  · refine Ld_i c0 (Ld_i c1 (C53 fun h7 k7 => ?_))
    have : kindM (lo8 (flagsN p u)) = 0 := y0 (by omega)
    rw [this]
    exact C42 fun h9 k9 => q h9 ((k6.trans k7).trans k9)
  · obtain ⟨z1, z2, z3⟩ := y1 (by omega)
    have b2 : bAnd .i64 (p : Int) 2 = ((p &&& 2 : Nat) : Int) := by
      have := bA3 (p : Int) 2 (by omega); rw [e3] at this; exact this
    rw [b2, gtN]
    have ew : bOr .i64 (p : Int) 1 = ((p ||| 1 : Nat) : Int) := bOr_i64 p 1 (by omega) (by omega)
    rw [ew]
    have main : ∀ W : Int, W = (wantN p : Nat) → Nw h6 #[(.int .i64 1), (.int .i64 2), (.int .i64 4)] 3 fun a19 h20 =>
        LoopM (σ := Int × Unit) (fun self21 z22 h23 =>
          Br (decide (z22.1 < 3))
          (IdxS (some a19) 3 z22.1 fun a24 =>
          Ld (.i .i64) h23 ((a24.add (Int.toNat z22.1 * 1)).add 0) fun x25 =>
          Ld (.i .i64) h23 ⟨n, 0 + 0, none⟩ fun x27 =>
          Ld (.i .i64) h23 ⟨n, 0 + 1, none⟩ fun x28 =>
          F55 x27 x28 x25 u (fun r29 h30 =>
          Br (!(r29 == (decide ((bAnd .i64 W x25) > 0))))
          (Q false h30)
          (Ld (.i .i64) h30 ⟨n, 0 + 0, none⟩ fun x31 =>
          Ld (.i .i64) h30 ⟨n, 0 + 1, none⟩ fun x32 =>
          F55 x31 x32 x25 (!u) (fun r33 h34 =>
          Br r33
          (Q false h34)
          (self21 ((IntKind.wrap .i64 (z22.1 + 1)), ()) h34)) h30)) h23)
          (Ld (.i .i64) h23 ⟨n, 0 + 0, none⟩ fun x35 =>
          Ld (.i .i64) h23 ⟨n, 0 + 1, none⟩ fun x36 =>
          F53 x35 x36 (fun r37 h38 =>
          Br (r37 == 2)
          (Ld (.i .i64) h38 ⟨n, 0 + 0, none⟩ fun x39 =>
          Ld (.i .i64) h38 ⟨n, 0 + 1, none⟩ fun x40 =>
          F56 x39 x40 (fun r41 h42 =>
          Br (r41 == W)
          (F42  (fun r43 h44 =>
          Q r43 h44) h42)
          (Q false h42)) h38)
          (Q false h38)) h23)) (0, ()) h20 := by
      intro W hW
      refine Nw_intro fun m h7 hm k7 e7 => ?_
      have wl : wantN p < 8 := by
        have : ∀ p, p < 8 → wantN p < 8 := by decide
        exact this p hp8
      have bw : ∀ c : Nat, c < 8 → bAnd .i64 W (c : Int) = ((wantN p &&& c : Nat) : Int) := by
        intro c hc
        have := bA3 ((wantN p : Nat) : Int) c hc
        rw [hW, this]
        have : lo3 ((wantN p : Nat) : Int) = wantN p := by unfold lo3; omega
        rw [this]
      refine Loop_intro (I10 h6 m) 3 ⟨k7, e7, .inl ⟨rfl, rfl⟩⟩ ?_
      have one : ∀ (i c w : Nat) (h' : H) (self : Int × Unit → H → Prop), wOf (c : Int) = w → (w = 2 ∨ w = 4 ∨ w = 8) → w / 2 = c → Kept h6 h' →
          hcell h' ⟨m, 0 + i * 1 + 0, none⟩ = some (.int .i64 (c : Int)) → (∀ h'', Kept h' h'' → self (((i + 1 : Nat) : Int), ()) h'') → i < 3 →
          IdxS (some ⟨m, 0, none⟩) 3 (i : Int) fun a24 =>
          Ld (.i .i64) h' ((a24.add (Int.toNat (i : Int) * 1)).add 0) fun x25 =>
          Ld (.i .i64) h' ⟨n, 0 + 0, none⟩ fun x27 =>
          Ld (.i .i64) h' ⟨n, 0 + 1, none⟩ fun x28 =>
          F55 x27 x28 x25 u (fun r29 h30 =>
          Br (!(r29 == (decide ((bAnd .i64 W x25) > 0))))
          (Q false h30)
          (Ld (.i .i64) h30 ⟨n, 0 + 0, none⟩ fun x31 =>
          Ld (.i .i64) h30 ⟨n, 0 + 1, none⟩ fun x32 =>
          F55 x31 x32 x25 (!u) (fun r33 h34 =>
          Br r33
          (Q false h34)
          (self ((IntKind.wrap .i64 ((i : Int) + 1)), ()) h34)) h30)) h' := by
        intro i c w h' self hw hw2 hc kk e hs hi
        refine ⟨⟨by omega, by omega⟩, ?_⟩
        simp only [add_mk, Int.toNat_natCast]
        refine Ld_i e (Ld_i (kk.cell c0) (Ld_i (kk.cell c1) (C55 fun h8 k8 => ?_)))
        obtain ⟨t1, t2⟩ := z3 w hw2
        rw [hw, show mayM (lo8 (flagsN p u)) w u = decide (0 < wantN p &&& (w / 2)) from t1, bw c (by rcases hw2 with rfl | rfl | rfl <;> omega), gtN, hc]
        simp only [beq_self_eq_true, Bool.not_true, Br_false]
        refine Ld_i ((kk.trans k8).cell c0) (Ld_i ((kk.trans k8).cell c1) (C55 fun h9 k9 => ?_))
        rw [hw, show mayM (lo8 (flagsN p u)) w (!u) = false from t2, Br_false, wrap_i64' _ (by omega) (by omega)]
        exact hs h9 (k8.trans k9)
      rintro k ⟨i, uu⟩ h' ⟨kk, e, ⟨hk, h1⟩ | ⟨hk, h1⟩ | ⟨hk, h1⟩ | ⟨hk, h1⟩⟩ <;> simp only at h1 <;> subst h1 hk
      · refine Br_dec (fun _ => ?_) (fun hh => absurd (by simp) hh)
        exact one 0 1 2 h' (fun x' h' => ∃ k', k' < 3 ∧ I10 h6 m k' x' h') rfl (.inl rfl) rfl kk (by rw [hcell_blk e]; rfl) (fun h'' k'' => ⟨2, by omega, kk.trans k'', k''.blk e, .inr (.inl ⟨rfl, rfl⟩)⟩) (by omega)
      · refine Br_dec (fun _ => ?_) (fun hh => absurd (by simp) hh)
        exact one 1 2 4 h' (fun x' h' => ∃ k', k' < 2 ∧ I10 h6 m k' x' h') rfl (.inr (.inl rfl)) rfl kk (by rw [hcell_blk e]; rfl) (fun h'' k'' => ⟨1, by omega, kk.trans k'', k''.blk e, .inr (.inr (.inl ⟨rfl, rfl⟩))⟩) (by omega)
      · refine Br_dec (fun _ => ?_) (fun hh => absurd (by simp) hh)
        exact one 2 4 8 h' (fun x' h' => ∃ k', k' < 1 ∧ I10 h6 m k' x' h') rfl (.inr (.inr rfl)) rfl kk (by rw [hcell_blk e]; rfl) (fun h'' k'' => ⟨0, by omega, kk.trans k'', k''.blk e, .inr (.inr (.inr ⟨rfl, rfl⟩))⟩) (by omega)
      · refine Br_dec (fun hh => absurd hh (by simp)) fun _ => ?_
        refine Ld_i (kk.cell c0) (Ld_i (kk.cell c1) (C53 fun h8 k8 => ?_))
        rw [show kindM (lo8 (flagsN p u)) = 2 from z1]
        refine Ld_i ((kk.trans k8).cell c0) (Ld_i ((kk.trans k8).cell c1) (C56 fun h9 k9 => ?_))
        rw [show protM (lo8 (flagsN p u)) = W from z2.trans hW.symm]
        simp only [beq_self_eq_true, Br_true]
        exact C42 fun h10 k10 => q h10 (k6.trans (((kk.trans k8).trans k9).trans k10))
    simp only [LetI, JoinM]
    have wd : wantN p = cond (decide (0 < p &&& 2)) (p ||| 1) p := rfl
    cases hd : decide (0 < p &&& 2) <;> rw [hd] at wd
    · exact main _ (by rw [wd]; rfl)
    · exact main _ (by rw [wd]; rfl)
end Go.Proofs.Ytfijchofplkcoaa
