/-
  Lists of pages, rising: one more, one less.
  The pages of a space, as the walk gives them: rising, and just those with an entry.
  A space's iterator: every page with its entry, rising, until a round says no more.
  PmapTells: the end, when all rounds agreed: the tables' count, the space given back.
  PmapTells: a walk over the space's pages beside the list.
  The law PmapTells.
-/
import Derived.Test.YtfijchofplkcoaaKl
import Derived.Test.YtfijchofplkcoaaKv
import Derived.Test.YtfijchofplkcoaaKj
import Derived.Test.YtfijchofplkcoaaKm
set_option linter.unusedVariables false
set_option linter.unusedSimpArgs false
set_option maxRecDepth 100000
namespace Go.Proofs.Ytfijchofplkcoaa

def Srt (l : List Int) : Prop := l.Pairwise (· < ·)
theorem Srt.snoc {l : List Int} {y : Int} (s : Srt l) (h : ∀ a ∈ l, a < y) : Srt (l ++ [y]) := by
  unfold Srt at *
  rw [List.pairwise_append]
  exact ⟨s, by simp, fun a ha b hb => by rw [List.mem_singleton] at hb; subst hb; exact h a ha⟩
theorem Srt.lt {l : List Int} {i : Nat} (s : Srt l) (hi : i < l.length) : ∀ t ∈ l.take i, t < l.getD i 0 := by
  have tk : l.take (i + 1) = l.take i ++ [l.getD i 0] := by
    rw [List.take_succ_eq_append_getElem hi]
    simp [List.getD_eq_getElem?_getD, hi]
  have := List.Pairwise.sublist (List.take_sublist (i + 1) l) s
  rw [tk, List.pairwise_append] at this
  exact fun t ht => this.2.2 t ht _ (by simp)
/-- Two rising lists of the same numbers are one. -/
theorem Srt.eq : ∀ {l m : List Int}, Srt l → Srt m → (∀ a, a ∈ l ↔ a ∈ m) → l = m
  | [], [], _, _, _ => rfl
  | [], b :: m, _, _, h => absurd ((h b).2 (by simp)) (by simp)
  | a :: l, [], _, _, h => absurd ((h a).1 (by simp)) (by simp)
  | a :: l, b :: m, s, t, h => by
    unfold Srt at s t
    rw [List.pairwise_cons] at s t
    have e : a = b := by
      have h1 := (h a).1 (by simp)
      have h2 := (h b).2 (by simp)
      rw [List.mem_cons] at h1 h2
      rcases h1 with h1 | h1
      · exact h1
      · rcases h2 with h2 | h2
        · exact h2.symm
        · have := t.1 a h1
          have := s.1 b h2
          omega
    subst e
    rw [Srt.eq s.2 t.2 fun x => ⟨fun hx => ?_, fun hx => ?_⟩]
    · have := s.1 x hx
      rcases List.mem_cons.1 ((h x).1 (List.mem_cons_of_mem _ hx)) with e | e
      · omega
      · exact e
    · have := t.1 x hx
      rcases List.mem_cons.1 ((h x).2 (List.mem_cons_of_mem _ hx)) with e | e
      · omega
      · exact e
section
variable {h : H} {s : Sl} {xs : List Int} {ex : List Nat} {lo : Nat}
theorem P148 {x : Int} {Q : Sl → H → Prop} (g : GS .i64 h 3 1 s xs ex lo) (hl : xs.length ≤ 1000)
    (q : ∀ s' h', Kept h h' → GS .i64 h' 3 1 s' (xs.filter (· != x)) [] h.size → Q s' h') : F148 s x Q h := by
  rw [F148_eq]
  unfold B148
  have hsl := g.one_len
  refine Loop_intro (σ := Sl × Int × Unit) (x := (⟨none, 0, 0⟩, 0, ())) (fun c z h' => ∃ (i : Nat), z.2.1 = (i : Int) ∧ c = xs.length - i ∧ i ≤ xs.length ∧ Kept h h' ∧ GS .i64 h' 3 1 z.1 ((xs.take i).filter (· != x)) [] h.size) xs.length
    ⟨0, rfl, rfl, by omega, Kept.refl h, by rw [List.take_zero]; exact GS.nil⟩ ?_
  rintro c ⟨zs, zz, u⟩ h2 ⟨i, hi, hc, hin, k2, g2⟩
  simp only at hi g2
  subst hi
  have ylen : ((xs.take i).filter (· != x)).length ≤ i := by
    have h1 := List.length_filter_le (· != x) (xs.take i)
    rw [List.length_take] at h1; omega
  have hk2 := k2.1
  refine Br_dec (fun hlt => ?_) fun hge => ?_
  · have hlt : i < xs.length := by rw [hsl] at hlt; simp only at hlt; omega
    obtain ⟨b, hb, hcell⟩ := (g.kept k2).idx (i := i) (d := 0) (by omega) (by omega)
    have hat : s.a = some ⟨b, 0, none⟩ := hb
    rw [hat]
    refine ⟨⟨by simp only; omega, by simp only; omega⟩, ?_⟩
    simp only [add_mk, Int.toNat_natCast]
    refine Ld_i (x := xs.getD (1 * i + 0) 0) (by rw [← hcell]) ?_
    rw [show 1 * i + 0 = i by omega]
    simp only [LetI]
    generalize hy : xs.getD i 0 = y
    have tk : xs.take (i + 1) = xs.take i ++ [y] := by
      rw [List.take_succ_eq_append_getElem hlt, ← hy]
      simp [List.getD_eq_getElem?_getD, hlt]
    have hw : IntKind.wrap .i64 ((i : Int) + 1) = ((i + 1 : Nat) : Int) := by rw [wrap_i64'] <;> omega
    refine Br_bne_int (fun hne => ?_) fun he => ?_
    · refine AppO g2 (by omega) hk2 fun s' h4 g4 x4 => ?_
      refine ⟨xs.length - (i + 1), by omega, i + 1, hw, rfl, by omega, x4.kept k2 (Nat.le_refl _), ?_⟩
      rw [tk, List.filter_append, List.filter_cons_of_pos (by simp; exact hne)]
      exact g4
    · refine ⟨xs.length - (i + 1), by omega, i + 1, hw, rfl, by omega, k2, ?_⟩
      rw [tk, List.filter_append, List.filter_cons_of_neg (by simp; exact he)]
      simpa using g2
  · have : i = xs.length := by rw [hsl] at hge; simp only at hge; omega
    subst this
    rw [List.take_of_length_le (Nat.le_refl _)] at g2
    exact q _ h2 k2 g2
theorem P133s {x : Int} {Q : Sl → H → Prop} (g : GS .i64 h 3 1 s xs ex lo) (hl : xs.length ≤ 1000) (hs : Srt xs)
    (q : ∀ s' ys h', Kept h h' → GS .i64 h' 3 1 s' ys [] h.size → Srt ys → (∀ a, a ∈ ys ↔ a = x ∨ a ∈ xs) → ys.length ≤ xs.length + 1 → Q s' h') : F133 s x Q h := by
  rw [F133_eq]
  unfold B133
  have hsl := g.one_len
  refine Loop_intro (σ := Sl × Bool × Int × Unit) (x := (⟨none, 0, 0⟩, false, 0, ())) (fun c z h' => ∃ (i : Nat) (ys : List Int), z.2.2.1 = (i : Int) ∧ c = xs.length - i ∧ i ≤ xs.length ∧ Kept h h' ∧ GS .i64 h' 3 1 z.1 ys [] h.size ∧
    Srt ys ∧ (∀ a, a ∈ ys ↔ (a ∈ xs.take i ∧ a ≠ x) ∨ (z.2.1 = true ∧ a = x)) ∧ ys.length ≤ i + 1 ∧ (z.2.1 = false → ys.length ≤ i ∧ ∀ t ∈ xs.take i, t < x) ∧ (z.2.1 = true → ∃ t ∈ xs.take i, x ≤ t)) xs.length
    ⟨0, [], rfl, rfl, by omega, Kept.refl h, GS.nil, List.Pairwise.nil, by simp, by simp, by simp, by simp⟩ ?_
  rintro c ⟨zs, zd, zz, u⟩ h2 ⟨i, ys, hi, hc, hin, k2, g2, sy, my, ly, zf, zt⟩
  simp only at hi g2 my zf zt
  subst hi
  have hk2 := k2.1
  refine Br_dec (fun hlt => ?_) fun hge => ?_
  · have hlt : i < xs.length := by rw [hsl] at hlt; simp only at hlt; omega
    obtain ⟨b, hb, hcell⟩ := (g.kept k2).idx (i := i) (d := 0) (by omega) (by omega)
    have hat : s.a = some ⟨b, 0, none⟩ := hb
    rw [hat]
    refine ⟨⟨by simp only; omega, by simp only; omega⟩, ?_⟩
    simp only [add_mk, Int.toNat_natCast]
    refine Ld_i (x := xs.getD (1 * i + 0) 0) (by rw [← hcell]) ?_
    rw [show 1 * i + 0 = i by omega]
    simp only [LetI]
    have sl := hs.lt hlt
    generalize hy : xs.getD i 0 = y at sl
    have tk : xs.take (i + 1) = xs.take i ++ [y] := by
      rw [List.take_succ_eq_append_getElem hlt, ← hy]
      simp [List.getD_eq_getElem?_getD, hlt]
    have mtk : ∀ a, a ∈ xs.take (i + 1) ↔ a ∈ xs.take i ∨ a = y := fun a => by rw [tk, List.mem_append, List.mem_singleton]
    refine JoinI (fun z h' => ∃ zs : List Int, Kept h h' ∧ GS .i64 h' 3 1 z.1 zs [] h.size ∧ Srt zs ∧ (∀ a, a ∈ zs ↔ (a ∈ xs.take i ∧ a ≠ x) ∨ (z.2.1 = true ∧ a = x)) ∧ zs.length ≤ i + 1 ∧ (z.2.1 = false → zs.length ≤ i ∧ ∀ t ∈ xs.take (i + 1), t < x) ∧ (z.2.1 = true → x ≤ y)) (fun J hJ => ?_) ?_
    · refine Br_dec (fun hge => ?_) fun hge => hJ _ h2 ⟨ys, k2, g2, sy, my, ly, fun hz => ⟨(zf hz).1, fun t ht => ?_⟩, fun hz => ?_⟩
      · have hge : y ≥ x := hge
        cases zd
        · simp only [Bool.not_false, Br_true]
          obtain ⟨z1, z2⟩ := zf rfl
          have my' : ∀ a, a ∈ ys ↔ a ∈ xs.take i ∧ a ≠ x := fun a => by rw [my a]; simp
          refine AppO g2 (by omega) hk2 fun s' h3 g3 x3 => hJ _ h3 ⟨_, x3.kept k2 (Nat.le_refl _), g3, sy.snoc fun a ha => z2 a ((my' a).1 ha).1, fun a => ?_, ?_, ?_, ?_⟩
          · rw [List.mem_append, my' a, List.mem_singleton]; simp
          · simp; omega
          · simp
          · exact fun _ => hge
        · simp only [Bool.not_true, Br_false]
          exact hJ _ h2 ⟨ys, k2, g2, sy, my, ly, by simp, fun _ => hge⟩
      · have hge : ¬ y ≥ x := hge
        rcases (mtk t).1 ht with ht | rfl
        · exact (zf hz).2 t ht
        · omega
      · obtain ⟨t, ht, hx⟩ := zt hz
        have := sl t ht
        omega
    · rintro ⟨ys1, d1, u1⟩ h3 ⟨zs, k3, g3, s3, m3, l3, zf3, zt3⟩
      simp only at m3 g3 zf3 zt3
      have hk3 := k3.1
      have hw : IntKind.wrap .i64 ((i : Int) + 1) = ((i + 1 : Nat) : Int) := by rw [wrap_i64'] <;> omega
      have zt' : d1 = true → ∃ t ∈ xs.take (i + 1), x ≤ t := fun hd => ⟨y, (mtk y).2 (.inr rfl), zt3 hd⟩
      refine Br_bne_int (fun hne => ?_) fun he => ?_
      · refine AppO g3 (by omega) hk3 fun s' h4 g4 x4 => ?_
        refine ⟨xs.length - (i + 1), by omega, i + 1, _, hw, rfl, by omega, x4.kept k3 (Nat.le_refl _), g4, s3.snoc fun a ha => ?_, fun a => ?_, by simp; omega, fun hd => ⟨by have := (zf3 hd).1; simp; omega, (zf3 hd).2⟩, zt'⟩
        · rcases (m3 a).1 ha with ha | ⟨hd, rfl⟩
          · exact sl a ha.1
          · have := zt3 hd; omega
        · rw [List.mem_append, m3 a, List.mem_singleton, mtk a]
          by_cases e : a = y
          · subst e; simp [hne]
          · simp [e]
      · subst he
        refine ⟨xs.length - (i + 1), by omega, i + 1, zs, hw, rfl, by omega, k3, g3, s3, fun a => ?_, by omega, fun hd => ⟨by have := (zf3 hd).1; omega, (zf3 hd).2⟩, zt'⟩
        rw [m3 a, mtk a]
        by_cases e : a = y
        · simp [e]
        · simp [e]
  · have : i = xs.length := by rw [hsl] at hge; simp only at hge; omega
    subst this
    rw [List.take_of_length_le (Nat.le_refl _)] at my zf zt
    have mx : ∀ a, (a ∈ ys ∨ a = x) ↔ a = x ∨ a ∈ xs := fun a => by
      rw [my a]
      by_cases e : a = x
      · simp [e]
      · simp [e]
    cases zd
    · simp only [Bool.not_false, Br_true]
      obtain ⟨z1, z2⟩ := zf rfl
      refine AppO g2 (by omega) hk2 fun s' h3 g3 x3 => q s' _ h3 (x3.kept k2 (Nat.le_refl _)) g3 (sy.snoc fun a ha => ?_) (fun a => ?_) (by simp; omega)
      · rcases (my a).1 ha with ha | ha
        · exact z2 a ha.1
        · simp at ha
      · rw [List.mem_append, List.mem_singleton]; exact mx a
    · simp only [Bool.not_true, Br_false]
      refine q _ ys h2 k2 g2 sy (fun a => ?_) ly
      rw [← mx a]
      constructor
      · exact .inl
      · rintro (ha | rfl)
        · exact ha
        · exact (my a).2 (.inr ⟨rfl, rfl⟩)
end

def fsts (l : List (Int × Int)) : List Int := l.map Prod.fst
/-- Rising, from here to there. -/
def Seg (l : List (Int × Int)) (c d : Int) : Prop := Srt (fsts l) ∧ ∀ e ∈ l, c ≤ e.1 ∧ e.1 < d
theorem Seg.nil (c d : Int) : Seg [] c d := ⟨List.Pairwise.nil, by simp⟩
theorem Seg.app {l m : List (Int × Int)} {a b c d : Int} (s : Seg l a b) (t : Seg m c d) (h : b ≤ c) (h1 : a ≤ c) (h2 : b ≤ d) : Seg (l ++ m) a d := by
  refine ⟨?_, fun e he => ?_⟩
  · unfold Srt fsts
    rw [List.map_append, List.pairwise_append]
    refine ⟨s.1, t.1, fun x hx y hy => ?_⟩
    rw [List.mem_map] at hx hy
    obtain ⟨e, he, rfl⟩ := hx
    obtain ⟨e', he', rfl⟩ := hy
    have := s.2 e he
    have := t.2 e' he'
    omega
  · rw [List.mem_append] at he
    rcases he with he | he
    · have := s.2 e he; omega
    · have := t.2 e he; omega
theorem Seg.flat (f : Nat → List (Int × Int)) (c m : Int) (hm : 0 ≤ m) (hf : ∀ i : Nat, Seg (f i) (c + i * m) (c + (i + 1) * m)) : ∀ k : Nat, Seg ((List.range k).flatMap f) c (c + k * m) := by
  intro k
  induction k with
  | zero => exact Seg.nil _ _
  | succ k ih =>
    rw [List.range_succ, List.flatMap_append]
    have : (List.flatMap f [k]) = f k := by simp
    rw [this]
    have h0 : (0 : Int) ≤ k * m := Int.mul_nonneg (Int.natCast_nonneg k) hm
    have := ih.app (hf k) (by omega) (by omega) (by rw [Int.add_mul]; omega)
    rw [show (((k + 1 : Nat)) : Int) = (k : Int) + 1 by omega]
    exact this
def bsz : Nat → Int
  | 0 => 1
  | lv + 1 => 512 * bsz lv
theorem bsz_nn : ∀ lv, 0 ≤ bsz lv
  | 0 => by decide
  | lv + 1 => by have := bsz_nn lv; unfold bsz; omega
theorem seg_leaves (n : Nat) (ws : List Int) : ∀ lv f a, Seg (leavesS n ws lv f a) (a * bsz (lv + 1)) (a * bsz (lv + 1) + bsz (lv + 1)) := by
  have key : ∀ lv, (∀ f a i, Seg (entL n ws lv f a i) ((a * 512 + i) * bsz lv) ((a * 512 + i + 1) * bsz lv)) → ∀ f a, Seg (leavesS n ws lv f a) (a * bsz (lv + 1)) (a * bsz (lv + 1) + bsz (lv + 1)) := by
    intro lv hh f a
    rw [leavesS_eq]
    have := Seg.flat (entL n ws lv f a) (a * bsz (lv + 1)) (bsz lv) (bsz_nn lv) (fun i => by
      have := hh f a i
      have e1 : (a * 512 + (i : Int)) * bsz lv = a * bsz (lv + 1) + i * bsz lv := by
        show _ = a * (512 * bsz lv) + _
        rw [Int.add_mul, Int.mul_assoc]
      have e2 : (a * 512 + (i : Int) + 1) * bsz lv = a * bsz (lv + 1) + (i + 1) * bsz lv := by
        rw [show a * 512 + (i : Int) + 1 = a * 512 + ((i : Int) + 1) by omega]
        show _ = a * (512 * bsz lv) + _
        rw [Int.add_mul, Int.mul_assoc]
      rw [e1, e2] at this
      exact this) 512
    exact this
  intro lv
  induction lv with
  | zero =>
    refine key 0 fun f a i => ?_
    show Seg (if _ then _ else _) _ _
    split
    · refine ⟨List.pairwise_singleton _ _, fun e he => ?_⟩
      rw [List.mem_singleton] at he
      subst he
      unfold bsz
      simp only
      omega
    · exact Seg.nil _ _
  | succ lv ih =>
    refine key (lv + 1) fun f a i => ?_
    show Seg (match lead n (wat ws f i) with | some m => leavesS n ws lv m (a * 512 + i) | none => []) _ _
    cases lead n (wat ws f i) with
    | none => exact Seg.nil _ _
    | some m =>
      have := ih m (a * 512 + i)
      rw [Int.add_mul (a * 512 + (i : Int)) 1, Int.one_mul]
      exact this
theorem mem_leavesT {n : Nat} {ws : List Int} {r : Nat} (hr : r < n) (e : Int × Int) : e ∈ leavesT n ws (r : Int) ↔
    ∃ a b c m l, a < 512 ∧ b < 512 ∧ c < 512 ∧ lead n (wat ws r a) = some m ∧ lead n (wat ws m b) = some l ∧ kindM (lo8 (flg (wat ws l c))) = 2 ∧ e = (((0 * 512 + (a : Int)) * 512 + b) * 512 + c, wat ws l c) := by
  unfold leavesT
  rw [if_pos ⟨by omega, by omega⟩, Int.toNat_natCast, leavesS_eq, List.mem_flatMap]
  constructor
  · rintro ⟨a, ha, he⟩
    rw [List.mem_range] at ha
    have he : e ∈ (match lead n (wat ws r a) with | some m => leavesS n ws 1 m (0 * 512 + a) | none => []) := he
    cases hm : lead n (wat ws r a) with
    | none => rw [hm] at he; simp at he
    | some m =>
      rw [hm] at he
      simp only at he
      rw [leavesS_eq, List.mem_flatMap] at he
      obtain ⟨b, hb, he⟩ := he
      rw [List.mem_range] at hb
      have he : e ∈ (match lead n (wat ws m b) with | some l => leavesS n ws 0 l ((0 * 512 + a) * 512 + b) | none => []) := he
      cases hl : lead n (wat ws m b) with
      | none => rw [hl] at he; simp at he
      | some l =>
        rw [hl] at he
        simp only at he
        rw [leavesS_eq, List.mem_flatMap] at he
        obtain ⟨c, hc, he⟩ := he
        rw [List.mem_range] at hc
        have he : e ∈ (if kindM (lo8 (flg (wat ws l c))) = 2 then [(((0 * 512 + (a : Int)) * 512 + b) * 512 + c, wat ws l c)] else []) := he
        split at he
        · rename_i hk
          rw [List.mem_singleton] at he
          exact ⟨a, b, c, m, l, ha, hb, hc, hm, hl, hk, he⟩
        · simp at he
  · rintro ⟨a, b, c, m, l, ha, hb, hc, hm, hl, hk, he⟩
    refine ⟨a, List.mem_range.2 ha, ?_⟩
    show e ∈ (match lead n (wat ws r a) with | some m => leavesS n ws 1 m (0 * 512 + a) | none => [])
    rw [hm]
    simp only
    rw [leavesS_eq, List.mem_flatMap]
    refine ⟨b, List.mem_range.2 hb, ?_⟩
    show e ∈ (match lead n (wat ws m b) with | some l => leavesS n ws 0 l ((0 * 512 + a) * 512 + b) | none => [])
    rw [hl]
    simp only
    rw [leavesS_eq, List.mem_flatMap]
    refine ⟨c, List.mem_range.2 hc, ?_⟩
    show e ∈ (if kindM (lo8 (flg (wat ws l c))) = 2 then [(((0 * 512 + (a : Int)) * 512 + b) * 512 + c, wat ws l c)] else [])
    rw [if_pos hk, List.mem_singleton]
    exact he
/-- The pages of a live space. -/
theorem Wd.leaves {n : Nat} {L : Nat → Bool} {rt : Nat → Nat} {nt : Nat → Int} {ws ps : List Int} (v : Wd n L rt nt ws ps) {s : Nat} (hs : L s = true) :
    Srt (fsts (leavesT n ws (rt s))) ∧ ∀ u, u ∈ fsts (leavesT n ws (rt s)) ↔ pgv n ws (rt s) u ≠ 0 := by
  obtain ⟨ro, v⟩ := v
  have v := v.iv
  have hr := v.rlt hs
  refine ⟨?_, fun u => ?_⟩
  · unfold leavesT
    rw [if_pos ⟨by omega, by omega⟩]
    exact (seg_leaves n ws 2 _ 0).1
  · unfold fsts
    rw [List.mem_map]
    constructor
    · rintro ⟨e, he, rfl⟩
      rw [mem_leavesT hr] at he
      obtain ⟨a, b, c, m, l, ha, hb, hc, hm, hl, hk, rfl⟩ := he
      unfold pgv pgW
      simp only
      rw [if_pos (by omega), show ix2 (((0 * 512 + (a : Int)) * 512 + b) * 512 + c) = a by unfold ix2; omega, show ix1 (((0 * 512 + (a : Int)) * 512 + b) * 512 + c) = b by unfold ix1; omega, show ix0 (((0 * 512 + (a : Int)) * 512 + b) * 512 + c) = c by unfold ix0; omega, hm]
      simp only
      rw [hl]
      simp only
      intro e
      rw [e] at hk
      revert hk
      decide
    · intro h
      unfold pgv at h
      split at h
      · rename_i hu
        obtain ⟨l2, l1, l0⟩ := ix_lt u
        unfold pgW at h
        cases hm : lead n (wat ws (rt s) (ix2 u)) with
        | none => rw [hm] at h; simp at h
        | some m =>
          rw [hm] at h
          simp only at h
          cases hl : lead n (wat ws m (ix1 u)) with
          | none => rw [hl] at h; simp at h
          | some l =>
            rw [hl] at h
            simp only at h
            have rm := v.md1 _ _ _ hs l2 hm
            have rl := v.ls1 _ _ _ _ _ rm l1 hl
            refine ⟨(((0 * 512 + (ix2 u : Int)) * 512 + ix1 u) * 512 + ix0 u, wat ws l (ix0 u)), (mem_leavesT hr _).2 ⟨_, _, _, m, l, l2, l1, l0, hm, hl, v.lf l _ _ _ _ rl l0 h, rfl⟩, ?_⟩
            unfold ix2 ix1 ix0
            simp only
            omega
      · exact absurd rfl h

theorem setL2 {h : H} {l : Nat} {o : Obj} (hl : l < h.size) : (h.setIfInBounds l o)[l]? = some o := by
  rw [Array.getElem?_setIfInBounds_self_of_lt hl]
theorem set_upd2 (h : H) (l : Nat) (o : Obj) : Upd h l (h.setIfInBounds l o) := ⟨by simp, fun i hi => by rw [Array.getElem?_setIfInBounds_ne (Ne.symm hi)]⟩
theorem recE_none2 {r : Loop} (hr : r.state = .ready) (hp : r.pending = none) : recE r none = r := by
  unfold recE
  cases r
  simp only at hr hp
  subst hr hp
  rfl
theorem K200r {Y : YY Try.prog} {l b t : Nat} {K : WK} {h0 h : H} {nt : Nat → Int} {ws ps : List Int} {s : Nat} {Lx : List Nat} {J0 : List (Int × Int) → H → Prop} {X : H → Prop} {Q : H → Prop} (hs : K.L s = true)
    (w : ∀ d h', J0 d h' → WH K h0 h' nt ws ps) (loc : ∀ d h1 h2 M, (∀ b ∈ M, h.size ≤ b) → J0 d h1 → KL h1 M h2 → J0 d h2) (locX : ∀ h1 h2 M, (∀ b ∈ M, h.size ≤ b) → X h1 → KL h1 M h2 → X h2)
    (eb : h[b]? = some (.cells #[.pointer (some ⟨K.bx s, 0, none⟩)] t)) (hL : ∀ b ∈ Lx, b < h.size)
    (step : ∀ d e r h' K', leavesT K.n ws (K.rt s) = d ++ e :: r → J0 d h' → h.size ≤ h'.size → (∀ h'', J0 (d ++ [e]) h'' → KL h' Lx h'' → K' (.bool true) h'') → (∀ h'', X h'' → KL h' Lx h'' → K' (.bool false) h'') → Y.sem l (eV e) K' h')
    (j0 : J0 [] h) (q1 : ∀ h', J0 (leavesT K.n ws (K.rt s)) h' → h.size ≤ h'.size → Q h') (q0 : ∀ h', X h' → h.size ≤ h'.size → Q h') : F200r Y (yV l) ⟨b, 0, none⟩ Q h := by
  rw [F200r_eq]
  have W := w _ _ j0
  have W1 := W.w1 hs
  refine Nw_intro fun a1 h2 ha1 k2 e1 => ?_
  have e1 : h2[a1]? = some (.cells #[yV l] 228) := e1
  have cb : hcell h2 ⟨b, 0, none⟩ = some (.pointer (some ⟨K.bx s, 0, none⟩)) := by rw [hcell_blk (k2.blk eb)]; rfl
  have w2 := W1.kept k2
  simp only [add_mk, Nat.add_zero]
  refine Ld_p cb (P188 w2 ?_)
  rw [show decide ((ws, ps, nt s).2.2 > 0) = true from decide_eq_true (W.cnt hs).1]
  simp only [Bool.not_true, Br_false]
  refine Ld_p cb ?_
  simp only [NilP, add_mk, Nat.add_zero, Nat.zero_add]
  refine Ld_p w2.m (Ld_p cb ?_)
  simp only [add_mk, Nat.add_zero, Nat.zero_add]
  refine Ld_i w2.r ?_
  rw [F127c_eq]
  unfold B127c
  refine Nw_intro fun a25 h26 ha25 k26 e25 => Nw_intro fun a26 h27 ha26 k27 e26 => ?_
  have hk2 := k2.1
  have hk26 := k26.1
  have hk27 := k27.1
  have la1 := (Array.getElem?_eq_some_iff.1 e1).1
  have l25 := (Array.getElem?_eq_some_iff.1 e25).1
  have l26 := (Array.getElem?_eq_some_iff.1 e26).1
  intro r hr hp Y' hround
  obtain ⟨D, hD⟩ : ∃ D, D = h27.size := ⟨_, rfl⟩
  rw [← hD] at hround ⊢
  obtain ⟨T0, hT0⟩ : ∃ T0, T0 = leavesT K.n ws (K.rt s) := ⟨_, rfl⟩
  obtain ⟨hq, hhq⟩ : ∃ hq, hq = (h27.push (.deferred (some []))).push (.loop r) := ⟨_, rfl⟩
  rw [← hhq]
  have s1 : hq.size = D + 2 := by rw [hhq, hD]; simp
  have kq : Kept h27 hq := by
    rw [hhq]
    exact ⟨by simp; omega, fun i hi => by rw [Array.getElem?_push_lt (by simp; omega), Array.getElem_push_lt hi]; simp [hi]⟩
  have eqr : hq[D + 1]? = some (.loop r) := by
    rw [hhq, hD, show h27.size + 1 = (h27.push (.deferred (some []))).size by simp, Array.getElem?_push_size]
  have eqD : hq[D]? = some (.deferred (some [])) := by rw [hhq, hD]; simp [Array.getElem?_push]
  have Kq : Kept h hq := ((k2.trans k26).trans k27).trans kq
  have ge : ∀ x, h.size ≤ x → ∀ b ∈ [x], h.size ≤ b := fun x hx b hb => by rw [List.mem_singleton] at hb; omega
  have nl : ∀ x, h.size ≤ x → x ∉ Lx := fun x hx hm => by have := hL x hm; omega
  show F186 Y' (yV (D + 1)) ⟨a25, 0, none⟩ ⟨a26, 0, none⟩ _ _
  refine K186 (bm := K.bm) (bf := K.bf) (n := K.n) (ws := ws) (root := (K.rt s : Int)) (Lx := (D + 1) :: Lx)
    (J0 := fun d h' => J0 d h' ∧ h.size ≤ h'.size ∧ h'[D + 1]? = some (.loop r) ∧ h'[D]? = some (.deferred (some [])) ∧ h'[a1]? = some (.cells #[yV l] 228))
    (X := fun h' => X h' ∧ h.size ≤ h'.size ∧ h'[D + 1]? = some (.loop (recE r (some .ret))) ∧ h'[D]? = some (.deferred (some [])))
    (fun d h' j => (w d h' j.1).pw.mw) (fun d h1 h' ⟨j1, j2, j3, j4, j5⟩ k => ⟨loc d _ _ [] (by simp) j1 k.kl, Nat.le_trans j2 k.1, k.blk j3, k.blk j4, k.blk j5⟩)
    (kq.blk (k27.blk e25)) (show IL hq a26 3 [(K.rt s : Int)] from kq.blk e26) (by rw [List.mem_cons, not_or]; exact ⟨by omega, nl _ (by omega)⟩) (fun b hb => by
      rcases List.mem_cons.1 hb with rfl | hb
      · omega
      · have := hL b hb; omega) ?_
    ⟨loc _ _ _ [] (by simp) j0 Kq.kl, Kq.1, eqr, eqD, kq.blk (k27.blk (k26.blk e1))⟩ ?_ ?_
  · rintro d e rr h' K' hT ⟨j1, jz, j2, j3, j4⟩ qt qf
    refine hround (e.1, (flg e.2, ppn e.2, ()), ()) K' h' j2 ?_
    have mr := (Array.getElem?_eq_some_iff.1 j2).1
    simp only [LetI]
    refine Nw_intro fun a43 h44 ha43 k44 e43 => ?_
    rw [zero25v] at e43
    simp only [add_mk]
    refine put25 e43 fun h46 u46 e43 => ?_
    have k46 : Kept h' h46 := u46.kept k44 (by omega)
    have s46 := k46.1
    refine ⟨k46.blk j2, ?_⟩
    have ur := set_upd2 h46 (D + 1) (.loop (recB r))
    have er : (h46.setIfInBounds (D + 1) (.loop (recB r)))[D + 1]? = some (.loop (recB r)) := setL2 (by omega)
    generalize h46.setIfInBounds (D + 1) (.loop (recB r)) = h38 at ur er ⊢
    have kl : KL h' [D + 1] h38 := k46.kl.trans (ur.kl (by simp))
    have jj := loc d _ _ [D + 1] (ge _ (by omega)) j1 kl
    have f1 := ur.blk (k46.blk j4) (show a1 ≠ D + 1 by omega)
    have fD := ur.blk (k46.blk j3) (show D ≠ D + 1 by omega)
    have f43 : IL h38 a43 25 [flg e.2, ppn e.2] := ur.blk e43 (show a43 ≠ D + 1 by omega)
    have s38 := kl.1
    refine Ld_f (x := yV l) (by rw [hcell_blk f1]; rfl) (Ld_i (x := flg e.2) (by rw [hcell_blk f43]; rfl) (Ld_i (x := ppn e.2) (by rw [hcell_blk f43]; rfl) ?_))
    rw [callY]
    refine step d e rr h38 _ hT jj (by omega) (fun h5 j5 k5 => ?_) fun h5 x5 k5 => ?_
    · have s5 := k5.1
      simp only [NotV, Bool.not_true, Br_false]
      refine ⟨k5.blk er (nl _ (by omega)), ?_⟩
      rw [recE_none2 hr hp]
      have u7 := set_upd2 h5 (D + 1) (.loop r)
      have kz : KL h' ((D + 1) :: Lx) (h5.setIfInBounds (D + 1) (.loop r)) := (kl.mono (by simp)).trans ((k5.mono (by intro b hb; exact List.mem_cons_of_mem _ hb)).trans (u7.kl (by simp)))
      refine qt _ ⟨loc _ _ _ [D + 1] (ge _ (by omega)) j5 (u7.kl (by simp)), by rw [u7.1]; omega, setL2 (by omega), u7.blk (k5.blk fD (nl _ (by omega))) (by omega), u7.blk (k5.blk f1 (nl _ (by omega))) (by omega)⟩ kz
    · have s5 := k5.1
      simp only [NotV, Bool.not_false, Br_true]
      refine ⟨k5.blk er (nl _ (by omega)), ?_⟩
      have u7 := set_upd2 h5 (D + 1) (.loop (recE r (some .ret)))
      exact qf _ ⟨locX _ _ [D + 1] (ge _ (by omega)) x5 (u7.kl (by simp)), by rw [u7.1]; omega, setL2 (by omega), u7.blk (k5.blk fD (nl _ (by omega))) (by omega)⟩
  · rintro h' ⟨j1, jz, j2, j3, j4⟩
    refine ⟨none, by rw [recE_none2 hr hp]; exact j2, ?_⟩
    have ux := set_upd2 h' (D + 1) (.loop (recX r none))
    have mD := (Array.getElem?_eq_some_iff.1 j3).1
    refine ⟨ux.blk j3 (by omega), ?_⟩
    have u2 := set_upd2 (h'.setIfInBounds (D + 1) (.loop (recX r none))) D (.deferred none)
    exact q1 _ (loc _ _ _ [D] (ge _ (by omega)) (loc _ _ _ [D + 1] (ge _ (by omega)) j1 (ux.kl (by simp))) (u2.kl (by simp))) (by rw [u2.1, ux.1]; omega)
  · rintro h' ⟨x1, jz, j2, j3⟩
    refine ⟨some .ret, j2, ?_⟩
    have ux := set_upd2 h' (D + 1) (.loop (recX r (some .ret)))
    refine ⟨ux.blk j3 (by omega), ?_⟩
    have u2 := set_upd2 (h'.setIfInBounds (D + 1) (.loop (recX r (some .ret)))) D (.deferred none)
    exact q0 _ (locX _ _ [D] (ge _ (by omega)) (locX _ _ [D + 1] (ge _ (by omega)) x1 (ux.kl (by simp))) (u2.kl (by simp))) (by rw [u2.1, ux.1]; omega)

theorem tail38 {K : WK} {h0 h : H} {nt : Nat → Int} {ws ps : List Int} {A B C D : H → Prop} {E : Bool → H → Prop} (w : WH K h0 h nt ws ps) (one : One K) (hn : K.n = 128)
    (q : ∀ h', KL h (L3b K.bf K.pf (K.bx 0)) h' → E true h') :
    F132 (some ⟨K.bx 0, 0, none⟩) (fun r87 h88 => LetI r87 fun n89 => F98 (some ⟨K.bp, 0, none⟩) (fun r90 h91 => Br (n89 == (IntKind.wrap .i64 (128 - r90)))
      (F139 (some ⟨K.bx 0, 0, none⟩) (fun r92 h93 => Br (r92 == n89)
        (F98 (some ⟨K.bp, 0, none⟩) (fun r94 h95 => Br (r94 == 128)
          (F136 (some ⟨K.bx 0, 0, none⟩) (fun r96 h97 => Br (r96 == (-1)) (F129 (fun r98 h99 => E r98 h99) h97) (D h97)) h95) (C h95)) h93) (B h93)) h91) (A h91)) h88) h := by
  have c1 := w.wd.one one.l1
  have cw := w.cnt one.l0
  rw [hn] at c1
  refine Q132 w one.l0 ?_
  simp only [LetI]
  refine Q98 w fun h1 w1 k1 => ?_
  rw [hn, c1.2]
  rw [show IntKind.wrap .i64 (128 - (((128 : Nat) : Int) - nt 0)) = nt 0 by rw [wrap_i64' _ (by omega) (by omega)]; omega]
  simp only [beq_self_eq_true, Br_true]
  refine Q139 w1 one.l0 fun h2 nt2 ws2 ps2 w2 _ _ z2 k2 => ?_
  simp only [beq_self_eq_true, Br_true]
  have hL : ∀ s, (K.del 0).L s = false := fun s => by
    show delL K.L 0 s = false
    unfold delL
    split
    · rfl
    · rename_i e
      cases hh : K.L s with
      | false => rfl
      | true => exact absurd ((one.l1 s).1 hh) e
  have c2 := w2.wd.none' hL
  show F98 (some ⟨(K.del 0).bp, 0, none⟩) _ h2
  refine Q98 (K := K.del 0) w2 fun h3 w3 k3 => ?_
  rw [show cnt ps2 0 (K.del 0).n = 128 by rw [c2]; show ((K.n : Nat) : Int) = 128; rw [hn]; rfl]
  simp only [beq_self_eq_true, Br_true]
  rw [F136_eq]
  refine Z188 (k3.blk z2) ?_
  simp only [Bool.not_false, Br_true, beq_self_eq_true]
  exact C129 fun h4 k4 => q h4 (((k1.kl).trans k2).trans ((k3.trans k4).kl))

theorem walk38 {K : WK} {h0 h : H} {nt : Nat → Int} {ws ps : List Int} {a1 a3 a26 : Nat} {most : Int} {s : Sl} {xs : List Int} {ex : List Nat} {lo : Nat} {A X R : Addr → Nat → H → Prop} (w : WH K h0 h nt ws ps) (one : One K)
    (e1 : h[a1]? = some (.cells #[.int .i64 most] 3)) (e26 : h[a26]? = some (.cells #[.slice s.a s.len s.cap] 42)) (g : GS .i64 h 3 1 s xs ex lo) (srt : Srt xs) (mem : ∀ u, u ∈ xs ↔ pgv K.n ws (K.rt 0) u ≠ 0) (hl : xs.length ≤ 1000)
    (qa : ∀ b D h', Kept h h' → h.size ≤ D → h'[D]? = some (.deferred (some [])) → hcell h' ⟨b, 0 + 0, none⟩ = some (.int .i64 (s.len : Int)) → A ⟨b, 0, none⟩ D h')
    (qx : ∀ b D h', Kept h h' → h.size ≤ D → h'[D]? = some (.deferred (some [])) → 0 ≤ most → X ⟨b, 0, none⟩ D h') :
    F149c (some ⟨K.bx 0, 0, none⟩) (fun r52 h53 => Nw h53 (zeroC Try.prog 3) 3 fun a54 h55 => St h55 (a54.add 0) (.int .i64 0) fun h56 =>
      RngR Try.prog [.one (.i .i64), .agg [(.i .i64), (.i .i64)]] (fun l59 r60 x61 E62 h63 =>
        LetI x61.1 fun n68 => BegR l59 r60 h63 fun h64 =>
        Ld (.i .i64) h64 (a54.add 0) fun x69 => Ld (.i .i64) h64 ((⟨a1, 0, none⟩ : Addr).add 0) fun x70 =>
        Br (x69 == x70) (E62 (some (.exit 4)) h64)
        (Ld (.i .i64) h64 (a54.add 0) fun x71 => Ld .s h64 ((⟨a26, 0, none⟩ : Addr).add 0) fun x72 =>
        Br (decide (x71 ≥ ((x72.len : Nat) : Int))) (St h64 ((⟨a3, 0, none⟩ : Addr).add 0) (.bool false) fun h73 => E62 (some .ret) h73)
        (Ld .s h64 ((⟨a26, 0, none⟩ : Addr).add 0) fun x74 => Ld (.i .i64) h64 (a54.add 0) fun x75 =>
        IdxS x74.a x74.len x75 fun a76 => Ld (.i .i64) h64 ((a76.add (Int.toNat x75 * 1)).add 0) fun x77 =>
        Br (x77 != n68) (St h64 ((⟨a3, 0, none⟩ : Addr).add 0) (.bool false) fun h78 => E62 (some .ret) h78)
        (Ld (.i .i64) h64 (a54.add 0) fun x79 => St h64 (a54.add 0) (.int .i64 (IntKind.wrap .i64 (x79 + 1))) fun h80 => E62 none h80))))
        (fun Y67 l59 K' h' => F200r Y67 (yV l59) r52 (fun h'' => K' h'') h') h56 fun j65 D57 h58 =>
        JumpP j65 (A a54 D57 h58) (R a54 D57 h58) (fun i66 => bif Nat.beq i66 4 then X a54 D57 h58 else False)) h := by
  rw [F149c_eq]
  refine Nw_intro fun b2 h1 hb2 k1 eb => Nw_intro fun a5 h2 ha5 k2 e5 => ?_
  rw [show zeroC Try.prog 3 = #[.int .i64 0] by kernel_rfl] at e5
  simp only [add_mk]
  refine St_intro e5 (by simp) fun h3 u3 e5 => ?_
  have e5 : h3[a5]? = some (.cells #[.int .i64 0] 3) := e5
  have hk1 := k1.1
  have hk2 := k2.1
  have K3 : Kept h h3 := u3.kept (k1.trans k2) (by omega)
  have l5 := (Array.getElem?_eq_some_iff.1 e5).1
  have eb3 : h3[b2]? = some (.cells #[.pointer (some ⟨K.bx 0, 0, none⟩)] 167) := u3.blk (k2.blk eb) (by have := (Array.getElem?_eq_some_iff.1 eb).1; omega)
  have lb := (Array.getElem?_eq_some_iff.1 e1).1
  have l26 := (Array.getElem?_eq_some_iff.1 e26).1
  have hsl := g.one_len
  intro r hr hp Y hround
  obtain ⟨D, hD⟩ : ∃ D, D = h3.size := ⟨_, rfl⟩
  rw [← hD] at hround ⊢
  obtain ⟨hq, hhq⟩ : ∃ hq, hq = (h3.push (.deferred (some []))).push (.loop r) := ⟨_, rfl⟩
  rw [← hhq]
  have s1 : hq.size = D + 2 := by rw [hhq, hD]; simp
  have kq : Kept h3 hq := by
    rw [hhq]
    exact ⟨by simp; omega, fun i hi => by rw [Array.getElem?_push_lt (by simp; omega), Array.getElem_push_lt hi]; simp [hi]⟩
  have eqr : hq[D + 1]? = some (.loop r) := by
    rw [hhq, hD, show h3.size + 1 = (h3.push (.deferred (some []))).size by simp, Array.getElem?_push_size]
  have eqD : hq[D]? = some (.deferred (some [])) := by rw [hhq, hD]; simp [Array.getElem?_push]
  have Kq : Kept h hq := K3.trans kq
  have s3 := K3.1
  obtain ⟨T0, hT0⟩ : ∃ T0, T0 = leavesT K.n ws (K.rt 0) := ⟨_, rfl⟩
  have hx : fsts T0 = xs := by
    obtain ⟨v1, v2⟩ := w.wd.leaves one.l0
    rw [hT0]
    exact Srt.eq v1 srt fun a => by rw [v2 a, mem a]
  have tlen : T0.length = xs.length := by rw [← hx]; unfold fsts; rw [List.length_map]
  show F200r Y (yV (D + 1)) ⟨b2, 0, none⟩ _ _
  have nM : ∀ (M : List Nat), (∀ b ∈ M, hq.size ≤ b) → ∀ x, x < hq.size → x ∉ M := fun M hM x hx hm => by have := hM x hm; omega
  refine K200r (K := K) (s := 0) (h0 := h0) (nt := nt) (ws := ws) (ps := ps) (Lx := [a5, D + 1]) (t := 167)
    (J0 := fun d h' => Kept h h' ∧ h'[a5]? = some (.cells #[.int .i64 (d.length : Int)] 3) ∧ h'[D + 1]? = some (.loop r) ∧ h'[D]? = some (.deferred (some [])))
    (X := fun h' => Kept h h' ∧ 0 ≤ most ∧ h'[D + 1]? = some (.loop (recE r (some (.exit 4)))) ∧ h'[D]? = some (.deferred (some [])))
    one.l0 (fun d h' j => w.kept j.1)
    (fun d h1 h2 M hM ⟨j1, j2, j3, j4⟩ k => ⟨k.kept j1 fun b hb => by have := hM b hb; omega, k.blk j2 (nM M hM _ (by omega)), k.blk j3 (nM M hM _ (by omega)), k.blk j4 (nM M hM _ (by omega))⟩)
    (fun h1 h2 M hM ⟨j1, j2, j3, j4⟩ k => ⟨k.kept j1 fun b hb => by have := hM b hb; omega, j2, k.blk j3 (nM M hM _ (by omega)), k.blk j4 (nM M hM _ (by omega))⟩)
    (kq.blk eb3) (fun b hb => by simp only [List.mem_cons, List.not_mem_nil, or_false] at hb; omega) ?_ ⟨Kq, kq.blk e5, eqr, eqD⟩ ?_ ?_
  · rintro d e rr h' K' hT ⟨j1, j2, j3, j4⟩ hsz qt qf
    rw [← hT0] at hT
    refine hround (e.1, (flg e.2, ppn e.2, ()), ()) K' h' j3 ?_
    have dl : d.length < T0.length := by rw [hT]; simp
    simp only [LetI]
    refine ⟨j3, ?_⟩
    have ur := set_upd2 h' (D + 1) (.loop (recB r))
    have er : (h'.setIfInBounds (D + 1) (.loop (recB r)))[D + 1]? = some (.loop (recB r)) := setL2 (by omega)
    generalize h'.setIfInBounds (D + 1) (.loop (recB r)) = h6 at ur er ⊢
    have s6 := ur.1
    have k6 : Kept h h6 := ur.kept j1 (by omega)
    have f5 := ur.blk j2 (show a5 ≠ D + 1 by omega)
    have fD := ur.blk j4 (show D ≠ D + 1 by omega)
    have c5 : hcell h6 ⟨a5, 0 + 0, none⟩ = some (.int .i64 (d.length : Int)) := by rw [hcell_blk f5]; rfl
    have c26 : hcell h6 ⟨a26, 0 + 0, none⟩ = some (.slice s.a s.len s.cap) := by rw [hcell_blk (k6.blk e26)]; rfl
    refine Ld_i c5 (Ld_i (x := most) (by rw [hcell_blk (k6.blk e1)]; rfl) (Br_beq_int (fun hm => ?_) fun _ => ?_))
    · refine ⟨er, ?_⟩
      have u7 := set_upd2 h6 (D + 1) (.loop (recE r (some (.exit 4))))
      exact qf _ ⟨u7.kept k6 (by omega), by omega, setL2 (by omega), u7.blk fD (by omega)⟩ ((ur.kl (by simp)).trans (u7.kl (by simp)))
    · refine Ld_i c5 (Ld_s (x := s) c26 (Br_dec (fun hge => ?_) fun _ => Ld_s (x := s) c26 (Ld_i c5 ?_)))
      · exact absurd (show (s.len : Int) ≤ d.length from hge) (by omega)
      obtain ⟨b0, hb0, p0⟩ := (g.kept k6).idx (i := d.length) (d := 0) (by omega) (by omega)
      rw [show xs.getD (1 * d.length + 0) 0 = e.1 by
        rw [← hx, hT, show 1 * d.length + 0 = d.length by omega]; unfold fsts
        rw [List.map_append, List.getD_eq_getElem?_getD, List.getElem?_append_right (by simp)]; simp] at p0
      simp only [hb0]
      refine ⟨⟨by omega, by omega⟩, ?_⟩
      simp only [add_mk, Int.toNat_natCast]
      refine Ld_i (x := e.1) p0 ?_
      simp only [bne_self_eq_false, Br_false]
      refine Ld_i c5 (St_intro f5 (by simp) fun h7 u7 e7 => ?_)
      have s7 := u7.1
      refine ⟨u7.blk er (by omega), ?_⟩
      rw [recE_none2 hr hp]
      have u8 := set_upd2 h7 (D + 1) (.loop r)
      have w1 : IntKind.wrap .i64 ((d.length : Int) + 1) = (((d ++ [e]).length : Nat) : Int) := by rw [wrap_i64' _ (by omega) (by omega)]; simp
      rw [w1] at e7
      exact qt _ ⟨u8.kept (u7.kept k6 (by omega)) (by omega), u8.blk e7 (by omega), setL2 (by omega), u8.blk (u7.blk fD (by omega)) (by omega)⟩ ((ur.kl (by simp)).trans ((u7.kl (by simp)).trans (u8.kl (by simp))))
  · rintro h' ⟨j1, j2, j3, j4⟩ hsz
    refine ⟨none, by rw [recE_none2 hr hp]; exact j3, ?_⟩
    rw [← hT0] at j2
    have ux := set_upd2 h' (D + 1) (.loop (recX r none))
    refine qa a5 D _ (ux.kept j1 (by omega)) (by omega) (ux.blk j4 (by omega)) ?_
    rw [hcell_blk (ux.blk j2 (by omega)), hsl, ← tlen]; rfl
  · rintro h' ⟨j1, j2, j3, j4⟩ hsz
    refine ⟨some (.exit 4), j3, ?_⟩
    have ux := set_upd2 h' (D + 1) (.loop (recX r (some (.exit 4))))
    exact qx a5 D _ (ux.kept j1 (by omega)) (by omega) (ux.blk j4 (by omega)) j2

/-- Where PmapTells stands: the space beside the list of its pages. -/
def Tel (K : WK) (h0 : H) (a26 : Nat) (i B : Int) (h : H) : Prop :=
  ∃ (nt : Nat → Int) (ws fs xs : List Int) (s : Sl), WH K h0 h nt ws fs ∧ h[a26]? = some (.cells #[.slice s.a s.len s.cap] 42) ∧ GS .i64 h 3 1 s xs (a26 :: L3b K.bf K.pf (K.bx 0)) 0 ∧ Srt xs ∧ (∀ u, u ∈ xs ↔ pgv K.n ws (K.rt 0) u ≠ 0) ∧ (xs.length : Int) ≤ i ∧ nt 0 ≤ B
theorem LetI_in {x : Int} {k : Int → Prop} (h : k x) : LetI x k := h
theorem WH.set1 {K : WK} {h0 h h' : H} {nt : Nat → Int} {ws ps : List Int} {a : Nat} (w : WH K h0 h nt ws ps) (one : One K) (u : Upd h a h') (ha : h0.size ≤ a) (n1 : K.bm ≠ a) (n2 : K.bf ≠ a) (n3 : K.bp ≠ a) (n4 : K.pf ≠ a) (n5 : K.bx 0 ≠ a) : WH K h0 h' nt ws ps := by
  have k : KL h [a] h' := u.kl (by simp)
  exact ⟨⟨w.pw.mw.kl k (by simpa using n1) (by simpa using n2), ⟨u.blk w.pw.pm.top n3, u.blk w.pw.pm.row n4, w.pw.pm.len, w.pw.pm.ne, w.pw.pm.lo, w.pw.pm.le, w.pw.pm.res0⟩, w.pw.gf, w.pw.e1, w.pw.e2, w.pw.e3⟩, w.wd, fun s hs => ⟨k.blk (w.xm s hs).cells (by rw [(one.l1 s).1 hs]; simpa using n5)⟩, w.nx, w.ij, k.kept w.kp (fun b hb => by rw [List.mem_singleton] at hb; omega), w.lo, w.lx⟩
set_option maxHeartbeats 2000000 in
theorem L38 {a0 x1 : Option Addr} {l0 c0 l1 c1 : Nat} {most : Int} {Q : Bool → H → Prop} {h : H} (o0 : Opn h (.slice (.int .u64)) [.slice a0 l0 c0]) (o1 : Opn h (.slice (.int .u64)) [.slice x1 l1 c1])
    (q : ∀ h', Kept h h' → Q true h') : F38 ⟨a0, l0, c0⟩ ⟨x1, l1, c1⟩ most Q h := by
  obtain ⟨ps, P⟩ := SU.of o0
  obtain ⟨rs, R⟩ := SU.of o1
  rw [F38_eq]
  unfold B38
  refine Nw_intro fun a1 h2 ha1 k2 e1 => Nw_intro fun a3 h4 ha3 k4 e3 => ?_
  rw [show zeroC Try.prog 4 = #[.bool false] by kernel_rfl] at e3
  have e1 := k4.blk e1
  have l1' := (Array.getElem?_eq_some_iff.1 e1).1
  have l3 := (Array.getElem?_eq_some_iff.1 e3).1
  have hk2 := k2.1
  have K4 := k2.trans k4
  have fin : ∀ h', Kept h4 h' → F129 (fun r5 h6 => St h6 ((⟨a3, 0, none⟩ : Addr).add 0) (.bool r5) fun h7 => TakeAll [] h7 fun h8 => Ld .b h8 ((⟨a3, 0, none⟩ : Addr).add 0) fun x9 => Q x9 h8) h' := by
    intro h' k
    refine C129 fun h6 k6 => St_intro ((k.trans k6).blk e3) (by simp) fun h7 u7 e7 => ?_
    show Ld .b h7 _ _
    exact Ld_b (x := true) (by rw [add_mk, hcell_blk e7]; rfl) (q h7 (u7.kept ((K4.trans k).trans k6) (by omega)))
  refine Br_dec (fun _ => fin h4 (Kept.refl _)) fun hl => Br_dec (fun _ => fin h4 (Kept.refl _)) fun hl' => ?_
  have hl0 : l0 ≤ 30 := by simp at hl; omega
  have hl1 : l1 ≤ 30 := by simp at hl'; omega
  refine QN (n := 128) (h0 := h4) (Kept.refl h4) (by omega) (by omega) 3 fun K h5 ws fs hn one w z => ?_
  refine LetI_in ?_
  rw [bne_self_eq_false, Br_false]
  refine Nw_intro fun a26 h6 ha26 k6 e26 => ?_
  rw [show zeroC Try.prog 42 = #[.slice none 0 0] by kernel_rfl] at e26
  have lw := (w.w1 one.l0).lt
  have ncore : ∀ b ∈ L3b K.bf K.pf (K.bx 0), b < h5.size := fun b hb => by
    simp only [L3b, List.mem_cons, List.not_mem_nil, or_false] at hb; omega
  have na26 : a26 ∉ L3b K.bf K.pf (K.bx 0) := fun hm => by have := ncore _ hm; omega
  have loc : ∀ b ∈ L3b K.bf K.pf (K.bx 0), h4.size ≤ b := fun b hb => by
    have l := w.lo
    have l2 := w.lx 0 one.l0
    simp only [L3b, List.mem_cons, List.not_mem_nil, or_false] at hb; omega
  have s5 := w.kp.1
  -- the end: the space was given back
  have fin4 : ∀ D h', Kept h4 h' → a26 < D → h'[D]? = some (.deferred (some [])) → St h' ((⟨a3, 0, none⟩ : Addr).add 0) (.bool true) fun h99 => TakeAll (D :: []) h99 fun h101 => Ld .b h101 ((⟨a3, 0, none⟩ : Addr).add 0) fun x102 => Q x102 h101 := by
    intro D h' k hD eD
    refine St_intro (k.blk e3) (by simp) fun h7 u7 e7 => ⟨u7.blk eD (by omega), ?_⟩
    have u8 := set_upd2 h7 D (.deferred none)
    have e8 := u8.blk e7 (show a3 ≠ D by omega)
    exact Ld_b (x := true) (by rw [add_mk, hcell_blk e8]; rfl) (q _ (u8.kept (u7.kept (K4.trans k) (by omega)) (by omega)))
  have fin5 : ∀ D h8 h', Kept h4 h8 → a26 < D → h8[D]? = some (.deferred (some [])) → KL h8 (L3b K.bf K.pf (K.bx 0)) h' → St h' ((⟨a3, 0, none⟩ : Addr).add 0) (.bool true) fun h99 => TakeAll (D :: []) h99 fun h101 => Ld .b h101 ((⟨a3, 0, none⟩ : Addr).add 0) fun x102 => Q x102 h101 :=
    fun D h8 h' k hD eD kl => fin4 D h' (kl.kept k loc) hD (kl.blk eD fun hm => by have := ncore _ hm; omega)
  refine Loop_intro (σ := Int × Unit) (x := (0, ())) (fun c z h' => ∃ i : Nat, z.1 = (i : Int) ∧ c = l0 - i ∧ i ≤ l0 ∧ Tel K h4 a26 i (1 + 2 * i) h') l0
    ⟨0, rfl, rfl, by omega, _, ws, fs, [], ⟨none, 0, 0⟩, w.kept k6, e26, GS.nil, List.Pairwise.nil, fun u => ⟨fun h => absurd h (by simp), fun hu => absurd (z u) hu⟩, by simp, by rw [setN_at]; omega⟩ ?_
  rintro c ⟨zz, u⟩ h7 ⟨i, hi, hc, hil, nt, ws3, fs3, xs, s, w3, e26', g3, srt, mem, hlen, hnt⟩
  simp only at hi
  subst hi
  refine Br_dec (fun hlt => ?_) fun hge => ?_
  · have hilt : i < l0 := Int.ofNat_lt.1 hlt
    obtain ⟨ad, had, hcell⟩ := ((P.kept K4).kept w3.kp).idx (i := i) (by simpa using hilt)
    have had : a0 = some ad := had
    subst had
    refine ⟨⟨Int.natCast_nonneg i, Int.ofNat_lt.2 hilt⟩, ?_⟩
    simp only [LetI, add_add, Int.toNat_natCast, Nat.mul_one, Nat.add_zero]
    have hx := P.get i
    refine Ld_i (x := ps.getD i 0) hcell ?_
    generalize ps.getD i 0 = x at *
    have t1 : IntKind.wrap .i64 (Int.tmod (IntKind.wrap .u64 ((Int.tmod x 5) * 262144)) 67108864) = x % 5 * 262144 := by
      rw [Int.tmod_eq_emod_of_nonneg hx.1, wrap_u64, Int.tmod_eq_emod_of_nonneg (by omega), wrap_i64' _ (by omega) (by omega)]; omega
    have t2 : IntKind.wrap .i64 (Int.tmod (IntKind.wrap .u64 (Int.tdiv x 5)) 7) = x / 5 % 7 := by
      rw [Int.tdiv_eq_ediv_of_nonneg hx.1, wrap_u64, Int.tmod_eq_emod_of_nonneg (by omega), wrap_i64' _ (by omega) (by omega)]; omega
    have t3 : IntKind.wrap .i64 (Int.tmod x 128) = x % 128 := by rw [Int.tmod_eq_emod_of_nonneg hx.1, wrap_i64' _ (by omega) (by omega)]
    have t4 : IntKind.wrap .i64 (1 + IntKind.wrap .i64 (Int.tmod x 7)) = 1 + x % 7 := by
      rw [Int.tmod_eq_emod_of_nonneg hx.1, wrap_i64' (x % 7) (by omega) (by omega), wrap_i64' _ (by omega) (by omega)]
    rw [t1, t2, t3, t4, wrap_i64' (x % 5 * 262144 + x / 5 % 7) (by omega) (by omega)]
    obtain ⟨v, hv⟩ : ∃ v, v = x % 5 * 262144 + x / 5 % 7 := ⟨_, rfl⟩
    rw [← hv]
    have hv0 : 0 ≤ v ∧ v < 67108864 := by omega
    have cn := w3.wd.one one.l1
    rw [hn] at cn
    refine ⟨by omega, by omega, by omega, by omega, by omega, by omega, Q130 w3 one.l0 (fun h8 hb _ _ => absurd hb (okE (by omega) (by omega) (by rw [hn]; omega))) (fun h8 nd ws4 fs4 _ hnd hN hc4 w4 pg4 _ k8 => ?_) fun h8 nd ws4 fs4 _ hnd hN hc4 w4 _ pg4 _ => by rw [hn, cn.2] at hc4; omega⟩
    simp only [bne_self_eq_false, Br_false]
    have e8 := k8.blk e26' na26
    refine Ld_s (x := s) (by rw [add_mk, hcell_blk e8]; rfl) ?_
    have g8 := g3.kl k8 fun b hb => List.mem_cons_of_mem _ hb
    refine P133s g8 (by omega) srt fun s9 ys h9 k9 g9 srt9 mem9 len9 => St_intro (k9.blk e8) (by simp) fun h10 u10 e10 => ?_
    have lw4 := (w4.w1 one.l0).lt
    have l8 := (Array.getElem?_eq_some_iff.1 e8).1
    have hw : IntKind.wrap .i64 ((i : Int) + 1) = ((i + 1 : Nat) : Int) := by rw [wrap_i64'] <;> omega
    have g9' : GS .i64 h9 3 1 s9 ys (a26 :: L3b K.bf K.pf (K.bx 0)) 0 := g9.wide fun b hb => by
      rcases List.mem_cons.1 hb with rfl | hb
      · exact l8
      · simp only [L3b, List.mem_cons, List.not_mem_nil, or_false] at hb; omega
    refine ⟨l0 - (i + 1), by omega, i + 1, hw, rfl, hilt, _, ws4, fs4, ys, s9, (w4.kept k9).set1 one u10 (by omega) (by omega) (by omega) (by omega) (by omega) (by omega), e10, g9'.kl (u10.kl (L := [a26]) (by simp)) (by simp), srt9, fun u => ?_, by omega, ?_⟩
    · rw [mem9 u, pg4 0 u one.l0, mem u]
      by_cases e : u = v
      · rw [if_pos ⟨rfl, e⟩]; exact ⟨fun _ => leafV_ne (by omega) _, fun _ => .inl e⟩
      · rw [if_neg fun x => e x.2]; exact ⟨fun h => h.resolve_left e, .inr⟩
    · rw [setN_at]; omega
  · have tz := Nat.le_refl 0
    have endp : ∀ (nt : Nat → Int) (ws fs xs : List Int) (s : Sl) (h8 : H), WH K h4 h8 nt ws fs → h8[a26]? = some (.cells #[.slice s.a s.len s.cap] 42) → Kept h4 h8 := fun _ _ _ _ _ _ w _ => w.kp
    refine Loop_intro (σ := Int × Unit) (x := (0, ())) (fun c z h' => ∃ j : Nat, z.1 = (j : Int) ∧ c = l1 - j ∧ j ≤ l1 ∧ Tel K h4 a26 30 1000 h') l1
      ⟨0, rfl, rfl, by omega, nt, ws3, fs3, xs, s, w3, e26', g3, srt, mem, by omega, by omega⟩ ?_
    clear hlen hnt mem srt g3 e26' w3
    rintro c' ⟨zz', u'⟩ h8 ⟨j, hj, hc', hjl, nt4, ws4, fs4, xs4, s4, w4, e4, g4, srt4, mem4, len4, nt4b⟩
    simp only at hj
    subst hj
    have l26 := (Array.getElem?_eq_some_iff.1 e4).1
    refine Br_dec (fun hlt => ?_) fun hge => ?_
    · have hjlt : j < l1 := Int.ofNat_lt.1 hlt
      obtain ⟨ad, had, hc9⟩ := ((R.kept K4).kept w4.kp).idx (i := j) (by simpa using hjlt)
      have had : x1 = some ad := had
      subst had
      refine ⟨⟨Int.natCast_nonneg j, Int.ofNat_lt.2 hjlt⟩, ?_⟩
      have hx := R.get j
      refine Ld_i (x := rs.getD j 0) (by simpa [add_add] using hc9) ?_
      show Ld .s _ _ _
      generalize rs.getD j 0 = x at *
      refine Ld_s (x := s4) (by rw [add_mk, hcell_blk e4]; rfl) (Br_beq_int (fun he => ?_) fun hne => ?_)
      · refine walk38 w4 one (w4.kp.blk e1) e4 g4 srt4 mem4 (by omega) (fun b D h9 k9 hD eD cb => ?_) (fun b D h9 k9 hD eD hm => ?_)
        · refine Ld_i (x := most) (by rw [add_mk, hcell_blk ((w4.kp.trans k9).blk e1)]; rfl) (Br_dec (fun hm => Ld_i cb (Ld_s (x := s4) (by rw [add_mk, hcell_blk (k9.blk e4)]; rfl) ?_)) fun hm => ?_)
          · simp only [bne_self_eq_false, Br_false]
            exact tail38 (w4.kept k9) one hn fun h10 k10 => fin5 D h9 h10 (w4.kp.trans k9) (by omega) eD k10
          · exact tail38 (w4.kept k9) one hn fun h10 k10 => fin5 D h9 h10 (w4.kp.trans k9) (by omega) eD k10
        · refine Ld_i (x := most) (by rw [add_mk, hcell_blk ((w4.kp.trans k9).blk e1)]; rfl) (Br_dec (fun hh => ?_) fun _ => ?_)
          · exact absurd (show most < 0 from hh) (by omega)
          · exact tail38 (w4.kept k9) one hn fun h10 k10 => fin5 D h9 h10 (w4.kp.trans k9) (by omega) eD k10
      · have hsl := g4.one_len
        have hne : 0 < s4.len := by
          have h1 : (s4.len : Int) ≠ 0 := hne
          omega
        have hu : IntKind.wrap .u64 ((s4.len : Nat) : Int) = (s4.len : Int) := by rw [wrap_u64]; omega
        obtain ⟨p, hp0, hpl⟩ : ∃ p : Nat, IntKind.wrap .i64 (Int.tmod x (IntKind.wrap .u64 ((s4.len : Nat) : Int))) = (p : Int) ∧ p < s4.len := by
          have b1 := Int.emod_nonneg x (show (s4.len : Int) ≠ 0 by omega)
          have b2 := Int.emod_lt_of_pos x (show 0 < (s4.len : Int) by omega)
          refine ⟨(x % s4.len).toNat, ?_, by omega⟩
          rw [hu, Int.tmod_eq_emod_of_nonneg hx.1, wrap_i64' _ (by omega) (by omega)]; omega
        have c26 : hcell h8 ((⟨a26, 0, none⟩ : Addr).add 0) = some (.slice s4.a s4.len s4.cap) := by rw [add_mk, hcell_blk e4]; rfl
        refine Ld_s (x := s4) c26 (Ld_s (x := s4) c26 ⟨?_, ?_⟩)
        · show IntKind.wrap .u64 ((s4.len : Nat) : Int) ≠ 0
          omega
        rw [hp0]
        obtain ⟨b0, hb0, c0⟩ := g4.idx (i := p) (d := 0) hpl (by omega)
        rw [hb0]
        refine ⟨⟨Int.natCast_nonneg p, Int.ofNat_lt.2 hpl⟩, ?_⟩
        rw [show xs4.getD (1 * p + 0) 0 = xs4.getD p 0 by rw [show 1 * p + 0 = p by omega]] at c0
        have hv : xs4.getD p 0 ∈ xs4 := by rw [List.getD_eq_getElem?_getD, List.getElem?_eq_getElem (by omega)]; exact List.getElem_mem _
        generalize xs4.getD p 0 = v at c0 hv
        refine Ld_i (x := v) (by simpa [add_mk] using c0) (LetI_in ?_)
        have mv := (mem4 v).1 hv
        refine JoinI (fun _ h' => ∃ nt5 ws5 fs5, WH K h4 h' nt5 ws5 fs5 ∧ PgSet K ws4 ws5 0 v 0 ∧ KL h8 (L3b K.bf K.pf (K.bx 0)) h') (fun J hJ => ?_) ?_
        · refine Q134 w4 one.l0 fun h9 nt9 ws9 fs9 w9 pg9 k9 => ?_
          rw [decide_eq_true mv, Bool.not_true, Br_false]
          refine Q134 w9 one.l0 fun h10 nt10 ws10 fs10 w10 pg10 k10 => ?_
          have z9 : pgv K.n ws9 (K.rt 0) v = 0 := by rw [pg9 0 v one.l0, if_pos ⟨rfl, rfl⟩]
          rw [show decide (pgv K.n ws9 (K.rt 0) v ≠ 0) = false from decide_eq_false (fun h => h z9), Br_false]
          refine hJ () h10 ⟨_, ws10, fs10, w10, fun s1 u hs1 => ?_, k9.trans k10⟩
          rw [pg10 s1 u hs1, pg9 s1 u hs1]
          by_cases e : s1 = 0 ∧ u = v
          · simp only [if_pos e]
          · simp only [if_neg e]
        · rintro ⟨⟩ h11 ⟨nt5, ws5, fs5, w5, pg5, k5⟩
          have e5 := k5.blk e4 na26
          have g5 := g4.kl k5 fun b hb => List.mem_cons_of_mem _ hb
          refine Ld_s (x := s4) (by rw [add_mk, hcell_blk e5]; rfl) ?_
          refine P148 g5 (by omega) fun s9 h12 k12 g12 => St_intro (k12.blk e5) (by simp) fun h13 u13 e13 => ?_
          have lw5 := (w5.w1 one.l0).lt
          have l5 := (Array.getElem?_eq_some_iff.1 e5).1
          have hw : IntKind.wrap .i64 ((j : Int) + 1) = ((j + 1 : Nat) : Int) := by rw [wrap_i64'] <;> omega
          have g12' : GS .i64 h12 3 1 s9 (xs4.filter (· != v)) (a26 :: L3b K.bf K.pf (K.bx 0)) 0 := g12.wide fun b hb => by
            rcases List.mem_cons.1 hb with rfl | hb
            · exact l5
            · simp only [L3b, List.mem_cons, List.not_mem_nil, or_false] at hb; omega
          have fl := List.length_filter_le (· != v) xs4
          have c5 := (w5.cnt one.l0).2
          refine ⟨l1 - (j + 1), by omega, j + 1, hw, rfl, hjlt, _, ws5, fs5, xs4.filter (· != v), s9, (w5.kept k12).set1 one u13 (by omega) (by omega) (by omega) (by omega) (by omega) (by omega), e13, g12'.kl (u13.kl (L := [a26]) (by simp)) (by simp), List.Pairwise.sublist List.filter_sublist srt4, fun u => ?_, by omega, by omega⟩
          rw [List.mem_filter, pg5 0 u one.l0, mem4 u]
          by_cases e : u = v
          · rw [if_pos ⟨rfl, e⟩]; simp [e]
          · rw [if_neg fun x => e x.2]; simp [e]
    · refine walk38 w4 one (w4.kp.blk e1) e4 g4 srt4 mem4 (by omega) (fun b D h9 k9 hD eD cb => ?_) (fun b D h9 k9 hD eD hm => ?_)
      · refine Ld_i (x := most) (by rw [add_mk, hcell_blk ((w4.kp.trans k9).blk e1)]; rfl) (Br_dec (fun hm => Ld_i cb (Ld_s (x := s4) (by rw [add_mk, hcell_blk (k9.blk e4)]; rfl) ?_)) fun hm => ?_)
        · simp only [bne_self_eq_false, Br_false]
          exact tail38 (w4.kept k9) one hn fun h10 k10 => fin5 D h9 h10 (w4.kp.trans k9) (by omega) eD k10
        · exact tail38 (w4.kept k9) one hn fun h10 k10 => fin5 D h9 h10 (w4.kp.trans k9) (by omega) eD k10
      · refine Ld_i (x := most) (by rw [add_mk, hcell_blk ((w4.kp.trans k9).blk e1)]; rfl) (Br_dec (fun hh => ?_) fun _ => ?_)
        · exact absurd (show most < 0 from hh) (by omega)
        · exact tail38 (w4.kept k9) one hn fun h10 k10 => fin5 D h9 h10 (w4.kp.trans k9) (by omega) eD k10

end Go.Proofs.Ytfijchofplkcoaa
