/-
  Memories made of words, both alike; the document's examples of walks live; the laws WalkWalks and WalkPlaces over the heap predicates.
-/
import Derived.Test.YtfijchofplkcoaaJb
set_option linter.unusedVariables false
set_option linter.unusedSimpArgs false
set_option maxRecDepth 100000
namespace Go.Proofs.Ytfijchofplkcoaa

structure Two (h0 : H) (bm bf rm rt : Nat) (cs : List Nat) (n : Nat) (ws : List Int) (h' : H) : Prop where
  kept : Kept h0 h'
  mw : MW h' bm bf n ws
  rw : RW h' rm rt cs n ws
  l1 : h0.size ≤ bf
  l2 : ∀ c ∈ cs, h0.size ≤ c
  d1 : bm ∉ cs
  d2 : bf ∉ cs
  d3 : rm ≠ bf
  d4 : rt ≠ bf
section
variable {h0 h h' : H} {bm bf rm rt n : Nat} {cs : List Nat} {ws ws' : List Int}
theorem Two.k (t : Two h0 bm bf rm rt cs n ws h) (k : Kept h h') : Two h0 bm bf rm rt cs n ws h' :=
  ⟨t.kept.trans k, t.mw.kept k, t.rw.kept k, t.l1, t.l2, t.d1, t.d2, t.d3, t.d4⟩
/-- The document's memory behind a change of the program's. -/
theorem Two.r (t : Two h0 bm bf rm rt cs n ws h) (k : KB h bf h') : RW h' rm rt cs n ws :=
  t.rw.kl (L := [bf]) (k.kl (by simp)) (by simpa using t.d3) (by simpa using t.d4) (fun c hc => by simp; intro e; subst e; exact t.d2 hc)
theorem Two.both {h'' : H} (t : Two h0 bm bf rm rt cs n ws h) (k : KB h bf h') (m : MW h' bm bf n ws') (k' : KL h' cs h'') (r : RW h'' rm rt cs n ws') : Two h0 bm bf rm rt cs n ws' h'' :=
  ⟨k'.kept (k.kept t.kept t.l1) t.l2, m.kl k' t.d1 t.d2, r, t.l1, t.l2, t.d1, t.d2, t.d3, t.d4⟩
end
abbrev Q4 := Int × Int × Int × Int
def WSl (h : H) (s : Sl) (l : List Q4) : Prop := l.length = s.len ∧ ∀ i, i < s.len → ∃ ad, s.a = some ad ∧ ∃ w : Q4, l[i]? = some w ∧ hcell h (ad.add (i * 4 + 0)) = some (.int .i64 w.1) ∧ hcell h (ad.add (i * 4 + 1)) = some (.int .i64 w.2.1) ∧
  hcell h (ad.add (i * 4 + 2)) = some (.int .i64 w.2.2.1) ∧ hcell h (ad.add (i * 4 + 3)) = some (.int .i64 w.2.2.2)
theorem WSl.kept {h h' : H} {s : Sl} {l : List Q4} (e : WSl h s l) (k : Kept h h') : WSl h' s l := by
  refine ⟨e.1, fun i hi => ?_⟩
  obtain ⟨ad, h1, w, hw, g0, g1, g2, g3⟩ := e.2 i hi
  exact ⟨ad, h1, w, hw, k.cell g0, k.cell g1, k.cell g2, k.cell g3⟩
theorem WSl.nil (h : H) : WSl h ⟨none, 0, 0⟩ [] := ⟨rfl, fun i hi => absurd hi (by simp)⟩
abbrev DW : DTy := .pair (.int .i64) (.pair (.int .i64) (.pair (.pair (.int .i64) (.pair (.int .i64) .unit)) .unit))
theorem opn_W {h : H} {cs : List Value} (o : Opn h DW cs) : ∃ a b c d, cs = [.int .i64 a, .int .i64 b, .int .i64 c, .int .i64 d] := by
  obtain ⟨x, y, rfl, _, ⟨a, rfl, _⟩, ⟨x, y, rfl, _, ⟨b, rfl, _⟩, ⟨x, y, rfl, _, ⟨x, y, rfl, _, ⟨c, rfl, _⟩, ⟨x, y, rfl, _, ⟨d, rfl, _⟩, rfl⟩⟩, rfl⟩⟩⟩ := o
  exact ⟨a, b, c, d, rfl⟩
theorem WSl.of {h : H} {a : Option Addr} {l c : Nat} (o : Opn h (.slice DW) [.slice a l c]) : ∃ ws, WSl h ⟨a, l, c⟩ ws := by
  rcases o with o | ⟨x, l', c', o, hl, hm, hx⟩
  · simp only [List.cons.injEq, Value.slice.injEq, and_true] at o
    obtain ⟨rfl, rfl, rfl⟩ := o
    exact ⟨[], WSl.nil h⟩
  · simp only [List.cons.injEq, Value.slice.injEq, and_true] at o
    obtain ⟨rfl, rfl, rfl⟩ := o
    have : ∀ i, ∃ w : Q4, i < l → hcell h (x.add (i * 4 + 0)) = some (.int .i64 w.1) ∧ hcell h (x.add (i * 4 + 1)) = some (.int .i64 w.2.1) ∧ hcell h (x.add (i * 4 + 2)) = some (.int .i64 w.2.2.1) ∧ hcell h (x.add (i * 4 + 3)) = some (.int .i64 w.2.2.2) := by
      intro i
      by_cases hi : i < l
      · obtain ⟨es, h1, h2, h3⟩ := hx i hi
        obtain ⟨p, q, r, s, rfl⟩ := opn_W h2
        exact ⟨(p, q, r, s), fun _ => ⟨h3 0 _ rfl, h3 1 _ rfl, h3 2 _ rfl, h3 3 _ rfl⟩⟩
      · exact ⟨(0, 0, 0, 0), fun hh => absurd hh hi⟩
    refine ⟨(List.range l).map fun i => Classical.choose (this i), by simp, fun i hi => ⟨x, rfl, Classical.choose (this i), ?_, Classical.choose_spec (this i) hi⟩⟩
    have hi : i < l := hi
    simp [hi]
theorem encF_range (f p : Int) : 0 ≤ encF f p ∧ encF f p < 18446744073709551616 := by unfold encF; omega
/-- The words that some words make. -/
def madeS (l : List Q4) : List Int := l.foldl (fun ws w => setF 8 ws w.1 w.2.1 (encF w.2.2.1 w.2.2.2)) (List.replicate 4096 0)
theorem madeS_snoc (l : List Q4) (w : Q4) : madeS (l ++ [w]) = setF 8 (madeS l) w.1 w.2.1 (encF w.2.2.1 w.2.2.2) := by unfold madeS; rw [List.foldl_append]; rfl
theorem madeS_take {l : List Q4} {i : Nat} {w : Q4} (h : l[i]? = some w) : madeS (l.take (i + 1)) = setF 8 (madeS (l.take i)) w.1 w.2.1 (encF w.2.2.1 w.2.2.2) := by
  rw [List.take_add_one, h]
  exact madeS_snoc _ w
theorem okW0 : OkW 8 (List.replicate 4096 0) := ⟨by rw [List.length_replicate], fun w hw => by rw [List.eq_of_mem_replicate hw]; omega, by omega⟩
theorem madeS_ok (l : List Q4) : OkW 8 (madeS l) := by
  unfold madeS
  have : ∀ (l : List Q4) (ws : List Int), OkW 8 ws → OkW 8 (l.foldl (fun ws w => setF 8 ws w.1 w.2.1 (encF w.2.2.1 w.2.2.2)) ws) := by
    intro l
    induction l with
    | nil => intro ws o; exact o
    | cons w l ih => intro ws o; exact ih _ (setF_ok o (encF_range _ _))
  exact this l _ okW0
theorem zero134 : zeroC Try.prog 134 = VI [0, 0, 0, 0] := by kernel_rfl
theorem put4 {h : H} {w t : Nat} {a b c d : Int} {K : H → Prop} (e1 : IL h w t [0, 0, 0, 0]) (k : ∀ h', Upd h w h' → IL h' w t [a, b, c, d] → K h') :
    St h ⟨w, 0 + 0, none⟩ (.int .i64 a) fun h2 => St h2 ⟨w, 0 + 1, none⟩ (.int .i64 b) fun h3 => St h3 ⟨w, 0 + 2, none⟩ (.int .i64 c) fun h4 => St h4 ⟨w, 0 + 3, none⟩ (.int .i64 d) K :=
  St_I e1 (by simp) fun h2 u2 e2 => St_I e2 (by simp) fun h3 u3 e3 => St_I e3 (by simp) fun h4 u4 e4 => St_I e4 (by simp) fun h5 u5 e5 => k h5 (((u2.trans u3).trans u4).trans u5) e5
theorem C116 {s : Sl} {l : List Q4} {Q : Option Addr → Option Addr → H → Prop} {h : H} (e : WSl h s l) (hl : s.len ≤ 1000)
    (q : ∀ bm bf rm rt cs h', Two h bm bf rm rt cs 8 (madeS l) h' → Q (some ⟨bm, 0, none⟩) (some ⟨rm, 0, none⟩) h') : F116 s Q h := by
  rw [F116_eq]
  unfold B116
  refine M61 (n := 8) (by omega) (by omega) fun bm bf h1 k1 hbm hbf m1 => R88 (n := 8) (by omega) (by omega) fun rm rt cs h2 k2 hrm hrt hcs r2 => ?_
  have hk1 := k1.1
  have lt1 := m1.lt
  have T0 : Two h bm bf rm rt cs 8 (List.replicate 4096 0) h2 :=
    ⟨k1.trans k2, m1.kept k2, r2, hbf, fun c hc => by have := hcs c hc; omega, fun hc => by have := hcs _ hc; omega, fun hc => by have := hcs _ hc; omega, by omega, by omega⟩
  refine Loop_intro (σ := Int × Unit) (x := (0, ())) (fun c z h' => ∃ i : Nat, z.1 = (i : Int) ∧ c = s.len - i ∧ i ≤ s.len ∧ Two h bm bf rm rt cs 8 (madeS (l.take i)) h') s.len
    ⟨0, rfl, rfl, by omega, by rw [List.take_zero]; exact T0⟩ ?_
  rintro c ⟨ii, u⟩ h3 ⟨i, hi, hc, hil, T3⟩
  simp only at hi
  subst hi
  refine Br_dec (fun hlt => ?_) fun hge => ?_
  · have hlt : i < s.len := by simpa using hlt
    obtain ⟨ad, had, w, hw, g0, g1, g2, g3⟩ := (e.kept T3.kept).2 i hlt
    simp only [had]
    refine ⟨⟨by omega, by omega⟩, ?_⟩
    simp only [add_add, Int.toNat_natCast]
    refine Ld_i g0 (Ld_i g1 (Ld_i g2 (Ld_i g3 (Nw_intro fun b h4 hb k4 e4 => ?_))))
    rw [zero134] at e4
    simp only [add_mk]
    refine put4 e4 fun h5 u5 e5 => ?_
    have k35 : Kept h3 h5 := u5.kept k4 (by omega)
    have hk35 := k35.1
    have T5 := T3.k k35
    have lt3 := T3.mw.lt
    have lr3 := T3.rw.mem.lt
    refine Ld_i (x := w.1) (by rw [hcell_blk e5]; rfl) (Ld_i (x := w.2.1) (by rw [hcell_blk e5]; rfl) (Ld_i (x := w.2.2.1) (by rw [hcell_blk e5]; rfl) (Ld_i (x := w.2.2.2) (by rw [hcell_blk e5]; rfl) ?_)))
    refine C51 fun h6 k6 => ⟨by rw [hcell_blk (k6.blk e5)]; rfl, by rw [hcell_blk (k6.blk e5)]; rfl, ?_⟩
    have T6 := T5.k k6
    have er := encF_range w.2.2.1 w.2.2.2
    refine M82 T6.mw er fun h7 u7 m7 => ?_
    have e7 := u7.blk (k6.blk e5) (show b ≠ bf by omega)
    refine Ld_i (x := w.1) (by rw [hcell_blk e7]; rfl) (Ld_i (x := w.2.1) (by rw [hcell_blk e7]; rfl) (Ld_i (x := w.2.2.1) (by rw [hcell_blk e7]; rfl) (Ld_i (x := w.2.2.2) (by rw [hcell_blk e7]; rfl) ?_)))
    refine C51 fun h8 k8 => ⟨by rw [hcell_blk (k8.blk e7)]; rfl, by rw [hcell_blk (k8.blk e7)]; rfl, ?_⟩
    refine R166 ((T6.r u7).kept k8) er fun h9 u9 r9 => ?_
    have T9 := T6.both (u7.trans k8.kb) (m7.kept k8) u9 r9
    rw [← madeS_take hw] at T9
    exact ⟨s.len - (i + 1), by omega, i + 1, by show IntKind.wrap .i64 ((i : Int) + 1) = _; rw [wrap_i64' _ (by omega) (by omega)]; omega, rfl, by omega, T9⟩
  · have : i = s.len := by omega
    subst this
    rw [List.take_of_length_le (by rw [e.1]; exact Nat.le_refl _)] at T3
    exact q bm bf rm rt cs h3 T3
/-- Three words: the entry of a page of the lowest table. -/
abbrev oneQ (i f p : Int) : List Q4 := [(0, 0, 1, 1), (1, 0, 1, 2), (2, i, f, p)]
theorem C124 {i f p : Int} {Q : Sl → H → Prop} {h : H} (q : ∀ s h', Kept h h' → s.len = 3 → WSl h' s (oneQ i f p) → Q s h') : F124 i f p Q h := by
  rw [F124_eq]
  refine Nw_intro fun a h1 ha k1 e1 => q ⟨some ⟨a, 0, none⟩, 3, 3⟩ h1 k1 rfl ⟨rfl, fun j hj => ⟨_, rfl, ?_⟩⟩
  have hj : j < 3 := hj
  have : j = 0 ∨ j = 1 ∨ j = 2 := by omega
  simp only [add_mk]
  rcases this with rfl | rfl | rfl
  · exact ⟨_, rfl, by rw [hcell_blk e1]; rfl, by rw [hcell_blk e1]; rfl, by rw [hcell_blk e1]; rfl, by rw [hcell_blk e1]; rfl⟩
  · exact ⟨_, rfl, by rw [hcell_blk e1]; rfl, by rw [hcell_blk e1]; rfl, by rw [hcell_blk e1]; rfl, by rw [hcell_blk e1]; rfl⟩
  · exact ⟨_, rfl, by rw [hcell_blk e1]; rfl, by rw [hcell_blk e1]; rfl, by rw [hcell_blk e1]; rfl, by rw [hcell_blk e1]; rfl⟩
/-- Of entries that lead to the lowest table: its pages' places. -/
theorem place_one {ws : List Int} (h0 : wat ws 0 0 = 1025) (h1 : wat ws 1 0 = 2049) {k : Nat} (hk : k < 512) : placeS 8 ws 0 (k : Int) = some (2, k) := by
  unfold placeS
  rw [if_pos (by omega)]
  have e2 : ((k : Int) / 262144 % 512).toNat = 0 := by omega
  have e1 : ((k : Int) / 512 % 512).toNat = 0 := by omega
  have e0 : ((k : Int) % 512).toNat = k := by omega
  rw [e2, e1, e0, show (0 : Int).toNat = 0 from rfl, h0]
  have l1 : lead 8 1025 = some 1 := by decide
  have l2 : lead 8 2049 = some 2 := by decide
  rw [l1]
  simp only [Option.bind_some, h1, l2, Option.map_some]
theorem setF_in {n : Nat} {ws : List Int} {f i : Nat} {v : Int} (hf : f < n) (hi : i < 512) : setF n ws f i v = ws.set (f * 512 + i) v := by
  unfold setF; rw [if_pos (by omega)]; rfl
theorem one_at {i : Nat} {f p : Int} (hi : i < 512) : wat (madeS (oneQ i f p)) 0 0 = 1025 ∧ wat (madeS (oneQ i f p)) 1 0 = 2049 ∧ wat (madeS (oneQ i f p)) 2 i = encF f p := by
  have e : madeS (oneQ i f p) = ((((List.replicate 4096 0).set (0 * 512 + 0) 1025).set (1 * 512 + 0) 2049).set (2 * 512 + i) (encF f p)) := by
    show setF 8 (setF 8 (setF 8 (List.replicate 4096 0) ((0 : Nat) : Int) ((0 : Nat) : Int) (encF 1 1)) ((1 : Nat) : Int) ((0 : Nat) : Int) (encF 1 2)) ((2 : Nat) : Int) (i : Int) (encF f p) = _
    rw [setF_in (n := 8) (f := 2) (by omega) hi, setF_in (n := 8) (f := 1) (by omega) (by omega), setF_in (n := 8) (f := 0) (by omega) (by omega)]
    rfl
  have o1 : OkW 8 ((List.replicate 4096 0).set (0 * 512 + 0) 1025) := okW0.set _ (by omega)
  have o2 : OkW 8 (((List.replicate 4096 0).set (0 * 512 + 0) 1025).set (1 * 512 + 0) 2049) := o1.set _ (by omega)
  rw [e]
  refine ⟨?_, ?_, ?_⟩
  · rw [wat_set o2 (by omega) hi (by omega), if_neg (by omega), wat_set o1 (by omega) (by omega) (by omega), if_neg (by omega), wat_set okW0 (by omega) (by omega) (by omega), if_pos ⟨rfl, rfl⟩]
  · rw [wat_set o2 (by omega) hi (by omega), if_neg (by omega), wat_set o1 (by omega) (by omega) (by omega), if_pos ⟨rfl, rfl⟩]
  · rw [wat_set o2 (by omega) hi hi, if_pos ⟨rfl, rfl⟩]
/-- A walk to a page of the lowest table. -/
theorem walk_one {ws : List Int} (h0 : wat ws 0 0 = 1025) (h1 : wat ws 1 0 = 2049) {k : Nat} (hk : k < 512) {va o acc : Int} (hva : va = k * 4096 + o) (ho : 0 ≤ o ∧ o < 4096) (u : Bool) :
    walkS 8 ws 0 va acc u = if ¬ (kindM (lo8 (flg (wat ws 2 k))) = 2 ∧ ppn (wat ws 2 k) < 8) then ((1, 0, 0), ws) else
      if mayM (lo8 (flg (wat ws 2 k))) (wOf acc) u = false then ((3, 0, 0), ws) else ((0, ppn (wat ws 2 k), o), ws.set (2 * 512 + k) (orS (wat ws 2 k) acc)) := by
  unfold walkS
  have hc : canF va = true := by unfold canF; simp; omega
  rw [if_neg (fun x => x ⟨hc, by omega, by omega⟩), show va / 4096 % 134217728 = (k : Int) by omega, place_one h0 h1 hk, show va % 4096 = o by omega]
  rfl
theorem walk_nil (acc : Int) (u : Bool) : walkS 8 (madeS []) 0 20480 acc u = ((1, 0, 0), madeS []) := by
  unfold walkS
  rw [if_neg (fun x => x ⟨by decide, by decide, by decide⟩)]
  have : placeS 8 (madeS []) 0 (20480 / 4096 % 134217728) = none := by
    unfold placeS
    rw [if_pos (by decide)]
    have e : ∀ t, (madeS []).getD t 0 = 0 := fun t => rep_getD 4096 t
    unfold wat
    rw [e, show lead 8 0 = none by decide]; rfl
  rw [this]
theorem C115 {Q : Bool → H → Prop} {h : H} (q : ∀ h', Kept h h' → Q true h') : F115 Q h := by
  rw [F115_eq]
  unfold B115
  refine C116 (WSl.nil h) (by simp) fun bm bf rm rt cs h1 T1 => M117 T1.mw fun h2 x y z ws' hs u2 m2 => ?_
  rw [walk_nil] at hs
  simp only [Prod.mk.injEq] at hs
  obtain ⟨⟨rfl, rfl, rfl⟩, rfl⟩ := hs
  have K2 := u2.kept T1.kept T1.l1
  simp only [LetI]
  refine C124 fun s h3 k3 hs3 W3 => C116 W3 (by omega) fun bm' bf' rm' rt' cs' h4 T4 => ?_
  have K4 := (K2.trans k3).trans T4.kept
  have hk3 := (K2.trans k3).1
  have hbf' := T4.l1
  obtain ⟨a0, a1, a2⟩ := one_at (i := 5) (f := 19) (p := 3) (by omega)
  obtain ⟨ws, hws⟩ : ∃ ws, ws = madeS (oneQ 5 19 3) := ⟨_, rfl⟩
  have e2 : wat ws 2 5 = 3091 := by rw [hws]; exact a2
  rw [show oneQ ((5 : Nat) : Int) 19 3 = oneQ 5 19 3 from rfl, ← hws] at a0 a1
  rw [← hws] at T4
  have w1 : walkS 8 ws 0 20487 1 true = ((0, 3, 7), ws.set (2 * 512 + 5) 3155) := by
    rw [walk_one a0 a1 (k := 5) (by omega) (o := 7) (by omega) (by omega), e2, if_neg (by decide), if_neg (by decide)]; rfl
  refine M117 T4.mw fun h5 x y z ws5 hs5 u5 m5 => ?_
  rw [w1] at hs5
  simp only [Prod.mk.injEq] at hs5
  obtain ⟨⟨rfl, rfl, rfl⟩, rfl⟩ := hs5
  have o := T4.mw.ok
  have b0 : wat (ws.set (2 * 512 + 5) 3155) 0 0 = 1025 := by rw [wat_set o (by omega) (by omega) (by omega), if_neg (by omega)]; exact a0
  have b1 : wat (ws.set (2 * 512 + 5) 3155) 1 0 = 2049 := by rw [wat_set o (by omega) (by omega) (by omega), if_neg (by omega)]; exact a1
  have b2 : wat (ws.set (2 * 512 + 5) 3155) 2 5 = 3155 := by rw [wat_set o (by omega) (by omega) (by omega), if_pos ⟨rfl, rfl⟩]
  have w2 : walkS 8 (ws.set (2 * 512 + 5) 3155) 0 20487 2 true = ((3, 0, 0), ws.set (2 * 512 + 5) 3155) := by
    rw [walk_one b0 b1 (k := 5) (by omega) (o := 7) (by omega) (by omega), b2, if_neg (by decide), if_pos (by decide)]
  refine M117 m5 fun h6 x y z ws6 hs6 u6 m6 => ?_
  rw [w2] at hs6
  simp only [Prod.mk.injEq] at hs6
  obtain ⟨⟨rfl, rfl, rfl⟩, rfl⟩ := hs6
  simp only [beq_self_eq_true, Br_true]
  exact q h6 (u6.kept (u5.kept K4 (by omega)) (by omega))
theorem C119 {h0 : H} {bm bf rm rt n : Nat} {cs : List Nat} {ws : List Int} {Q : Bool → H → Prop} {h : H} (T : Two h0 bm bf rm rt cs n ws h) (q : ∀ h', Kept h h' → Q true h') : F119 (some ⟨bm, 0, none⟩) (some ⟨rm, 0, none⟩) Q h := by
  rw [F119_eq]
  unfold B119
  obtain ⟨cap, c0⟩ := T.rw.mem.c0
  simp only [NilP, add_mk, Nat.add_zero]
  refine Ld_s (x := ⟨some ⟨rt, 0, none⟩, n, cap⟩) c0 ?_
  have hn := T.mw.ok.le
  refine Loop_intro (σ := Int × Unit) (x := (0, ())) (fun c z h' => ∃ j : Nat, z.1 = (j : Int) ∧ c = n - j ∧ j ≤ n ∧ Kept h h') n ⟨0, rfl, rfl, by omega, Kept.refl h⟩ ?_
  rintro c ⟨jj, u⟩ h6 ⟨j, hj, hc, hjn, k6⟩
  simp only at hj
  subst hj
  have m6 := T.mw.mem.kept k6
  have r6 := T.rw.mem.kept k6
  refine Br_dec (fun hlt => ?_) fun _ => q h6 k6
  have hlt : j < n := by simpa using hlt
  simp only [LetI, NilP, add_mk, Nat.add_zero]
  refine Ld_s (x := ⟨some ⟨rt, 0, none⟩, n, cap⟩) (k6.cell c0) ⟨⟨by omega, by simp; omega⟩, ?_⟩
  simp only [add_mk, Int.toNat_natCast, Nat.mul_one, Nat.add_zero, Nat.zero_add]
  refine Ld_s (x := ⟨some ⟨cs.getD j 0, 0, none⟩, 4096, 4096⟩) (r6.c1 hlt) ?_
  refine C64 m6 (fun j' p pc ps h7 hj' _ k7 hp B7 hps hpl hpb => ?_) fun hh => absurd ⟨by omega, by omega⟩ hh
  obtain rfl : j' = j := by omega
  have r7 := r6.kept k7
  refine ⟨r7.c1 hlt, (k6.trans k7).cell c0, ⟨(true, ()), ?_, ?_⟩⟩
  · have S1 := SB.frame B7 hpl hpb pc
    have S2 : SB h7 ⟨some ⟨cs.getD j' 0, 0, none⟩, 4096, 4096⟩ (frame (bytesW ws) j') := by
      have := SB.row (n := 4096) (c := 4096) (r7.row j' hlt) (by rw [r7.fl hlt]; exact Nat.le_refl _) (fun x hx => r7.byte x (List.mem_of_mem_drop (List.mem_of_mem_take hx)))
      rw [List.take_of_length_le (by rw [r7.fl hlt]; exact Nat.le_refl _)] at this
      exact this
    rw [hps] at S1
    exact C65 S1 S2 ⟨rfl, rfl⟩
  · exact ⟨n - (j' + 1), by omega, j' + 1, by rw [wrap_i64' _ (by omega) (by omega)]; omega, rfl, by omega, k6.trans k7⟩

abbrev DK : DTy := .pair (.int .i64) (.pair (.int .i64) (.pair (.int .i64) (.pair .bool .unit)))
def Asks (h : H) (s : Sl) : Prop := ∀ i, i < s.len → ∃ ad, s.a = some ad ∧ ∃ (r v c : Int) (u : Bool), (-9223372036854775808 ≤ v ∧ v ≤ 9223372036854775807) ∧ hcell h (ad.add (i * 4 + 0)) = some (.int .i64 r) ∧ hcell h (ad.add (i * 4 + 1)) = some (.int .i64 v) ∧
  hcell h (ad.add (i * 4 + 2)) = some (.int .i64 c) ∧ hcell h (ad.add (i * 4 + 3)) = some (.bool u)
theorem Asks.kept {h h' : H} {s : Sl} (e : Asks h s) (k : Kept h h') : Asks h' s := by
  intro i hi
  obtain ⟨ad, h1, r, v, c, u, hv, g0, g1, g2, g3⟩ := e i hi
  exact ⟨ad, h1, r, v, c, u, hv, k.cell g0, k.cell g1, k.cell g2, k.cell g3⟩
theorem Asks.of {h : H} {a : Option Addr} {l c : Nat} (o : Opn h (.slice DK) [.slice a l c]) : Asks h ⟨a, l, c⟩ := by
  rcases o with o | ⟨x, l', c', o, hl, hm, hx⟩
  · simp only [List.cons.injEq, Value.slice.injEq, and_true] at o
    obtain ⟨rfl, rfl, rfl⟩ := o
    intro i hi; exact absurd hi (by simp)
  · simp only [List.cons.injEq, Value.slice.injEq, and_true] at o
    obtain ⟨rfl, rfl, rfl⟩ := o
    intro i hi
    obtain ⟨es, h1, h2, h3⟩ := hx i hi
    obtain ⟨k, a, b, u, rfl, _, wv, _⟩ := opn_IIIB h2
    exact ⟨x, rfl, k, a, b, u, wf_i64 wv, h3 0 _ rfl, h3 1 _ rfl, h3 2 _ rfl, h3 3 _ rfl⟩
theorem zero144 : zeroC Try.prog 144 = #[.int .i64 0, .int .i64 0, .int .i64 0, .bool false] := by kernel_rfl
theorem L29 {a0 a1 : Option Addr} {l0 c0 l1 c1 : Nat} {Q : Bool → H → Prop} {h : H} (o0 : Opn h (.slice DW) [.slice a0 l0 c0]) (o1 : Opn h (.slice DK) [.slice a1 l1 c1])
    (q : ∀ h', Kept h h' → Q true h') : F29 ⟨a0, l0, c0⟩ ⟨a1, l1, c1⟩ Q h := by
  obtain ⟨l, W⟩ := WSl.of o0
  have asks := Asks.of o1
  have liv : ∀ h', Kept h h' → F115 (fun r6 h7 => Q r6 h7) h' := fun h' k => C115 fun h9 k9 => q h9 (k.trans k9)
  rw [F29_eq]
  unfold B29
  refine JoinI (fun _ h' => h' = h ∧ l0 ≤ 60 ∧ l1 ≤ 40) (fun J hJ => Br_dec (fun _ => liv h (Kept.refl h)) fun h1 => Br_dec (fun _ => liv h (Kept.refl h)) fun h2 => hJ () h ⟨rfl, by simp at h1; omega, by simp at h2; omega⟩) ?_
  rintro u h' ⟨rfl, hl0, hl1⟩
  refine C116 W (by simp; omega) fun bm bf rm rt cs h1 T1 => ?_
  refine Loop_intro (σ := Int × Unit) (x := (0, ())) (fun c z h2 => ∃ i : Nat, z.1 = (i : Int) ∧ c = l1 - i ∧ i ≤ l1 ∧ ∃ ws, Two h' bm bf rm rt cs 8 ws h2) l1 ⟨0, rfl, rfl, by omega, _, T1⟩ ?_
  rintro c ⟨ii, u⟩ h3 ⟨i, hi, hc, hil, ws, T3⟩
  simp only at hi
  subst hi
  refine Br_dec (fun hlt => ?_) fun hge => ?_
  · have hlt : i < l1 := by simpa using hlt
    obtain ⟨ad, had, r, v, c, ub, hv, g0, g1, g2, g3⟩ := asks.kept T3.kept i hlt
    simp only at had
    simp only [had]
    refine ⟨⟨by omega, by omega⟩, ?_⟩
    simp only [add_add, Int.toNat_natCast]
    refine Ld_i g0 (Ld_i g1 (Ld_i g2 (Ld_b g3 (Nw_intro fun b h4 hb k4 e4 => ?_))))
    rw [zero144] at e4
    simp only [add_mk]
    refine St_intro e4 (by simp) fun h5 u5 e5 => St_intro e5 (by simp) fun h6 u6 e6 => St_intro e6 (by simp) fun h7 u7 e7 => St_intro e7 (by simp) fun h8 u8 e8 => ?_
    have e8 : h8[b]? = some (.cells #[.int .i64 r, .int .i64 v, .int .i64 c, .bool ub] 144) := e8
    have k38 : Kept h3 h8 := (((u5.trans u6).trans u7).trans u8).kept k4 (by omega)
    have T8 := T3.k k38
    have lt3 := T3.mw.lt
    have lr3 := T3.rw.mem.lt
    refine Ld_i (x := r) (by rw [hcell_blk e8]; rfl) (Ld_i (x := v) (by rw [hcell_blk e8]; rfl) (Ld_i (x := c) (by rw [hcell_blk e8]; rfl) (Ld_b (x := ub) (by rw [hcell_blk e8]; rfl) ?_)))
    refine M117 T8.mw fun h9 x y z ws' hs u9 m9 => ?_
    have e9 := u9.blk e8 (show b ≠ bf by omega)
    simp only [LetI]
    refine Ld_i (x := r) (by rw [hcell_blk e9]; rfl) (Ld_i (x := v) (by rw [hcell_blk e9]; rfl) (Ld_i (x := c) (by rw [hcell_blk e9]; rfl) (Ld_b (x := ub) (by rw [hcell_blk e9]; rfl) ?_)))
    refine R118 (T8.r u9) hv fun h10 x' y' z' ws'' hs' u10 r10 => ?_
    rw [hs] at hs'
    simp only [Prod.mk.injEq] at hs'
    obtain ⟨⟨rfl, rfl, rfl⟩, rfl⟩ := hs'
    have T10 := T8.both u9 m9 u10 r10
    simp only [bne_self_eq_false, Br_false]
    exact ⟨l1 - (i + 1), by omega, i + 1, by rw [wrap_i64' _ (by omega) (by omega)]; omega, rfl, by omega, _, T10⟩
  · refine C119 T3 fun h4 k4 => ?_
    simp only [Br_true]
    exact liv h4 (T3.kept.trans k4)
theorem L30 {a0 : Option Addr} {l0 c0 : Nat} {root vpn : Int} {Q : Bool → H → Prop} {h : H} (o0 : Opn h (.slice DW) [.slice a0 l0 c0])
    (q : ∀ h', Kept h h' → Q true h') : F30 ⟨a0, l0, c0⟩ root vpn Q h := by
  obtain ⟨l, W⟩ := WSl.of o0
  have liv : ∀ h', Kept h h' → F115 (fun r6 h7 => Q r6 h7) h' := fun h' k => C115 fun h9 k9 => q h9 (k.trans k9)
  rw [F30_eq]
  unfold B30
  refine Br_dec (fun _ => liv h (Kept.refl h)) fun hl => ?_
  have hl : l0 ≤ 60 := by simp at hl; omega
  refine C116 W (by simp; omega) fun bm bf rm rt cs h1 T1 => M120 T1.mw fun h2 k2 => ?_
  simp only [LetI]
  have T2 := T1.k k2
  refine R121 T2.rw fun h3 k3 => ?_
  have T3 := T2.k k3
  refine M122 T3.mw fun h4 k4 => Nw_intro fun w h5 hw k5 e5 => ?_
  rw [zero25] at e5
  simp only [add_mk]
  refine put25 e5 fun h6 u6 e6 => ?_
  have T6 := (T3.k k4).k (u6.kept k5 (by omega))
  refine R123 T6.rw fun h7 k7 => Nw_intro fun w' h8 hw' k8 e8 => ?_
  rw [zero25] at e8
  simp only [add_mk]
  refine put25 e8 fun h9 u9 e9 => ?_
  have k79 : Kept h7 h9 := u9.kept k8 (by omega)
  have T9 := (T6.k k7).k k79
  have e69 := k79.blk (k7.blk e6)
  simp only [beq_self_eq_true, Br_true]
  refine Ld_i (x := flg ((entS 8 (madeS l) root vpn).getD 0)) (by rw [hcell_blk e69]; rfl) (Ld_i (x := ppn ((entS 8 (madeS l) root vpn).getD 0)) (by rw [hcell_blk e69]; rfl) ?_)
  refine Ld_i (x := flg ((entS 8 (madeS l) root vpn).getD 0)) (by rw [hcell_blk e9]; rfl) (Ld_i (x := ppn ((entS 8 (madeS l) root vpn).getD 0)) (by rw [hcell_blk e9]; rfl) ?_)
  simp only [beq_self_eq_true, Bool.and_self, Br_true]
  refine C119 T9 fun h10 k10 => ?_
  simp only [Br_true]
  exact liv h10 (T9.kept.trans k10)
end Go.Proofs.Ytfijchofplkcoaa
