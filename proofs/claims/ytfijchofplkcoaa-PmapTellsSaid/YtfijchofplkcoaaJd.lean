/-
  The laws WalkFinds and WalkWrites over the heap predicates.
-/
import Derived.Test.YtfijchofplkcoaaJc
set_option linter.unusedVariables false
set_option linter.unusedSimpArgs false
set_option maxRecDepth 100000
namespace Go.Proofs.Ytfijchofplkcoaa

/-- A slice's numbers. -/
def SU (h : H) (s : Sl) (ps : List Int) : Prop := ps.length = s.len ∧ Reads h s.a (ps.map (Value.int .u64)) ∧ ∀ x ∈ ps, 0 ≤ x ∧ x < 18446744073709551616
theorem SU.kept {h h' : H} {s : Sl} {ps : List Int} (e : SU h s ps) (k : Kept h h') : SU h' s ps :=
  ⟨e.1, fun j v hv => by obtain ⟨ad, h1, h2⟩ := e.2.1 j v hv; exact ⟨ad, h1, k.cell h2⟩, e.2.2⟩
theorem SU.idx {h : H} {s : Sl} {ps : List Int} (e : SU h s ps) {i : Nat} (hi : i < s.len) : ∃ ad, s.a = some ad ∧ hcell h (ad.add i) = some (.int .u64 (ps.getD i 0)) := by
  have : (ps.map (Value.int .u64))[i]? = some (.int .u64 (ps.getD i 0)) := by
    have : i < ps.length := by rw [e.1]; exact hi
    simp [this, List.getElem?_eq_getElem]
  exact e.2.1 i _ this
theorem SU.get {h : H} {s : Sl} {ps : List Int} (e : SU h s ps) (i : Nat) : 0 ≤ ps.getD i 0 ∧ ps.getD i 0 < 18446744073709551616 := by
  rw [List.getD_eq_getElem?_getD]
  cases ht : ps[i]? with
  | none => simp
  | some x => exact e.2.2 x (List.mem_of_getElem? ht)
theorem SU.of {h : H} {a : Option Addr} {l c : Nat} (o : Opn h (.slice (.int .u64)) [.slice a l c]) : ∃ ps, SU h ⟨a, l, c⟩ ps := by
  rcases o with o | ⟨x, l', c', o, hl, hm, hx⟩
  · simp only [List.cons.injEq, Value.slice.injEq, and_true] at o
    obtain ⟨rfl, rfl, rfl⟩ := o
    exact ⟨[], rfl, fun j v hv => by simp at hv, by simp⟩
  · simp only [List.cons.injEq, Value.slice.injEq, and_true] at o
    obtain ⟨rfl, rfl, rfl⟩ := o
    have : ∀ i, ∃ z : Int, i < l → (0 ≤ z ∧ z < 18446744073709551616) ∧ hcell h (x.add i) = some (.int .u64 z) := by
      intro i
      by_cases hi : i < l
      · obtain ⟨es, h1, ⟨z, rfl, hw⟩, h3⟩ := hx i hi
        refine ⟨z, fun _ => ⟨wf_u64 hw, ?_⟩⟩
        have := h3 0 (.int .u64 z) rfl
        simpa [DTy.size] using this
      · exact ⟨0, fun hh => absurd hh hi⟩
    refine ⟨(List.range l).map fun i => Classical.choose (this i), by simp, ?_, ?_⟩
    · intro j v hv
      refine ⟨x, rfl, ?_⟩
      have hj : j < l := by have := (List.getElem?_eq_some_iff.1 hv).1; simpa using this
      rw [List.getElem?_map, List.getElem?_map, List.getElem?_range hj] at hv
      simp at hv
      rw [← hv]
      exact (Classical.choose_spec (this j) hj).2
    · intro z hz
      simp only [List.mem_map, List.mem_range] at hz
      obtain ⟨i, hi, rfl⟩ := hz
      exact (Classical.choose_spec (this i) hi).1

def flat : List Q4 → List Int
  | [] => []
  | w :: r => w.1 :: w.2.1 :: w.2.2.1 :: w.2.2.2 :: flat r
theorem flat_len (l : List Q4) : (flat l).length = 4 * l.length := by
  induction l with
  | nil => rfl
  | cons w r ih => simp only [flat, List.length_cons, ih]; omega
theorem flat_app (l m : List Q4) : flat (l ++ m) = flat l ++ flat m := by
  induction l with
  | nil => rfl
  | cons w r ih => simp only [flat, List.cons_append, ih]
theorem flat_get : ∀ (l : List Q4) (i : Nat) (w : Q4), l[i]? = some w → (flat l).getD (4 * i + 0) 0 = w.1 ∧ (flat l).getD (4 * i + 1) 0 = w.2.1 ∧ (flat l).getD (4 * i + 2) 0 = w.2.2.1 ∧ (flat l).getD (4 * i + 3) 0 = w.2.2.2 := by
  intro l
  induction l with
  | nil => intro i w h; simp at h
  | cons x r ih =>
    intro i w h
    cases i with
    | zero =>
      simp only [List.getElem?_cons_zero, Option.some.injEq] at h
      subst h
      exact ⟨rfl, rfl, rfl, rfl⟩
    | succ i =>
      simp only [List.getElem?_cons_succ] at h
      obtain ⟨a, b, c, d⟩ := ih i w h
      have e : ∀ t, (flat (x :: r)).getD (4 * (i + 1) + t) 0 = (flat r).getD (4 * i + t) 0 := by
        intro t
        rw [show 4 * (i + 1) + t = (4 * i + t) + 4 by omega]
        simp [flat]
      rw [e, e, e, e]
      exact ⟨a, b, c, d⟩
theorem WSl.ofGS {h : H} {s : Sl} {l : List Q4} {ex : List Nat} {lo : Nat} (g : GS .i64 h 134 4 s (flat l) ex lo) : WSl h s l := by
  have hl : l.length = s.len := by have := g.1; rw [flat_len] at this; omega
  refine ⟨hl, fun i hi => ?_⟩
  obtain ⟨b, hb, _⟩ := g.idx (i := i) (d := 0) hi (by omega)
  have c : ∀ d, d < 4 → hcell h ((⟨b, 0, none⟩ : Addr).add (i * 4 + d)) = some (.int .i64 ((flat l).getD (4 * i + d) 0)) := by
    intro d hd
    obtain ⟨b', hb', c⟩ := g.idx (i := i) (d := d) hi hd
    rw [hb] at hb'
    simp only [Option.some.injEq, Addr.mk.injEq, and_true] at hb'
    subst hb'
    rw [add_mk, ← Nat.add_assoc]; exact c
  have hw : l[i]? = some l[i] := List.getElem?_eq_getElem (by omega)
  obtain ⟨f0, f1, f2, f3⟩ := flat_get l i _ hw
  refine ⟨_, hb, _, hw, ?_, ?_, ?_, ?_⟩
  · rw [c 0 (by omega), f0]
  · rw [c 1 (by omega), f1]
  · rw [c 2 (by omega), f2]
  · rw [c 3 (by omega), f3]
theorem zeros_of {t k : Nat} {kd : IntKind} (hz : zeroC Try.prog t = VK kd (List.replicate k 0)) (n : Nat) : zerosC Try.prog t n = VK kd (List.replicate (k * n) 0) := by
  unfold zerosC
  rw [hz]
  have hk : (VK kd (List.replicate k 0)).size = k := by simp
  rw [hk]
  apply Array.ext
  · simp [Nat.mul_comm]
  · intro i h1 h2
    have hk0 : 0 < k := by
      rcases Nat.eq_zero_or_pos k with e | e
      · subst e; simp at h1
      · exact e
    have hm : i % k < k := Nat.mod_lt _ hk0
    simp only [Array.getElem_map, Array.getElem_range]
    rw [getElem!_pos _ _ (by rw [hk]; exact hm)]
    simp
theorem zeros134 (n : Nat) : zerosC Try.prog 134 n = VK .i64 (List.replicate (4 * n) 0) := zeros_of (by rw [zero134]; rfl) n
theorem zero22 : zeroC Try.prog 22 = VK .u64 (List.replicate 1 0) := by kernel_rfl
theorem zeros22 (n : Nat) : zerosC Try.prog 22 n = VK .u64 (List.replicate (1 * n) 0) := zeros_of zero22 n
theorem zero136 : zeroC Try.prog 136 = VI (List.replicate 512 0) := by kernel_rfl

/-- What stands in the lowest table: for each page its frame, or nothing. -/
structure InvR (ws us : List Int) : Prop where
  ok : OkW 8 ws
  a0 : wat ws 0 0 = 1025
  a1 : wat ws 1 0 = 2049
  z : ∀ k, k < 512 → us.getD k 0 = 0 → wat ws 2 k = 0
  s : ∀ k, k < 512 → us.getD k 0 ≠ 0 → (1 ≤ us.getD k 0 ∧ us.getD k 0 ≤ 5) ∧ ppn (wat ws 2 k) = 2 + us.getD k 0 ∧ (lo8 (flg (wat ws 2 k)) = 23 ∨ lo8 (flg (wat ws 2 k)) = 87 ∨ lo8 (flg (wat ws 2 k)) = 215)
theorem InvR.put {ws us : List Int} (v : InvR ws us) (hl : us.length = 512) {k i : Nat} (hk : k < 512) : InvR (setF 8 ws 2 k (encF 23 (3 + (i : Int) % 5))) (us.set k (1 + (i : Int) % 5)) := by
  have e : setF 8 ws 2 k (encF 23 (3 + (i : Int) % 5)) = ws.set (2 * 512 + k) ((3 + (i : Int) % 5) * 1024 + 23) := by
    rw [show (2 : Int) = ((2 : Nat) : Int) from rfl, setF_in (by omega) hk]
    congr 1
    unfold encF; omega
  have o := v.ok
  rw [e]
  refine ⟨o.set _ (by omega), ?_, ?_, fun j hj hz => ?_, fun j hj hz => ?_⟩
  · rw [wat_set o (by omega) hk (by omega), if_neg (by omega)]; exact v.a0
  · rw [wat_set o (by omega) hk (by omega), if_neg (by omega)]; exact v.a1
  · rw [set_getD _ _ _ _ (by omega)] at hz
    rw [wat_set o (by omega) hk hj]
    by_cases ej : k = j
    · rw [if_pos ej] at hz; omega
    · rw [if_neg ej] at hz
      rw [if_neg (by omega)]; exact v.z j hj hz
  · rw [set_getD _ _ _ _ (by omega)] at hz ⊢
    rw [wat_set o (by omega) hk hj]
    by_cases ej : k = j
    · rw [if_pos ej, if_pos ⟨rfl, ej⟩]
      refine ⟨by omega, by unfold ppn; omega, .inl ?_⟩
      unfold lo8 flg; omega
    · rw [if_neg ej] at hz
      rw [if_neg ej, if_neg (by omega)]; exact v.s j hj hz
theorem or_low (a s : Nat) (hs : s < 256) : (a ||| s) % 256 = (a % 256) ||| s ∧ (a ||| s) / 1024 = a / 1024 := by
  have h1 := Nat.or_mod_two_pow (a := a) (b := s) (n := 8)
  rw [show (2 : Nat) ^ 8 = 256 from rfl, Nat.mod_eq_of_lt hs] at h1
  have h2 := Nat.or_div_two_pow (a := a) (b := s) (n := 10)
  rw [show (2 : Nat) ^ 10 = 1024 from rfl, show s / 1024 = 0 by omega, Nat.or_zero] at h2
  exact ⟨h1, h2⟩
theorem orS_flg {v : Int} (hv : 0 ≤ v) (acc : Int) : lo8 (flg (orS v acc)) = lo8 (flg v) ||| (if acc = 2 then 192 else 64) ∧ ppn (orS v acc) = ppn v ∧ flg (orS v acc) = ((lo8 (flg v) ||| (if acc = 2 then 192 else 64) : Nat) : Int) := by
  obtain ⟨x, rfl⟩ := Int.eq_ofNat_of_zero_le hv
  have hs : (if acc = 2 then 192 else 64) < 256 := by split <;> omega
  obtain ⟨h1, h2⟩ := or_low x (if acc = 2 then 192 else 64) hs
  have hl : (x % 256 ||| (if acc = 2 then 192 else 64)) < 256 := Nat.or_lt_two_pow (n := 8) (by omega) hs
  have e1 : lo8 (flg (x : Int)) = x % 256 := by unfold lo8 flg; omega
  have e2 : flg (orS (x : Int) acc) = ((x % 256 ||| (if acc = 2 then 192 else 64) : Nat) : Int) := by
    unfold flg orS
    rw [Int.toNat_natCast, ← h1]; omega
  rw [e1]
  refine ⟨?_, ?_, e2⟩
  · rw [e2]; unfold lo8; omega
  · unfold ppn orS
    rw [Int.toNat_natCast]
    have : (((x ||| (if acc = 2 then 192 else 64) : Nat) : Int) / 1024) = ((x / 1024 : Nat) : Int) := by rw [← h2]; omega
    rw [this]; omega
theorem InvR.walk {ws us : List Int} (v : InvR ws us) {k : Nat} (hk : k < 512) {va acc : Int} (hva : va = k * 4096 + 9) (hacc : acc = 1 ∨ acc = 2) :
    ∃ ws', InvR ws' us ∧ walkS 8 ws 0 va acc true = (if us.getD k 0 = 0 then ((1, 0, 0), ws') else ((0, 2 + us.getD k 0, 9), ws')) := by
  rw [walk_one v.a0 v.a1 hk hva (by omega)]
  by_cases hz : us.getD k 0 = 0
  · refine ⟨ws, v, ?_⟩
    rw [v.z k hk hz, if_pos (by decide), if_pos hz]
  · obtain ⟨⟨b1, b2⟩, hp, hf⟩ := v.s k hk hz
    have hkind : kindM (lo8 (flg (wat ws 2 k))) = 2 := by rcases hf with e | e | e <;> rw [e] <;> decide
    have hmay : mayM (lo8 (flg (wat ws 2 k))) (wOf acc) true = true := by rcases hf with e | e | e <;> rcases hacc with rfl | rfl <;> rw [e] <;> decide
    rw [if_neg (fun x => x ⟨hkind, by rw [hp]; omega⟩), if_neg (by rw [hmay]; simp)]
    refine ⟨ws.set (2 * 512 + k) (orS (wat ws 2 k) acc), ?_, by rw [if_neg hz, hp]⟩
    have o := v.ok
    have wr := o.get (2 * 512 + k)
    obtain ⟨q1, q2, q3⟩ := orS_flg wr.1 acc
    refine ⟨o.set _ (orS_range wr acc), ?_, ?_, fun j hj hz' => ?_, fun j hj hz' => ?_⟩
    · rw [wat_set o (by omega) hk (by omega), if_neg (by omega)]; exact v.a0
    · rw [wat_set o (by omega) hk (by omega), if_neg (by omega)]; exact v.a1
    · rw [wat_set o (by omega) hk hj]
      by_cases ej : k = j
      · subst ej; exact absurd hz' hz
      · rw [if_neg (by omega)]; exact v.z j hj hz'
    · rw [wat_set o (by omega) hk hj]
      by_cases ej : k = j
      · subst ej
        rw [if_pos ⟨rfl, rfl⟩]
        refine ⟨⟨b1, b2⟩, q2.trans hp, ?_⟩
        have q1' : lo8 (flg (orS (wat ws 2 k) acc)) = lo8 (flg (wat ws 2 k)) ||| (if acc = 2 then 192 else 64) := q1
        rw [q1']
        rcases hf with e | e | e <;> rcases hacc with rfl | rfl <;> rw [e] <;> decide
      · rw [if_neg (by omega)]; exact v.s j hj hz'

theorem L28 {a0 : Option Addr} {l0 c0 : Nat} {ask : Int} {wr : Bool} {Q : Bool → H → Prop} {h : H} (o0 : Opn h (.slice (.int .u64)) [.slice a0 l0 c0]) (hask : 0 ≤ ask ∧ ask < 18446744073709551616)
    (q : ∀ h', Kept h h' → Q true h') : F28 ⟨a0, l0, c0⟩ ask wr Q h := by
  obtain ⟨ps, P⟩ := SU.of o0
  have liv : ∀ h', Kept h h' → F115 (fun r6 h7 => Q r6 h7) h' := fun h' k => C115 fun h9 k9 => q h9 (k.trans k9)
  rw [F28_eq]
  unfold B28
  refine Br_dec (fun _ => liv h (Kept.refl h)) fun hl => ?_
  have hl0 : l0 ≤ 60 := by simp at hl; omega
  refine Nw_intro fun a3 h1 ha3 k1 e1 => Nw_intro fun a5 h2 ha5 k2 e2 => ?_
  rw [zero136] at e2
  have ha3' := (Array.getElem?_eq_some_iff.1 e1).1
  have ha5' := (Array.getElem?_eq_some_iff.1 e2).1
  have k02 := k1.trans k2
  have hk1 := k1.1
  have inv0 : InvR (madeS [(0, 0, 1, 1), (1, 0, 1, 2)]) (List.replicate 512 0) := by
    have e : madeS [(0, 0, 1, 1), (1, 0, 1, 2)] = (((List.replicate 4096 0).set (0 * 512 + 0) 1025).set (1 * 512 + 0) 2049) := by
      show setF 8 (setF 8 (List.replicate 4096 0) ((0 : Nat) : Int) ((0 : Nat) : Int) (encF 1 1)) ((1 : Nat) : Int) ((0 : Nat) : Int) (encF 1 2) = _
      rw [setF_in (n := 8) (f := 1) (by omega) (by omega), setF_in (n := 8) (f := 0) (by omega) (by omega)]; rfl
    have o1 : OkW 8 ((List.replicate 4096 0).set (0 * 512 + 0) 1025) := okW0.set _ (by omega)
    refine ⟨madeS_ok _, ?_, ?_, fun k hk _ => ?_, fun k hk hh => absurd (rep_getD 512 k) hh⟩
    · rw [e, wat_set o1 (by omega) (by omega) (by omega), if_neg (by omega), wat_set okW0 (by omega) (by omega) (by omega), if_pos ⟨rfl, rfl⟩]
    · rw [e, wat_set o1 (by omega) (by omega) (by omega), if_pos ⟨rfl, rfl⟩]
    · rw [e, wat_set o1 (by omega) (by omega) hk, if_neg (by omega), wat_set okW0 (by omega) (by omega) hk, if_neg (by omega)]
      unfold wat; rw [rep_getD]
  refine Loop_intro (σ := Sl × Int × Unit) (x := (⟨some ⟨a3, 0, none⟩, 2, 2⟩, 0, ())) (fun c z h' => ∃ i : Nat, z.2.1 = (i : Int) ∧ c = l0 - i ∧ i ≤ l0 ∧ Kept h h' ∧ z.1.len = 2 + i ∧
      ∃ l us, GS .i64 h' 134 4 z.1 (flat l) [a5] h.size ∧ IL h' a5 136 us ∧ us.length = 512 ∧ InvR (madeS l) us) l0
    ⟨0, rfl, rfl, by omega, k02, rfl, [(0, 0, 1, 1), (1, 0, 1, 2)], List.replicate 512 0, ⟨rfl, .inr ⟨a3, [0, 0, 1, 1, 1, 0, 1, 2], rfl, by omega, by simp; omega, k2.blk e1, rfl, by simp, rfl⟩⟩, e2, by rw [List.length_replicate], inv0⟩ ?_
  rintro c ⟨s, ii, u⟩ h3 ⟨i, hi, hc, hil, K3, hsl, l, us, G3, A3, hal, I3⟩
  simp only at hi hsl G3
  subst hi
  have ha5h : h.size ≤ a5 := by omega
  refine Br_dec (fun hlt => ?_) fun hge => ?_
  · have hlt : i < l0 := by simpa using hlt
    obtain ⟨ad, had, cx⟩ := (P.kept K3).idx hlt
    have px := P.get i
    generalize ps.getD i 0 = p at *
    simp only at had
    simp only [had]
    refine ⟨⟨by omega, by omega⟩, ?_⟩
    simp only [add_add, Int.toNat_natCast, Nat.mul_one, Nat.add_zero]
    refine Ld_i cx ?_
    simp only [LetI]
    obtain ⟨k, hk⟩ : ∃ k : Nat, p % 512 = (k : Int) := Int.eq_ofNat_of_zero_le (by omega)
    have hk5 : k < 512 := by omega
    have t1 : Int.tmod p 512 = (k : Int) := by rw [Int.tmod_eq_emod_of_nonneg px.1, hk]
    have t2 : Int.tmod (i : Int) 5 = (i : Int) % 5 := Int.tmod_eq_emod_of_nonneg (by omega)
    simp only [t1, t2]
    rw [wrap_i64' (1 + (i : Int) % 5) (by omega) (by omega), wrap_i64' (3 + (i : Int) % 5) (by omega) (by omega), wrap_i64' (k : Int) (by omega) (by omega)]
    refine ⟨by omega, by omega, ⟨by omega, by omega⟩, ?_⟩
    simp only [add_mk, Int.toNat_natCast, Nat.mul_one, Nat.add_zero, Nat.zero_add]
    refine St_I A3 (by omega) fun h4 u4 A4 => ⟨by omega, by omega, Nw_intro fun b h5 hb k5 e5 => ?_⟩
    have G5 := (G3.kl (L := [a5]) (u4.kl (by simp)) (by simp)).kept k5
    have K5 := (u4.kept K3 ha5h).trans k5
    have e5 : IK .i64 h5 b 134 [2, (k : Int), 23, 3 + (i : Int) % 5] := e5
    have hA5 : a5 < h5.size := (Array.getElem?_eq_some_iff.1 (k5.blk A4)).1
    refine AppG (kd := .i64) zeros134 G5 (x := ⟨some ⟨b, 0, none⟩, 1, 1⟩) (RdSl.one e5) (by simp only [hsl]; omega) (by simpa using hA5) K5.1 fun s' h6 hs' G6 x6 => ?_
    refine ⟨l0 - (i + 1), by omega, i + 1, by show IntKind.wrap .i64 ((i : Int) + 1) = _; rw [wrap_i64' _ (by omega) (by omega)]; omega, rfl, by omega, x6.kept K5 (Nat.le_refl _), by have hs2 : s'.len = s.len + 1 := hs'; show s'.len = 2 + (i + 1); omega, l ++ [(2, (k : Int), 23, 3 + (i : Int) % 5)], _, ?_, x6.blk (k5.blk A4) (.inr (by simp)), by simpa using hal, ?_⟩
    · rw [flat_app]; exact G6
    · rw [madeS_snoc]; exact I3.put hal hk5
  · have hi0 : i = l0 := by simp only at hge; omega
    subst hi0
    refine C116 (WSl.ofGS G3) (by simp only [hsl]; omega) fun bm bf rm rt cs h4 T4 => ?_
    have A4 : IL h4 a5 136 us := T4.kept.blk A3
    have hs3 := K3.1
    have ha5lt : a5 < h3.size := (Array.getElem?_eq_some_iff.1 (show h3[a5]? = some _ from A3)).1
    have hbf := T4.l1
    have hbflt := T4.mw.lt.2
    refine JoinI (fun y h' => h' = h4 ∧ (y.1 = 1 ∨ y.1 = 2)) (fun J hJ => ?_) ?_
    · cases wr
      · exact hJ _ h4 ⟨rfl, .inl rfl⟩
      · exact hJ _ h4 ⟨rfl, .inr rfl⟩
    rintro ⟨acc, u⟩ h4' ⟨rfl, hacc⟩
    simp only at hacc
    refine Nw_intro fun a25 h5 h25 k5 e5 => ?_
    have K5 := (K3.trans T4.kept).trans k5
    have P5 := P.kept K5
    have h4s := T4.kept.1
    have g0 : GS .u64 h5 22 1 ⟨some ⟨a25, 0, none⟩, 0, 0⟩ [] [bf] h4'.size := ⟨by simp, .inr ⟨a25, [], rfl, by omega, by simp; omega, e5, by simp, by simp, rfl⟩⟩
    have hk5 := k5.1
    have hbl : i * 8 ≤ 140737488355328 := by omega
    refine AppG (kd := .u64) zeros22 g0 (x := ⟨a0, i, c0⟩) (ys := ps) ⟨by rw [List.length_map]; rw [P.1]; simp, P5.2.1, oneK _⟩ (by simp only [Nat.zero_add]; exact hbl) (by simp; omega) hk5 fun s27 h6 hs27 G6 x6 => ?_
    have hx6 := x6.1
    refine Nw_intro fun a29 h7 h29 k7 e7 => ?_
    have e7 : IK .u64 h7 a29 22 [ask] := e7
    have hk7 := k7.1
    have hs27' : s27.len = i := by rw [hs27]; simp
    refine AppG (kd := .u64) zeros22 (G6.kept k7) (x := ⟨some ⟨a29, 0, none⟩, 1, 1⟩) (ys := [ask]) (RdSl.one e7) (by simp only [hs27']; omega) (by simp; omega) (by omega) fun s31 h8 hs31 G8 x8 => ?_
    have hs31' : s31.len = i + 1 := by rw [hs31, hs27']
    have kx : KX h5 [bf] h4'.size h8 := (x6.trans k7.kx).trans x8
    have k48 : Kept h4' h8 := kx.kept k5 (Nat.le_refl _)
    have T8 := T4.k k48
    simp only [List.nil_append] at G8
    refine Loop_intro (σ := Int × Unit) (x := (0, ())) (fun d z h' => ∃ j : Nat, z.1 = (j : Int) ∧ d = i + 1 - j ∧ j ≤ i + 1 ∧ GS .u64 h' 22 1 s31 (ps ++ [ask]) [bf] h4'.size ∧ IL h' a5 136 us ∧ Kept h3 h' ∧ ∃ ws, MW h' bm bf 8 ws ∧ InvR ws us) (i + 1)
      ⟨0, rfl, rfl, by omega, G8, k48.blk A4, T8.kept, _, T8.mw, I3⟩ ?_
    rintro d ⟨jj, u⟩ h9 ⟨j, hj, hd, hji, G9, A9, K9, ws, T9, I9⟩
    simp only at hj
    subst hj
    refine Br_dec (fun hlt => ?_) fun _ => ?_
    · have hlt : j < i + 1 := by simp only at hlt; omega
      obtain ⟨b, hb, cx⟩ := G9.idx (i := j) (d := 0) (by omega) (by omega)
      have px : 0 ≤ (ps ++ [ask]).getD (1 * j + 0) 0 ∧ (ps ++ [ask]).getD (1 * j + 0) 0 < 18446744073709551616 := by
        rw [List.getD_eq_getElem?_getD]
        cases ht : (ps ++ [ask])[1 * j + 0]? with
        | none => simp
        | some x =>
          have := List.mem_of_getElem? ht
          simp only [List.mem_append, List.mem_singleton] at this
          rcases this with hm | hm
          · exact P.2.2 x hm
          · subst hm; exact hask
      generalize (ps ++ [ask]).getD (1 * j + 0) 0 = p at *
      simp only [hb]
      refine ⟨⟨by omega, by omega⟩, ?_⟩
      simp only [add_mk, Int.toNat_natCast]
      refine Ld_i cx ⟨by omega, ?_⟩
      obtain ⟨k, hk⟩ : ∃ k : Nat, p % 512 = (k : Int) := Int.eq_ofNat_of_zero_le (by omega)
      have hk5' : k < 512 := by omega
      have t1 : IntKind.wrap .i64 (Int.tmod p 512) = (k : Int) := by rw [Int.tmod_eq_emod_of_nonneg px.1, hk, wrap_i64' _ (by omega) (by omega)]
      have t2 : IntKind.wrap .i64 (IntKind.wrap .i64 ((k : Int) * 4096) + 9) = (k : Int) * 4096 + 9 := by
        rw [wrap_i64' ((k : Int) * 4096) (by omega) (by omega), wrap_i64' _ (by omega) (by omega)]
      simp only [LetI, t1, t2]
      obtain ⟨ws', I', hw⟩ := I9.walk hk5' rfl hacc
      refine M117 T9 fun h10 x y z ws2 hs u10 m10 => ?_
      have A10 : IL h10 a5 136 us := u10.blk A9 (by omega)
      have G10 := G9.kl (L := [bf]) (u10.kl (by simp)) (by simp)
      have nx : InvR ws2 us → ∃ k', k' < d ∧ ∃ j' : Nat, IntKind.wrap .i64 ((j : Int) + 1) = (j' : Int) ∧ k' = i + 1 - j' ∧ j' ≤ i + 1 ∧ GS .u64 h10 22 1 s31 (ps ++ [ask]) [bf] h4'.size ∧ IL h10 a5 136 us ∧ Kept h3 h10 ∧ ∃ ws, MW h10 bm bf 8 ws ∧ InvR ws us :=
        fun v => ⟨i + 1 - (j + 1), by omega, j + 1, by rw [wrap_i64' _ (by omega) (by omega)]; omega, rfl, by omega, G10, A10, u10.kept K9 hbf, ws2, m10, v⟩
      refine ⟨⟨by omega, by omega⟩, ?_⟩
      simp only [add_mk, Int.toNat_natCast, Nat.mul_one, Nat.add_zero, Nat.zero_add]
      have ca := A10.cell (i := k) (by omega)
      rw [hw] at hs
      refine Ld_i ca (Br_beq_int (fun e => ?_) fun e => ?_)
      · rw [if_pos e] at hs
        simp only [Prod.mk.injEq] at hs
        obtain ⟨⟨rfl, rfl, rfl⟩, rfl⟩ := hs
        simp only [bne_self_eq_false, Br_false]
        exact nx I'
      · rw [if_neg e] at hs
        simp only [Prod.mk.injEq] at hs
        obtain ⟨⟨rfl, rfl, rfl⟩, rfl⟩ := hs
        simp only [bne_self_eq_false, Br_false]
        refine ⟨⟨by omega, by omega⟩, Ld_i ca ?_⟩
        obtain ⟨⟨b1, b2⟩, _⟩ := I9.s k hk5' e
        rw [wrap_i64' (2 + us.getD k 0) (by omega) (by omega)]
        simp only [bne_self_eq_false, Br_false]
        exact nx I'
    · refine M117 T9 fun h10 x y z ws2 hs u10 m10 => ?_
      have w8 : walkS 8 ws 8 0 acc true = ((2, 0, 0), ws) := by unfold walkS; rw [if_pos (fun x => by omega)]
      rw [w8] at hs
      simp only [Prod.mk.injEq] at hs
      obtain ⟨⟨rfl, rfl, rfl⟩, rfl⟩ := hs
      simp only [LetI]
      refine M117 m10 fun h11 x y z ws3 hs u11 m11 => ?_
      have w38 : walkS 8 ws 0 274877906944 acc true = ((2, 0, 0), ws) := by unfold walkS; rw [if_pos (fun x => absurd x.1 (by decide))]
      rw [w38] at hs
      simp only [Prod.mk.injEq] at hs
      obtain ⟨⟨rfl, rfl, rfl⟩, rfl⟩ := hs
      simp only [beq_self_eq_true, Br_true]
      exact liv h11 (K3.trans (u11.kept (u10.kept K9 hbf) hbf))
end Go.Proofs.Ytfijchofplkcoaa
