/-
  The statement 'Rows.PmapActsSaid' ('PmapActs' of the seat): for every input the law returns true and what came in reads as it did. No condition.
-/
import Derived.Test.YtfijchofplkcoaaRows
import Derived.WalkKit
import Derived.ProofKit
import Derived.OpenShut
import Derived.ShutString
import Derived.ChangeOld
import Derived.Below
import Derived.Test.YtfijchofplkcoaaRb
import Derived.Test.YtfijchofplkcoaaKt
namespace Go.Proofs.Ytfijchofplkcoaa.pmapActs
open Go.ChangeShapes Go.WideShapes Go.ChangeAt Go.RowKit
set_option linter.unusedVariables false


set_option maxRecDepth 100000 in
theorem lifted (os : Os) (started : os.Started) (H : Type) (enc : TypeId × Value → H) :
    ReturnsInHanded {} Try.checked os 37 .any (Rows.pmapActsSpec.pre6 enc Try.prog Try.f37 Rows.pmapActsRow.domain false) (Rows.pmapActsSpec.post enc Try.prog Try.f37 false true false false) := by
  refine returnsInHanded_of_change (C := Try.checked) ownP started (by kernel_rfl) Try.func37
    (ChangeSpec.witness6 (enc := enc) (C := Try.checked) false ⟨#[], #[.agg #[.int .i64 0, .int .i64 0], .slice none 0 0], []⟩ 8 (by kernel_rfl) (by kernel_rfl) (by kernel_rfl) (by kernel_rfl)) ?_
  intro W base args ds gs before hval0 hW hcnd _
  have hval : ∀ (j : Nat) t v, Try.f37.params[j]? = some t → args[j]? = some v → Value.okWide Try.prog W .any base t v := hval0
  have hW' := hW
  obtain ⟨p, q, hA0, hV, rfl, hfz, hnd⟩ := hW
  have hA : DataW.TrodAll enc Try.prog W 0 (fun _ => true) true Try.f37.params.toList args.toList ds p := hA0
  rw [Try.params37] at hA hval
  obtain ⟨v0, vs0, d0, ds0, p0, q0, hargs, rfl, rfl, h0, r0⟩ := trodAll_cons hA
  obtain ⟨v1, vs1, d1, ds1, p1, q1, rfl, rfl, rfl, h1, r1⟩ := trodAll_cons r0
  obtain ⟨rfl, rfl, rfl⟩ := trodAll_nil r1
  obtain rfl : args = #[v0, v1] := by cases args; simp_all
  obtain ⟨rfl, rfl⟩ := trodVars_none hV
  have k0 := h0
  have lt0 : ∀ x ∈ p0, x.block < W.heap.size := by obtain ⟨m, hm⟩ := k0; exact DataW.trod_lt m _ _ _ hm
  obtain ⟨c0, rfl⟩ := okWide_agg (.inl ⟨_, Try.underlying182⟩) (hval 0 182 v0 rfl rfl)
  have o0 := opn_trod (dt := (.pair (.int .i64) (.pair (.int .i64) .unit))) (by kernel_rfl) h0
  obtain ⟨a0_0, a0_1, hc0, w0_0, w0_1⟩ := opn_II o0
  obtain rfl : c0 = #[.int .i64 a0_0, .int .i64 a0_1] := by cases c0; simpa [Value.cells] using hc0
  have k1 := h1
  have lt1 : ∀ x ∈ p1, x.block < W.heap.size := by obtain ⟨m, hm⟩ := k1; exact DataW.trod_lt m _ _ _ hm
  obtain ⟨a1, len1, cap1, rfl⟩ := okWide_slice Try.underlying177 (hval 1 177 v1 rfl rfl)
  have o1 := opn_trod (dt := .slice D5) (by kernel_rfl) h1
  clear hA0 hval0
  refine (walk_of E37 (args := [.agg #[.int .i64 a0_0, .int .i64 a0_1], .slice a1 len1 cap1]) (w := W) (L37 o1 (fun h' k => ⟨rfl, k⟩))).mono fun e W' ⟨he, bel⟩ => ?_
  subst he
  exact ⟨_, rfl, _, _, _, [], _, [], hW', trodAll_mk1 (shut_bool Try.underlying4 _), (trodAll_cons_mk (Below.trod laidOutP (by kernel_rfl) (of_decide_eq_true (by kernel_rfl)) k0 bel lt0) (trodAll_cons_mk (Below.trod laidOutP (by kernel_rfl) (of_decide_eq_true (by kernel_rfl)) k1 bel lt1) trodAll_mk0)), rfl, bel.frame _, fun h => by cases h⟩

theorem small : smallFacts Try.prog Try.f37 Rows.pmapActsSpec Rows.pmapActsRow = true := by kernel_rfl
theorem c1 : (Rows.pmapActsRow.inPlace == Try.prog.inPlace 37) = true := by kernel_rfl
theorem c2 : (Rows.pmapActsRow.unfollowed == Try.prog.unfollowed 37) = true := by kernel_rfl
theorem c3 : (Rows.pmapActsRow.recurses == Try.prog.recurses 37) = true := by kernel_rfl
theorem c4 : (Rows.pmapActsRow.named == Try.prog.varsNamed 37) = true := by kernel_rfl
theorem named : Try.prog.funcNamed Rows.pmapActsRow.func = some 37 := by kernel_rfl
theorem closed : joinedFacts Try.prog 37 Try.f37 Rows.pmapActsSpec Rows.pmapActsRow = true :=
  joined_of small laidOutP mapsRowedP stopsP stopKnobsP stopsHeardP mayEnterP c1 c2 c3 c4 (by rw [plainKeysP]; rfl) (by rw [liftsFinalP]; rfl) (by rw [makeP]; rfl)
theorem over : Rows.pmapActsRow.holds Try.pinned (OpenSpec.ofChange Rows.pmapActsSpec) :=
  OpenClaim.holds_of_wide 37 Try.f37 rfl rfl rfl rfl rfl rfl rfl ⟨rfl, rfl, rfl, rfl, rfl⟩ rfl rfl rfl rfl rfl named Try.func37 closed
    (of_decide_eq_true (by kernel_rfl)) (by unfold Func.isWrapper; first | (rw [if_pos (by decide +kernel)]; kernel_rfl) | (rw [if_neg (by decide +kernel)]; exact ⟨rfl, rfl⟩))
    (fun os started H enc _ => lifted os started H enc)

theorem proved : Rows.PmapActsSaid := over
#print axioms proved
end Go.Proofs.Ytfijchofplkcoaa.pmapActs
