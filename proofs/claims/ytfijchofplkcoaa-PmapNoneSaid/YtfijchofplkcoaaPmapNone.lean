/-
  The statement 'Rows.PmapNoneSaid' ('PmapNone' of the seat): for every input the law returns true and what came in reads as it did. No condition.
-/
import Derived.Test.YtfijchofplkcoaaRows
import Derived.WalkKit
import Derived.ProofKit
import Derived.OpenShut
import Derived.ShutString
import Derived.ChangeOld
import Derived.Below
import Derived.Test.YtfijchofplkcoaaRb
import Derived.Test.YtfijchofplkcoaaKu
namespace Go.Proofs.Ytfijchofplkcoaa.pmapNone
open Go.ChangeShapes Go.WideShapes Go.ChangeAt Go.RowKit
set_option linter.unusedVariables false


set_option maxRecDepth 100000 in
theorem lifted (os : Os) (started : os.Started) (H : Type) (enc : TypeId × Value → H) :
    ReturnsInHanded {} Try.checked os 39 .any (Rows.pmapNoneSpec.pre6 enc Try.prog Try.f39 Rows.pmapNoneRow.domain false) (Rows.pmapNoneSpec.post enc Try.prog Try.f39 false true false false) := by
  refine returnsInHanded_of_change (C := Try.checked) ownP started (by kernel_rfl) Try.func39
    (ChangeSpec.witness6 (enc := enc) (C := Try.checked) false ⟨#[], #[.agg #[.int .i64 0, .int .i64 0, .int .i64 0, .int .i64 0, .int .i64 0]], []⟩ 8 (by kernel_rfl) (by kernel_rfl) (by kernel_rfl) (by kernel_rfl)) ?_
  intro W base args ds gs before hval0 hW hcnd _
  have hval : ∀ (j : Nat) t v, Try.f39.params[j]? = some t → args[j]? = some v → Value.okWide Try.prog W .any base t v := hval0
  have hW' := hW
  obtain ⟨p, q, hA0, hV, rfl, hfz, hnd⟩ := hW
  have hA : DataW.TrodAll enc Try.prog W 0 (fun _ => true) true Try.f39.params.toList args.toList ds p := hA0
  rw [Try.params39] at hA hval
  obtain ⟨v0, vs0, d0, ds0, p0, q0, hargs, rfl, rfl, h0, r0⟩ := trodAll_cons hA
  obtain ⟨rfl, rfl, rfl⟩ := trodAll_nil r0
  obtain rfl : args = #[v0] := by cases args; simp_all
  obtain ⟨rfl, rfl⟩ := trodVars_none hV
  have k0 := h0
  have lt0 : ∀ x ∈ p0, x.block < W.heap.size := by obtain ⟨m, hm⟩ := k0; exact DataW.trod_lt m _ _ _ hm
  obtain ⟨c0, rfl⟩ := okWide_agg (.inl ⟨_, Try.underlying179⟩) (hval 0 179 v0 rfl rfl)
  have o0 := opn_trod (dt := (.pair (.int .i64) (.pair (.int .i64) (.pair (.int .i64) (.pair (.int .i64) (.pair (.int .i64) .unit)))))) (by kernel_rfl) h0
  obtain ⟨a0_0, a0_1, a0_2, a0_3, a0_4, hc0, w0_0, w0_1, w0_2, w0_3, w0_4⟩ := opn_IIIII o0
  obtain rfl : c0 = #[.int .i64 a0_0, .int .i64 a0_1, .int .i64 a0_2, .int .i64 a0_3, .int .i64 a0_4] := by cases c0; simpa [Value.cells] using hc0
  clear hA0 hval0
  refine (walk_of E39 (args := [.agg #[.int .i64 a0_0, .int .i64 a0_1, .int .i64 a0_2, .int .i64 a0_3, .int .i64 a0_4]]) (w := W) (L39 (fun h' k => ⟨rfl, k⟩))).mono fun e W' ⟨he, bel⟩ => ?_
  subst he
  exact ⟨_, rfl, _, _, _, [], _, [], hW', trodAll_mk1 (shut_bool Try.underlying4 _), (trodAll_cons_mk (Below.trod laidOutP (by kernel_rfl) (of_decide_eq_true (by kernel_rfl)) k0 bel lt0) trodAll_mk0), rfl, bel.frame _, fun h => by cases h⟩

theorem small : smallFacts Try.prog Try.f39 Rows.pmapNoneSpec Rows.pmapNoneRow = true := by kernel_rfl
theorem c1 : (Rows.pmapNoneRow.inPlace == Try.prog.inPlace 39) = true := by kernel_rfl
theorem c2 : (Rows.pmapNoneRow.unfollowed == Try.prog.unfollowed 39) = true := by kernel_rfl
theorem c3 : (Rows.pmapNoneRow.recurses == Try.prog.recurses 39) = true := by kernel_rfl
theorem c4 : (Rows.pmapNoneRow.named == Try.prog.varsNamed 39) = true := by kernel_rfl
theorem named : Try.prog.funcNamed Rows.pmapNoneRow.func = some 39 := by kernel_rfl
theorem closed : joinedFacts Try.prog 39 Try.f39 Rows.pmapNoneSpec Rows.pmapNoneRow = true :=
  joined_of small laidOutP mapsRowedP stopsP stopKnobsP stopsHeardP mayEnterP c1 c2 c3 c4 (by rw [plainKeysP]; rfl) (by rw [liftsFinalP]; rfl) (by rw [makeP]; rfl)
theorem over : Rows.pmapNoneRow.holds Try.pinned (OpenSpec.ofChange Rows.pmapNoneSpec) :=
  OpenClaim.holds_of_wide 39 Try.f39 rfl rfl rfl rfl rfl rfl rfl ⟨rfl, rfl, rfl, rfl, rfl⟩ rfl rfl rfl rfl rfl named Try.func39 closed
    (of_decide_eq_true (by kernel_rfl)) (by unfold Func.isWrapper; first | (rw [if_pos (by decide +kernel)]; kernel_rfl) | (rw [if_neg (by decide +kernel)]; exact ⟨rfl, rfl⟩))
    (fun os started H enc _ => lifted os started H enc)

theorem proved : Rows.PmapNoneSaid := over
#print axioms proved
end Go.Proofs.Ytfijchofplkcoaa.pmapNone
