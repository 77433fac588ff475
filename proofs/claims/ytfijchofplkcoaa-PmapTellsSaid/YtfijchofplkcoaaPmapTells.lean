/-
  The statement 'Rows.PmapTellsSaid' ('PmapTells' of the seat): for every input the law returns true and what came in reads as it did. No condition.
-/
import Derived.Test.YtfijchofplkcoaaRows
import Derived.WalkKit
import Derived.ProofKit
import Derived.OpenShut
import Derived.ShutString
import Derived.ChangeOld
import Derived.Below
import Derived.Test.YtfijchofplkcoaaRb
import Derived.Test.YtfijchofplkcoaaKy
namespace Go.Proofs.Ytfijchofplkcoaa.pmapTells
open Go.ChangeShapes Go.WideShapes Go.ChangeAt Go.RowKit
set_option linter.unusedVariables false


set_option maxRecDepth 100000 in
theorem lifted (os : Os) (started : os.Started) (H : Type) (enc : TypeId × Value → H) :
    ReturnsInHanded {} Try.checked os 38 .any (Rows.pmapTellsSpec.pre6 enc Try.prog Try.f38 Rows.pmapTellsRow.domain false) (Rows.pmapTellsSpec.post enc Try.prog Try.f38 false true false false) := by
  refine returnsInHanded_of_change (C := Try.checked) ownP started (by kernel_rfl) Try.func38
    (ChangeSpec.witness6 (enc := enc) (C := Try.checked) false ⟨#[], #[.slice none 0 0, .slice none 0 0, .int .i64 0], []⟩ 8 (by kernel_rfl) (by kernel_rfl) (by kernel_rfl) (by kernel_rfl)) ?_
  intro W base args ds gs before hval0 hW hcnd _
  have hval : ∀ (j : Nat) t v, Try.f38.params[j]? = some t → args[j]? = some v → Value.okWide Try.prog W .any base t v := hval0
  have hW' := hW
  obtain ⟨p, q, hA0, hV, rfl, hfz, hnd⟩ := hW
  have hA : DataW.TrodAll enc Try.prog W 0 (fun _ => true) true Try.f38.params.toList args.toList ds p := hA0
  rw [Try.params38] at hA hval
  obtain ⟨v0, vs0, d0, ds0, p0, q0, hargs, rfl, rfl, h0, r0⟩ := trodAll_cons hA
  obtain ⟨v1, vs1, d1, ds1, p1, q1, rfl, rfl, rfl, h1, r1⟩ := trodAll_cons r0
  obtain ⟨v2, vs2, d2, ds2, p2, q2, rfl, rfl, rfl, h2, r2⟩ := trodAll_cons r1
  obtain ⟨rfl, rfl, rfl⟩ := trodAll_nil r2
  obtain rfl : args = #[v0, v1, v2] := by cases args; simp_all
  obtain ⟨rfl, rfl⟩ := trodVars_none hV
  have k0 := h0
  have lt0 : ∀ x ∈ p0, x.block < W.heap.size := by obtain ⟨m, hm⟩ := k0; exact DataW.trod_lt m _ _ _ hm
  obtain ⟨a0, len0, cap0, rfl⟩ := okWide_slice Try.underlying128 (hval 0 128 v0 rfl rfl)
  have o0 := opn_trod (dt := .slice (.int .u64)) (by kernel_rfl) h0
  have k1 := h1
  have lt1 : ∀ x ∈ p1, x.block < W.heap.size := by obtain ⟨m, hm⟩ := k1; exact DataW.trod_lt m _ _ _ hm
  obtain ⟨a1, len1, cap1, rfl⟩ := okWide_slice Try.underlying128 (hval 1 128 v1 rfl rfl)
  have o1 := opn_trod (dt := .slice (.int .u64)) (by kernel_rfl) h1
  have k2 := h2
  have lt2 : ∀ x ∈ p2, x.block < W.heap.size := by obtain ⟨m, hm⟩ := k2; exact DataW.trod_lt m _ _ _ hm
  obtain ⟨a2, rfl, rfl, rfl, w2⟩ := open_int Try.underlying3 (hval 2 3 v2 rfl rfl) h2
  clear hA0 hval0
  refine (walk_of E38 (args := [.slice a0 len0 cap0, .slice a1 len1 cap1, .int .i64 a2]) (w := W) (L38 o0 o1 (fun h' k => ⟨rfl, k⟩))).mono fun e W' ⟨he, bel⟩ => ?_
  subst he
  exact ⟨_, rfl, _, _, _, [], _, [], hW', trodAll_mk1 (shut_bool Try.underlying4 _), (trodAll_cons_mk (Below.trod laidOutP (by kernel_rfl) (of_decide_eq_true (by kernel_rfl)) k0 bel lt0) (trodAll_cons_mk (Below.trod laidOutP (by kernel_rfl) (of_decide_eq_true (by kernel_rfl)) k1 bel lt1) (trodAll_cons_mk (Below.trod laidOutP (by kernel_rfl) (of_decide_eq_true (by kernel_rfl)) k2 bel lt2) trodAll_mk0))), rfl, bel.frame _, fun h => by cases h⟩

theorem small : smallFacts Try.prog Try.f38 Rows.pmapTellsSpec Rows.pmapTellsRow = true := by kernel_rfl
theorem c1 : (Rows.pmapTellsRow.inPlace == Try.prog.inPlace 38) = true := by kernel_rfl
theorem c2 : (Rows.pmapTellsRow.unfollowed == Try.prog.unfollowed 38) = true := by kernel_rfl
theorem c3 : (Rows.pmapTellsRow.recurses == Try.prog.recurses 38) = true := by kernel_rfl
theorem c4 : (Rows.pmapTellsRow.named == Try.prog.varsNamed 38) = true := by kernel_rfl
theorem named : Try.prog.funcNamed Rows.pmapTellsRow.func = some 38 := by kernel_rfl
theorem closed : joinedFacts Try.prog 38 Try.f38 Rows.pmapTellsSpec Rows.pmapTellsRow = true :=
  joined_of small laidOutP mapsRowedP stopsP stopKnobsP stopsHeardP mayEnterP c1 c2 c3 c4 (by rw [plainKeysP]; rfl) (by rw [liftsFinalP]; rfl) (by rw [makeP]; rfl)
theorem over : Rows.pmapTellsRow.holds Try.pinned (OpenSpec.ofChange Rows.pmapTellsSpec) :=
  OpenClaim.holds_of_wide 38 Try.f38 rfl rfl rfl rfl rfl rfl rfl ⟨rfl, rfl, rfl, rfl, rfl⟩ rfl rfl rfl rfl rfl named Try.func38 closed
    (of_decide_eq_true (by kernel_rfl)) (by unfold Func.isWrapper; first | (rw [if_pos (by decide +kernel)]; kernel_rfl) | (rw [if_neg (by decide +kernel)]; exact ⟨rfl, rfl⟩))
    (fun os started H enc _ => lifted os started H enc)

theorem proved : Rows.PmapTellsSaid := over
#print axioms proved
end Go.Proofs.Ytfijchofplkcoaa.pmapTells
