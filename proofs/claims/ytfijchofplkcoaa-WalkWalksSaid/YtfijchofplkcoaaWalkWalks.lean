/-
  The statement 'Rows.WalkWalksSaid' ('WalkWalks' of the seat): for every input the law returns true and what came in reads as it did. No condition.
-/
import Derived.Test.YtfijchofplkcoaaRows
import Derived.WalkKit
import Derived.ProofKit
import Derived.OpenShut
import Derived.ShutString
import Derived.ChangeOld
import Derived.Below
import Derived.Test.YtfijchofplkcoaaRb
import Derived.Test.YtfijchofplkcoaaJc
namespace Go.Proofs.Ytfijchofplkcoaa.walkWalks
open Go.ChangeShapes Go.WideShapes Go.ChangeAt Go.RowKit
set_option linter.unusedVariables false


set_option maxRecDepth 100000 in
theorem lifted (os : Os) (started : os.Started) (H : Type) (enc : TypeId × Value → H) :
    ReturnsInHanded {} Try.checked os 29 .any (Rows.walkWalksSpec.pre6 enc Try.prog Try.f29 Rows.walkWalksRow.domain false) (Rows.walkWalksSpec.post enc Try.prog Try.f29 false true false false) := by
  refine returnsInHanded_of_change (C := Try.checked) ownP started (by kernel_rfl) Try.func29
    (ChangeSpec.witness6 (enc := enc) (C := Try.checked) false ⟨#[], #[.slice none 0 0, .slice none 0 0], []⟩ 8 (by kernel_rfl) (by kernel_rfl) (by kernel_rfl) (by kernel_rfl)) ?_
  intro W base args ds gs before hval0 hW hcnd _
  have hval : ∀ (j : Nat) t v, Try.f29.params[j]? = some t → args[j]? = some v → Value.okWide Try.prog W .any base t v := hval0
  have hW' := hW
  obtain ⟨p, q, hA0, hV, rfl, hfz, hnd⟩ := hW
  have hA : DataW.TrodAll enc Try.prog W 0 (fun _ => true) true Try.f29.params.toList args.toList ds p := hA0
  rw [Try.params29] at hA hval
  obtain ⟨v0, vs0, d0, ds0, p0, q0, hargs, rfl, rfl, h0, r0⟩ := trodAll_cons hA
  obtain ⟨v1, vs1, d1, ds1, p1, q1, rfl, rfl, rfl, h1, r1⟩ := trodAll_cons r0
  obtain ⟨rfl, rfl, rfl⟩ := trodAll_nil r1
  obtain rfl : args = #[v0, v1] := by cases args; simp_all
  obtain ⟨rfl, rfl⟩ := trodVars_none hV
  have k0 := h0
  have lt0 : ∀ x ∈ p0, x.block < W.heap.size := by obtain ⟨m, hm⟩ := k0; exact DataW.trod_lt m _ _ _ hm
  obtain ⟨a0, len0, cap0, rfl⟩ := okWide_slice Try.underlying135 (hval 0 135 v0 rfl rfl)
  have o0 := opn_trod (dt := .slice DW) (by kernel_rfl) h0
  have k1 := h1
  have lt1 : ∀ x ∈ p1, x.block < W.heap.size := by obtain ⟨m, hm⟩ := k1; exact DataW.trod_lt m _ _ _ hm
  obtain ⟨a1, len1, cap1, rfl⟩ := okWide_slice Try.underlying142 (hval 1 142 v1 rfl rfl)
  have o1 := opn_trod (dt := .slice DK) (by kernel_rfl) h1
  clear hA0 hval0
  refine (walk_of E29 (args := [.slice a0 len0 cap0, .slice a1 len1 cap1]) (w := W) (L29 o0 o1 (fun h' k => ⟨rfl, k⟩))).mono fun e W' ⟨he, bel⟩ => ?_
  subst he
  exact ⟨_, rfl, _, _, _, [], _, [], hW', trodAll_mk1 (shut_bool Try.underlying4 _), (trodAll_cons_mk (Below.trod laidOutP (by kernel_rfl) (of_decide_eq_true (by kernel_rfl)) k0 bel lt0) (trodAll_cons_mk (Below.trod laidOutP (by kernel_rfl) (of_decide_eq_true (by kernel_rfl)) k1 bel lt1) trodAll_mk0)), rfl, bel.frame _, fun h => by cases h⟩

theorem small : smallFacts Try.prog Try.f29 Rows.walkWalksSpec Rows.walkWalksRow = true := by kernel_rfl
theorem c1 : (Rows.walkWalksRow.inPlace == Try.prog.inPlace 29) = true := by kernel_rfl
theorem c2 : (Rows.walkWalksRow.unfollowed == Try.prog.unfollowed 29) = true := by kernel_rfl
theorem c3 : (Rows.walkWalksRow.recurses == Try.prog.recurses 29) = true := by kernel_rfl
theorem c4 : (Rows.walkWalksRow.named == Try.prog.varsNamed 29) = true := by kernel_rfl
theorem named : Try.prog.funcNamed Rows.walkWalksRow.func = some 29 := by kernel_rfl
theorem closed : joinedFacts Try.prog 29 Try.f29 Rows.walkWalksSpec Rows.walkWalksRow = true :=
  joined_of small laidOutP mapsRowedP stopsP stopKnobsP stopsHeardP mayEnterP c1 c2 c3 c4 (by rw [plainKeysP]; rfl) (by rw [liftsFinalP]; rfl) (by rw [makeP]; rfl)
theorem over : Rows.walkWalksRow.holds Try.pinned (OpenSpec.ofChange Rows.walkWalksSpec) :=
  OpenClaim.holds_of_wide 29 Try.f29 rfl rfl rfl rfl rfl rfl rfl ⟨rfl, rfl, rfl, rfl, rfl⟩ rfl rfl rfl rfl rfl named Try.func29 closed
    (of_decide_eq_true (by kernel_rfl)) (by unfold Func.isWrapper; first | (rw [if_pos (by decide +kernel)]; kernel_rfl) | (rw [if_neg (by decide +kernel)]; exact ⟨rfl, rfl⟩))
    (fun os started H enc _ => lifted os started H enc)

theorem proved : Rows.WalkWalksSaid := over
#print axioms proved
end Go.Proofs.Ytfijchofplkcoaa.walkWalks
