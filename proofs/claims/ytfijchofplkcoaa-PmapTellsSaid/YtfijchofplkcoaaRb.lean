/-
  The closed facts of a row of this seat, part by part: those of the program alone, once; and how they are put together.
-/
import Derived.Test.YtfijchofplkcoaaRows
import Derived.WalkKit
import Derived.ProofKit
import Derived.OpenShut
set_option linter.unusedVariables false
namespace Go.Proofs.Ytfijchofplkcoaa

def smallFacts (P : Program) (fn : Func) (s : ChangeSpec) (c : OpenClaim) : Bool :=
  c.wf (OpenSpec.ofChange s) &&
  fn.params.all (P.readableRec ·) && namedTie P c.named s.vars &&
  (c.stops == []) && (c.knobs == []) &&
  (c.maps == (fn.params.toList ++ s.plain.varTypes P).any (P.mapsRec ·)) && (c.ifaces == (fn.params.toList ++ s.plain.varTypes P).any (P.ifacesRec ·)) && (c.mapsOut == P.mapsAmong fn.resultTypes.toList) &&
  (c.loops == (fn.params.toList ++ s.plain.varTypes P).any (P.loopsFrom ·)) && (c.wideKeys == (fn.params.toList ++ s.plain.varTypes P ++ fn.resultTypes.toList).any (P.wideKeysFrom ·)) &&
  s.vars.all (P.varReadable ·) && fn.resultTypes.all (fun t => P.readableRec t && decide (t < P.types.size)) && (c.ifacesOut == fn.resultTypes.toList.any (P.ifacesRec ·)) && (c.loopsOut == fn.resultTypes.toList.any (P.loopsFrom ·)) && c.shortTexts.isNone && (c.kinds == (if c.domain.isEmpty then [] else fn.params.toList.map fun t => match P.underlying t with | some (.int k) => some k | _ => none)) && (c.pinned == c.pinnedBy) &&
  (c.veiled == (fn.params.toList ++ s.plain.varTypes P ++ fn.resultTypes.toList).any (P.veiledRec ·)) && c.veiledFits P fn.params.toList (fn.params.toList ++ s.plain.varTypes P ++ fn.resultTypes.toList)

theorem joined_of {P : Program} {f : FuncId} {fn : Func} {s : ChangeSpec} {c : OpenClaim} (small : smallFacts P fn s c = true)
    (g1 : laidOutB P = true) (g2 : mapsRowed P = true) (g3 : (P.stops == []) = true) (g4 : (P.stopKnobs == []) = true) (g5 : P.stopsHeard = true) (g6 : P.mayEnter = true)
    (r1 : (c.inPlace == P.inPlace f) = true) (r2 : (c.unfollowed == P.unfollowed f) = true) (r3 : (c.recurses == P.recurses f) = true) (r4 : (c.named == P.varsNamed f) = true)
    (r5 : (c.plainKeys == P.plainKeys) = true) (r6 : (c.lifted == P.liftsFinal) = true) (r7 : (P.make == some c.make) = true) : joinedFacts P f fn s c = true := by
  simp only [smallFacts, Bool.and_eq_true] at small
  simp only [joinedFacts, Bool.and_eq_true]
  obtain ⟨⟨⟨⟨⟨⟨⟨⟨⟨⟨⟨⟨⟨⟨⟨⟨⟨⟨a1, a2⟩, a3⟩, a4⟩, a5⟩, a6⟩, a7⟩, a8⟩, a9⟩, a10⟩, a11⟩, a12⟩, a13⟩, a14⟩, a15⟩, a16⟩, a17⟩, a18⟩, a19⟩ := small
  refine ⟨⟨⟨⟨⟨⟨⟨⟨⟨⟨⟨⟨⟨⟨⟨⟨⟨⟨⟨⟨⟨⟨⟨⟨⟨⟨⟨⟨⟨⟨⟨?_, ?_⟩, ?_⟩, ?_⟩, ?_⟩, ?_⟩, ?_⟩, ?_⟩, ?_⟩, ?_⟩, ?_⟩, ?_⟩, ?_⟩, ?_⟩, ?_⟩, ?_⟩, ?_⟩, ?_⟩, ?_⟩, ?_⟩, ?_⟩, ?_⟩, ?_⟩, ?_⟩, ?_⟩, ?_⟩, ?_⟩, ?_⟩, ?_⟩, ?_⟩, ?_⟩, ?_⟩ <;> assumption

theorem laidOutP : laidOutB Try.prog = true := by kernel_rfl
theorem mapsRowedP : mapsRowed Try.prog = true := by kernel_rfl
theorem stopsP : (Try.prog.stops == []) = true := by kernel_rfl
theorem stopKnobsP : (Try.prog.stopKnobs == []) = true := by kernel_rfl
theorem ownP : ownKnob Try.prog.godebug = none := by kernel_rfl

def sp : Char := Char.ofNat 32
def word0 : List Char := ([104,97,114,110,101,115,115] : List Nat).map Char.ofNat
def word1 : List Char := ([55,57,50,55,56,56,49,48,101,57,102,57,57,97,49,101,54,56,57,100,57,97,49,102,102,54,53,57,56,51,48,52,50,49,97,56,53,52,99,51,99,48,100,55,57,48,56,51,102,97,98,55,98,48,97,49,48,57,97,97,101,100,102,99] : List Nat).map Char.ofNat
def word2 : List Char := ([99,117,116] : List Nat).map Char.ofNat
def wordR : List Char := ([97,116,32,112,97,110,116,114,121,47,112,97,110,116,114,121,108,97,119,48,51,46,80,116,101,66,97,99,107,32,112,97,110,116,114,121,47,112,97,110,116,114,121,108,97,119,48,51,46,80,116,101,78,101,120,116,32,112,97,110,116,114,121,47,112,97,110,116,114,121,108,97,119,48,51,46,80,116,101,80,97,114,116,115,32,112,97,110,116,114,121,47,112,97,110,116,114,121,108,97,119,48,51,46,80,116,101,74,111,105,110,115,32,112,97,110,116,114,121,47,112,97,110,116,114,121,108,97,119,48,51,46,80,116,101,67,111,100,101,115,32,112,97,110,116,114,121,47,112,97,110,116,114,121,108,97,119,48,51,46,80,116,101,75,105,110,100,115,32,112,97,110,116,114,121,47,112,97,110,116,114,121,108,97,119,48,51,46,80,116,101,82,105,103,104,116,115,32,112,97,110,116,114,121,47,112,97,110,116,114,121,108,97,119,48,51,46,80,116,101,71,114,97,110,116,115,32,112,97,110,116,114,121,47,112,97,110,116,114,121,108,97,119,48,49,46,80,104,121,115,79,119,110,32,112,97,110,116,114,121,47,112,97,110,116,114,121,108,97,119,48,49,46,80,104,121,115,70,105,108,108,115,32,112,97,110,116,114,121,47,112,97,110,116,114,121,108,97,119,48,56,46,83,108,111,116,115,87,111,114,100,115,32,112,97,110,116,114,121,47,112,97,110,116,114,121,108,97,119,48,49,46,80,104,121,115,66,121,116,101,115,32,112,97,110,116,114,121,47,112,97,110,116,114,121,108,97,119,48,54,46,70,114,97,109,101,115,82,101,115,101,114,118,101,32,112,97,110,116,114,121,47,112,97,110,116,114,121,108,97,119,48,49,46,80,104,121,115,65,112,97,114,116,32,112,97,110,116,114,121,47,112,97,110,116,114,121,108,97,119,48,49,46,80,104,121,115,87,111,114,100,115,32,112,97,110,116,114,121,47,112,97,110,116,114,121,108,97,119,48,49,46,80,104,121,115,65,99,116,115,32,112,97,110,116,114,121,47,112,97,110,116,114,121,108,97,119,48,49,46,80,104,121,115,78,111,110,101,32,112,97,110,116,114,121,47,112,97,110,116,114,121,108,97,119,48,54,46,70,114,97,109,101,115,65,99,116,115,32,112,97,110,116,114,121,47,112,97,110,116,114,121,108,97,119,48,54,46,70,114,97,109,101,115,67,108,97,115,115,101,115,32,112,97,110,116,114,121,47,112,97,110,116,114,121,108,97,119,48,54,46,70,114,97,109,101,115,78,111,110,101,32,112,97,110,116,114,121,47,112,97,110,116,114,121,108,97,119,48,54,46,70,114,97,109,101,115,72,111,108,100,115,32,112,97,110,116,114,121,47,112,97,110,116,114,121,108,97,119,48,56,46,83,108,111,116,115,65,99,116,115,32,112,97,110,116,114,121,47,112,97,110,116,114,121,108,97,119,48,56,46,83,108,111,116,115,65,112,97,114,116,32,112,97,110,116,114,121,47,112,97,110,116,114,121,108,97,119,48,56,46,83,108,111,116,115,82,117,110,115,32,112,97,110,116,114,121,47,112,97,110,116,114,121,108,97,119,48,56,46,83,108,111,116,115,78,111,110,101,32,112,97,110,116,114,121,47,112,97,110,116,114,121,108,97,119,48,52,46,87,97,108,107,70,105,110,100,115,32,112,97,110,116,114,121,47,112,97,110,116,114,121,108,97,119,48,52,46,87,97,108,107,87,97,108,107,115,32,112,97,110,116,114,121,47,112,97,110,116,114,121,108,97,119,48,52,46,87,97,108,107,80,108,97,99,101,115,32,112,97,110,116,114,121,47,112,97,110,116,114,121,108,97,119,48,52,46,87,97,108,107,87,114,105,116,101,115,32,112,97,110,116,114,121,47,112,97,110,116,114,121,108,97,119,48,52,46,87,97,108,107,76,101,97,118,101,115,32,112,97,110,116,114,121,47,112,97,110,116,114,121,108,97,119,48,55,46,80,109,97,112,70,117,108,108,32,112,97,110,116,114,121,47,112,97,110,116,114,121,108,97,119,48,55,46,80,109,97,112,76,101,97,115,116,32,112,97,110,116,114,121,47,112,97,110,116,114,121,108,97,119,48,55,46,80,109,97,112,70,108,97,103,115,32,112,97,110,116,114,121,47,112,97,110,116,114,121,108,97,119,48,55,46,80,109,97,112,65,112,97,114,116,32,112,97,110,116,114,121,47,112,97,110,116,114,121,108,97,119,48,55,46,80,109,97,112,65,99,116,115,32,112,97,110,116,114,121,47,112,97,110,116,114,121,108,97,119,48,55,46,80,109,97,112,84,101,108,108,115,32,112,97,110,116,114,121,47,112,97,110,116,114,121,108,97,119,48,55,46,80,109,97,112,78,111,110,101] : List Nat).map Char.ofNat
theorem headP : Try.prog.initOrder = String.ofList (word0 ++ sp :: (word1 ++ sp :: (word2 ++ sp :: wordR))) := by kernel_rfl
theorem ws_split (w r : List Char) (h : ∀ c ∈ w, c ≠ sp) : wordsSigns (w ++ sp :: r) = w :: wordsSigns r := by
  induction w with
  | nil => rfl
  | cons c w ih =>
    have h1 : c ≠ sp := h c List.mem_cons_self
    have h2 := ih fun c hc => h c (List.mem_cons_of_mem _ hc)
    rw [List.cons_append, wordsSigns.eq_3 _ _ (fun e => h1 e), h2]
theorem b_h : ((word0 == "harness".toList || word0 == "ownmain".toList) && isSumSigns word1) = true := by kernel_rfl
theorem b_1 : (word2 == "gc".toList || word2 == "spec".toList) = false := by kernel_rfl
theorem b_2 : (word2 == "cut".toList) = true := by kernel_rfl
theorem b_3 : ((some word2 == some "cut".toList)) = true := by kernel_rfl
theorem b_4 : ((some word2 == some "carried".toList)) = false := by kernel_rfl
theorem b_5 : (word2 == "carried".toList) = false := by kernel_rfl
theorem head_of {s : String} {r : List Char} (h : s = String.ofList (word0 ++ sp :: (word1 ++ sp :: (word2 ++ sp :: r)))) :
    behindMainWord (wordsSigns s.toList) = word2 :: wordsSigns r := by
  rw [h, String.toList_ofList, ws_split _ _ (by decide), ws_split _ _ (by decide), ws_split _ _ (by decide)]
  generalize wordsSigns r = r
  have := b_h
  generalize word0 = w0 at *
  generalize word1 = w1 at *
  simp only [behindMainWord, this, if_true]
theorem make_of {P : Program} {r : List (List Char)} (h : behindMainWord (wordsSigns P.initOrder.toList) = word2 :: r) : P.make = some .cut := by
  have h1 := b_1
  have h2 := b_2
  generalize word2 = w2 at *
  simp only [Program.make, h, h1, h2]
  simp
theorem stripP (r : List (List Char)) : stripLifts liftWords (word2 :: r) = ([], word2 :: r) := by
  simp only [liftWords, stripLifts]
  iterate 15 (rw [if_neg (by decide +kernel)])
theorem enter_of {P : Program} {r : List (List Char)} (h : behindMainWord (wordsSigns P.initOrder.toList) = word2 :: r) (a : P.laysLater = false) (b : P.bearsReflect = false) (c : P.doorFits [] = true) : P.mayEnter = true := by
  have h1 := b_3
  have h2 := stripP r
  generalize word2 = w2 at *
  simp only [Program.mayEnter, h, h2, a, b, c, List.head?_cons, h1]
  simp
theorem lifts_of {P : Program} {r : List (List Char)} (h : behindMainWord (wordsSigns P.initOrder.toList) = word2 :: r) : P.liftsFinal = false := by
  have h1 := b_4
  have h2 := stripP r
  generalize word2 = w2 at *
  simp only [Program.liftsFinal, Program.headLifts, h, h2, List.head?_cons, h1]
  simp
theorem headB : behindMainWord (wordsSigns Try.prog.initOrder.toList) = word2 :: wordsSigns wordR := head_of headP
theorem stopsHeardP : Try.prog.stopsHeard = true := by kernel_rfl
theorem plainKeysP : Try.prog.plainKeys = true := by kernel_rfl
theorem laysLaterP : Try.prog.laysLater = false := by kernel_rfl
theorem bearsReflectP : Try.prog.bearsReflect = false := by kernel_rfl
theorem doorFitsP : Try.prog.doorFits [] = true := by kernel_rfl
theorem makeP : Try.prog.make = some .cut := make_of headB
theorem mayEnterP : Try.prog.mayEnter = true := enter_of headB laysLaterP bearsReflectP doorFitsP
theorem liftsFinalP : Try.prog.liftsFinal = false := lifts_of headB
end Go.Proofs.Ytfijchofplkcoaa
