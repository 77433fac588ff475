/-
  No cell of these rows narrows 'for every input' (looked for: loops, veiled, ifaces, maps, wideKeys, modest, calm, conditions, laid).
  DERIVED. THE GIVEN ROWS OF THIS SEAT. 37 by the template 'for every input the law returns true; each argument reads behind the call as it read before'; 0 by the template 'total and deterministic' (their statements: YtfijchofplkcoaaTotals.lean).
  GIVEN WITH THE SEED: the statements are not yours to turn. If you find one false, say at which input.
  Laid BY PROGRAM, IN A SANDBOX (cutbox-rows.mjs): the forced cells as the released guide's own fill.sh prints them over the translation 0086ee5edc424ca6… (all of the seat's roots in one cut). By AI agents, Wed Nov 11 2026. No macro, syntax, notation, axiom, sorry.
-/
import Derived.Test.YtfijchofplkcoaaChecked
import GoSem.Claim
import GoSem.ClaimJoined
import GoSem.ClaimMapViews
import Derived.JoinedTies
import Derived.KernelRfl
namespace Go.Proofs.Ytfijchofplkcoaa
/- THE CELL 'sum', in the pinned program and in every row, IS THE sha256 OF THE DUMP (.gsa) THAT YtfijchofplkcoaaProg.lean LOADS. Nothing in Lean hashes anything: it is a label: what it is worth is what the hold of that sum in a sandbox is worth. -/
noncomputable def Try.pinned : Pinned := { name := "ytfijchofplkcoaa", sum := "0086ee5edc424ca62711142c0f85ee10127ea36b34d61aee2efeb41f88440b6e", checked := Try.checked }
namespace Rows
def none {H : Type} : Left H := { results := [], args := [] }

/-- 'pantrylaw03.PteBack': WHATEVER THE INPUT: true; the input reads as it did. -/
def pteBackSpec : ChangeSpec := { name := "pteBack", fn := fun _ => fun
  | [d1, d2, d3] => { results := [.lit (.bool true)], args := [d1, d2, d3] }
  | _ => none }
def pteBackRow : OpenClaim := { program := "ytfijchofplkcoaa", sum := "0086ee5edc424ca62711142c0f85ee10127ea36b34d61aee2efeb41f88440b6e", func := "pantry/pantrylaw03.PteBack", spec := "pteBack", apart := false }
def PteBackSaid : Prop := pteBackRow.holds Try.pinned (OpenSpec.ofChange pteBackSpec)

/-- ITS FALSE NEIGHBOUR: 'it returns false'. Refute it at one input. -/
def pteBackWrong : ChangeSpec := { name := "pteBack", fn := fun _ => fun
  | [d1, d2, d3] => { results := [.lit (.bool false)], args := [d1, d2, d3] }
  | _ => none }
def PteBackWrongFalsely : Prop := pteBackRow.holds Try.pinned (OpenSpec.ofChange pteBackWrong)

/-- 'pantrylaw03.PteNext': WHATEVER THE INPUT: true; the input reads as it did. -/
def pteNextSpec : ChangeSpec := { name := "pteNext", fn := fun _ => fun
  | [d] => { results := [.lit (.bool true)], args := [d] }
  | _ => none }
def pteNextRow : OpenClaim := { program := "ytfijchofplkcoaa", sum := "0086ee5edc424ca62711142c0f85ee10127ea36b34d61aee2efeb41f88440b6e", func := "pantry/pantrylaw03.PteNext", spec := "pteNext", apart := false }
def PteNextSaid : Prop := pteNextRow.holds Try.pinned (OpenSpec.ofChange pteNextSpec)

/-- ITS FALSE NEIGHBOUR: 'it returns false'. Refute it at one input. -/
def pteNextWrong : ChangeSpec := { name := "pteNext", fn := fun _ => fun
  | [d] => { results := [.lit (.bool false)], args := [d] }
  | _ => none }
def PteNextWrongFalsely : Prop := pteNextRow.holds Try.pinned (OpenSpec.ofChange pteNextWrong)

/-- 'pantrylaw03.PteParts': WHATEVER THE INPUT: true; the input reads as it did. -/
def ptePartsSpec : ChangeSpec := { name := "pteParts", fn := fun _ => fun
  | [d1, d2, d3] => { results := [.lit (.bool true)], args := [d1, d2, d3] }
  | _ => none }
def ptePartsRow : OpenClaim := { program := "ytfijchofplkcoaa", sum := "0086ee5edc424ca62711142c0f85ee10127ea36b34d61aee2efeb41f88440b6e", func := "pantry/pantrylaw03.PteParts", spec := "pteParts", apart := false }
def PtePartsSaid : Prop := ptePartsRow.holds Try.pinned (OpenSpec.ofChange ptePartsSpec)

/-- ITS FALSE NEIGHBOUR: 'it returns false'. Refute it at one input. -/
def ptePartsWrong : ChangeSpec := { name := "pteParts", fn := fun _ => fun
  | [d1, d2, d3] => { results := [.lit (.bool false)], args := [d1, d2, d3] }
  | _ => none }
def PtePartsWrongFalsely : Prop := ptePartsRow.holds Try.pinned (OpenSpec.ofChange ptePartsWrong)

/-- 'pantrylaw03.PteJoins': WHATEVER THE INPUT: true; the input reads as it did. -/
def pteJoinsSpec : ChangeSpec := { name := "pteJoins", fn := fun _ => fun
  | [d] => { results := [.lit (.bool true)], args := [d] }
  | _ => none }
def pteJoinsRow : OpenClaim := { program := "ytfijchofplkcoaa", sum := "0086ee5edc424ca62711142c0f85ee10127ea36b34d61aee2efeb41f88440b6e", func := "pantry/pantrylaw03.PteJoins", spec := "pteJoins", apart := false }
def PteJoinsSaid : Prop := pteJoinsRow.holds Try.pinned (OpenSpec.ofChange pteJoinsSpec)

/-- ITS FALSE NEIGHBOUR: 'it returns false'. Refute it at one input. -/
def pteJoinsWrong : ChangeSpec := { name := "pteJoins", fn := fun _ => fun
  | [d] => { results := [.lit (.bool false)], args := [d] }
  | _ => none }
def PteJoinsWrongFalsely : Prop := pteJoinsRow.holds Try.pinned (OpenSpec.ofChange pteJoinsWrong)

/-- 'pantrylaw03.PteCodes': WHATEVER THE INPUT: true; the input reads as it did. -/
def pteCodesSpec : ChangeSpec := { name := "pteCodes", fn := fun _ => fun
  | [d1, d2] => { results := [.lit (.bool true)], args := [d1, d2] }
  | _ => none }
def pteCodesRow : OpenClaim := { program := "ytfijchofplkcoaa", sum := "0086ee5edc424ca62711142c0f85ee10127ea36b34d61aee2efeb41f88440b6e", func := "pantry/pantrylaw03.PteCodes", spec := "pteCodes", apart := false }
def PteCodesSaid : Prop := pteCodesRow.holds Try.pinned (OpenSpec.ofChange pteCodesSpec)

/-- ITS FALSE NEIGHBOUR: 'it returns false'. Refute it at one input. -/
def pteCodesWrong : ChangeSpec := { name := "pteCodes", fn := fun _ => fun
  | [d1, d2] => { results := [.lit (.bool false)], args := [d1, d2] }
  | _ => none }
def PteCodesWrongFalsely : Prop := pteCodesRow.holds Try.pinned (OpenSpec.ofChange pteCodesWrong)

/-- 'pantrylaw03.PteKinds': WHATEVER THE INPUT: true; the input reads as it did. -/
def pteKindsSpec : ChangeSpec := { name := "pteKinds", fn := fun _ => fun
  | [d1, d2, d3] => { results := [.lit (.bool true)], args := [d1, d2, d3] }
  | _ => none }
def pteKindsRow : OpenClaim := { program := "ytfijchofplkcoaa", sum := "0086ee5edc424ca62711142c0f85ee10127ea36b34d61aee2efeb41f88440b6e", func := "pantry/pantrylaw03.PteKinds", spec := "pteKinds", apart := false }
def PteKindsSaid : Prop := pteKindsRow.holds Try.pinned (OpenSpec.ofChange pteKindsSpec)

/-- ITS FALSE NEIGHBOUR: 'it returns false'. Refute it at one input. -/
def pteKindsWrong : ChangeSpec := { name := "pteKinds", fn := fun _ => fun
  | [d1, d2, d3] => { results := [.lit (.bool false)], args := [d1, d2, d3] }
  | _ => none }
def PteKindsWrongFalsely : Prop := pteKindsRow.holds Try.pinned (OpenSpec.ofChange pteKindsWrong)

/-- 'pantrylaw03.PteRights': WHATEVER THE INPUT: true; the input reads as it did. -/
def pteRightsSpec : ChangeSpec := { name := "pteRights", fn := fun _ => fun
  | [d1, d2, d3] => { results := [.lit (.bool true)], args := [d1, d2, d3] }
  | _ => none }
def pteRightsRow : OpenClaim := { program := "ytfijchofplkcoaa", sum := "0086ee5edc424ca62711142c0f85ee10127ea36b34d61aee2efeb41f88440b6e", func := "pantry/pantrylaw03.PteRights", spec := "pteRights", apart := false }
def PteRightsSaid : Prop := pteRightsRow.holds Try.pinned (OpenSpec.ofChange pteRightsSpec)

/-- ITS FALSE NEIGHBOUR: 'it returns false'. Refute it at one input. -/
def pteRightsWrong : ChangeSpec := { name := "pteRights", fn := fun _ => fun
  | [d1, d2, d3] => { results := [.lit (.bool false)], args := [d1, d2, d3] }
  | _ => none }
def PteRightsWrongFalsely : Prop := pteRightsRow.holds Try.pinned (OpenSpec.ofChange pteRightsWrong)

/-- 'pantrylaw03.PteGrants': WHATEVER THE INPUT: true; the input reads as it did. -/
def pteGrantsSpec : ChangeSpec := { name := "pteGrants", fn := fun _ => fun
  | [d1, d2] => { results := [.lit (.bool true)], args := [d1, d2] }
  | _ => none }
def pteGrantsRow : OpenClaim := { program := "ytfijchofplkcoaa", sum := "0086ee5edc424ca62711142c0f85ee10127ea36b34d61aee2efeb41f88440b6e", func := "pantry/pantrylaw03.PteGrants", spec := "pteGrants", apart := false }
def PteGrantsSaid : Prop := pteGrantsRow.holds Try.pinned (OpenSpec.ofChange pteGrantsSpec)

/-- ITS FALSE NEIGHBOUR: 'it returns false'. Refute it at one input. -/
def pteGrantsWrong : ChangeSpec := { name := "pteGrants", fn := fun _ => fun
  | [d1, d2] => { results := [.lit (.bool false)], args := [d1, d2] }
  | _ => none }
def PteGrantsWrongFalsely : Prop := pteGrantsRow.holds Try.pinned (OpenSpec.ofChange pteGrantsWrong)

/-- 'pantrylaw01.PhysOwn': WHATEVER THE INPUT: true; the input reads as it did. -/
def physOwnSpec : ChangeSpec := { name := "physOwn", fn := fun _ => fun
  | [d1, d2] => { results := [.lit (.bool true)], args := [d1, d2] }
  | _ => none }
def physOwnRow : OpenClaim := { program := "ytfijchofplkcoaa", sum := "0086ee5edc424ca62711142c0f85ee10127ea36b34d61aee2efeb41f88440b6e", func := "pantry/pantrylaw01.PhysOwn", spec := "physOwn", apart := false }
def PhysOwnSaid : Prop := physOwnRow.holds Try.pinned (OpenSpec.ofChange physOwnSpec)

/-- ITS FALSE NEIGHBOUR: 'it returns false'. Refute it at one input. -/
def physOwnWrong : ChangeSpec := { name := "physOwn", fn := fun _ => fun
  | [d1, d2] => { results := [.lit (.bool false)], args := [d1, d2] }
  | _ => none }
def PhysOwnWrongFalsely : Prop := physOwnRow.holds Try.pinned (OpenSpec.ofChange physOwnWrong)

/-- 'pantrylaw01.PhysFills': WHATEVER THE INPUT: true; the input reads as it did. -/
def physFillsSpec : ChangeSpec := { name := "physFills", fn := fun _ => fun
  | [d1, d2] => { results := [.lit (.bool true)], args := [d1, d2] }
  | _ => none }
def physFillsRow : OpenClaim := { program := "ytfijchofplkcoaa", sum := "0086ee5edc424ca62711142c0f85ee10127ea36b34d61aee2efeb41f88440b6e", func := "pantry/pantrylaw01.PhysFills", spec := "physFills", apart := false }
def PhysFillsSaid : Prop := physFillsRow.holds Try.pinned (OpenSpec.ofChange physFillsSpec)

/-- ITS FALSE NEIGHBOUR: 'it returns false'. Refute it at one input. -/
def physFillsWrong : ChangeSpec := { name := "physFills", fn := fun _ => fun
  | [d1, d2] => { results := [.lit (.bool false)], args := [d1, d2] }
  | _ => none }
def PhysFillsWrongFalsely : Prop := physFillsRow.holds Try.pinned (OpenSpec.ofChange physFillsWrong)

/-- 'pantrylaw08.SlotsWords': WHATEVER THE INPUT: true; the input reads as it did. -/
def slotsWordsSpec : ChangeSpec := { name := "slotsWords", fn := fun _ => fun
  | [d1, d2] => { results := [.lit (.bool true)], args := [d1, d2] }
  | _ => none }
def slotsWordsRow : OpenClaim := { program := "ytfijchofplkcoaa", sum := "0086ee5edc424ca62711142c0f85ee10127ea36b34d61aee2efeb41f88440b6e", func := "pantry/pantrylaw08.SlotsWords", spec := "slotsWords", apart := false }
def SlotsWordsSaid : Prop := slotsWordsRow.holds Try.pinned (OpenSpec.ofChange slotsWordsSpec)

/-- ITS FALSE NEIGHBOUR: 'it returns false'. Refute it at one input. -/
def slotsWordsWrong : ChangeSpec := { name := "slotsWords", fn := fun _ => fun
  | [d1, d2] => { results := [.lit (.bool false)], args := [d1, d2] }
  | _ => none }
def SlotsWordsWrongFalsely : Prop := slotsWordsRow.holds Try.pinned (OpenSpec.ofChange slotsWordsWrong)

/-- 'pantrylaw01.PhysBytes': WHATEVER THE INPUT: true; the input reads as it did. -/
def physBytesSpec : ChangeSpec := { name := "physBytes", fn := fun _ => fun
  | [d1, d2, d3] => { results := [.lit (.bool true)], args := [d1, d2, d3] }
  | _ => none }
def physBytesRow : OpenClaim := { program := "ytfijchofplkcoaa", sum := "0086ee5edc424ca62711142c0f85ee10127ea36b34d61aee2efeb41f88440b6e", func := "pantry/pantrylaw01.PhysBytes", spec := "physBytes", apart := false }
def PhysBytesSaid : Prop := physBytesRow.holds Try.pinned (OpenSpec.ofChange physBytesSpec)

/-- ITS FALSE NEIGHBOUR: 'it returns false'. Refute it at one input. -/
def physBytesWrong : ChangeSpec := { name := "physBytes", fn := fun _ => fun
  | [d1, d2, d3] => { results := [.lit (.bool false)], args := [d1, d2, d3] }
  | _ => none }
def PhysBytesWrongFalsely : Prop := physBytesRow.holds Try.pinned (OpenSpec.ofChange physBytesWrong)

/-- 'pantrylaw06.FramesReserve': WHATEVER THE INPUT: true; the input reads as it did. -/
def framesReserveSpec : ChangeSpec := { name := "framesReserve", fn := fun _ => fun
  | [d1, d2, d3] => { results := [.lit (.bool true)], args := [d1, d2, d3] }
  | _ => none }
def framesReserveRow : OpenClaim := { program := "ytfijchofplkcoaa", sum := "0086ee5edc424ca62711142c0f85ee10127ea36b34d61aee2efeb41f88440b6e", func := "pantry/pantrylaw06.FramesReserve", spec := "framesReserve", unfollowed := true, recurses := true, apart := false }
def FramesReserveSaid : Prop := framesReserveRow.holds Try.pinned (OpenSpec.ofChange framesReserveSpec)

/-- ITS FALSE NEIGHBOUR: 'it returns false'. Refute it at one input. -/
def framesReserveWrong : ChangeSpec := { name := "framesReserve", fn := fun _ => fun
  | [d1, d2, d3] => { results := [.lit (.bool false)], args := [d1, d2, d3] }
  | _ => none }
def FramesReserveWrongFalsely : Prop := framesReserveRow.holds Try.pinned (OpenSpec.ofChange framesReserveWrong)

/-- 'pantrylaw01.PhysApart': WHATEVER THE INPUT: true; the input reads as it did. -/
def physApartSpec : ChangeSpec := { name := "physApart", fn := fun _ => fun
  | [d1, d2, d3] => { results := [.lit (.bool true)], args := [d1, d2, d3] }
  | _ => none }
def physApartRow : OpenClaim := { program := "ytfijchofplkcoaa", sum := "0086ee5edc424ca62711142c0f85ee10127ea36b34d61aee2efeb41f88440b6e", func := "pantry/pantrylaw01.PhysApart", spec := "physApart", apart := false }
def PhysApartSaid : Prop := physApartRow.holds Try.pinned (OpenSpec.ofChange physApartSpec)

/-- ITS FALSE NEIGHBOUR: 'it returns false'. Refute it at one input. -/
def physApartWrong : ChangeSpec := { name := "physApart", fn := fun _ => fun
  | [d1, d2, d3] => { results := [.lit (.bool false)], args := [d1, d2, d3] }
  | _ => none }
def PhysApartWrongFalsely : Prop := physApartRow.holds Try.pinned (OpenSpec.ofChange physApartWrong)

/-- 'pantrylaw01.PhysWords': WHATEVER THE INPUT: true; the input reads as it did. -/
def physWordsSpec : ChangeSpec := { name := "physWords", fn := fun _ => fun
  | [d1, d2] => { results := [.lit (.bool true)], args := [d1, d2] }
  | _ => none }
def physWordsRow : OpenClaim := { program := "ytfijchofplkcoaa", sum := "0086ee5edc424ca62711142c0f85ee10127ea36b34d61aee2efeb41f88440b6e", func := "pantry/pantrylaw01.PhysWords", spec := "physWords", apart := false }
def PhysWordsSaid : Prop := physWordsRow.holds Try.pinned (OpenSpec.ofChange physWordsSpec)

/-- ITS FALSE NEIGHBOUR: 'it returns false'. Refute it at one input. -/
def physWordsWrong : ChangeSpec := { name := "physWords", fn := fun _ => fun
  | [d1, d2] => { results := [.lit (.bool false)], args := [d1, d2] }
  | _ => none }
def PhysWordsWrongFalsely : Prop := physWordsRow.holds Try.pinned (OpenSpec.ofChange physWordsWrong)

/-- 'pantrylaw01.PhysActs': WHATEVER THE INPUT: true; the input reads as it did. -/
def physActsSpec : ChangeSpec := { name := "physActs", fn := fun _ => fun
  | [d1, d2, d3] => { results := [.lit (.bool true)], args := [d1, d2, d3] }
  | _ => none }
def physActsRow : OpenClaim := { program := "ytfijchofplkcoaa", sum := "0086ee5edc424ca62711142c0f85ee10127ea36b34d61aee2efeb41f88440b6e", func := "pantry/pantrylaw01.PhysActs", spec := "physActs", apart := false }
def PhysActsSaid : Prop := physActsRow.holds Try.pinned (OpenSpec.ofChange physActsSpec)

/-- ITS FALSE NEIGHBOUR: 'it returns false'. Refute it at one input. -/
def physActsWrong : ChangeSpec := { name := "physActs", fn := fun _ => fun
  | [d1, d2, d3] => { results := [.lit (.bool false)], args := [d1, d2, d3] }
  | _ => none }
def PhysActsWrongFalsely : Prop := physActsRow.holds Try.pinned (OpenSpec.ofChange physActsWrong)

/-- 'pantrylaw01.PhysNone': WHATEVER THE INPUT: true; the input reads as it did. -/
def physNoneSpec : ChangeSpec := { name := "physNone", fn := fun _ => fun
  | [d] => { results := [.lit (.bool true)], args := [d] }
  | _ => none }
def physNoneRow : OpenClaim := { program := "ytfijchofplkcoaa", sum := "0086ee5edc424ca62711142c0f85ee10127ea36b34d61aee2efeb41f88440b6e", func := "pantry/pantrylaw01.PhysNone", spec := "physNone", apart := false }
def PhysNoneSaid : Prop := physNoneRow.holds Try.pinned (OpenSpec.ofChange physNoneSpec)

/-- ITS FALSE NEIGHBOUR: 'it returns false'. Refute it at one input. -/
def physNoneWrong : ChangeSpec := { name := "physNone", fn := fun _ => fun
  | [d] => { results := [.lit (.bool false)], args := [d] }
  | _ => none }
def PhysNoneWrongFalsely : Prop := physNoneRow.holds Try.pinned (OpenSpec.ofChange physNoneWrong)

/-- 'pantrylaw06.FramesActs': WHATEVER THE INPUT: true; the input reads as it did. -/
def framesActsSpec : ChangeSpec := { name := "framesActs", fn := fun _ => fun
  | [d1, d2, d3] => { results := [.lit (.bool true)], args := [d1, d2, d3] }
  | _ => none }
def framesActsRow : OpenClaim := { program := "ytfijchofplkcoaa", sum := "0086ee5edc424ca62711142c0f85ee10127ea36b34d61aee2efeb41f88440b6e", func := "pantry/pantrylaw06.FramesActs", spec := "framesActs", unfollowed := true, recurses := true, apart := false }
def FramesActsSaid : Prop := framesActsRow.holds Try.pinned (OpenSpec.ofChange framesActsSpec)

/-- ITS FALSE NEIGHBOUR: 'it returns false'. Refute it at one input. -/
def framesActsWrong : ChangeSpec := { name := "framesActs", fn := fun _ => fun
  | [d1, d2, d3] => { results := [.lit (.bool false)], args := [d1, d2, d3] }
  | _ => none }
def FramesActsWrongFalsely : Prop := framesActsRow.holds Try.pinned (OpenSpec.ofChange framesActsWrong)

/-- 'pantrylaw06.FramesClasses': WHATEVER THE INPUT: true; the input reads as it did. -/
def framesClassesSpec : ChangeSpec := { name := "framesClasses", fn := fun _ => fun
  | [d1, d2] => { results := [.lit (.bool true)], args := [d1, d2] }
  | _ => none }
def framesClassesRow : OpenClaim := { program := "ytfijchofplkcoaa", sum := "0086ee5edc424ca62711142c0f85ee10127ea36b34d61aee2efeb41f88440b6e", func := "pantry/pantrylaw06.FramesClasses", spec := "framesClasses", unfollowed := true, recurses := true, apart := false }
def FramesClassesSaid : Prop := framesClassesRow.holds Try.pinned (OpenSpec.ofChange framesClassesSpec)

/-- ITS FALSE NEIGHBOUR: 'it returns false'. Refute it at one input. -/
def framesClassesWrong : ChangeSpec := { name := "framesClasses", fn := fun _ => fun
  | [d1, d2] => { results := [.lit (.bool false)], args := [d1, d2] }
  | _ => none }
def FramesClassesWrongFalsely : Prop := framesClassesRow.holds Try.pinned (OpenSpec.ofChange framesClassesWrong)

/-- 'pantrylaw06.FramesNone': WHATEVER THE INPUT: true; the input reads as it did. -/
def framesNoneSpec : ChangeSpec := { name := "framesNone", fn := fun _ => fun
  | [d] => { results := [.lit (.bool true)], args := [d] }
  | _ => none }
def framesNoneRow : OpenClaim := { program := "ytfijchofplkcoaa", sum := "0086ee5edc424ca62711142c0f85ee10127ea36b34d61aee2efeb41f88440b6e", func := "pantry/pantrylaw06.FramesNone", spec := "framesNone", unfollowed := true, recurses := true, apart := false }
def FramesNoneSaid : Prop := framesNoneRow.holds Try.pinned (OpenSpec.ofChange framesNoneSpec)

/-- ITS FALSE NEIGHBOUR: 'it returns false'. Refute it at one input. -/
def framesNoneWrong : ChangeSpec := { name := "framesNone", fn := fun _ => fun
  | [d] => { results := [.lit (.bool false)], args := [d] }
  | _ => none }
def FramesNoneWrongFalsely : Prop := framesNoneRow.holds Try.pinned (OpenSpec.ofChange framesNoneWrong)

/-- 'pantrylaw06.FramesHolds': WHATEVER THE INPUT: true; the input reads as it did. -/
def framesHoldsSpec : ChangeSpec := { name := "framesHolds", fn := fun _ => fun
  | [d1, d2] => { results := [.lit (.bool true)], args := [d1, d2] }
  | _ => none }
def framesHoldsRow : OpenClaim := { program := "ytfijchofplkcoaa", sum := "0086ee5edc424ca62711142c0f85ee10127ea36b34d61aee2efeb41f88440b6e", func := "pantry/pantrylaw06.FramesHolds", spec := "framesHolds", unfollowed := true, recurses := true, apart := false }
def FramesHoldsSaid : Prop := framesHoldsRow.holds Try.pinned (OpenSpec.ofChange framesHoldsSpec)

/-- ITS FALSE NEIGHBOUR: 'it returns false'. Refute it at one input. -/
def framesHoldsWrong : ChangeSpec := { name := "framesHolds", fn := fun _ => fun
  | [d1, d2] => { results := [.lit (.bool false)], args := [d1, d2] }
  | _ => none }
def FramesHoldsWrongFalsely : Prop := framesHoldsRow.holds Try.pinned (OpenSpec.ofChange framesHoldsWrong)

/-- 'pantrylaw08.SlotsActs': WHATEVER THE INPUT: true; the input reads as it did. -/
def slotsActsSpec : ChangeSpec := { name := "slotsActs", fn := fun _ => fun
  | [d1, d2] => { results := [.lit (.bool true)], args := [d1, d2] }
  | _ => none }
def slotsActsRow : OpenClaim := { program := "ytfijchofplkcoaa", sum := "0086ee5edc424ca62711142c0f85ee10127ea36b34d61aee2efeb41f88440b6e", func := "pantry/pantrylaw08.SlotsActs", spec := "slotsActs", apart := false }
def SlotsActsSaid : Prop := slotsActsRow.holds Try.pinned (OpenSpec.ofChange slotsActsSpec)

/-- ITS FALSE NEIGHBOUR: 'it returns false'. Refute it at one input. -/
def slotsActsWrong : ChangeSpec := { name := "slotsActs", fn := fun _ => fun
  | [d1, d2] => { results := [.lit (.bool false)], args := [d1, d2] }
  | _ => none }
def SlotsActsWrongFalsely : Prop := slotsActsRow.holds Try.pinned (OpenSpec.ofChange slotsActsWrong)

/-- 'pantrylaw08.SlotsApart': WHATEVER THE INPUT: true; the input reads as it did. -/
def slotsApartSpec : ChangeSpec := { name := "slotsApart", fn := fun _ => fun
  | [d1, d2] => { results := [.lit (.bool true)], args := [d1, d2] }
  | _ => none }
def slotsApartRow : OpenClaim := { program := "ytfijchofplkcoaa", sum := "0086ee5edc424ca62711142c0f85ee10127ea36b34d61aee2efeb41f88440b6e", func := "pantry/pantrylaw08.SlotsApart", spec := "slotsApart", apart := false }
def SlotsApartSaid : Prop := slotsApartRow.holds Try.pinned (OpenSpec.ofChange slotsApartSpec)

/-- ITS FALSE NEIGHBOUR: 'it returns false'. Refute it at one input. -/
def slotsApartWrong : ChangeSpec := { name := "slotsApart", fn := fun _ => fun
  | [d1, d2] => { results := [.lit (.bool false)], args := [d1, d2] }
  | _ => none }
def SlotsApartWrongFalsely : Prop := slotsApartRow.holds Try.pinned (OpenSpec.ofChange slotsApartWrong)

/-- 'pantrylaw08.SlotsRuns': WHATEVER THE INPUT: true; the input reads as it did. -/
def slotsRunsSpec : ChangeSpec := { name := "slotsRuns", fn := fun _ => fun
  | [d1, d2] => { results := [.lit (.bool true)], args := [d1, d2] }
  | _ => none }
def slotsRunsRow : OpenClaim := { program := "ytfijchofplkcoaa", sum := "0086ee5edc424ca62711142c0f85ee10127ea36b34d61aee2efeb41f88440b6e", func := "pantry/pantrylaw08.SlotsRuns", spec := "slotsRuns", apart := false }
def SlotsRunsSaid : Prop := slotsRunsRow.holds Try.pinned (OpenSpec.ofChange slotsRunsSpec)

/-- ITS FALSE NEIGHBOUR: 'it returns false'. Refute it at one input. -/
def slotsRunsWrong : ChangeSpec := { name := "slotsRuns", fn := fun _ => fun
  | [d1, d2] => { results := [.lit (.bool false)], args := [d1, d2] }
  | _ => none }
def SlotsRunsWrongFalsely : Prop := slotsRunsRow.holds Try.pinned (OpenSpec.ofChange slotsRunsWrong)

/-- 'pantrylaw08.SlotsNone': WHATEVER THE INPUT: true; the input reads as it did. -/
def slotsNoneSpec : ChangeSpec := { name := "slotsNone", fn := fun _ => fun
  | [d] => { results := [.lit (.bool true)], args := [d] }
  | _ => none }
def slotsNoneRow : OpenClaim := { program := "ytfijchofplkcoaa", sum := "0086ee5edc424ca62711142c0f85ee10127ea36b34d61aee2efeb41f88440b6e", func := "pantry/pantrylaw08.SlotsNone", spec := "slotsNone", apart := false }
def SlotsNoneSaid : Prop := slotsNoneRow.holds Try.pinned (OpenSpec.ofChange slotsNoneSpec)

/-- ITS FALSE NEIGHBOUR: 'it returns false'. Refute it at one input. -/
def slotsNoneWrong : ChangeSpec := { name := "slotsNone", fn := fun _ => fun
  | [d] => { results := [.lit (.bool false)], args := [d] }
  | _ => none }
def SlotsNoneWrongFalsely : Prop := slotsNoneRow.holds Try.pinned (OpenSpec.ofChange slotsNoneWrong)

/-- 'pantrylaw04.WalkFinds': WHATEVER THE INPUT: true; the input reads as it did. -/
def walkFindsSpec : ChangeSpec := { name := "walkFinds", fn := fun _ => fun
  | [d1, d2, d3] => { results := [.lit (.bool true)], args := [d1, d2, d3] }
  | _ => none }
def walkFindsRow : OpenClaim := { program := "ytfijchofplkcoaa", sum := "0086ee5edc424ca62711142c0f85ee10127ea36b34d61aee2efeb41f88440b6e", func := "pantry/pantrylaw04.WalkFinds", spec := "walkFinds", apart := false }
def WalkFindsSaid : Prop := walkFindsRow.holds Try.pinned (OpenSpec.ofChange walkFindsSpec)

/-- ITS FALSE NEIGHBOUR: 'it returns false'. Refute it at one input. -/
def walkFindsWrong : ChangeSpec := { name := "walkFinds", fn := fun _ => fun
  | [d1, d2, d3] => { results := [.lit (.bool false)], args := [d1, d2, d3] }
  | _ => none }
def WalkFindsWrongFalsely : Prop := walkFindsRow.holds Try.pinned (OpenSpec.ofChange walkFindsWrong)

/-- 'pantrylaw04.WalkWalks': WHATEVER THE INPUT: true; the input reads as it did. -/
def walkWalksSpec : ChangeSpec := { name := "walkWalks", fn := fun _ => fun
  | [d1, d2] => { results := [.lit (.bool true)], args := [d1, d2] }
  | _ => none }
def walkWalksRow : OpenClaim := { program := "ytfijchofplkcoaa", sum := "0086ee5edc424ca62711142c0f85ee10127ea36b34d61aee2efeb41f88440b6e", func := "pantry/pantrylaw04.WalkWalks", spec := "walkWalks", apart := false }
def WalkWalksSaid : Prop := walkWalksRow.holds Try.pinned (OpenSpec.ofChange walkWalksSpec)

/-- ITS FALSE NEIGHBOUR: 'it returns false'. Refute it at one input. -/
def walkWalksWrong : ChangeSpec := { name := "walkWalks", fn := fun _ => fun
  | [d1, d2] => { results := [.lit (.bool false)], args := [d1, d2] }
  | _ => none }
def WalkWalksWrongFalsely : Prop := walkWalksRow.holds Try.pinned (OpenSpec.ofChange walkWalksWrong)

/-- 'pantrylaw04.WalkPlaces': WHATEVER THE INPUT: true; the input reads as it did. -/
def walkPlacesSpec : ChangeSpec := { name := "walkPlaces", fn := fun _ => fun
  | [d1, d2, d3] => { results := [.lit (.bool true)], args := [d1, d2, d3] }
  | _ => none }
def walkPlacesRow : OpenClaim := { program := "ytfijchofplkcoaa", sum := "0086ee5edc424ca62711142c0f85ee10127ea36b34d61aee2efeb41f88440b6e", func := "pantry/pantrylaw04.WalkPlaces", spec := "walkPlaces", apart := false }
def WalkPlacesSaid : Prop := walkPlacesRow.holds Try.pinned (OpenSpec.ofChange walkPlacesSpec)

/-- ITS FALSE NEIGHBOUR: 'it returns false'. Refute it at one input. -/
def walkPlacesWrong : ChangeSpec := { name := "walkPlaces", fn := fun _ => fun
  | [d1, d2, d3] => { results := [.lit (.bool false)], args := [d1, d2, d3] }
  | _ => none }
def WalkPlacesWrongFalsely : Prop := walkPlacesRow.holds Try.pinned (OpenSpec.ofChange walkPlacesWrong)

/-- 'pantrylaw04.WalkWrites': WHATEVER THE INPUT: true; the input reads as it did. -/
def walkWritesSpec : ChangeSpec := { name := "walkWrites", fn := fun _ => fun
  | [d1, d2, d3] => { results := [.lit (.bool true)], args := [d1, d2, d3] }
  | _ => none }
def walkWritesRow : OpenClaim := { program := "ytfijchofplkcoaa", sum := "0086ee5edc424ca62711142c0f85ee10127ea36b34d61aee2efeb41f88440b6e", func := "pantry/pantrylaw04.WalkWrites", spec := "walkWrites", apart := false }
def WalkWritesSaid : Prop := walkWritesRow.holds Try.pinned (OpenSpec.ofChange walkWritesSpec)

/-- ITS FALSE NEIGHBOUR: 'it returns false'. Refute it at one input. -/
def walkWritesWrong : ChangeSpec := { name := "walkWrites", fn := fun _ => fun
  | [d1, d2, d3] => { results := [.lit (.bool false)], args := [d1, d2, d3] }
  | _ => none }
def WalkWritesWrongFalsely : Prop := walkWritesRow.holds Try.pinned (OpenSpec.ofChange walkWritesWrong)

/-- 'pantrylaw04.WalkLeaves': WHATEVER THE INPUT: true; the input reads as it did. -/
def walkLeavesSpec : ChangeSpec := { name := "walkLeaves", fn := fun _ => fun
  | [d1, d2, d3] => { results := [.lit (.bool true)], args := [d1, d2, d3] }
  | _ => none }
def walkLeavesRow : OpenClaim := { program := "ytfijchofplkcoaa", sum := "0086ee5edc424ca62711142c0f85ee10127ea36b34d61aee2efeb41f88440b6e", func := "pantry/pantrylaw04.WalkLeaves", spec := "walkLeaves", unfollowed := true, recurses := true, apart := false }
def WalkLeavesSaid : Prop := walkLeavesRow.holds Try.pinned (OpenSpec.ofChange walkLeavesSpec)

/-- ITS FALSE NEIGHBOUR: 'it returns false'. Refute it at one input. -/
def walkLeavesWrong : ChangeSpec := { name := "walkLeaves", fn := fun _ => fun
  | [d1, d2, d3] => { results := [.lit (.bool false)], args := [d1, d2, d3] }
  | _ => none }
def WalkLeavesWrongFalsely : Prop := walkLeavesRow.holds Try.pinned (OpenSpec.ofChange walkLeavesWrong)

/-- 'pantrylaw07.PmapFull': WHATEVER THE INPUT: true; the input reads as it did. -/
def pmapFullSpec : ChangeSpec := { name := "pmapFull", fn := fun _ => fun
  | [d1, d2, d3] => { results := [.lit (.bool true)], args := [d1, d2, d3] }
  | _ => none }
def pmapFullRow : OpenClaim := { program := "ytfijchofplkcoaa", sum := "0086ee5edc424ca62711142c0f85ee10127ea36b34d61aee2efeb41f88440b6e", func := "pantry/pantrylaw07.PmapFull", spec := "pmapFull", unfollowed := true, recurses := true, apart := false }
def PmapFullSaid : Prop := pmapFullRow.holds Try.pinned (OpenSpec.ofChange pmapFullSpec)

/-- ITS FALSE NEIGHBOUR: 'it returns false'. Refute it at one input. -/
def pmapFullWrong : ChangeSpec := { name := "pmapFull", fn := fun _ => fun
  | [d1, d2, d3] => { results := [.lit (.bool false)], args := [d1, d2, d3] }
  | _ => none }
def PmapFullWrongFalsely : Prop := pmapFullRow.holds Try.pinned (OpenSpec.ofChange pmapFullWrong)

/-- 'pantrylaw07.PmapLeast': WHATEVER THE INPUT: true; the input reads as it did. -/
def pmapLeastSpec : ChangeSpec := { name := "pmapLeast", fn := fun _ => fun
  | [d] => { results := [.lit (.bool true)], args := [d] }
  | _ => none }
def pmapLeastRow : OpenClaim := { program := "ytfijchofplkcoaa", sum := "0086ee5edc424ca62711142c0f85ee10127ea36b34d61aee2efeb41f88440b6e", func := "pantry/pantrylaw07.PmapLeast", spec := "pmapLeast", unfollowed := true, recurses := true, apart := false }
def PmapLeastSaid : Prop := pmapLeastRow.holds Try.pinned (OpenSpec.ofChange pmapLeastSpec)

/-- ITS FALSE NEIGHBOUR: 'it returns false'. Refute it at one input. -/
def pmapLeastWrong : ChangeSpec := { name := "pmapLeast", fn := fun _ => fun
  | [d] => { results := [.lit (.bool false)], args := [d] }
  | _ => none }
def PmapLeastWrongFalsely : Prop := pmapLeastRow.holds Try.pinned (OpenSpec.ofChange pmapLeastWrong)

/-- 'pantrylaw07.PmapFlags': WHATEVER THE INPUT: true; the input reads as it did. -/
def pmapFlagsSpec : ChangeSpec := { name := "pmapFlags", fn := fun _ => fun
  | [d1, d2, d3] => { results := [.lit (.bool true)], args := [d1, d2, d3] }
  | _ => none }
def pmapFlagsRow : OpenClaim := { program := "ytfijchofplkcoaa", sum := "0086ee5edc424ca62711142c0f85ee10127ea36b34d61aee2efeb41f88440b6e", func := "pantry/pantrylaw07.PmapFlags", spec := "pmapFlags", unfollowed := true, recurses := true, apart := false }
def PmapFlagsSaid : Prop := pmapFlagsRow.holds Try.pinned (OpenSpec.ofChange pmapFlagsSpec)

/-- ITS FALSE NEIGHBOUR: 'it returns false'. Refute it at one input. -/
def pmapFlagsWrong : ChangeSpec := { name := "pmapFlags", fn := fun _ => fun
  | [d1, d2, d3] => { results := [.lit (.bool false)], args := [d1, d2, d3] }
  | _ => none }
def PmapFlagsWrongFalsely : Prop := pmapFlagsRow.holds Try.pinned (OpenSpec.ofChange pmapFlagsWrong)

/-- 'pantrylaw07.PmapApart': WHATEVER THE INPUT: true; the input reads as it did. -/
def pmapApartSpec : ChangeSpec := { name := "pmapApart", fn := fun _ => fun
  | [d1, d2, d3] => { results := [.lit (.bool true)], args := [d1, d2, d3] }
  | _ => none }
def pmapApartRow : OpenClaim := { program := "ytfijchofplkcoaa", sum := "0086ee5edc424ca62711142c0f85ee10127ea36b34d61aee2efeb41f88440b6e", func := "pantry/pantrylaw07.PmapApart", spec := "pmapApart", unfollowed := true, recurses := true, apart := false }
def PmapApartSaid : Prop := pmapApartRow.holds Try.pinned (OpenSpec.ofChange pmapApartSpec)

/-- ITS FALSE NEIGHBOUR: 'it returns false'. Refute it at one input. -/
def pmapApartWrong : ChangeSpec := { name := "pmapApart", fn := fun _ => fun
  | [d1, d2, d3] => { results := [.lit (.bool false)], args := [d1, d2, d3] }
  | _ => none }
def PmapApartWrongFalsely : Prop := pmapApartRow.holds Try.pinned (OpenSpec.ofChange pmapApartWrong)

/-- 'pantrylaw07.PmapActs': WHATEVER THE INPUT: true; the input reads as it did. -/
def pmapActsSpec : ChangeSpec := { name := "pmapActs", fn := fun _ => fun
  | [d1, d2] => { results := [.lit (.bool true)], args := [d1, d2] }
  | _ => none }
def pmapActsRow : OpenClaim := { program := "ytfijchofplkcoaa", sum := "0086ee5edc424ca62711142c0f85ee10127ea36b34d61aee2efeb41f88440b6e", func := "pantry/pantrylaw07.PmapActs", spec := "pmapActs", unfollowed := true, recurses := true, apart := false }
def PmapActsSaid : Prop := pmapActsRow.holds Try.pinned (OpenSpec.ofChange pmapActsSpec)

/-- ITS FALSE NEIGHBOUR: 'it returns false'. Refute it at one input. -/
def pmapActsWrong : ChangeSpec := { name := "pmapActs", fn := fun _ => fun
  | [d1, d2] => { results := [.lit (.bool false)], args := [d1, d2] }
  | _ => none }
def PmapActsWrongFalsely : Prop := pmapActsRow.holds Try.pinned (OpenSpec.ofChange pmapActsWrong)

/-- 'pantrylaw07.PmapTells': WHATEVER THE INPUT: true; the input reads as it did. -/
def pmapTellsSpec : ChangeSpec := { name := "pmapTells", fn := fun _ => fun
  | [d1, d2, d3] => { results := [.lit (.bool true)], args := [d1, d2, d3] }
  | _ => none }
def pmapTellsRow : OpenClaim := { program := "ytfijchofplkcoaa", sum := "0086ee5edc424ca62711142c0f85ee10127ea36b34d61aee2efeb41f88440b6e", func := "pantry/pantrylaw07.PmapTells", spec := "pmapTells", unfollowed := true, recurses := true, apart := false }
def PmapTellsSaid : Prop := pmapTellsRow.holds Try.pinned (OpenSpec.ofChange pmapTellsSpec)

/-- ITS FALSE NEIGHBOUR: 'it returns false'. Refute it at one input. -/
def pmapTellsWrong : ChangeSpec := { name := "pmapTells", fn := fun _ => fun
  | [d1, d2, d3] => { results := [.lit (.bool false)], args := [d1, d2, d3] }
  | _ => none }
def PmapTellsWrongFalsely : Prop := pmapTellsRow.holds Try.pinned (OpenSpec.ofChange pmapTellsWrong)

/-- 'pantrylaw07.PmapNone': WHATEVER THE INPUT: true; the input reads as it did. -/
def pmapNoneSpec : ChangeSpec := { name := "pmapNone", fn := fun _ => fun
  | [d] => { results := [.lit (.bool true)], args := [d] }
  | _ => none }
def pmapNoneRow : OpenClaim := { program := "ytfijchofplkcoaa", sum := "0086ee5edc424ca62711142c0f85ee10127ea36b34d61aee2efeb41f88440b6e", func := "pantry/pantrylaw07.PmapNone", spec := "pmapNone", unfollowed := true, recurses := true, apart := false }
def PmapNoneSaid : Prop := pmapNoneRow.holds Try.pinned (OpenSpec.ofChange pmapNoneSpec)

/-- ITS FALSE NEIGHBOUR: 'it returns false'. Refute it at one input. -/
def pmapNoneWrong : ChangeSpec := { name := "pmapNone", fn := fun _ => fun
  | [d] => { results := [.lit (.bool false)], args := [d] }
  | _ => none }
def PmapNoneWrongFalsely : Prop := pmapNoneRow.holds Try.pinned (OpenSpec.ofChange pmapNoneWrong)

/- THE SECOND FORM. 'bulk': how many values and letters a reading holds, each counted each time it is reached (what is shared counts as often as it is met; a slice's spare places count too). A statement '..UptoSaid' is the law's where the arguments, and the package variables that the reading takes, are together of bulk at most 1048576: NARROWER than '..Said'. Prove '..Said' where nothing that the law and all that it calls make is longer than what came in: it says more and counts as full. Else prove '..UptoSaid'. A law counts once. -/
mutual
def uptoBulk {H : Type} : DataW H → Nat
  | .lit (.string bytes) => bytes.length + 1
  | .lit _ => 1
  | .nil => 1
  | .ptr d => uptoBulk d + 1
  | .slice elems spare => uptoBulkAll elems + uptoBulkAll spare + 1
  | .agg parts => uptoBulkAll parts + 1
  | .iface _ d => uptoBulk d + 1
  | .map entries => uptoBulkEntries entries + 1
  | .held _ => 1
def uptoBulkAll {H : Type} : List (DataW H) → Nat
  | [] => 0
  | d :: r => uptoBulk d + uptoBulkAll r
def uptoBulkEntries {H : Type} : List (Lit × DataW H) → Nat
  | [] => 0
  | x :: r => uptoBulkEntry x + uptoBulkEntries r
def uptoBulkEntry {H : Type} : Lit × DataW H → Nat
  | (.string bytes, d) => bytes.length + uptoBulk d + 1
  | (_, d) => uptoBulk d + 1
 end
def uptoSmall : (H : Type) → List (DataW H) → Bool := fun _ ds => decide (uptoBulkAll ds ≤ 1048576)
def OpenSpec.upto (s : _root_.Go.ChangeSpec) : _root_.Go.OpenSpec := { _root_.Go.OpenSpec.ofChange s with cond := some uptoSmall }

/-- 'pantrylaw03.PteBack', WHERE WHAT IT READS IS OF BULK AT MOST 1048576: true; the input reads as it did. -/
def pteBackUptoRow : OpenClaim := { program := "ytfijchofplkcoaa", sum := "0086ee5edc424ca62711142c0f85ee10127ea36b34d61aee2efeb41f88440b6e", func := "pantry/pantrylaw03.PteBack", spec := "pteBack", apart := false, narrowed := true }
def PteBackUptoSaid : Prop := pteBackUptoRow.holds Try.pinned (OpenSpec.upto pteBackSpec)

/-- 'pantrylaw03.PteNext', WHERE WHAT IT READS IS OF BULK AT MOST 1048576: true; the input reads as it did. -/
def pteNextUptoRow : OpenClaim := { program := "ytfijchofplkcoaa", sum := "0086ee5edc424ca62711142c0f85ee10127ea36b34d61aee2efeb41f88440b6e", func := "pantry/pantrylaw03.PteNext", spec := "pteNext", apart := false, narrowed := true }
def PteNextUptoSaid : Prop := pteNextUptoRow.holds Try.pinned (OpenSpec.upto pteNextSpec)

/-- 'pantrylaw03.PteParts', WHERE WHAT IT READS IS OF BULK AT MOST 1048576: true; the input reads as it did. -/
def ptePartsUptoRow : OpenClaim := { program := "ytfijchofplkcoaa", sum := "0086ee5edc424ca62711142c0f85ee10127ea36b34d61aee2efeb41f88440b6e", func := "pantry/pantrylaw03.PteParts", spec := "pteParts", apart := false, narrowed := true }
def PtePartsUptoSaid : Prop := ptePartsUptoRow.holds Try.pinned (OpenSpec.upto ptePartsSpec)

/-- 'pantrylaw03.PteJoins', WHERE WHAT IT READS IS OF BULK AT MOST 1048576: true; the input reads as it did. -/
def pteJoinsUptoRow : OpenClaim := { program := "ytfijchofplkcoaa", sum := "0086ee5edc424ca62711142c0f85ee10127ea36b34d61aee2efeb41f88440b6e", func := "pantry/pantrylaw03.PteJoins", spec := "pteJoins", apart := false, narrowed := true }
def PteJoinsUptoSaid : Prop := pteJoinsUptoRow.holds Try.pinned (OpenSpec.upto pteJoinsSpec)

/-- 'pantrylaw03.PteCodes', WHERE WHAT IT READS IS OF BULK AT MOST 1048576: true; the input reads as it did. -/
def pteCodesUptoRow : OpenClaim := { program := "ytfijchofplkcoaa", sum := "0086ee5edc424ca62711142c0f85ee10127ea36b34d61aee2efeb41f88440b6e", func := "pantry/pantrylaw03.PteCodes", spec := "pteCodes", apart := false, narrowed := true }
def PteCodesUptoSaid : Prop := pteCodesUptoRow.holds Try.pinned (OpenSpec.upto pteCodesSpec)

/-- 'pantrylaw03.PteKinds', WHERE WHAT IT READS IS OF BULK AT MOST 1048576: true; the input reads as it did. -/
def pteKindsUptoRow : OpenClaim := { program := "ytfijchofplkcoaa", sum := "0086ee5edc424ca62711142c0f85ee10127ea36b34d61aee2efeb41f88440b6e", func := "pantry/pantrylaw03.PteKinds", spec := "pteKinds", apart := false, narrowed := true }
def PteKindsUptoSaid : Prop := pteKindsUptoRow.holds Try.pinned (OpenSpec.upto pteKindsSpec)

/-- 'pantrylaw03.PteRights', WHERE WHAT IT READS IS OF BULK AT MOST 1048576: true; the input reads as it did. -/
def pteRightsUptoRow : OpenClaim := { program := "ytfijchofplkcoaa", sum := "0086ee5edc424ca62711142c0f85ee10127ea36b34d61aee2efeb41f88440b6e", func := "pantry/pantrylaw03.PteRights", spec := "pteRights", apart := false, narrowed := true }
def PteRightsUptoSaid : Prop := pteRightsUptoRow.holds Try.pinned (OpenSpec.upto pteRightsSpec)

/-- 'pantrylaw03.PteGrants', WHERE WHAT IT READS IS OF BULK AT MOST 1048576: true; the input reads as it did. -/
def pteGrantsUptoRow : OpenClaim := { program := "ytfijchofplkcoaa", sum := "0086ee5edc424ca62711142c0f85ee10127ea36b34d61aee2efeb41f88440b6e", func := "pantry/pantrylaw03.PteGrants", spec := "pteGrants", apart := false, narrowed := true }
def PteGrantsUptoSaid : Prop := pteGrantsUptoRow.holds Try.pinned (OpenSpec.upto pteGrantsSpec)

/-- 'pantrylaw01.PhysOwn', WHERE WHAT IT READS IS OF BULK AT MOST 1048576: true; the input reads as it did. -/
def physOwnUptoRow : OpenClaim := { program := "ytfijchofplkcoaa", sum := "0086ee5edc424ca62711142c0f85ee10127ea36b34d61aee2efeb41f88440b6e", func := "pantry/pantrylaw01.PhysOwn", spec := "physOwn", apart := false, narrowed := true }
def PhysOwnUptoSaid : Prop := physOwnUptoRow.holds Try.pinned (OpenSpec.upto physOwnSpec)

/-- 'pantrylaw01.PhysFills', WHERE WHAT IT READS IS OF BULK AT MOST 1048576: true; the input reads as it did. -/
def physFillsUptoRow : OpenClaim := { program := "ytfijchofplkcoaa", sum := "0086ee5edc424ca62711142c0f85ee10127ea36b34d61aee2efeb41f88440b6e", func := "pantry/pantrylaw01.PhysFills", spec := "physFills", apart := false, narrowed := true }
def PhysFillsUptoSaid : Prop := physFillsUptoRow.holds Try.pinned (OpenSpec.upto physFillsSpec)

/-- 'pantrylaw08.SlotsWords', WHERE WHAT IT READS IS OF BULK AT MOST 1048576: true; the input reads as it did. -/
def slotsWordsUptoRow : OpenClaim := { program := "ytfijchofplkcoaa", sum := "0086ee5edc424ca62711142c0f85ee10127ea36b34d61aee2efeb41f88440b6e", func := "pantry/pantrylaw08.SlotsWords", spec := "slotsWords", apart := false, narrowed := true }
def SlotsWordsUptoSaid : Prop := slotsWordsUptoRow.holds Try.pinned (OpenSpec.upto slotsWordsSpec)

/-- 'pantrylaw01.PhysBytes', WHERE WHAT IT READS IS OF BULK AT MOST 1048576: true; the input reads as it did. -/
def physBytesUptoRow : OpenClaim := { program := "ytfijchofplkcoaa", sum := "0086ee5edc424ca62711142c0f85ee10127ea36b34d61aee2efeb41f88440b6e", func := "pantry/pantrylaw01.PhysBytes", spec := "physBytes", apart := false, narrowed := true }
def PhysBytesUptoSaid : Prop := physBytesUptoRow.holds Try.pinned (OpenSpec.upto physBytesSpec)

/-- 'pantrylaw06.FramesReserve', WHERE WHAT IT READS IS OF BULK AT MOST 1048576: true; the input reads as it did. -/
def framesReserveUptoRow : OpenClaim := { program := "ytfijchofplkcoaa", sum := "0086ee5edc424ca62711142c0f85ee10127ea36b34d61aee2efeb41f88440b6e", func := "pantry/pantrylaw06.FramesReserve", spec := "framesReserve", unfollowed := true, recurses := true, apart := false, narrowed := true }
def FramesReserveUptoSaid : Prop := framesReserveUptoRow.holds Try.pinned (OpenSpec.upto framesReserveSpec)

/-- 'pantrylaw01.PhysApart', WHERE WHAT IT READS IS OF BULK AT MOST 1048576: true; the input reads as it did. -/
def physApartUptoRow : OpenClaim := { program := "ytfijchofplkcoaa", sum := "0086ee5edc424ca62711142c0f85ee10127ea36b34d61aee2efeb41f88440b6e", func := "pantry/pantrylaw01.PhysApart", spec := "physApart", apart := false, narrowed := true }
def PhysApartUptoSaid : Prop := physApartUptoRow.holds Try.pinned (OpenSpec.upto physApartSpec)

/-- 'pantrylaw01.PhysWords', WHERE WHAT IT READS IS OF BULK AT MOST 1048576: true; the input reads as it did. -/
def physWordsUptoRow : OpenClaim := { program := "ytfijchofplkcoaa", sum := "0086ee5edc424ca62711142c0f85ee10127ea36b34d61aee2efeb41f88440b6e", func := "pantry/pantrylaw01.PhysWords", spec := "physWords", apart := false, narrowed := true }
def PhysWordsUptoSaid : Prop := physWordsUptoRow.holds Try.pinned (OpenSpec.upto physWordsSpec)

/-- 'pantrylaw01.PhysActs', WHERE WHAT IT READS IS OF BULK AT MOST 1048576: true; the input reads as it did. -/
def physActsUptoRow : OpenClaim := { program := "ytfijchofplkcoaa", sum := "0086ee5edc424ca62711142c0f85ee10127ea36b34d61aee2efeb41f88440b6e", func := "pantry/pantrylaw01.PhysActs", spec := "physActs", apart := false, narrowed := true }
def PhysActsUptoSaid : Prop := physActsUptoRow.holds Try.pinned (OpenSpec.upto physActsSpec)

/-- 'pantrylaw01.PhysNone', WHERE WHAT IT READS IS OF BULK AT MOST 1048576: true; the input reads as it did. -/
def physNoneUptoRow : OpenClaim := { program := "ytfijchofplkcoaa", sum := "0086ee5edc424ca62711142c0f85ee10127ea36b34d61aee2efeb41f88440b6e", func := "pantry/pantrylaw01.PhysNone", spec := "physNone", apart := false, narrowed := true }
def PhysNoneUptoSaid : Prop := physNoneUptoRow.holds Try.pinned (OpenSpec.upto physNoneSpec)

/-- 'pantrylaw06.FramesActs', WHERE WHAT IT READS IS OF BULK AT MOST 1048576: true; the input reads as it did. -/
def framesActsUptoRow : OpenClaim := { program := "ytfijchofplkcoaa", sum := "0086ee5edc424ca62711142c0f85ee10127ea36b34d61aee2efeb41f88440b6e", func := "pantry/pantrylaw06.FramesActs", spec := "framesActs", unfollowed := true, recurses := true, apart := false, narrowed := true }
def FramesActsUptoSaid : Prop := framesActsUptoRow.holds Try.pinned (OpenSpec.upto framesActsSpec)

/-- 'pantrylaw06.FramesClasses', WHERE WHAT IT READS IS OF BULK AT MOST 1048576: true; the input reads as it did. -/
def framesClassesUptoRow : OpenClaim := { program := "ytfijchofplkcoaa", sum := "0086ee5edc424ca62711142c0f85ee10127ea36b34d61aee2efeb41f88440b6e", func := "pantry/pantrylaw06.FramesClasses", spec := "framesClasses", unfollowed := true, recurses := true, apart := false, narrowed := true }
def FramesClassesUptoSaid : Prop := framesClassesUptoRow.holds Try.pinned (OpenSpec.upto framesClassesSpec)

/-- 'pantrylaw06.FramesNone', WHERE WHAT IT READS IS OF BULK AT MOST 1048576: true; the input reads as it did. -/
def framesNoneUptoRow : OpenClaim := { program := "ytfijchofplkcoaa", sum := "0086ee5edc424ca62711142c0f85ee10127ea36b34d61aee2efeb41f88440b6e", func := "pantry/pantrylaw06.FramesNone", spec := "framesNone", unfollowed := true, recurses := true, apart := false, narrowed := true }
def FramesNoneUptoSaid : Prop := framesNoneUptoRow.holds Try.pinned (OpenSpec.upto framesNoneSpec)

/-- 'pantrylaw06.FramesHolds', WHERE WHAT IT READS IS OF BULK AT MOST 1048576: true; the input reads as it did. -/
def framesHoldsUptoRow : OpenClaim := { program := "ytfijchofplkcoaa", sum := "0086ee5edc424ca62711142c0f85ee10127ea36b34d61aee2efeb41f88440b6e", func := "pantry/pantrylaw06.FramesHolds", spec := "framesHolds", unfollowed := true, recurses := true, apart := false, narrowed := true }
def FramesHoldsUptoSaid : Prop := framesHoldsUptoRow.holds Try.pinned (OpenSpec.upto framesHoldsSpec)

/-- 'pantrylaw08.SlotsActs', WHERE WHAT IT READS IS OF BULK AT MOST 1048576: true; the input reads as it did. -/
def slotsActsUptoRow : OpenClaim := { program := "ytfijchofplkcoaa", sum := "0086ee5edc424ca62711142c0f85ee10127ea36b34d61aee2efeb41f88440b6e", func := "pantry/pantrylaw08.SlotsActs", spec := "slotsActs", apart := false, narrowed := true }
def SlotsActsUptoSaid : Prop := slotsActsUptoRow.holds Try.pinned (OpenSpec.upto slotsActsSpec)

/-- 'pantrylaw08.SlotsApart', WHERE WHAT IT READS IS OF BULK AT MOST 1048576: true; the input reads as it did. -/
def slotsApartUptoRow : OpenClaim := { program := "ytfijchofplkcoaa", sum := "0086ee5edc424ca62711142c0f85ee10127ea36b34d61aee2efeb41f88440b6e", func := "pantry/pantrylaw08.SlotsApart", spec := "slotsApart", apart := false, narrowed := true }
def SlotsApartUptoSaid : Prop := slotsApartUptoRow.holds Try.pinned (OpenSpec.upto slotsApartSpec)

/-- 'pantrylaw08.SlotsRuns', WHERE WHAT IT READS IS OF BULK AT MOST 1048576: true; the input reads as it did. -/
def slotsRunsUptoRow : OpenClaim := { program := "ytfijchofplkcoaa", sum := "0086ee5edc424ca62711142c0f85ee10127ea36b34d61aee2efeb41f88440b6e", func := "pantry/pantrylaw08.SlotsRuns", spec := "slotsRuns", apart := false, narrowed := true }
def SlotsRunsUptoSaid : Prop := slotsRunsUptoRow.holds Try.pinned (OpenSpec.upto slotsRunsSpec)

/-- 'pantrylaw08.SlotsNone', WHERE WHAT IT READS IS OF BULK AT MOST 1048576: true; the input reads as it did. -/
def slotsNoneUptoRow : OpenClaim := { program := "ytfijchofplkcoaa", sum := "0086ee5edc424ca62711142c0f85ee10127ea36b34d61aee2efeb41f88440b6e", func := "pantry/pantrylaw08.SlotsNone", spec := "slotsNone", apart := false, narrowed := true }
def SlotsNoneUptoSaid : Prop := slotsNoneUptoRow.holds Try.pinned (OpenSpec.upto slotsNoneSpec)

/-- 'pantrylaw04.WalkFinds', WHERE WHAT IT READS IS OF BULK AT MOST 1048576: true; the input reads as it did. -/
def walkFindsUptoRow : OpenClaim := { program := "ytfijchofplkcoaa", sum := "0086ee5edc424ca62711142c0f85ee10127ea36b34d61aee2efeb41f88440b6e", func := "pantry/pantrylaw04.WalkFinds", spec := "walkFinds", apart := false, narrowed := true }
def WalkFindsUptoSaid : Prop := walkFindsUptoRow.holds Try.pinned (OpenSpec.upto walkFindsSpec)

/-- 'pantrylaw04.WalkWalks', WHERE WHAT IT READS IS OF BULK AT MOST 1048576: true; the input reads as it did. -/
def walkWalksUptoRow : OpenClaim := { program := "ytfijchofplkcoaa", sum := "0086ee5edc424ca62711142c0f85ee10127ea36b34d61aee2efeb41f88440b6e", func := "pantry/pantrylaw04.WalkWalks", spec := "walkWalks", apart := false, narrowed := true }
def WalkWalksUptoSaid : Prop := walkWalksUptoRow.holds Try.pinned (OpenSpec.upto walkWalksSpec)

/-- 'pantrylaw04.WalkPlaces', WHERE WHAT IT READS IS OF BULK AT MOST 1048576: true; the input reads as it did. -/
def walkPlacesUptoRow : OpenClaim := { program := "ytfijchofplkcoaa", sum := "0086ee5edc424ca62711142c0f85ee10127ea36b34d61aee2efeb41f88440b6e", func := "pantry/pantrylaw04.WalkPlaces", spec := "walkPlaces", apart := false, narrowed := true }
def WalkPlacesUptoSaid : Prop := walkPlacesUptoRow.holds Try.pinned (OpenSpec.upto walkPlacesSpec)

/-- 'pantrylaw04.WalkWrites', WHERE WHAT IT READS IS OF BULK AT MOST 1048576: true; the input reads as it did. -/
def walkWritesUptoRow : OpenClaim := { program := "ytfijchofplkcoaa", sum := "0086ee5edc424ca62711142c0f85ee10127ea36b34d61aee2efeb41f88440b6e", func := "pantry/pantrylaw04.WalkWrites", spec := "walkWrites", apart := false, narrowed := true }
def WalkWritesUptoSaid : Prop := walkWritesUptoRow.holds Try.pinned (OpenSpec.upto walkWritesSpec)

/-- 'pantrylaw04.WalkLeaves', WHERE WHAT IT READS IS OF BULK AT MOST 1048576: true; the input reads as it did. -/
def walkLeavesUptoRow : OpenClaim := { program := "ytfijchofplkcoaa", sum := "0086ee5edc424ca62711142c0f85ee10127ea36b34d61aee2efeb41f88440b6e", func := "pantry/pantrylaw04.WalkLeaves", spec := "walkLeaves", unfollowed := true, recurses := true, apart := false, narrowed := true }
def WalkLeavesUptoSaid : Prop := walkLeavesUptoRow.holds Try.pinned (OpenSpec.upto walkLeavesSpec)

/-- 'pantrylaw07.PmapFull', WHERE WHAT IT READS IS OF BULK AT MOST 1048576: true; the input reads as it did. -/
def pmapFullUptoRow : OpenClaim := { program := "ytfijchofplkcoaa", sum := "0086ee5edc424ca62711142c0f85ee10127ea36b34d61aee2efeb41f88440b6e", func := "pantry/pantrylaw07.PmapFull", spec := "pmapFull", unfollowed := true, recurses := true, apart := false, narrowed := true }
def PmapFullUptoSaid : Prop := pmapFullUptoRow.holds Try.pinned (OpenSpec.upto pmapFullSpec)

/-- 'pantrylaw07.PmapLeast', WHERE WHAT IT READS IS OF BULK AT MOST 1048576: true; the input reads as it did. -/
def pmapLeastUptoRow : OpenClaim := { program := "ytfijchofplkcoaa", sum := "0086ee5edc424ca62711142c0f85ee10127ea36b34d61aee2efeb41f88440b6e", func := "pantry/pantrylaw07.PmapLeast", spec := "pmapLeast", unfollowed := true, recurses := true, apart := false, narrowed := true }
def PmapLeastUptoSaid : Prop := pmapLeastUptoRow.holds Try.pinned (OpenSpec.upto pmapLeastSpec)

/-- 'pantrylaw07.PmapFlags', WHERE WHAT IT READS IS OF BULK AT MOST 1048576: true; the input reads as it did. -/
def pmapFlagsUptoRow : OpenClaim := { program := "ytfijchofplkcoaa", sum := "0086ee5edc424ca62711142c0f85ee10127ea36b34d61aee2efeb41f88440b6e", func := "pantry/pantrylaw07.PmapFlags", spec := "pmapFlags", unfollowed := true, recurses := true, apart := false, narrowed := true }
def PmapFlagsUptoSaid : Prop := pmapFlagsUptoRow.holds Try.pinned (OpenSpec.upto pmapFlagsSpec)

/-- 'pantrylaw07.PmapApart', WHERE WHAT IT READS IS OF BULK AT MOST 1048576: true; the input reads as it did. -/
def pmapApartUptoRow : OpenClaim := { program := "ytfijchofplkcoaa", sum := "0086ee5edc424ca62711142c0f85ee10127ea36b34d61aee2efeb41f88440b6e", func := "pantry/pantrylaw07.PmapApart", spec := "pmapApart", unfollowed := true, recurses := true, apart := false, narrowed := true }
def PmapApartUptoSaid : Prop := pmapApartUptoRow.holds Try.pinned (OpenSpec.upto pmapApartSpec)

/-- 'pantrylaw07.PmapActs', WHERE WHAT IT READS IS OF BULK AT MOST 1048576: true; the input reads as it did. -/
def pmapActsUptoRow : OpenClaim := { program := "ytfijchofplkcoaa", sum := "0086ee5edc424ca62711142c0f85ee10127ea36b34d61aee2efeb41f88440b6e", func := "pantry/pantrylaw07.PmapActs", spec := "pmapActs", unfollowed := true, recurses := true, apart := false, narrowed := true }
def PmapActsUptoSaid : Prop := pmapActsUptoRow.holds Try.pinned (OpenSpec.upto pmapActsSpec)

/-- 'pantrylaw07.PmapTells', WHERE WHAT IT READS IS OF BULK AT MOST 1048576: true; the input reads as it did. -/
def pmapTellsUptoRow : OpenClaim := { program := "ytfijchofplkcoaa", sum := "0086ee5edc424ca62711142c0f85ee10127ea36b34d61aee2efeb41f88440b6e", func := "pantry/pantrylaw07.PmapTells", spec := "pmapTells", unfollowed := true, recurses := true, apart := false, narrowed := true }
def PmapTellsUptoSaid : Prop := pmapTellsUptoRow.holds Try.pinned (OpenSpec.upto pmapTellsSpec)

/-- 'pantrylaw07.PmapNone', WHERE WHAT IT READS IS OF BULK AT MOST 1048576: true; the input reads as it did. -/
def pmapNoneUptoRow : OpenClaim := { program := "ytfijchofplkcoaa", sum := "0086ee5edc424ca62711142c0f85ee10127ea36b34d61aee2efeb41f88440b6e", func := "pantry/pantrylaw07.PmapNone", spec := "pmapNone", unfollowed := true, recurses := true, apart := false, narrowed := true }
def PmapNoneUptoSaid : Prop := pmapNoneUptoRow.holds Try.pinned (OpenSpec.upto pmapNoneSpec)

end Rows
end Go.Proofs.Ytfijchofplkcoaa
