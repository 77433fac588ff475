/-
  The call of a closure that was loaded.
-/
import Derived.Test.YtfijchofplkcoaaSt
set_option linter.unusedVariables false
namespace Go.Proofs.Ytfijchofplkcoaa

def CallV {P : Program} (G : List (Ent P)) (v : Value) (vs : List Value) (h : H) (K : Value → H → Prop) : Prop :=
  match v with
  | .func (.func n) first captured => callE G n (first.toList ++ vs ++ captured.toList) K h
  | _ => False
/-- A value that was loaded, put. -/
def AsgV (v : Value) (h : H) (K : Value → H → Prop) : Prop :=
  match v with
  | .int k n => LetI n fun m => K (.int k m) h
  | v => K v h
end Go.Proofs.Ytfijchofplkcoaa
