/-
  No cell of these rows narrows 'for every input' (looked for: loops, veiled, ifaces, maps, wideKeys, modest, calm, conditions, laid).
  DERIVED. THE GIVEN ROWS OF THIS SEAT. 2 by the template 'for every input the law returns true; each argument reads behind the call as it read before'; 0 by the template 'total and deterministic' (their statements: YgdaagTotals.lean).
  GIVEN WITH THE SEED: the statements are not yours to turn. If you find one false, say at which input.
  Laid BY PROGRAM, IN A SANDBOX (cutbox-rows.mjs): the forced cells as the released guide's own fill.sh prints them over the translation a04139de09218c16… (all of the seat's roots in one cut). By AI agents, Wed Nov 11 2026. No macro, syntax, notation, axiom, sorry.
-/
import Derived.Test.YgdaagChecked
import GoSem.Claim
import GoSem.ClaimJoined
import GoSem.ClaimMapViews
import Derived.JoinedTies
import Derived.KernelRfl
namespace Go.Proofs.Ygdaag
/- THE CELL 'sum', in the pinned program and in every row, IS THE sha256 OF THE DUMP (.gsa) THAT YgdaagProg.lean LOADS. Nothing in Lean hashes anything: it is a label: what it is worth is what the hold of that sum in a sandbox is worth. -/
noncomputable def Yaad.pinned : Pinned := { name := "ygdaag", sum := "a04139de09218c16e7fae671cc12f7de9565e0dbcc0e6fe9ad542fa2bcdb01ce", checked := Yaad.checked }
namespace Rows
def none {H : Type} : Left H := { results := [], args := [] }

/-- 'law.ArithRight': WHATEVER THE INPUT: true; the input reads as it did. -/
def arithRightSpec : ChangeSpec := { name := "arithRight", fn := fun _ => fun
  | [d1, d2, d3] => { results := [.lit (.bool true)], args := [d1, d2, d3] }
  | _ => none }
def arithRightRow : OpenClaim := { program := "ygdaag", sum := "a04139de09218c16e7fae671cc12f7de9565e0dbcc0e6fe9ad542fa2bcdb01ce", func := "sqlmini/law.ArithRight", spec := "arithRight", inPlace := ["math.Float64bits"], unfollowed := true, recurses := true, apart := false }
def ArithRightSaid : Prop := arithRightRow.holds Yaad.pinned (OpenSpec.ofChange arithRightSpec)

/-- ITS FALSE NEIGHBOUR: 'it returns false'. Refute it at one input. -/
def arithRightWrong : ChangeSpec := { name := "arithRight", fn := fun _ => fun
  | [d1, d2, d3] => { results := [.lit (.bool false)], args := [d1, d2, d3] }
  | _ => none }
def ArithRightWrongFalsely : Prop := arithRightRow.holds Yaad.pinned (OpenSpec.ofChange arithRightWrong)

/-- 'law.RelRight': WHATEVER THE INPUT: true; the input reads as it did. -/
def relRightSpec : ChangeSpec := { name := "relRight", fn := fun _ => fun
  | [d1, d2, d3] => { results := [.lit (.bool true)], args := [d1, d2, d3] }
  | _ => none }
def relRightRow : OpenClaim := { program := "ygdaag", sum := "a04139de09218c16e7fae671cc12f7de9565e0dbcc0e6fe9ad542fa2bcdb01ce", func := "sqlmini/law.RelRight", spec := "relRight", inPlace := ["math.Float64bits"], unfollowed := true, recurses := true, apart := false }
def RelRightSaid : Prop := relRightRow.holds Yaad.pinned (OpenSpec.ofChange relRightSpec)

/-- ITS FALSE NEIGHBOUR: 'it returns false'. Refute it at one input. -/
def relRightWrong : ChangeSpec := { name := "relRight", fn := fun _ => fun
  | [d1, d2, d3] => { results := [.lit (.bool false)], args := [d1, d2, d3] }
  | _ => none }
def RelRightWrongFalsely : Prop := relRightRow.holds Yaad.pinned (OpenSpec.ofChange relRightWrong)

end Rows
end Go.Proofs.Ygdaag
