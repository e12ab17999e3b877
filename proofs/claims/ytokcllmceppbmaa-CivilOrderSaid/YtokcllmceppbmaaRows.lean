/-
  No cell of these rows narrows 'for every input' (looked for: loops, veiled, ifaces, maps, wideKeys, modest, calm, conditions, laid).
  DERIVED. THE GIVEN ROWS OF THIS SEAT. 5 by the template 'for every input the law returns true; each argument reads behind the call as it read before'; 0 by the template 'total and deterministic' (their statements: YtokcllmceppbmaaTotals.lean).
  GIVEN WITH THE SEED: the statements are not yours to turn. If you find one false, say at which input.
  Laid BY PROGRAM, IN A SANDBOX (cutbox-rows.mjs): the forced cells as the released guide's own fill.sh prints them over the translation bdce08208d298d04… (all of the seat's roots in one cut). By AI agents, Wed Nov 11 2026. No macro, syntax, notation, axiom, sorry.
-/
import Derived.Test.YtokcllmceppbmaaChecked
import GoSem.Claim
import GoSem.ClaimJoined
import GoSem.ClaimMapViews
import Derived.JoinedTies
import Derived.KernelRfl
namespace Go.Proofs.Ytokcllmceppbmaa
/- THE CELL 'sum', in the pinned program and in every row, IS THE sha256 OF THE DUMP (.gsa) THAT YtokcllmceppbmaaProg.lean LOADS. Nothing in Lean hashes anything: it is a label: what it is worth is what the hold of that sum in a sandbox is worth. -/
noncomputable def Try.pinned : Pinned := { name := "ytokcllmceppbmaa", sum := "bdce08208d298d04b32e93a26eabeb012bf3d217ea3fc79669c509919415236e", checked := Try.checked }
namespace Rows
def none {H : Type} : Left H := { results := [], args := [] }

/-- 'matinslaw3.CivilAll': WHATEVER THE INPUT: true; the input reads as it did. -/
def civilAllSpec : ChangeSpec := { name := "civilAll", fn := fun _ => fun
  | [d1, d2, d3, d4] => { results := [.lit (.bool true)], args := [d1, d2, d3, d4] }
  | _ => none }
def civilAllRow : OpenClaim := { program := "ytokcllmceppbmaa", sum := "bdce08208d298d04b32e93a26eabeb012bf3d217ea3fc79669c509919415236e", func := "matins/matinslaw3.CivilAll", spec := "civilAll", apart := false }
def CivilAllSaid : Prop := civilAllRow.holds Try.pinned (OpenSpec.ofChange civilAllSpec)

/-- ITS FALSE NEIGHBOUR: 'it returns false'. Refute it at one input. -/
def civilAllWrong : ChangeSpec := { name := "civilAll", fn := fun _ => fun
  | [d1, d2, d3, d4] => { results := [.lit (.bool false)], args := [d1, d2, d3, d4] }
  | _ => none }
def CivilAllWrongFalsely : Prop := civilAllRow.holds Try.pinned (OpenSpec.ofChange civilAllWrong)

/-- 'matinslaw3.CivilTurn': WHATEVER THE INPUT: true; the input reads as it did. -/
def civilTurnSpec : ChangeSpec := { name := "civilTurn", fn := fun _ => fun
  | [d1, d2] => { results := [.lit (.bool true)], args := [d1, d2] }
  | _ => none }
def civilTurnRow : OpenClaim := { program := "ytokcllmceppbmaa", sum := "bdce08208d298d04b32e93a26eabeb012bf3d217ea3fc79669c509919415236e", func := "matins/matinslaw3.CivilTurn", spec := "civilTurn", apart := false }
def CivilTurnSaid : Prop := civilTurnRow.holds Try.pinned (OpenSpec.ofChange civilTurnSpec)

/-- ITS FALSE NEIGHBOUR: 'it returns false'. Refute it at one input. -/
def civilTurnWrong : ChangeSpec := { name := "civilTurn", fn := fun _ => fun
  | [d1, d2] => { results := [.lit (.bool false)], args := [d1, d2] }
  | _ => none }
def CivilTurnWrongFalsely : Prop := civilTurnRow.holds Try.pinned (OpenSpec.ofChange civilTurnWrong)

/-- 'matinslaw3.CivilDays': WHATEVER THE INPUT: true; the input reads as it did. -/
def civilDaysSpec : ChangeSpec := { name := "civilDays", fn := fun _ => fun
  | [d] => { results := [.lit (.bool true)], args := [d] }
  | _ => none }
def civilDaysRow : OpenClaim := { program := "ytokcllmceppbmaa", sum := "bdce08208d298d04b32e93a26eabeb012bf3d217ea3fc79669c509919415236e", func := "matins/matinslaw3.CivilDays", spec := "civilDays", apart := false }
def CivilDaysSaid : Prop := civilDaysRow.holds Try.pinned (OpenSpec.ofChange civilDaysSpec)

/-- ITS FALSE NEIGHBOUR: 'it returns false'. Refute it at one input. -/
def civilDaysWrong : ChangeSpec := { name := "civilDays", fn := fun _ => fun
  | [d] => { results := [.lit (.bool false)], args := [d] }
  | _ => none }
def CivilDaysWrongFalsely : Prop := civilDaysRow.holds Try.pinned (OpenSpec.ofChange civilDaysWrong)

/-- 'matinslaw3.CivilOrder': WHATEVER THE INPUT: true; the input reads as it did. -/
def civilOrderSpec : ChangeSpec := { name := "civilOrder", fn := fun _ => fun
  | [d1, d2] => { results := [.lit (.bool true)], args := [d1, d2] }
  | _ => none }
def civilOrderRow : OpenClaim := { program := "ytokcllmceppbmaa", sum := "bdce08208d298d04b32e93a26eabeb012bf3d217ea3fc79669c509919415236e", func := "matins/matinslaw3.CivilOrder", spec := "civilOrder", apart := false }
def CivilOrderSaid : Prop := civilOrderRow.holds Try.pinned (OpenSpec.ofChange civilOrderSpec)

/-- ITS FALSE NEIGHBOUR: 'it returns false'. Refute it at one input. -/
def civilOrderWrong : ChangeSpec := { name := "civilOrder", fn := fun _ => fun
  | [d1, d2] => { results := [.lit (.bool false)], args := [d1, d2] }
  | _ => none }
def CivilOrderWrongFalsely : Prop := civilOrderRow.holds Try.pinned (OpenSpec.ofChange civilOrderWrong)

/-- 'matinslaw3.CivilYear': WHATEVER THE INPUT: true; the input reads as it did. -/
def civilYearSpec : ChangeSpec := { name := "civilYear", fn := fun _ => fun
  | [d] => { results := [.lit (.bool true)], args := [d] }
  | _ => none }
def civilYearRow : OpenClaim := { program := "ytokcllmceppbmaa", sum := "bdce08208d298d04b32e93a26eabeb012bf3d217ea3fc79669c509919415236e", func := "matins/matinslaw3.CivilYear", spec := "civilYear", apart := false }
def CivilYearSaid : Prop := civilYearRow.holds Try.pinned (OpenSpec.ofChange civilYearSpec)

/-- ITS FALSE NEIGHBOUR: 'it returns false'. Refute it at one input. -/
def civilYearWrong : ChangeSpec := { name := "civilYear", fn := fun _ => fun
  | [d] => { results := [.lit (.bool false)], args := [d] }
  | _ => none }
def CivilYearWrongFalsely : Prop := civilYearRow.holds Try.pinned (OpenSpec.ofChange civilYearWrong)

/- THE SECOND FORM. 'bulk': how many values and letters a reading holds, each counted each time it is reached (what is shared counts as often as it is met; a slice's spare places count too). A statement '..UptoSaid' is the law's where the arguments, and the package variables that the reading takes, are together of bulk at most 1048576: NARROWER than '..Said'. Prove '..Said' where nothing that the law and all that it calls make is longer than what came in: it says more and counts as full. Else prove '..UptoSaid'. A law counts once. -/
mutual
def uptoBulk {H : Type} : DataW H → Nat
  | .lit (.string bytes) => bytes.length + 1
  | .lit _ => 1
  | .nil => 1
  | .ptr d => uptoBulk d + 1
  | .slice elems spare => uptoBulkAll elems + uptoBulkAll spare + 1
  | .agg parts => uptoBulkAll parts + 1
  | .iface _ d => uptoBulk d + 1
  | .map entries => uptoBulkEntries entries + 1
  | .held _ => 1
def uptoBulkAll {H : Type} : List (DataW H) → Nat
  | [] => 0
  | d :: r => uptoBulk d + uptoBulkAll r
def uptoBulkEntries {H : Type} : List (Lit × DataW H) → Nat
  | [] => 0
  | x :: r => uptoBulkEntry x + uptoBulkEntries r
def uptoBulkEntry {H : Type} : Lit × DataW H → Nat
  | (.string bytes, d) => bytes.length + uptoBulk d + 1
  | (_, d) => uptoBulk d + 1
 end
def uptoSmall : (H : Type) → List (DataW H) → Bool := fun _ ds => decide (uptoBulkAll ds ≤ 1048576)
def OpenSpec.upto (s : _root_.Go.ChangeSpec) : _root_.Go.OpenSpec := { _root_.Go.OpenSpec.ofChange s with cond := some uptoSmall }

/-- 'matinslaw3.CivilAll', WHERE WHAT IT READS IS OF BULK AT MOST 1048576: true; the input reads as it did. -/
def civilAllUptoRow : OpenClaim := { program := "ytokcllmceppbmaa", sum := "bdce08208d298d04b32e93a26eabeb012bf3d217ea3fc79669c509919415236e", func := "matins/matinslaw3.CivilAll", spec := "civilAll", apart := false, narrowed := true }
def CivilAllUptoSaid : Prop := civilAllUptoRow.holds Try.pinned (OpenSpec.upto civilAllSpec)

/-- 'matinslaw3.CivilTurn', WHERE WHAT IT READS IS OF BULK AT MOST 1048576: true; the input reads as it did. -/
def civilTurnUptoRow : OpenClaim := { program := "ytokcllmceppbmaa", sum := "bdce08208d298d04b32e93a26eabeb012bf3d217ea3fc79669c509919415236e", func := "matins/matinslaw3.CivilTurn", spec := "civilTurn", apart := false, narrowed := true }
def CivilTurnUptoSaid : Prop := civilTurnUptoRow.holds Try.pinned (OpenSpec.upto civilTurnSpec)

/-- 'matinslaw3.CivilDays', WHERE WHAT IT READS IS OF BULK AT MOST 1048576: true; the input reads as it did. -/
def civilDaysUptoRow : OpenClaim := { program := "ytokcllmceppbmaa", sum := "bdce08208d298d04b32e93a26eabeb012bf3d217ea3fc79669c509919415236e", func := "matins/matinslaw3.CivilDays", spec := "civilDays", apart := false, narrowed := true }
def CivilDaysUptoSaid : Prop := civilDaysUptoRow.holds Try.pinned (OpenSpec.upto civilDaysSpec)

/-- 'matinslaw3.CivilOrder', WHERE WHAT IT READS IS OF BULK AT MOST 1048576: true; the input reads as it did. -/
def civilOrderUptoRow : OpenClaim := { program := "ytokcllmceppbmaa", sum := "bdce08208d298d04b32e93a26eabeb012bf3d217ea3fc79669c509919415236e", func := "matins/matinslaw3.CivilOrder", spec := "civilOrder", apart := false, narrowed := true }
def CivilOrderUptoSaid : Prop := civilOrderUptoRow.holds Try.pinned (OpenSpec.upto civilOrderSpec)

/-- 'matinslaw3.CivilYear', WHERE WHAT IT READS IS OF BULK AT MOST 1048576: true; the input reads as it did. -/
def civilYearUptoRow : OpenClaim := { program := "ytokcllmceppbmaa", sum := "bdce08208d298d04b32e93a26eabeb012bf3d217ea3fc79669c509919415236e", func := "matins/matinslaw3.CivilYear", spec := "civilYear", apart := false, narrowed := true }
def CivilYearUptoSaid : Prop := civilYearUptoRow.holds Try.pinned (OpenSpec.upto civilYearSpec)

end Rows
end Go.Proofs.Ytokcllmceppbmaa
