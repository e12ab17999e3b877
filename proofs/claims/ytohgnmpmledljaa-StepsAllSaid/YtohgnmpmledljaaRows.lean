/-
  No cell of these rows narrows 'for every input' (looked for: loops, veiled, ifaces, maps, wideKeys, modest, calm, conditions, laid).
  DERIVED. THE GIVEN ROWS OF THIS SEAT. 6 by the template 'for every input the law returns true; each argument reads behind the call as it read before'; 0 by the template 'total and deterministic' (their statements: YtohgnmpmledljaaTotals.lean).
  GIVEN WITH THE SEED: the statements are not yours to turn. If you find one false, say at which input.
  Laid BY PROGRAM, IN A SANDBOX (cutbox-rows.mjs): the forced cells as the released guide's own fill.sh prints them over the translation 0e823476bac9df33… (all of the seat's roots in one cut). By AI agents, Wed Nov 11 2026. No macro, syntax, notation, axiom, sorry.
-/
import Derived.Test.YtohgnmpmledljaaChecked
import GoSem.Claim
import GoSem.ClaimJoined
import GoSem.ClaimMapViews
import Derived.JoinedTies
import Derived.KernelRfl
namespace Go.Proofs.Ytohgnmpmledljaa
/- THE CELL 'sum', in the pinned program and in every row, IS THE sha256 OF THE DUMP (.gsa) THAT YtohgnmpmledljaaProg.lean LOADS. Nothing in Lean hashes anything: it is a label: what it is worth is what the hold of that sum in a sandbox is worth. -/
noncomputable def Try.pinned : Pinned := { name := "ytohgnmpmledljaa", sum := "0e823476bac9df33d3bda387ed20c558aa881b356e8fbe9d0638ed3417c6e7ea", checked := Try.checked }
namespace Rows
def none {H : Type} : Left H := { results := [], args := [] }

/-- 'matinslaw23.RunOrder': WHATEVER THE INPUT: true; the input reads as it did. -/
def runOrderSpec : ChangeSpec := { name := "runOrder", fn := fun _ => fun
  | [d1, d2, d3, d4] => { results := [.lit (.bool true)], args := [d1, d2, d3, d4] }
  | _ => none }
def runOrderRow : OpenClaim := { program := "ytohgnmpmledljaa", sum := "0e823476bac9df33d3bda387ed20c558aa881b356e8fbe9d0638ed3417c6e7ea", func := "matins/matinslaw23.RunOrder", spec := "runOrder", unfollowed := true, recurses := true, apart := false }
def RunOrderSaid : Prop := runOrderRow.holds Try.pinned (OpenSpec.ofChange runOrderSpec)

/-- ITS FALSE NEIGHBOUR: 'it returns false'. Refute it at one input. -/
def runOrderWrong : ChangeSpec := { name := "runOrder", fn := fun _ => fun
  | [d1, d2, d3, d4] => { results := [.lit (.bool false)], args := [d1, d2, d3, d4] }
  | _ => none }
def RunOrderWrongFalsely : Prop := runOrderRow.holds Try.pinned (OpenSpec.ofChange runOrderWrong)

/-- 'matinslaw23.RunTold': WHATEVER THE INPUT: true; the input reads as it did. -/
def runToldSpec : ChangeSpec := { name := "runTold", fn := fun _ => fun
  | [d1, d2, d3, d4] => { results := [.lit (.bool true)], args := [d1, d2, d3, d4] }
  | _ => none }
def runToldRow : OpenClaim := { program := "ytohgnmpmledljaa", sum := "0e823476bac9df33d3bda387ed20c558aa881b356e8fbe9d0638ed3417c6e7ea", func := "matins/matinslaw23.RunTold", spec := "runTold", unfollowed := true, recurses := true, apart := false }
def RunToldSaid : Prop := runToldRow.holds Try.pinned (OpenSpec.ofChange runToldSpec)

/-- ITS FALSE NEIGHBOUR: 'it returns false'. Refute it at one input. -/
def runToldWrong : ChangeSpec := { name := "runTold", fn := fun _ => fun
  | [d1, d2, d3, d4] => { results := [.lit (.bool false)], args := [d1, d2, d3, d4] }
  | _ => none }
def RunToldWrongFalsely : Prop := runToldRow.holds Try.pinned (OpenSpec.ofChange runToldWrong)

/-- 'matinslaw23.RunTexts': WHATEVER THE INPUT: true; the input reads as it did. -/
def runTextsSpec : ChangeSpec := { name := "runTexts", fn := fun _ => fun
  | [d1, d2, d3] => { results := [.lit (.bool true)], args := [d1, d2, d3] }
  | _ => none }
def runTextsRow : OpenClaim := { program := "ytohgnmpmledljaa", sum := "0e823476bac9df33d3bda387ed20c558aa881b356e8fbe9d0638ed3417c6e7ea", func := "matins/matinslaw23.RunTexts", spec := "runTexts", unfollowed := true, recurses := true, apart := false }
def RunTextsSaid : Prop := runTextsRow.holds Try.pinned (OpenSpec.ofChange runTextsSpec)

/-- ITS FALSE NEIGHBOUR: 'it returns false'. Refute it at one input. -/
def runTextsWrong : ChangeSpec := { name := "runTexts", fn := fun _ => fun
  | [d1, d2, d3] => { results := [.lit (.bool false)], args := [d1, d2, d3] }
  | _ => none }
def RunTextsWrongFalsely : Prop := runTextsRow.holds Try.pinned (OpenSpec.ofChange runTextsWrong)

/-- 'matinslaw24.StepsAll': WHATEVER THE INPUT: true; the input reads as it did. -/
def stepsAllSpec : ChangeSpec := { name := "stepsAll", fn := fun _ => fun
  | [d1, d2, d3, d4, d5, d6, d7, d8, d9] => { results := [.lit (.bool true)], args := [d1, d2, d3, d4, d5, d6, d7, d8, d9] }
  | _ => none }
def stepsAllRow : OpenClaim := { program := "ytohgnmpmledljaa", sum := "0e823476bac9df33d3bda387ed20c558aa881b356e8fbe9d0638ed3417c6e7ea", func := "matins/matinslaw24.StepsAll", spec := "stepsAll", apart := false }
def StepsAllSaid : Prop := stepsAllRow.holds Try.pinned (OpenSpec.ofChange stepsAllSpec)

/-- ITS FALSE NEIGHBOUR: 'it returns false'. Refute it at one input. -/
def stepsAllWrong : ChangeSpec := { name := "stepsAll", fn := fun _ => fun
  | [d1, d2, d3, d4, d5, d6, d7, d8, d9] => { results := [.lit (.bool false)], args := [d1, d2, d3, d4, d5, d6, d7, d8, d9] }
  | _ => none }
def StepsAllWrongFalsely : Prop := stepsAllRow.holds Try.pinned (OpenSpec.ofChange stepsAllWrong)

/-- 'matinslaw24.StepsRow': WHATEVER THE INPUT: true; the input reads as it did. -/
def stepsRowSpec : ChangeSpec := { name := "stepsRow", fn := fun _ => fun
  | [d1, d2, d3, d4, d5, d6, d7, d8] => { results := [.lit (.bool true)], args := [d1, d2, d3, d4, d5, d6, d7, d8] }
  | _ => none }
def stepsRowRow : OpenClaim := { program := "ytohgnmpmledljaa", sum := "0e823476bac9df33d3bda387ed20c558aa881b356e8fbe9d0638ed3417c6e7ea", func := "matins/matinslaw24.StepsRow", spec := "stepsRow", apart := false }
def StepsRowSaid : Prop := stepsRowRow.holds Try.pinned (OpenSpec.ofChange stepsRowSpec)

/-- ITS FALSE NEIGHBOUR: 'it returns false'. Refute it at one input. -/
def stepsRowWrong : ChangeSpec := { name := "stepsRow", fn := fun _ => fun
  | [d1, d2, d3, d4, d5, d6, d7, d8] => { results := [.lit (.bool false)], args := [d1, d2, d3, d4, d5, d6, d7, d8] }
  | _ => none }
def StepsRowWrongFalsely : Prop := stepsRowRow.holds Try.pinned (OpenSpec.ofChange stepsRowWrong)

/-- 'matinslaw24.StepsLater': WHATEVER THE INPUT: true; the input reads as it did. -/
def stepsLaterSpec : ChangeSpec := { name := "stepsLater", fn := fun _ => fun
  | [d1, d2, d3, d4, d5, d6, d7, d8, d9] => { results := [.lit (.bool true)], args := [d1, d2, d3, d4, d5, d6, d7, d8, d9] }
  | _ => none }
def stepsLaterRow : OpenClaim := { program := "ytohgnmpmledljaa", sum := "0e823476bac9df33d3bda387ed20c558aa881b356e8fbe9d0638ed3417c6e7ea", func := "matins/matinslaw24.StepsLater", spec := "stepsLater", apart := false }
def StepsLaterSaid : Prop := stepsLaterRow.holds Try.pinned (OpenSpec.ofChange stepsLaterSpec)

/-- ITS FALSE NEIGHBOUR: 'it returns false'. Refute it at one input. -/
def stepsLaterWrong : ChangeSpec := { name := "stepsLater", fn := fun _ => fun
  | [d1, d2, d3, d4, d5, d6, d7, d8, d9] => { results := [.lit (.bool false)], args := [d1, d2, d3, d4, d5, d6, d7, d8, d9] }
  | _ => none }
def StepsLaterWrongFalsely : Prop := stepsLaterRow.holds Try.pinned (OpenSpec.ofChange stepsLaterWrong)

/- THE SECOND FORM. 'bulk': how many values and letters a reading holds, each counted each time it is reached (what is shared counts as often as it is met; a slice's spare places count too). A statement '..UptoSaid' is the law's where the arguments, and the package variables that the reading takes, are together of bulk at most 1048576: NARROWER than '..Said'. Prove '..Said' where nothing that the law and all that it calls make is longer than what came in: it says more and counts as full. Else prove '..UptoSaid'. A law counts once. -/
mutual
def uptoBulk {H : Type} : DataW H → Nat
  | .lit (.string bytes) => bytes.length + 1
  | .lit _ => 1
  | .nil => 1
  | .ptr d => uptoBulk d + 1
  | .slice elems spare => uptoBulkAll elems + uptoBulkAll spare + 1
  | .agg parts => uptoBulkAll parts + 1
  | .iface _ d => uptoBulk d + 1
  | .map entries => uptoBulkEntries entries + 1
  | .held _ => 1
def uptoBulkAll {H : Type} : List (DataW H) → Nat
  | [] => 0
  | d :: r => uptoBulk d + uptoBulkAll r
def uptoBulkEntries {H : Type} : List (Lit × DataW H) → Nat
  | [] => 0
  | x :: r => uptoBulkEntry x + uptoBulkEntries r
def uptoBulkEntry {H : Type} : Lit × DataW H → Nat
  | (.string bytes, d) => bytes.length + uptoBulk d + 1
  | (_, d) => uptoBulk d + 1
 end
def uptoSmall : (H : Type) → List (DataW H) → Bool := fun _ ds => decide (uptoBulkAll ds ≤ 1048576)
def OpenSpec.upto (s : _root_.Go.ChangeSpec) : _root_.Go.OpenSpec := { _root_.Go.OpenSpec.ofChange s with cond := some uptoSmall }

/-- 'matinslaw23.RunOrder', WHERE WHAT IT READS IS OF BULK AT MOST 1048576: true; the input reads as it did. -/
def runOrderUptoRow : OpenClaim := { program := "ytohgnmpmledljaa", sum := "0e823476bac9df33d3bda387ed20c558aa881b356e8fbe9d0638ed3417c6e7ea", func := "matins/matinslaw23.RunOrder", spec := "runOrder", unfollowed := true, recurses := true, apart := false, narrowed := true }
def RunOrderUptoSaid : Prop := runOrderUptoRow.holds Try.pinned (OpenSpec.upto runOrderSpec)

/-- 'matinslaw23.RunTold', WHERE WHAT IT READS IS OF BULK AT MOST 1048576: true; the input reads as it did. -/
def runToldUptoRow : OpenClaim := { program := "ytohgnmpmledljaa", sum := "0e823476bac9df33d3bda387ed20c558aa881b356e8fbe9d0638ed3417c6e7ea", func := "matins/matinslaw23.RunTold", spec := "runTold", unfollowed := true, recurses := true, apart := false, narrowed := true }
def RunToldUptoSaid : Prop := runToldUptoRow.holds Try.pinned (OpenSpec.upto runToldSpec)

/-- 'matinslaw23.RunTexts', WHERE WHAT IT READS IS OF BULK AT MOST 1048576: true; the input reads as it did. -/
def runTextsUptoRow : OpenClaim := { program := "ytohgnmpmledljaa", sum := "0e823476bac9df33d3bda387ed20c558aa881b356e8fbe9d0638ed3417c6e7ea", func := "matins/matinslaw23.RunTexts", spec := "runTexts", unfollowed := true, recurses := true, apart := false, narrowed := true }
def RunTextsUptoSaid : Prop := runTextsUptoRow.holds Try.pinned (OpenSpec.upto runTextsSpec)

/-- 'matinslaw24.StepsAll', WHERE WHAT IT READS IS OF BULK AT MOST 1048576: true; the input reads as it did. -/
def stepsAllUptoRow : OpenClaim := { program := "ytohgnmpmledljaa", sum := "0e823476bac9df33d3bda387ed20c558aa881b356e8fbe9d0638ed3417c6e7ea", func := "matins/matinslaw24.StepsAll", spec := "stepsAll", apart := false, narrowed := true }
def StepsAllUptoSaid : Prop := stepsAllUptoRow.holds Try.pinned (OpenSpec.upto stepsAllSpec)

/-- 'matinslaw24.StepsRow', WHERE WHAT IT READS IS OF BULK AT MOST 1048576: true; the input reads as it did. -/
def stepsRowUptoRow : OpenClaim := { program := "ytohgnmpmledljaa", sum := "0e823476bac9df33d3bda387ed20c558aa881b356e8fbe9d0638ed3417c6e7ea", func := "matins/matinslaw24.StepsRow", spec := "stepsRow", apart := false, narrowed := true }
def StepsRowUptoSaid : Prop := stepsRowUptoRow.holds Try.pinned (OpenSpec.upto stepsRowSpec)

/-- 'matinslaw24.StepsLater', WHERE WHAT IT READS IS OF BULK AT MOST 1048576: true; the input reads as it did. -/
def stepsLaterUptoRow : OpenClaim := { program := "ytohgnmpmledljaa", sum := "0e823476bac9df33d3bda387ed20c558aa881b356e8fbe9d0638ed3417c6e7ea", func := "matins/matinslaw24.StepsLater", spec := "stepsLater", apart := false, narrowed := true }
def StepsLaterUptoSaid : Prop := stepsLaterUptoRow.holds Try.pinned (OpenSpec.upto stepsLaterSpec)

end Rows
end Go.Proofs.Ytohgnmpmledljaa
