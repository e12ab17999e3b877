/-
  No cell of these rows narrows 'for every input' (looked for: loops, veiled, ifaces, maps, wideKeys, modest, calm, conditions, laid).
  DERIVED. THE GIVEN ROWS OF THIS SEAT. 5 by the template 'for every input the law returns true; each argument reads behind the call as it read before'; 0 by the template 'total and deterministic' (their statements: YtcionpepgpfjdaaTotals.lean).
  GIVEN WITH THE SEED: the statements are not yours to turn. If you find one false, say at which input.
  Laid BY PROGRAM, IN A SANDBOX (cutbox-rows.mjs): the forced cells as the released guide's own fill.sh prints them over the translation 6f1e3acd7b680ed4… (all of the seat's roots in one cut). By AI agents, Wed Nov 11 2026. No macro, syntax, notation, axiom, sorry.
-/
import Derived.Test.YtcionpepgpfjdaaChecked
import GoSem.Claim
import GoSem.ClaimJoined
import GoSem.ClaimMapViews
import Derived.JoinedTies
import Derived.KernelRfl
namespace Go.Proofs.Ytcionpepgpfjdaa
/- THE CELL 'sum', in the pinned program and in every row, IS THE sha256 OF THE DUMP (.gsa) THAT YtcionpepgpfjdaaProg.lean LOADS. Nothing in Lean hashes anything: it is a label: what it is worth is what the hold of that sum in a sandbox is worth. -/
noncomputable def Try.pinned : Pinned := { name := "ytcionpepgpfjdaa", sum := "6f1e3acd7b680ed4a0dfd2a6b69ca8b3792b1b08f8e0b36a9751a5e41232864d", checked := Try.checked }
namespace Rows
def none {H : Type} : Left H := { results := [], args := [] }

/-- 'matinslaw9.BlendAll': WHATEVER THE INPUT: true; the input reads as it did. -/
def blendAllSpec : ChangeSpec := { name := "blendAll", fn := fun _ => fun
  | [d1, d2, d3] => { results := [.lit (.bool true)], args := [d1, d2, d3] }
  | _ => none }
def blendAllRow : OpenClaim := { program := "ytcionpepgpfjdaa", sum := "6f1e3acd7b680ed4a0dfd2a6b69ca8b3792b1b08f8e0b36a9751a5e41232864d", func := "matins/matinslaw9.BlendAll", spec := "blendAll", unfollowed := true, recurses := true, apart := false }
def BlendAllSaid : Prop := blendAllRow.holds Try.pinned (OpenSpec.ofChange blendAllSpec)

/-- ITS FALSE NEIGHBOUR: 'it returns false'. Refute it at one input. -/
def blendAllWrong : ChangeSpec := { name := "blendAll", fn := fun _ => fun
  | [d1, d2, d3] => { results := [.lit (.bool false)], args := [d1, d2, d3] }
  | _ => none }
def BlendAllWrongFalsely : Prop := blendAllRow.holds Try.pinned (OpenSpec.ofChange blendAllWrong)

/-- 'matinslaw9.BlendOnce': WHATEVER THE INPUT: true; the input reads as it did. -/
def blendOnceSpec : ChangeSpec := { name := "blendOnce", fn := fun _ => fun
  | [d1, d2] => { results := [.lit (.bool true)], args := [d1, d2] }
  | _ => none }
def blendOnceRow : OpenClaim := { program := "ytcionpepgpfjdaa", sum := "6f1e3acd7b680ed4a0dfd2a6b69ca8b3792b1b08f8e0b36a9751a5e41232864d", func := "matins/matinslaw9.BlendOnce", spec := "blendOnce", unfollowed := true, recurses := true, apart := false }
def BlendOnceSaid : Prop := blendOnceRow.holds Try.pinned (OpenSpec.ofChange blendOnceSpec)

/-- ITS FALSE NEIGHBOUR: 'it returns false'. Refute it at one input. -/
def blendOnceWrong : ChangeSpec := { name := "blendOnce", fn := fun _ => fun
  | [d1, d2] => { results := [.lit (.bool false)], args := [d1, d2] }
  | _ => none }
def BlendOnceWrongFalsely : Prop := blendOnceRow.holds Try.pinned (OpenSpec.ofChange blendOnceWrong)

/-- 'matinslaw9.BlendSteps': WHATEVER THE INPUT: true; the input reads as it did. -/
def blendStepsSpec : ChangeSpec := { name := "blendSteps", fn := fun _ => fun
  | [d1, d2, d3] => { results := [.lit (.bool true)], args := [d1, d2, d3] }
  | _ => none }
def blendStepsRow : OpenClaim := { program := "ytcionpepgpfjdaa", sum := "6f1e3acd7b680ed4a0dfd2a6b69ca8b3792b1b08f8e0b36a9751a5e41232864d", func := "matins/matinslaw9.BlendSteps", spec := "blendSteps", unfollowed := true, recurses := true, apart := false }
def BlendStepsSaid : Prop := blendStepsRow.holds Try.pinned (OpenSpec.ofChange blendStepsSpec)

/-- ITS FALSE NEIGHBOUR: 'it returns false'. Refute it at one input. -/
def blendStepsWrong : ChangeSpec := { name := "blendSteps", fn := fun _ => fun
  | [d1, d2, d3] => { results := [.lit (.bool false)], args := [d1, d2, d3] }
  | _ => none }
def BlendStepsWrongFalsely : Prop := blendStepsRow.holds Try.pinned (OpenSpec.ofChange blendStepsWrong)

/-- 'matinslaw9.BlendSingle': WHATEVER THE INPUT: true; the input reads as it did. -/
def blendSingleSpec : ChangeSpec := { name := "blendSingle", fn := fun _ => fun
  | [d1, d2] => { results := [.lit (.bool true)], args := [d1, d2] }
  | _ => none }
def blendSingleRow : OpenClaim := { program := "ytcionpepgpfjdaa", sum := "6f1e3acd7b680ed4a0dfd2a6b69ca8b3792b1b08f8e0b36a9751a5e41232864d", func := "matins/matinslaw9.BlendSingle", spec := "blendSingle", unfollowed := true, recurses := true, apart := false }
def BlendSingleSaid : Prop := blendSingleRow.holds Try.pinned (OpenSpec.ofChange blendSingleSpec)

/-- ITS FALSE NEIGHBOUR: 'it returns false'. Refute it at one input. -/
def blendSingleWrong : ChangeSpec := { name := "blendSingle", fn := fun _ => fun
  | [d1, d2] => { results := [.lit (.bool false)], args := [d1, d2] }
  | _ => none }
def BlendSingleWrongFalsely : Prop := blendSingleRow.holds Try.pinned (OpenSpec.ofChange blendSingleWrong)

/-- 'matinslaw9.BlendAnew': WHATEVER THE INPUT: true; the input reads as it did. -/
def blendAnewSpec : ChangeSpec := { name := "blendAnew", fn := fun _ => fun
  | [d1, d2] => { results := [.lit (.bool true)], args := [d1, d2] }
  | _ => none }
def blendAnewRow : OpenClaim := { program := "ytcionpepgpfjdaa", sum := "6f1e3acd7b680ed4a0dfd2a6b69ca8b3792b1b08f8e0b36a9751a5e41232864d", func := "matins/matinslaw9.BlendAnew", spec := "blendAnew", unfollowed := true, recurses := true, apart := false }
def BlendAnewSaid : Prop := blendAnewRow.holds Try.pinned (OpenSpec.ofChange blendAnewSpec)

/-- ITS FALSE NEIGHBOUR: 'it returns false'. Refute it at one input. -/
def blendAnewWrong : ChangeSpec := { name := "blendAnew", fn := fun _ => fun
  | [d1, d2] => { results := [.lit (.bool false)], args := [d1, d2] }
  | _ => none }
def BlendAnewWrongFalsely : Prop := blendAnewRow.holds Try.pinned (OpenSpec.ofChange blendAnewWrong)

/- THE SECOND FORM. 'bulk': how many values and letters a reading holds, each counted each time it is reached (what is shared counts as often as it is met; a slice's spare places count too). A statement '..UptoSaid' is the law's where the arguments, and the package variables that the reading takes, are together of bulk at most 1048576: NARROWER than '..Said'. Prove '..Said' where nothing that the law and all that it calls make is longer than what came in: it says more and counts as full. Else prove '..UptoSaid'. A law counts once. -/
mutual
def uptoBulk {H : Type} : DataW H → Nat
  | .lit (.string bytes) => bytes.length + 1
  | .lit _ => 1
  | .nil => 1
  | .ptr d => uptoBulk d + 1
  | .slice elems spare => uptoBulkAll elems + uptoBulkAll spare + 1
  | .agg parts => uptoBulkAll parts + 1
  | .iface _ d => uptoBulk d + 1
  | .map entries => uptoBulkEntries entries + 1
  | .held _ => 1
def uptoBulkAll {H : Type} : List (DataW H) → Nat
  | [] => 0
  | d :: r => uptoBulk d + uptoBulkAll r
def uptoBulkEntries {H : Type} : List (Lit × DataW H) → Nat
  | [] => 0
  | x :: r => uptoBulkEntry x + uptoBulkEntries r
def uptoBulkEntry {H : Type} : Lit × DataW H → Nat
  | (.string bytes, d) => bytes.length + uptoBulk d + 1
  | (_, d) => uptoBulk d + 1
 end
def uptoSmall : (H : Type) → List (DataW H) → Bool := fun _ ds => decide (uptoBulkAll ds ≤ 1048576)
def OpenSpec.upto (s : _root_.Go.ChangeSpec) : _root_.Go.OpenSpec := { _root_.Go.OpenSpec.ofChange s with cond := some uptoSmall }

/-- 'matinslaw9.BlendAll', WHERE WHAT IT READS IS OF BULK AT MOST 1048576: true; the input reads as it did. -/
def blendAllUptoRow : OpenClaim := { program := "ytcionpepgpfjdaa", sum := "6f1e3acd7b680ed4a0dfd2a6b69ca8b3792b1b08f8e0b36a9751a5e41232864d", func := "matins/matinslaw9.BlendAll", spec := "blendAll", unfollowed := true, recurses := true, apart := false, narrowed := true }
def BlendAllUptoSaid : Prop := blendAllUptoRow.holds Try.pinned (OpenSpec.upto blendAllSpec)

/-- 'matinslaw9.BlendOnce', WHERE WHAT IT READS IS OF BULK AT MOST 1048576: true; the input reads as it did. -/
def blendOnceUptoRow : OpenClaim := { program := "ytcionpepgpfjdaa", sum := "6f1e3acd7b680ed4a0dfd2a6b69ca8b3792b1b08f8e0b36a9751a5e41232864d", func := "matins/matinslaw9.BlendOnce", spec := "blendOnce", unfollowed := true, recurses := true, apart := false, narrowed := true }
def BlendOnceUptoSaid : Prop := blendOnceUptoRow.holds Try.pinned (OpenSpec.upto blendOnceSpec)

/-- 'matinslaw9.BlendSteps', WHERE WHAT IT READS IS OF BULK AT MOST 1048576: true; the input reads as it did. -/
def blendStepsUptoRow : OpenClaim := { program := "ytcionpepgpfjdaa", sum := "6f1e3acd7b680ed4a0dfd2a6b69ca8b3792b1b08f8e0b36a9751a5e41232864d", func := "matins/matinslaw9.BlendSteps", spec := "blendSteps", unfollowed := true, recurses := true, apart := false, narrowed := true }
def BlendStepsUptoSaid : Prop := blendStepsUptoRow.holds Try.pinned (OpenSpec.upto blendStepsSpec)

/-- 'matinslaw9.BlendSingle', WHERE WHAT IT READS IS OF BULK AT MOST 1048576: true; the input reads as it did. -/
def blendSingleUptoRow : OpenClaim := { program := "ytcionpepgpfjdaa", sum := "6f1e3acd7b680ed4a0dfd2a6b69ca8b3792b1b08f8e0b36a9751a5e41232864d", func := "matins/matinslaw9.BlendSingle", spec := "blendSingle", unfollowed := true, recurses := true, apart := false, narrowed := true }
def BlendSingleUptoSaid : Prop := blendSingleUptoRow.holds Try.pinned (OpenSpec.upto blendSingleSpec)

/-- 'matinslaw9.BlendAnew', WHERE WHAT IT READS IS OF BULK AT MOST 1048576: true; the input reads as it did. -/
def blendAnewUptoRow : OpenClaim := { program := "ytcionpepgpfjdaa", sum := "6f1e3acd7b680ed4a0dfd2a6b69ca8b3792b1b08f8e0b36a9751a5e41232864d", func := "matins/matinslaw9.BlendAnew", spec := "blendAnew", unfollowed := true, recurses := true, apart := false, narrowed := true }
def BlendAnewUptoSaid : Prop := blendAnewUptoRow.holds Try.pinned (OpenSpec.upto blendAnewSpec)

end Rows
end Go.Proofs.Ytcionpepgpfjdaa
