/-
  No cell of these rows narrows 'for every input' (looked for: loops, veiled, ifaces, maps, wideKeys, modest, calm, conditions, laid).
  DERIVED. THE GIVEN ROWS OF THIS SEAT. 3 by the template 'for every input the law returns true; each argument reads behind the call as it read before'; 0 by the template 'total and deterministic' (their statements: YtjmdnmnmojjodaaTotals.lean).
  GIVEN WITH THE SEED: the statements are not yours to turn. If you find one false, say at which input.
  Laid BY PROGRAM, IN A SANDBOX (cutbox-rows.mjs): the forced cells as the released guide's own fill.sh prints them over the translation 2387a5fe7f13578e… (all of the seat's roots in one cut). By AI agents, Wed Nov 11 2026. No macro, syntax, notation, axiom, sorry.
-/
import Derived.Test.YtjmdnmnmojjodaaChecked
import GoSem.Claim
import GoSem.ClaimJoined
import GoSem.ClaimMapViews
import Derived.JoinedTies
import Derived.KernelRfl
namespace Go.Proofs.Ytjmdnmnmojjodaa
/- THE CELL 'sum', in the pinned program and in every row, IS THE sha256 OF THE DUMP (.gsa) THAT YtjmdnmnmojjodaaProg.lean LOADS. Nothing in Lean hashes anything: it is a label: what it is worth is what the hold of that sum in a sandbox is worth. -/
noncomputable def Try.pinned : Pinned := { name := "ytjmdnmnmojjodaa", sum := "2387a5fe7f13578ea15c919934b39848ede78f88cf192ef926ced93be81e3814", checked := Try.checked }
namespace Rows
def none {H : Type} : Left H := { results := [], args := [] }

/-- 'matinslaw26.RetryAll': WHATEVER THE INPUT: true; the input reads as it did. -/
def retryAllSpec : ChangeSpec := { name := "retryAll", fn := fun _ => fun
  | [d1, d2, d3, d4, d5, d6] => { results := [.lit (.bool true)], args := [d1, d2, d3, d4, d5, d6] }
  | _ => none }
def retryAllRow : OpenClaim := { program := "ytjmdnmnmojjodaa", sum := "2387a5fe7f13578ea15c919934b39848ede78f88cf192ef926ced93be81e3814", func := "matins/matinslaw26.RetryAll", spec := "retryAll", apart := false }
def RetryAllSaid : Prop := retryAllRow.holds Try.pinned (OpenSpec.ofChange retryAllSpec)

/-- ITS FALSE NEIGHBOUR: 'it returns false'. Refute it at one input. -/
def retryAllWrong : ChangeSpec := { name := "retryAll", fn := fun _ => fun
  | [d1, d2, d3, d4, d5, d6] => { results := [.lit (.bool false)], args := [d1, d2, d3, d4, d5, d6] }
  | _ => none }
def RetryAllWrongFalsely : Prop := retryAllRow.holds Try.pinned (OpenSpec.ofChange retryAllWrong)

/-- 'matinslaw26.RetryWays': WHATEVER THE INPUT: true; the input reads as it did. -/
def retryWaysSpec : ChangeSpec := { name := "retryWays", fn := fun _ => fun
  | [d1, d2, d3] => { results := [.lit (.bool true)], args := [d1, d2, d3] }
  | _ => none }
def retryWaysRow : OpenClaim := { program := "ytjmdnmnmojjodaa", sum := "2387a5fe7f13578ea15c919934b39848ede78f88cf192ef926ced93be81e3814", func := "matins/matinslaw26.RetryWays", spec := "retryWays", apart := false }
def RetryWaysSaid : Prop := retryWaysRow.holds Try.pinned (OpenSpec.ofChange retryWaysSpec)

/-- ITS FALSE NEIGHBOUR: 'it returns false'. Refute it at one input. -/
def retryWaysWrong : ChangeSpec := { name := "retryWays", fn := fun _ => fun
  | [d1, d2, d3] => { results := [.lit (.bool false)], args := [d1, d2, d3] }
  | _ => none }
def RetryWaysWrongFalsely : Prop := retryWaysRow.holds Try.pinned (OpenSpec.ofChange retryWaysWrong)

/-- 'matinslaw26.RetryPause': WHATEVER THE INPUT: true; the input reads as it did. -/
def retryPauseSpec : ChangeSpec := { name := "retryPause", fn := fun _ => fun
  | [d1, d2, d3, d4, d5] => { results := [.lit (.bool true)], args := [d1, d2, d3, d4, d5] }
  | _ => none }
def retryPauseRow : OpenClaim := { program := "ytjmdnmnmojjodaa", sum := "2387a5fe7f13578ea15c919934b39848ede78f88cf192ef926ced93be81e3814", func := "matins/matinslaw26.RetryPause", spec := "retryPause", apart := false }
def RetryPauseSaid : Prop := retryPauseRow.holds Try.pinned (OpenSpec.ofChange retryPauseSpec)

/-- ITS FALSE NEIGHBOUR: 'it returns false'. Refute it at one input. -/
def retryPauseWrong : ChangeSpec := { name := "retryPause", fn := fun _ => fun
  | [d1, d2, d3, d4, d5] => { results := [.lit (.bool false)], args := [d1, d2, d3, d4, d5] }
  | _ => none }
def RetryPauseWrongFalsely : Prop := retryPauseRow.holds Try.pinned (OpenSpec.ofChange retryPauseWrong)

/- THE SECOND FORM. 'bulk': how many values and letters a reading holds, each counted each time it is reached (what is shared counts as often as it is met; a slice's spare places count too). A statement '..UptoSaid' is the law's where the arguments, and the package variables that the reading takes, are together of bulk at most 1048576: NARROWER than '..Said'. Prove '..Said' where nothing that the law and all that it calls make is longer than what came in: it says more and counts as full. Else prove '..UptoSaid'. A law counts once. -/
mutual
def uptoBulk {H : Type} : DataW H → Nat
  | .lit (.string bytes) => bytes.length + 1
  | .lit _ => 1
  | .nil => 1
  | .ptr d => uptoBulk d + 1
  | .slice elems spare => uptoBulkAll elems + uptoBulkAll spare + 1
  | .agg parts => uptoBulkAll parts + 1
  | .iface _ d => uptoBulk d + 1
  | .map entries => uptoBulkEntries entries + 1
  | .held _ => 1
def uptoBulkAll {H : Type} : List (DataW H) → Nat
  | [] => 0
  | d :: r => uptoBulk d + uptoBulkAll r
def uptoBulkEntries {H : Type} : List (Lit × DataW H) → Nat
  | [] => 0
  | x :: r => uptoBulkEntry x + uptoBulkEntries r
def uptoBulkEntry {H : Type} : Lit × DataW H → Nat
  | (.string bytes, d) => bytes.length + uptoBulk d + 1
  | (_, d) => uptoBulk d + 1
 end
def uptoSmall : (H : Type) → List (DataW H) → Bool := fun _ ds => decide (uptoBulkAll ds ≤ 1048576)
def OpenSpec.upto (s : _root_.Go.ChangeSpec) : _root_.Go.OpenSpec := { _root_.Go.OpenSpec.ofChange s with cond := some uptoSmall }

/-- 'matinslaw26.RetryAll', WHERE WHAT IT READS IS OF BULK AT MOST 1048576: true; the input reads as it did. -/
def retryAllUptoRow : OpenClaim := { program := "ytjmdnmnmojjodaa", sum := "2387a5fe7f13578ea15c919934b39848ede78f88cf192ef926ced93be81e3814", func := "matins/matinslaw26.RetryAll", spec := "retryAll", apart := false, narrowed := true }
def RetryAllUptoSaid : Prop := retryAllUptoRow.holds Try.pinned (OpenSpec.upto retryAllSpec)

/-- 'matinslaw26.RetryWays', WHERE WHAT IT READS IS OF BULK AT MOST 1048576: true; the input reads as it did. -/
def retryWaysUptoRow : OpenClaim := { program := "ytjmdnmnmojjodaa", sum := "2387a5fe7f13578ea15c919934b39848ede78f88cf192ef926ced93be81e3814", func := "matins/matinslaw26.RetryWays", spec := "retryWays", apart := false, narrowed := true }
def RetryWaysUptoSaid : Prop := retryWaysUptoRow.holds Try.pinned (OpenSpec.upto retryWaysSpec)

/-- 'matinslaw26.RetryPause', WHERE WHAT IT READS IS OF BULK AT MOST 1048576: true; the input reads as it did. -/
def retryPauseUptoRow : OpenClaim := { program := "ytjmdnmnmojjodaa", sum := "2387a5fe7f13578ea15c919934b39848ede78f88cf192ef926ced93be81e3814", func := "matins/matinslaw26.RetryPause", spec := "retryPause", apart := false, narrowed := true }
def RetryPauseUptoSaid : Prop := retryPauseUptoRow.holds Try.pinned (OpenSpec.upto retryPauseSpec)

end Rows
end Go.Proofs.Ytjmdnmnmojjodaa
