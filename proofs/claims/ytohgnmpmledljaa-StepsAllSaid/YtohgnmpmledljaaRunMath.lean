/-
  What one command does, in plain mathematics: when it ends, what comes next, what it is behind that.
-/
import Derived.Test.YtohgnmpmledljaaSpan
namespace Go.Proofs.Ytohgnmpmledljaa
open Go.RowKit

/-- what is read of an act -/
structure ActM where
  lasts : Int
  code : Int
  ready : Int
  dies : Int
  says : List (Int × ByteArray)

structure RunM where
  part : Int
  num : Int
  begun : Int
  told : Int
  said : Int
  ready : Bool

def RunM.val (r : RunM) : Value := .agg #[.int .i64 r.part, .int .i64 r.num, .int .i64 r.begun, .int .i64 r.told, .int .i64 r.said, .bool r.ready]

def FE : Int := 1099511627776

/-- when it ends by what it was told and by itself; how -/
def endsRaw (A : ActM) (r : RunM) : Int × Int :=
  if 0 ≤ r.told ∧ sumI r.told A.dies < sumI r.begun A.lasts then (sumI r.told A.dies, 0) else (sumI r.begun A.lasts, A.code)
def endsP (A : ActM) (r : RunM) : Int × Int :=
  if r.part ≤ 0 then (1099511627776, 0) else if (endsRaw A r).1 = 1099511627776 then (1099511627776, 0) else endsRaw A r

def soonB (p : Int × Int) (t k : Int) : Int × Int := if t < p.1 then (t, k) else p
def dueSays (A : ActM) (r : RunM) : Int × Int :=
  if 0 ≤ r.said ∧ r.said < A.says.length then soonB (1099511627776, 0) (sumI r.begun (A.says.getD r.said.toNat (0, ByteArray.empty)).1) 1 else (1099511627776, 0)
def dueReady (A : ActM) (r : RunM) : Int × Int :=
  if r.ready = true then dueSays A r else soonB (dueSays A r) (sumI r.begun A.ready) 2
def dueP (A : ActM) (r : RunM) : Int × Int :=
  if r.part ≤ 0 then (1099511627776, 0) else soonB (dueReady A r) (endsP A r).1 3

def tellP (r : RunM) (now : Int) : RunM := if 0 < r.part ∧ r.told < 0 then { r with told := now } else r
def beginP (part num now : Int) : RunM := ⟨part, num, now, -1, 0, false⟩
def zeroP : RunM := ⟨0, 0, 0, 0, 0, false⟩
def doP (A : ActM) (r : RunM) : RunM × ByteArray :=
  if (dueP A r).2 = 1 then ({ r with said := r.said + 1 }, (A.says.getD r.said.toNat (0, ByteArray.empty)).2)
  else if (dueP A r).2 = 2 then ({ r with ready := true }, ByteArray.empty)
  else if (dueP A r).2 = 3 then (zeroP, ByteArray.empty)
  else (r, ByteArray.empty)

end Go.Proofs.Ytohgnmpmledljaa
