/-
  Contracts of retry.Again, matinsref22.Again: what they compute, at all integers; the world is as it was.
-/
import Derived.Test.YtjmdnmnmojjodaaSpan
namespace Go.Proofs.Ytjmdnmnmojjodaa
open Go.ChangeShapes Go.WideShapes Go.ChangeAt Go.RowKit

def agB (h r : Int) : Bool := decide ((h = 2 ∧ r = 0) ∨ (h = 3 ∧ (r = 1 ∨ r = 2 ∨ r = 3)) ∨ (h = 4 ∧ (r = 2 ∨ r = 3)) ∨ (h = 5 ∧ (r = 0 ∨ r = 1 ∨ r = 2 ∨ r = 3)))

theorem ret_bool {a b : Bool} (h : a = b) : Ending.returned (.bool a) = .returned (.bool b) := by rw [h]

theorem five (r : Int) : r = 0 ∨ r = 1 ∨ r = 2 ∨ r = 3 ∨ (r ≠ 0 ∧ r ≠ 1 ∧ r ≠ 2 ∧ r ≠ 3) := by omega
theorem fiveh (r : Int) : r = 2 ∨ r = 3 ∨ r = 4 ∨ r = 5 ∨ (r ≠ 2 ∧ r ≠ 3 ∧ r ≠ 4 ∧ r ≠ 5) := by omega

set_option maxHeartbeats 1000000 in
theorem again_any (h r : Int) (w : World) : Calls Try.prog 11 #[.int .i64 h, .int .i64 r] w fun e w' => e = .returned (.bool (agB h r)) ∧ w = w' := by
  rcases five r with rfl | rfl | rfl | rfl | ⟨r0, r1, r2, r3⟩ <;> rcases fiveh h with rfl | rfl | rfl | rfl | ⟨h2, h3, h4, h5⟩
  all_goals
    go_enter Try.func11, Try.ntmps11
    go_wp2
    go_ret
    exact ⟨ret_bool (by simp [agB, *]), rfl⟩

set_option maxHeartbeats 1000000 in
theorem ragain_any (h r : Int) (w : World) : Calls Try.prog 12 #[.int .i64 h, .int .i64 r] w fun e w' => e = .returned (.bool (agB h r)) ∧ w = w' := by
  rcases five r with rfl | rfl | rfl | rfl | ⟨r0, r1, r2, r3⟩ <;> rcases fiveh h with rfl | rfl | rfl | rfl | ⟨h2, h3, h4, h5⟩
  all_goals
    go_enter Try.func12, Try.ntmps12
    go_wp2
    go_ret
    exact ⟨ret_bool (by simp [agB, *]), rfl⟩

end Go.Proofs.Ytjmdnmnmojjodaa
