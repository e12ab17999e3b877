/-
  The contract of matinslaw26.shown: it returns true; old memory is as it was.
-/
import Derived.Test.YtjmdnmnmojjodaaAid
import Derived.Test.YtjmdnmnmojjodaaRetryDue
import Derived.Test.YtjmdnmnmojjodaaResult
namespace Go.Proofs.Ytjmdnmnmojjodaa
open Go.ChangeShapes Go.WideShapes Go.ChangeAt Go.RowKit

theorem ag53 : agB 5 0 = true := by decide
theorem ag31 : agB 3 1 = true := by decide
theorem ag41 : agB 4 1 = false := by decide
theorem due14 : dueT 5 0 10 4 = 14 := by decide
theorem res3 : resI 3 [3] = 0 := by decide
theorem res256 : resI 256 [] = 2 := by decide
theorem res1 : resI 1 [] = 1 := by decide

theorem intsNil (w : World) (B : Nat) : IntsIn w B none 0 [] := ⟨rfl, fun h => absurd h (Nat.lt_irrefl 0)⟩

theorem buildUnit (W : World) : (Instr.build 28 #[(14, .int .i64 5), (15, .int .i64 4)]).run Try.prog W = .ok (.agg ((.string ByteArray.empty) :: (.int .i64 0) :: (.string ByteArray.empty) :: (.bool false) :: (.slice none 0 0) :: (.int .i64 0) :: (.int .i64 0) :: (.int .i64 0) :: (.slice none 0 0) :: (.slice none 0 0) :: (.slice none 0 0) :: (.slice none 0 0) :: (.slice none 0 0) :: (.bool false) :: (.int .i64 5) :: (.int .i64 4) :: (.int .i64 0) :: (.int .i64 0) :: (.slice none 0 0) :: (.slice none 0 0) :: (.slice none 0 0) :: (.slice none 0 0) :: (.int .i64 0) :: (.string ByteArray.empty) :: (.string ByteArray.empty) :: (.slice none 0 0) :: (.slice none 0 0) :: (.slice none 0 0) :: (.slice none 0 0) :: (.bool false) :: (.slice none 0 0) :: (.slice none 0 0) :: (.slice none 0 0) :: (.slice none 0 0) :: (.string ByteArray.empty) :: []).toArray) W := by kernel_rfl

set_option maxHeartbeats 1000000 in
theorem shown_any (w : World) : Calls Try.prog 6 #[] w fun e w' => e = .returned (.bool true) ∧ Below w.heap.size w w' := by
  go_enter Try.func6, Try.ntmps6
  go_wp2_with (first
    | (refine wpList_build rfl rfl (by go_simp) buildUnit ?_)
    | fail)
  refine (due_any _ 5 4 0 10 _ rfl rfl rfl).mono ?_
  rintro e w1 ⟨rfl, hb1⟩
  rw [ag53, due14]
  go_wp2_with fail
  refine (result_any (some ⟨w1.heap.size, 0, none⟩) (w1.heap.size + 1) 1 1 [3] 3 _ ⟨rfl, fun _ => ⟨w1.heap.size, 0, rfl, by omega, fun j hj => ?_⟩⟩ (by omega)).mono ?_
  · obtain rfl : j = 0 := by omega
    go_simp
  rintro e w2 ⟨rfl, rfl⟩
  rw [res3]
  go_wp2_with fail
  refine (result_any none 0 0 0 [] 256 _ (intsNil _ _) (by omega)).mono ?_
  rintro e w2 ⟨rfl, rfl⟩
  rw [res256]
  go_wp2_with fail
  refine (result_any none 0 0 0 [] 1 _ (intsNil _ _) (by omega)).mono ?_
  rintro e w2 ⟨rfl, rfl⟩
  rw [res1]
  go_wp2_with fail
  refine (again_any 3 1 _).mono ?_
  rintro e w2 ⟨rfl, rfl⟩
  rw [ag31]
  go_wp2_with fail
  refine (again_any 4 1 _).mono ?_
  rintro e w2 ⟨rfl, rfl⟩
  rw [ag41]
  go_wp2_with fail
  go_ret
  exact ⟨rfl, hb1.alloc hb1.size _⟩

end Go.Proofs.Ytjmdnmnmojjodaa

