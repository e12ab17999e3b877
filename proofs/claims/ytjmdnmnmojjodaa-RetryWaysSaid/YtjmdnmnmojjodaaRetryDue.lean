/-
  Contracts of retry.Due, matinsref22.Pause: what they compute; old memory is as it was.
-/
import Derived.Test.YtjmdnmnmojjodaaRetryFns
import Derived.Lib.Hide
namespace Go.Proofs.Ytjmdnmnmojjodaa
open Go.ChangeShapes Go.WideShapes Go.ChangeAt Go.RowKit

def dueT (h r now p : Int) : Int := if agB h r = true then sumI now p else 0

set_option maxHeartbeats 1000000 in
theorem due_any (cs : Array Value) (r p res now : Int) (w : World) (hs : cs.size = 35) (hr : cs[14]? = some (.int .i64 r)) (hp : cs[15]? = some (.int .i64 p)) :
    Calls Try.prog 7 #[.agg cs, .int .i64 res, .int .i64 now] w fun e w' => e = .returned (.tuple #[.int .i64 (dueT r res now p), .bool (agB r res)]) ∧ Below w.heap.size w w' := by
  have hc14 : (w.alloc (.cells cs 28)).cell? ⟨w.heap.size, 14, none⟩ = some (.int .i64 r) := by rw [cell_of_row _ _ _ cs _ _ (heap_alloc_new w _), hr]
  have hc15 : (w.alloc (.cells cs 28)).cell? ⟨w.heap.size, 15, none⟩ = some (.int .i64 p) := by rw [cell_of_row _ _ _ cs _ _ (heap_alloc_new w _), hp]
  have HS := Lib.hid hs
  clear hs hr hp
  by_cases h : agB r res = true
  · have e1 : dueT r res now p = sumI now p := by unfold dueT; rw [if_pos h]
    rw [e1, h]; clear e1
    have H := Lib.hid h; clear h
    go_enter Try.func7, Try.ntmps7
    go_wp2_with (first
      | (go_at_call 11; refine (again_any _ _ _).mono ?_; rintro e w' ⟨rfl, rfl⟩; rw [H.out])
      | (go_at_call 15; refine (sum_any _ _ _).mono ?_; rintro e w' ⟨rfl, rfl⟩))
    go_ret2
    exact ⟨rfl, (Below.refl _ _).alloc (Nat.le_refl _) _⟩
  · have e1 : dueT r res now p = 0 := by unfold dueT; rw [if_neg h]
    have e2 : agB r res = false := by simpa using h
    rw [e1, e2]; clear e1 h
    have H := Lib.hid e2; clear e2
    go_enter Try.func7, Try.ntmps7
    go_wp2_with (go_at_call 11; refine (again_any _ _ _).mono ?_; rintro e w' ⟨rfl, rfl⟩; rw [H.out])
    go_ret2
    exact ⟨rfl, (Below.refl _ _).alloc (Nat.le_refl _) _⟩

set_option maxHeartbeats 1000000 in
theorem pause_any (cs : Array Value) (r p res now : Int) (w : World) (hs : cs.size = 35) (hr : cs[14]? = some (.int .i64 r)) (hp : cs[15]? = some (.int .i64 p)) :
    Calls Try.prog 8 #[.agg cs, .int .i64 res, .int .i64 now] w fun e w' => e = .returned (.tuple #[.int .i64 (dueT r res now p), .bool (agB r res)]) ∧ Below w.heap.size w w' := by
  have hc14 : (w.alloc (.cells cs 28)).cell? ⟨w.heap.size, 14, none⟩ = some (.int .i64 r) := by rw [cell_of_row _ _ _ cs _ _ (heap_alloc_new w _), hr]
  have hc15 : (w.alloc (.cells cs 28)).cell? ⟨w.heap.size, 15, none⟩ = some (.int .i64 p) := by rw [cell_of_row _ _ _ cs _ _ (heap_alloc_new w _), hp]
  have HS := Lib.hid hs
  clear hs hr hp
  by_cases h : agB r res = true
  · have e1 : dueT r res now p = sumI now p := by unfold dueT; rw [if_pos h]
    rw [e1, h]; clear e1
    have H := Lib.hid h; clear h
    go_enter Try.func8, Try.ntmps8
    go_wp2_with (first
      | (go_at_call 12; refine (ragain_any _ _ _).mono ?_; rintro e w' ⟨rfl, rfl⟩; rw [H.out])
      | (go_at_call 16; refine (rsum_any _ _ _).mono ?_; rintro e w' ⟨rfl, rfl⟩))
    go_ret2
    exact ⟨rfl, (Below.refl _ _).alloc (Nat.le_refl _) _⟩
  · have e1 : dueT r res now p = 0 := by unfold dueT; rw [if_neg h]
    have e2 : agB r res = false := by simpa using h
    rw [e1, e2]; clear e1 h
    have H := Lib.hid e2; clear e2
    go_enter Try.func8, Try.ntmps8
    go_wp2_with (go_at_call 12; refine (ragain_any _ _ _).mono ?_; rintro e w' ⟨rfl, rfl⟩; rw [H.out])
    go_ret2
    exact ⟨rfl, (Below.refl _ _).alloc (Nat.le_refl _) _⟩

end Go.Proofs.Ytjmdnmnmojjodaa

