/-
  The walks of matinslaw26.RetryAll, RetryPause: they return true; old memory is as it was.
-/
import Derived.Test.YtjmdnmnmojjodaaRetryShown
namespace Go.Proofs.Ytjmdnmnmojjodaa
open Go.ChangeShapes Go.WideShapes Go.ChangeAt Go.RowKit

theorem sizeUnit : (Try.prog.info? 28).map (·.size) = some 35 := by kernel_rfl

set_option maxHeartbeats 1000000 in
theorem all_any (code how res now r p : Int) (cs : Array Value) (a : Option Addr) (n c : Nat) (zs : List Int) (w : World) (hs : cs.size = 35) (hr : cs[14]? = some (.int .i64 r)) (hp : cs[15]? = some (.int .i64 p))
    (hz : IntsIn w w.heap.size a n zs) (hbig : n ≤ 9223372036854775807) :
    Calls Try.prog 3 #[.int .i64 code, .slice a n c, .int .i64 how, .int .i64 res, .agg cs, .int .i64 now] w fun e w' => e = .returned (.bool true) ∧ Below w.heap.size w w' := by
  have HS := Lib.hid hs
  have HR := Lib.hid hr
  have HP := Lib.hid hp
  clear hs hr hp
  by_cases h1 : 100 < n
  · go_enter Try.func3, Try.ntmps3
    go_wp2_with fail
    refine (shown_any _).mono ?_
    rintro e w1 ⟨rfl, hb1⟩
    go_wp2_with fail
    go_ret
    exact ⟨rfl, ((Below.refl _ _).alloc (Nat.le_refl _) _).trans (hb1.mono (by simp))⟩
  · go_enter Try.func3, Try.ntmps3
    go_wp2_with fail
    refine (shown_any _).mono ?_
    rintro e w1 ⟨rfl, hb1⟩
    have HB1 : Hid (w1.heap[w.heap.size]? = some (.cells cs 28 (0, 0))) := (hb1.block _ (by simp)).trans (heap_alloc_new w _)
    go_wp2_with (first | (refine wpList_load_row rfl 28 _ rfl w.heap.size rfl 28 cs (0, 0) _ HB1.out Try.underlying28 rfl (by rw [HS.out]; exact sizeUnit) ?_) | fail)
    refine (due_any cs r p res now _ HS.out HR.out HP.out).mono ?_
    rintro e w2 ⟨rfl, hb2⟩
    have HB2 : Hid (w2.heap[w.heap.size]? = some (.cells cs 28 (0, 0))) := (hb2.block _ (by have := hb1.size; simp at this; omega)).trans HB1.out
    go_wp2_with (first | (refine wpList_load_row rfl 28 _ rfl w.heap.size rfl 28 cs (0, 0) _ HB2.out Try.underlying28 rfl (by rw [HS.out]; exact sizeUnit) ?_) | fail)
    refine (pause_any cs r p res now _ HS.out HR.out HP.out).mono ?_
    rintro e w3 ⟨rfl, hb3⟩
    have hb : Below w.heap.size w w3 := ((((Below.refl _ _).alloc (Nat.le_refl _) _).trans (hb1.mono (by simp))).trans (hb2.mono (by have := hb1.size; simp at this; omega))).trans (hb3.mono (by have := hb1.size; have := hb2.size; simp at *; omega))
    go_wp2_with fail
    refine (result_any a w.heap.size n c zs code _ (hz.below hb) hbig).mono ?_
    rintro e w4 ⟨rfl, rfl⟩
    go_wp2_with fail
    refine (rresult_any a w.heap.size n c zs code _ (hz.below hb) hbig).mono ?_
    rintro e w4 ⟨rfl, rfl⟩
    go_wp2_with fail
    refine (again_any how res _).mono ?_
    rintro e w4 ⟨rfl, rfl⟩
    go_wp2_with fail
    refine (ragain_any how res _).mono ?_
    rintro e w4 ⟨rfl, rfl⟩
    go_wp2_with fail
    go_ret
    exact ⟨rfl, hb⟩

end Go.Proofs.Ytjmdnmnmojjodaa
