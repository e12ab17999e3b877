/-
  Contract of matinsref22.Run.
-/
import Derived.Test.YtohgnmpmledljaaRunFns
namespace Go.Proofs.Ytohgnmpmledljaa
open Go.ChangeShapes Go.WideShapes Go.ChangeAt Go.RowKit

theorem rrun_any (p n t : Int) (w : World) : Calls Try.prog 35 #[.int .i64 p, .int .i64 n, .int .i64 t] w fun e w' => e = .returned (beginP p n t).val ∧ Below w.heap.size w w' := by
  unfold beginP RunM.val
  go_enter Try.func35, Try.ntmps35
  go_wp2
  exact bodyPost_ret (v := .agg #[.int .i64 p, .int .i64 n, .int .i64 t, .int .i64 (-1), .int .i64 0, .bool false]) (by simp [results, Try.results35, go_sem]) rfl ⟨rfl, (Below.refl _ _).alloc (Nat.le_refl _) _⟩

end Go.Proofs.Ytohgnmpmledljaa
