/-
  Contracts of span.held, span.Sum, matinsref1.Held, matinsref1.Sum: what they compute, at every integer; the world is as it was.
-/
import Derived.Test.YtohgnmpmledljaaRows
import Derived.WalkKit
import Derived.ProofKit
import Derived.OpenShut
import Derived.WalkLawsBesides
namespace Go.Proofs.Ytohgnmpmledljaa
open Go.ChangeShapes Go.WideShapes Go.ChangeAt Go.RowKit

def heldI (n : Int) : Int := if 6311433600 < n then 1099511627776 else if n < 0 then 0 else n
def sumI (a b : Int) : Int := heldI (heldI a + heldI b)

theorem heldI_bd (n : Int) : 0 ≤ heldI n ∧ heldI n ≤ 1099511627776 := by unfold heldI; split <;> (try split) <;> omega

theorem held_any (n : Int) (w : World) : Calls Try.prog 40 #[.int .i64 n] w fun e w' => e = .returned (.int .i64 (heldI n)) ∧ w = w' := by
  have e0 := heldI_bd n
  by_cases h1 : 6311433600 < n
  · have e1 : heldI n = 1099511627776 := by unfold heldI; rw [if_pos h1]
    rw [e1]; clear e1 e0
    go_enter Try.func40, Try.ntmps40
    go_wp2
    go_ret
    exact ⟨rfl, rfl⟩
  · by_cases h2 : n < 0
    · have e1 : heldI n = 0 := by unfold heldI; rw [if_neg h1, if_pos h2]
      rw [e1]; clear e1 e0
      go_enter Try.func40, Try.ntmps40
      go_wp2
      go_ret
      exact ⟨by simp, rfl⟩
    · have e1 : heldI n = n := by unfold heldI; rw [if_neg h1, if_neg h2]
      rw [e1]; clear e1 e0
      go_enter Try.func40, Try.ntmps40
      go_wp2
      go_ret
      exact ⟨by simp, rfl⟩

theorem rheld_any (n : Int) (w : World) : Calls Try.prog 29 #[.int .i64 n] w fun e w' => e = .returned (.int .i64 (heldI n)) ∧ w = w' := by
  have e0 := heldI_bd n
  by_cases h1 : 6311433600 < n
  · have e1 : heldI n = 1099511627776 := by unfold heldI; rw [if_pos h1]
    rw [e1]; clear e1 e0
    go_enter Try.func29, Try.ntmps29
    go_wp2
    go_ret
    exact ⟨rfl, rfl⟩
  · by_cases h2 : n < 0
    · have e1 : heldI n = 0 := by unfold heldI; rw [if_neg h1, if_pos h2]
      rw [e1]; clear e1 e0
      go_enter Try.func29, Try.ntmps29
      go_wp2
      go_ret
      exact ⟨rfl, rfl⟩
    · have e1 : heldI n = n := by unfold heldI; rw [if_neg h1, if_neg h2]
      rw [e1]; clear e1 e0
      go_enter Try.func29, Try.ntmps29
      go_wp2
      go_ret
      exact ⟨rfl, rfl⟩

theorem sum_any (a b : Int) (w : World) : Calls Try.prog 28 #[.int .i64 a, .int .i64 b] w fun e w' => e = .returned (.int .i64 (sumI a b)) ∧ w = w' := by
  obtain ⟨a0, a1⟩ := heldI_bd a
  obtain ⟨b0, b1⟩ := heldI_bd b
  go_enter Try.func28, Try.ntmps28
  go_wp2_with (go_at_call 40; refine (held_any _ _).mono ?_; rintro e w' ⟨rfl, rfl⟩)
  go_ret
  exact ⟨rfl, rfl⟩

theorem rsum_any (a b : Int) (w : World) : Calls Try.prog 16 #[.int .i64 a, .int .i64 b] w fun e w' => e = .returned (.int .i64 (sumI a b)) ∧ w = w' := by
  obtain ⟨a0, a1⟩ := heldI_bd a
  obtain ⟨b0, b1⟩ := heldI_bd b
  go_enter Try.func16, Try.ntmps16
  go_wp2_with (go_at_call 29; refine (rheld_any _ _).mono ?_; rintro e w' ⟨rfl, rfl⟩)
  go_ret
  exact ⟨rfl, rfl⟩

end Go.Proofs.Ytohgnmpmledljaa
