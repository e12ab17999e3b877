/-
  Contracts of matinsref1's functions on names, as far as they are wanted: they return; old memory is as it was.
-/
import Derived.Test.YtohgnmpmledljaaRunFns
import Derived.StillTailTactics
import Derived.RegionTactic
import Derived.WalkSpells
namespace Go.Proofs.Ytohgnmpmledljaa
open Go.ChangeShapes Go.WideShapes Go.ChangeAt Go.RowKit

theorem ret_bool {a b : Bool} (h : a = b) : Ending.returned (.bool a) = .returned (.bool b) := by rw [h]

/-- It returns some bool; the world is as it was. -/
def SomeBool (w : World) (e : Ending) (w' : World) : Prop := ∃ b, e = .returned (.bool b) ∧ w = w'

theorem letter_any (n : Int) (w : World) : Calls Try.prog 50 #[.int .u8 n] w (SomeBool w) := by
  go_enter Try.func50, Try.ntmps50
  go_wp2
  all_goals go_ret
  all_goals exact ⟨_, rfl, rfl⟩

theorem digit_any (n : Int) (w : World) : Calls Try.prog 51 #[.int .u8 n] w (SomeBool w) := by
  go_enter Try.func51, Try.ntmps51
  go_wp2
  all_goals go_ret
  all_goals exact ⟨_, rfl, rfl⟩

theorem nameByte_any (n : Int) (w : World) : Calls Try.prog 48 #[.int .u8 n] w (SomeBool w) := by
  go_enter Try.func48, Try.ntmps48
  go_wp2_with (first
    | (go_at_call 50; refine (letter_any _ _).mono ?_; rintro e w' ⟨b1, rfl, rfl⟩; cases b1)
    | (go_at_call 51; refine (digit_any _ _).mono ?_; rintro e w' ⟨b2, rfl, rfl⟩; cases b2))
  all_goals go_ret
  all_goals exact ⟨_, rfl, rfl⟩

/-- The five endings: of the kinds 1 to 4, and none. -/
def sufB (k : Int) : List UInt8 := if k = 1 then [115, 101, 114, 118, 105, 99, 101] else if k = 2 then [115, 111, 99, 107, 101, 116] else if k = 3 then [116, 105, 109, 101, 114] else if k = 4 then [116, 97, 114, 103, 101, 116] else []

theorem suffix_any (k : Int) (w : World) (h : k = 1 ∨ k = 2 ∨ k = 3 ∨ k = 4) : Calls Try.prog 47 #[.int .i64 k] w fun e w' => e = .returned (.string ⟨(sufB k).toArray⟩) ∧ w = w' := by
  rcases h with rfl | rfl | rfl | rfl
  all_goals
    go_enter Try.func47, Try.ntmps47
    go_wp2
    go_ret
    exact ⟨rfl, rfl⟩

set_option maxHeartbeats 1000000 in
theorem plain_any (s : ByteArray) (m : Int) (w : World) (hs : s.size ≤ 9223372036854775807) :
    Calls Try.prog 44 #[.string s, .int .i64 m] w (SomeBool w) := by
  go_enter Try.func44, Try.ntmps44
  go_wp2
  all_goals try (go_ret; exact ⟨_, rfl, rfl⟩)
  go_loop [5] (fun i => ∃ k : Nat, k ≤ s.size ∧ i = .int .i64 k) (fun i => s.size - (intOf i).toNat)
  case atStart => exact ⟨0, Nat.zero_le _, rfl⟩
  case round =>
    obtain ⟨k, hk, rfl⟩ := hrel
    by_cases hlt : k < s.size
    · go_wp2
      all_goals first
        | (go_ret; exact ⟨_, rfl, rfl⟩)
        | (go_round
           case rel => exact ⟨k + 1, by omega, by go_num⟩
           case measure => simp [intOf]; omega)
    · go_wp2
      go_ret
      exact ⟨_, rfl, rfl⟩

end Go.Proofs.Ytohgnmpmledljaa
