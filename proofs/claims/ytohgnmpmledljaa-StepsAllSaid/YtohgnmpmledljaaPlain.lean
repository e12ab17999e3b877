import Derived.Test.YtohgnmpmledljaaNameOf
namespace Go.Proofs.Ytohgnmpmledljaa
open Go.ChangeShapes Go.WideShapes Go.ChangeAt Go.RowKit

/-- a text of at most so many bytes, of 32 to 126 each -/
def plainB (s : ByteArray) (m : Int) : Bool := decide ((s.size : Int) ≤ m) && decide (∀ i (h : i < s.size), 32 ≤ s[i].toNat ∧ s[i].toNat ≤ 126)

set_option maxHeartbeats 1000000 in
theorem plain_is (s : ByteArray) (m : Int) (w : World) (hs : s.size ≤ 9223372036854775807) :
    Calls Try.prog 44 #[.string s, .int .i64 m] w fun e w' => e = .returned (.bool (plainB s m)) ∧ w = w' := by
  by_cases hm : m < (s.size : Int)
  · have e : plainB s m = false := by simp [plainB]; intro h; omega
    rw [e]; clear e
    go_enter Try.func44, Try.ntmps44
    go_wp2
    go_ret
    exact ⟨rfl, rfl⟩
  · go_enter Try.func44, Try.ntmps44
    go_wp2
    go_loop [5] (fun i => ∃ k : Nat, k ≤ s.size ∧ i = .int .i64 k ∧ ∀ j (h : j < s.size), j < k → 32 ≤ s[j].toNat ∧ s[j].toNat ≤ 126) (fun i => s.size - (intOf i).toNat)
    case atStart => exact ⟨0, Nat.zero_le _, rfl, fun j _ h => absurd h (Nat.not_lt_zero _)⟩
    case round =>
      obtain ⟨k, hk, rfl, hall⟩ := hrel
      have HALL := Lib.hid hall
      clear hall
      by_cases hlt : k < s.size
      · by_cases b1 : s[k].toNat < 32
        · have e : plainB s m = false := by
            have hn : ¬ ∀ i (h : i < s.size), 32 ≤ s[i].toNat ∧ s[i].toNat ≤ 126 := fun h => by have := h k hlt; omega
            simp only [plainB, decide_eq_false hn, Bool.and_false]
          have E := Lib.hid e; clear e
          go_wp2
          go_ret
          exact ⟨ret_bool E.out.symm, rfl⟩
        · by_cases b2 : 126 < s[k].toNat
          · have e : plainB s m = false := by
              have hn : ¬ ∀ i (h : i < s.size), 32 ≤ s[i].toNat ∧ s[i].toNat ≤ 126 := fun h => by have := h k hlt; omega
              simp only [plainB, decide_eq_false hn, Bool.and_false]
            have E := Lib.hid e; clear e
            go_wp2
            go_ret
            exact ⟨ret_bool E.out.symm, rfl⟩
          · go_wp2
            go_round
            case rel => exact ⟨k + 1, by omega, by go_num, fun j h hj => if hjk : j = k then by subst hjk; omega else HALL.out j h (by omega)⟩
            case measure => simp [intOf]; omega
      · have e : plainB s m = true := by
          have hy : ∀ i (h : i < s.size), 32 ≤ s[i].toNat ∧ s[i].toNat ≤ 126 := fun i h => HALL.out i h (by omega)
          simp only [plainB, decide_eq_true hy, Bool.and_true, decide_eq_true_eq]; omega
        have E := Lib.hid e; clear e
        go_wp2
        go_ret
        exact ⟨ret_bool E.out.symm, rfl⟩

end Go.Proofs.Ytohgnmpmledljaa
