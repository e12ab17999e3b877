/-
  The walk of matinslaw3.CivilYear: it returns true; old memory is as it was.
-/
import Derived.Test.YtokcllmceppbmaaCivilShown
namespace Go.Proofs.Ytokcllmceppbmaa
open Go.ChangeShapes Go.WideShapes Go.ChangeAt Go.RowKit

/-- leap years before the year z, from 2000 on (downwards too) -/
def lF (z : Int) : Int := (z + 3) / 4 - (z + 99) / 100 + (z + 399) / 400
theorem lF_succ (z : Int) : lF (z + 1) = lF z + lp z := by
  unfold lF
  rcases lp_eq z with ⟨h, h1, h2⟩ | ⟨h, h1⟩ <;> rw [h]
  · rcases h2 with h2 | h2 <;> omega
  · by_cases h4 : z % 4 = 0
    · have h100 : z % 100 = 0 := by omega
      have h400 : z % 400 ≠ 0 := by omega
      omega
    · omega
theorem lF_400 (z : Int) : lF (z + 400) = lF z + 97 := by unfold lF; omega

set_option maxHeartbeats 4000000 in
theorem year_any (y : Int) (w : World) : Calls Try.prog 7 #[.int .i64 y] w fun e w' => e = .returned (.bool true) ∧ Below w.heap.size w w' := by
  by_cases r1 : y < -100000
  · go_enter Try.func7, Try.ntmps7
    go_wp2_with fail
    refine (shown_any _).mono ?_
    rintro e w1 ⟨rfl, hb1⟩
    go_wp2_with fail
    go_ret
    exact ⟨rfl, hb1⟩
  · by_cases r2 : 100000 < y
    · go_enter Try.func7, Try.ntmps7
      go_wp2_with fail
      refine (shown_any _).mono ?_
      rintro e w1 ⟨rfl, hb1⟩
      go_wp2_with fail
      go_ret
      exact ⟨rfl, hb1⟩
    · have b1 : decide (y < -100000) = false := by simp; omega
      have b2 : decide (100000 < y) = false := by simp; omega
      have r3 : -100000 ≤ y := by omega
      have r4 : y ≤ 100000 := by omega
      clear r1 r2
      go_enter Try.func7, Try.ntmps7
      go_wp2_with fail
      refine (shown_any _).mono ?_
      rintro e w1 ⟨rfl, hb1⟩
      go_wp2_with fail
      go_loop [3, 4] (fun n m => ∃ j s : Int, 0 ≤ j ∧ j ≤ 14 ∧ Hid ((j = 0 → s = 0) ∧ (1 ≤ j → j ≤ 13 → s = dM y j) ∧ (j = 14 → s = longI y)) ∧ 0 ≤ s ∧ s ≤ 31 * j ∧ n = .int .i64 s ∧ m = .int .i64 j) (fun _ m => (14 - intOf m).toNat)
      case atStart => exact ⟨0, 0, by omega, by omega, ⟨fun _ => rfl, fun h => absurd h (by omega), fun h => absurd h (by omega)⟩, by omega, by omega, rfl, rfl⟩
      case round =>
        obtain ⟨j, s, j0, j1, HR, s0, s1, rfl, rfl⟩ := hrel
        have dj := daysI_bd y j
        by_cases hj : j ≤ 13
        · have HS : Hid ((j + 1 = 0 → s + daysI y j = 0) ∧ (1 ≤ j + 1 → j + 1 ≤ 13 → s + daysI y j = dM y (j + 1)) ∧ (j + 1 = 14 → s + daysI y j = longI y)) := by
            obtain ⟨h1, h2, h3⟩ := HR.out
            refine ⟨fun h => absurd h (by omega), fun _ _ => ?_, fun h => ?_⟩
            · by_cases hz : j = 0
              · subst hz
                have e1 := dM_1 y
                have e2 : dM y (0 + 1) = 0 := e1
                have e3 := daysI_0 y 0 (by omega)
                have e4 := h1 rfl
                omega
              · have e1 := dM_succ y j (by omega) (by omega)
                have e2 := h2 (by omega) (by omega)
                omega
            · have hj13 : j = 13 := by omega
              subst hj13
              have e1 := dM_13 y
              have e2 := h2 (by omega) (by omega)
              have e3 := daysI_0 y 13 (by omega)
              omega
          go_wp2_with (go_at_call 15; refine (days_any _ _ _).mono ?_; rintro e w' ⟨rfl, rfl⟩)
          go_round
          case rel => exact ⟨j + 1, _, by omega, by omega, HS, by omega, by omega, rfl, rfl⟩
          case measure => simp [intOf]; omega
        · have hj14 : j = 14 := by omega
          have HL : Hid (s = longI y) := HR.out.2.2 hj14
          subst hj14
          clear HR dj hj
          rcases Bool.eq_false_or_eq_true (leapB y) with hl | hl
          all_goals
            have HB := Lib.hid hl
            have HW : Hid (longI y = if leapB y = true then 366 else 365) := by
              show longI y = _
              unfold longI lp
              split <;> rfl
            rw [HB.out] at HW
            clear hl
            go_wp2_with (go_at_call 13; refine (leap_any _ _).mono ?_; rintro e w' ⟨rfl, rfl⟩; rw [HB.out])
            go_loop [6, 7] (fun l k => ∃ q c : Int, 0 ≤ q ∧ q ≤ 400 ∧ Hid (c = lF (y + q) - lF y) ∧ 0 ≤ c ∧ c ≤ q ∧ l = .int .i64 c ∧ k = .int .i64 q) (fun _ k => (400 - intOf k).toNat)
            case atStart => exact ⟨0, 0, by omega, by omega, Lib.hid (by rw [Int.add_zero]; omega), by omega, by omega, rfl, rfl⟩
            case round =>
              obtain ⟨q, c, q0, q1, HC, c0, c1, rfl, rfl⟩ := hrel
              by_cases hq : q < 400
              · rcases Bool.eq_false_or_eq_true (leapB (y + q)) with hk | hk
                · have HK := Lib.hid hk
                  have HN : Hid (c + 1 = lF (y + (q + 1)) - lF y) := by
                    show _ = _
                    have e1 := lF_succ (y + q)
                    have e2 : lp (y + q) = 1 := by simp [lp, hk]
                    have e3 := HC.out
                    rw [show y + (q + 1) = y + q + 1 from by omega]
                    omega
                  clear hk HC
                  go_wp2_with (go_at_call 13; refine (leap_any _ _).mono ?_; rintro e w' ⟨rfl, rfl⟩; rw [HK.out])
                  go_round
                  case rel => exact ⟨q + 1, c + 1, by omega, by omega, HN, by omega, by omega, rfl, rfl⟩
                  case measure => simp [intOf]; omega
                · have HK := Lib.hid hk
                  have HN : Hid (c = lF (y + (q + 1)) - lF y) := by
                    show _ = _
                    have e1 := lF_succ (y + q)
                    have e2 : lp (y + q) = 0 := by simp [lp, hk]
                    have e3 := HC.out
                    rw [show y + (q + 1) = y + q + 1 from by omega]
                    omega
                  clear hk HC
                  go_wp2_with (go_at_call 13; refine (leap_any _ _).mono ?_; rintro e w' ⟨rfl, rfl⟩; rw [HK.out])
                  go_round
                  case rel => exact ⟨q + 1, c, by omega, by omega, HN, by omega, by omega, rfl, rfl⟩
                  case measure => simp [intOf]; omega
              · have hq400 : q = 400 := by omega
                subst hq400
                have hc97 : c = 97 := by
                  have e1 := lF_400 y
                  have e2 := HC.out
                  omega
                subst hc97
                have hs' : s = longI y := HL.out
                have hw' : longI y = _ := HW.out
                rw [hw'] at hs'
                simp at hs'
                subst hs'
                clear HC HW HL hw'
                go_wp2_with fail
                go_ret
                exact ⟨rfl, hb1⟩

end Go.Proofs.Ytokcllmceppbmaa
