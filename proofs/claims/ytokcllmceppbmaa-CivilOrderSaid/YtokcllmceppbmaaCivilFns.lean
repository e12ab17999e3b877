/-
  Contracts of civil.Leap, civil.Days, civil.long, civil.within, matinsref3.Leap, matinsref3.Days: what they compute, at all integers; the world is as it was.
-/
import Derived.Test.YtokcllmceppbmaaRows
import Derived.Test.YtokcllmceppbmaaCivilMath
import Derived.WalkKit
import Derived.ProofKit
import Derived.OpenShut
import Derived.Lib.Hide
namespace Go.Proofs.Ytokcllmceppbmaa
open Go.ChangeShapes Go.WideShapes Go.ChangeAt Go.RowKit

theorem ret_bool {a b : Bool} (h : a = b) : Ending.returned (.bool a) = .returned (.bool b) := by rw [h]
theorem ret_int {k : IntKind} {a b : Int} (h : a = b) : Ending.returned (.int k a) = .returned (.int k b) := by rw [h]

theorem tmod_zero (y k : Int) : y.tmod k = 0 ↔ y % k = 0 := by
  rw [← Int.dvd_iff_tmod_eq_zero, ← Int.dvd_iff_emod_eq_zero]

theorem leapB_tmod (y : Int) : leapB y = (y.tmod 4 == 0 && (y.tmod 100 != 0 || y.tmod 400 == 0)) := by
  rw [Bool.eq_iff_iff]
  simp [leapB, tmod_zero]

theorem leap_any (y : Int) (w : World) : Calls Try.prog 13 #[.int .i64 y] w fun e w' => e = .returned (.bool (leapB y)) ∧ w = w' := by
  rw [leapB_tmod]
  go_enter Try.func13, Try.ntmps13
  go_wp2
  all_goals go_ret
  all_goals exact ⟨ret_bool (by first | (simp [*]; done) | (simp; done) | simp_all), rfl⟩

theorem tmod_400 (y : Int) (h : ¬ y.tmod 4 = 0) : ¬ y.tmod 400 = 0 := by
  rw [tmod_zero] at *
  omega

theorem rleap_any (y : Int) (w : World) : Calls Try.prog 14 #[.int .i64 y] w fun e w' => e = .returned (.bool (leapB y)) ∧ w = w' := by
  rw [leapB_tmod]
  by_cases h4 : y.tmod 4 = 0
  · go_enter Try.func14, Try.ntmps14
    go_wp2
    all_goals go_ret
    all_goals exact ⟨ret_bool (by simp [*]), rfl⟩
  · have h400 : (y.tmod 400 == 0) = false := by simpa using tmod_400 y h4
    have h4' : (y.tmod 4 == 0) = false := by simpa using h4
    rw [h400, h4']
    clear h4
    go_enter Try.func14, Try.ntmps14
    go_wp2
    all_goals go_ret
    all_goals exact ⟨ret_bool (by simp_all), rfl⟩

theorem long_any (y : Int) (w : World) : Calls Try.prog 17 #[.int .i64 y] w fun e w' => e = .returned (.int .i64 (longI y)) ∧ w = w' := by
  by_cases h : leapB y = true
  · have e : longI y = 366 := by simp [longI, lp, h]
    rw [e]
    have H := Lib.hid h; clear h e
    go_enter Try.func17, Try.ntmps17
    go_wp2_with (go_at_call 13; refine (leap_any _ _).mono ?_; rintro e w' ⟨rfl, rfl⟩; rw [H.out])
    go_ret
    exact ⟨rfl, rfl⟩
  · have e : longI y = 365 := by simp [longI, lp, h]
    rw [e]
    have h' : leapB y = false := by simpa using h
    have H := Lib.hid h'; clear h h' e
    go_enter Try.func17, Try.ntmps17
    go_wp2_with (go_at_call 13; refine (leap_any _ _).mono ?_; rintro e w' ⟨rfl, rfl⟩; rw [H.out])
    go_ret
    exact ⟨rfl, rfl⟩

theorem months (m : Int) : m = 2 ∨ m = 1 ∨ m = 3 ∨ m = 4 ∨ m = 5 ∨ m = 6 ∨ m = 7 ∨ m = 8 ∨ m = 9 ∨ m = 10 ∨ m = 11 ∨ m = 12 ∨ m < 1 ∨ 12 < m := by omega

theorem days2 (y : Int) (w : World) : Calls Try.prog 15 #[.int .i64 y, .int .i64 2] w fun e w' => e = .returned (.int .i64 (daysI y 2)) ∧ w = w' := by
  by_cases h : leapB y = true
  · have e : daysI y 2 = 29 := by simp [daysI, lp, h]
    rw [e]
    have H := Lib.hid h; clear h e
    go_enter Try.func15, Try.ntmps15
    go_wp2_with (go_at_call 13; refine (leap_any _ _).mono ?_; rintro e w' ⟨rfl, rfl⟩; rw [H.out])
    go_ret
    exact ⟨rfl, rfl⟩
  · have e : daysI y 2 = 28 := by simp [daysI, lp, h]
    rw [e]
    have h' : leapB y = false := by simpa using h
    have H := Lib.hid h'; clear h h' e
    go_enter Try.func15, Try.ntmps15
    go_wp2_with (go_at_call 13; refine (leap_any _ _).mono ?_; rintro e w' ⟨rfl, rfl⟩; rw [H.out])
    go_ret
    exact ⟨rfl, rfl⟩

theorem rdays2 (y : Int) (w : World) : Calls Try.prog 16 #[.int .i64 y, .int .i64 2] w fun e w' => e = .returned (.int .i64 (daysI y 2)) ∧ w = w' := by
  by_cases h : leapB y = true
  · have e : daysI y 2 = 29 := by simp [daysI, lp, h]
    rw [e]
    have H := Lib.hid h; clear h e
    go_enter Try.func16, Try.ntmps16
    go_wp2_with (go_at_call 14; refine (rleap_any _ _).mono ?_; rintro e w' ⟨rfl, rfl⟩; rw [H.out])
    go_ret
    exact ⟨rfl, rfl⟩
  · have e : daysI y 2 = 28 := by simp [daysI, lp, h]
    rw [e]
    have h' : leapB y = false := by simpa using h
    have H := Lib.hid h'; clear h h' e
    go_enter Try.func16, Try.ntmps16
    go_wp2_with (go_at_call 14; refine (rleap_any _ _).mono ?_; rintro e w' ⟨rfl, rfl⟩; rw [H.out])
    go_ret
    exact ⟨rfl, rfl⟩

set_option maxHeartbeats 1000000 in
theorem days_any (y m : Int) (w : World) : Calls Try.prog 15 #[.int .i64 y, .int .i64 m] w fun e w' => e = .returned (.int .i64 (daysI y m)) ∧ w = w' := by
  rcases months m with rfl | rfl | rfl | rfl | rfl | rfl | rfl | rfl | rfl | rfl | rfl | rfl | h | h
  · exact days2 y w
  all_goals
    go_enter Try.func15, Try.ntmps15
    go_wp2_with fail
    go_ret
    refine ⟨ret_int ?_, rfl⟩
    first | rfl | exact (daysI_0 y m (.inl h)).symm | exact (daysI_0 y m (.inr h)).symm

set_option maxHeartbeats 1000000 in
theorem rdays_any (y m : Int) (w : World) : Calls Try.prog 16 #[.int .i64 y, .int .i64 m] w fun e w' => e = .returned (.int .i64 (daysI y m)) ∧ w = w' := by
  rcases months m with rfl | rfl | rfl | rfl | rfl | rfl | rfl | rfl | rfl | rfl | rfl | rfl | h | h
  · exact rdays2 y w
  all_goals
    go_enter Try.func16, Try.ntmps16
    go_wp2_with fail
    go_ret
    refine ⟨ret_int ?_, rfl⟩
    first | rfl | exact (daysI_0 y m (.inl h)).symm | exact (daysI_0 y m (.inr h)).symm

theorem within_true (n lo hi : Int) (w : World) (h1 : lo ≤ n) (h2 : n ≤ hi) : Calls Try.prog 18 #[.int .i64 n, .int .i64 lo, .int .i64 hi] w fun e w' => e = .returned (.bool true) ∧ w = w' := by
  go_enter Try.func18, Try.ntmps18
  go_wp2
  go_ret
  exact ⟨ret_bool (by first | (simp; done) | (simp; omega)), rfl⟩

theorem within_false (n lo hi : Int) (w : World) (h : n < lo ∨ hi < n) : Calls Try.prog 18 #[.int .i64 n, .int .i64 lo, .int .i64 hi] w fun e w' => e = .returned (.bool false) ∧ w = w' := by
  go_enter Try.func18, Try.ntmps18
  go_wp2
  all_goals go_ret
  all_goals exact ⟨ret_bool (by first | (simp; done) | (simp; omega)), rfl⟩

end Go.Proofs.Ytokcllmceppbmaa
