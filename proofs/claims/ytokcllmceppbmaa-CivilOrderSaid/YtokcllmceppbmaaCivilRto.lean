/-
  The contract of matinsref3.To: the second of a day and a time of day, where they may be; old memory is as it was.
-/
import Derived.Test.YtokcllmceppbmaaCivilTo
import Derived.Test.YtokcllmceppbmaaCivilRof
namespace Go.Proofs.Ytokcllmceppbmaa
open Go.ChangeShapes Go.WideShapes Go.ChangeAt Go.RowKit

set_option maxHeartbeats 1000000 in
theorem rto_no0 (y m d h mi s wd : Int) (w : World)  (q0 : y < 2000) : Calls Try.prog 12 #[dateV y m d h mi s wd] w fun e w' => e = .returned (.tuple #[.int .i64 0, .bool false]) ∧ Below w.heap.size w w' := by
  have b0 : decide (y < 2000) = true := by simp; omega
  unfold dateV
  go_enter Try.func12, Try.ntmps12
  go_wp2_with fail
  go_quiet ((go_at_call 16; exact quiet_left (rdays_any y m _)))
  go_wp2_with fail
  go_ret2
  exact ⟨rfl, below_drewN ((Below.refl _ _).alloc (Nat.le_refl _) _) _⟩

set_option maxHeartbeats 1000000 in
theorem rto_no1 (y m d h mi s wd : Int) (w : World) (q0 : 2000 ≤ y) (q1 : 2199 < y) : Calls Try.prog 12 #[dateV y m d h mi s wd] w fun e w' => e = .returned (.tuple #[.int .i64 0, .bool false]) ∧ Below w.heap.size w w' := by
  have b0 : decide (y < 2000) = false := by simp; omega
  have b1 : decide (2199 < y) = true := by simp; omega
  unfold dateV
  go_enter Try.func12, Try.ntmps12
  go_wp2_with fail
  go_quiet ((go_at_call 16; exact quiet_left (rdays_any y m _)))
  go_wp2_with fail
  go_ret2
  exact ⟨rfl, below_drewN ((Below.refl _ _).alloc (Nat.le_refl _) _) _⟩

set_option maxHeartbeats 1000000 in
theorem rto_no2 (y m d h mi s wd : Int) (w : World) (q0 : 2000 ≤ y) (q1 : y ≤ 2199) (q2 : m < 1) : Calls Try.prog 12 #[dateV y m d h mi s wd] w fun e w' => e = .returned (.tuple #[.int .i64 0, .bool false]) ∧ Below w.heap.size w w' := by
  have b0 : decide (y < 2000) = false := by simp; omega
  have b1 : decide (2199 < y) = false := by simp; omega
  have b2 : decide (m < 1) = true := by simp; omega
  unfold dateV
  go_enter Try.func12, Try.ntmps12
  go_wp2_with fail
  go_quiet ((go_at_call 16; exact quiet_left (rdays_any y m _)))
  go_wp2_with fail
  go_ret2
  exact ⟨rfl, below_drewN ((Below.refl _ _).alloc (Nat.le_refl _) _) _⟩

set_option maxHeartbeats 1000000 in
theorem rto_no3 (y m d h mi s wd : Int) (w : World) (q0 : 2000 ≤ y) (q1 : y ≤ 2199) (q2 : 1 ≤ m) (q3 : 12 < m) : Calls Try.prog 12 #[dateV y m d h mi s wd] w fun e w' => e = .returned (.tuple #[.int .i64 0, .bool false]) ∧ Below w.heap.size w w' := by
  have b0 : decide (y < 2000) = false := by simp; omega
  have b1 : decide (2199 < y) = false := by simp; omega
  have b2 : decide (m < 1) = false := by simp; omega
  have b3 : decide (12 < m) = true := by simp; omega
  unfold dateV
  go_enter Try.func12, Try.ntmps12
  go_wp2_with fail
  go_quiet ((go_at_call 16; exact quiet_left (rdays_any y m _)))
  go_wp2_with fail
  go_ret2
  exact ⟨rfl, below_drewN ((Below.refl _ _).alloc (Nat.le_refl _) _) _⟩

set_option maxHeartbeats 1000000 in
theorem rto_no4 (y m d h mi s wd : Int) (w : World) (q0 : 2000 ≤ y) (q1 : y ≤ 2199) (q2 : 1 ≤ m) (q3 : m ≤ 12) (q4 : d < 1) : Calls Try.prog 12 #[dateV y m d h mi s wd] w fun e w' => e = .returned (.tuple #[.int .i64 0, .bool false]) ∧ Below w.heap.size w w' := by
  have b0 : decide (y < 2000) = false := by simp; omega
  have b1 : decide (2199 < y) = false := by simp; omega
  have b2 : decide (m < 1) = false := by simp; omega
  have b3 : decide (12 < m) = false := by simp; omega
  have b4 : decide (d < 1) = true := by simp; omega
  unfold dateV
  go_enter Try.func12, Try.ntmps12
  go_wp2_with fail
  go_quiet ((go_at_call 16; exact quiet_left (rdays_any y m _)))
  go_wp2_with fail
  go_ret2
  exact ⟨rfl, below_drewN ((Below.refl _ _).alloc (Nat.le_refl _) _) _⟩

set_option maxHeartbeats 1000000 in
theorem rto_no5 (y m d h mi s wd : Int) (w : World) (q0 : 2000 ≤ y) (q1 : y ≤ 2199) (q2 : 1 ≤ m) (q3 : m ≤ 12) (q4 : 1 ≤ d) (q5 : daysI y m < d) : Calls Try.prog 12 #[dateV y m d h mi s wd] w fun e w' => e = .returned (.tuple #[.int .i64 0, .bool false]) ∧ Below w.heap.size w w' := by
  have b0 : decide (y < 2000) = false := by simp; omega
  have b1 : decide (2199 < y) = false := by simp; omega
  have b2 : decide (m < 1) = false := by simp; omega
  have b3 : decide (12 < m) = false := by simp; omega
  have b4 : decide (d < 1) = false := by simp; omega
  have b5 : decide (daysI y m < d) = true := by simp; omega
  unfold dateV
  go_enter Try.func12, Try.ntmps12
  go_wp2_with fail
  go_quiet ((go_at_call 16; exact quiet_left (rdays_any y m _)))
  go_wp2_with fail
  go_ret2
  exact ⟨rfl, below_drewN ((Below.refl _ _).alloc (Nat.le_refl _) _) _⟩

set_option maxHeartbeats 1000000 in
theorem rto_no6 (y m d h mi s wd : Int) (w : World) (q0 : 2000 ≤ y) (q1 : y ≤ 2199) (q2 : 1 ≤ m) (q3 : m ≤ 12) (q4 : 1 ≤ d) (q5 : d ≤ daysI y m) (q6 : h < 0) : Calls Try.prog 12 #[dateV y m d h mi s wd] w fun e w' => e = .returned (.tuple #[.int .i64 0, .bool false]) ∧ Below w.heap.size w w' := by
  have b0 : decide (y < 2000) = false := by simp; omega
  have b1 : decide (2199 < y) = false := by simp; omega
  have b2 : decide (m < 1) = false := by simp; omega
  have b3 : decide (12 < m) = false := by simp; omega
  have b4 : decide (d < 1) = false := by simp; omega
  have b5 : decide (daysI y m < d) = false := by simp; omega
  have b6 : decide (h < 0) = true := by simp; omega
  unfold dateV
  go_enter Try.func12, Try.ntmps12
  go_wp2_with fail
  go_quiet ((go_at_call 16; exact quiet_left (rdays_any y m _)))
  go_wp2_with fail
  go_ret2
  exact ⟨rfl, below_drewN ((Below.refl _ _).alloc (Nat.le_refl _) _) _⟩

set_option maxHeartbeats 1000000 in
theorem rto_no7 (y m d h mi s wd : Int) (w : World) (q0 : 2000 ≤ y) (q1 : y ≤ 2199) (q2 : 1 ≤ m) (q3 : m ≤ 12) (q4 : 1 ≤ d) (q5 : d ≤ daysI y m) (q6 : 0 ≤ h) (q7 : 23 < h) : Calls Try.prog 12 #[dateV y m d h mi s wd] w fun e w' => e = .returned (.tuple #[.int .i64 0, .bool false]) ∧ Below w.heap.size w w' := by
  have b0 : decide (y < 2000) = false := by simp; omega
  have b1 : decide (2199 < y) = false := by simp; omega
  have b2 : decide (m < 1) = false := by simp; omega
  have b3 : decide (12 < m) = false := by simp; omega
  have b4 : decide (d < 1) = false := by simp; omega
  have b5 : decide (daysI y m < d) = false := by simp; omega
  have b6 : decide (h < 0) = false := by simp; omega
  have b7 : decide (23 < h) = true := by simp; omega
  unfold dateV
  go_enter Try.func12, Try.ntmps12
  go_wp2_with fail
  go_quiet ((go_at_call 16; exact quiet_left (rdays_any y m _)))
  go_wp2_with fail
  go_ret2
  exact ⟨rfl, below_drewN ((Below.refl _ _).alloc (Nat.le_refl _) _) _⟩

set_option maxHeartbeats 1000000 in
theorem rto_no8 (y m d h mi s wd : Int) (w : World) (q0 : 2000 ≤ y) (q1 : y ≤ 2199) (q2 : 1 ≤ m) (q3 : m ≤ 12) (q4 : 1 ≤ d) (q5 : d ≤ daysI y m) (q6 : 0 ≤ h) (q7 : h ≤ 23) (q8 : mi < 0) : Calls Try.prog 12 #[dateV y m d h mi s wd] w fun e w' => e = .returned (.tuple #[.int .i64 0, .bool false]) ∧ Below w.heap.size w w' := by
  have b0 : decide (y < 2000) = false := by simp; omega
  have b1 : decide (2199 < y) = false := by simp; omega
  have b2 : decide (m < 1) = false := by simp; omega
  have b3 : decide (12 < m) = false := by simp; omega
  have b4 : decide (d < 1) = false := by simp; omega
  have b5 : decide (daysI y m < d) = false := by simp; omega
  have b6 : decide (h < 0) = false := by simp; omega
  have b7 : decide (23 < h) = false := by simp; omega
  have b8 : decide (mi < 0) = true := by simp; omega
  unfold dateV
  go_enter Try.func12, Try.ntmps12
  go_wp2_with fail
  go_quiet ((go_at_call 16; exact quiet_left (rdays_any y m _)))
  go_wp2_with fail
  go_ret2
  exact ⟨rfl, below_drewN ((Below.refl _ _).alloc (Nat.le_refl _) _) _⟩

set_option maxHeartbeats 1000000 in
theorem rto_no9 (y m d h mi s wd : Int) (w : World) (q0 : 2000 ≤ y) (q1 : y ≤ 2199) (q2 : 1 ≤ m) (q3 : m ≤ 12) (q4 : 1 ≤ d) (q5 : d ≤ daysI y m) (q6 : 0 ≤ h) (q7 : h ≤ 23) (q8 : 0 ≤ mi) (q9 : 59 < mi) : Calls Try.prog 12 #[dateV y m d h mi s wd] w fun e w' => e = .returned (.tuple #[.int .i64 0, .bool false]) ∧ Below w.heap.size w w' := by
  have b0 : decide (y < 2000) = false := by simp; omega
  have b1 : decide (2199 < y) = false := by simp; omega
  have b2 : decide (m < 1) = false := by simp; omega
  have b3 : decide (12 < m) = false := by simp; omega
  have b4 : decide (d < 1) = false := by simp; omega
  have b5 : decide (daysI y m < d) = false := by simp; omega
  have b6 : decide (h < 0) = false := by simp; omega
  have b7 : decide (23 < h) = false := by simp; omega
  have b8 : decide (mi < 0) = false := by simp; omega
  have b9 : decide (59 < mi) = true := by simp; omega
  unfold dateV
  go_enter Try.func12, Try.ntmps12
  go_wp2_with fail
  go_quiet ((go_at_call 16; exact quiet_left (rdays_any y m _)))
  go_wp2_with fail
  go_ret2
  exact ⟨rfl, below_drewN ((Below.refl _ _).alloc (Nat.le_refl _) _) _⟩

set_option maxHeartbeats 1000000 in
theorem rto_no10 (y m d h mi s wd : Int) (w : World) (q0 : 2000 ≤ y) (q1 : y ≤ 2199) (q2 : 1 ≤ m) (q3 : m ≤ 12) (q4 : 1 ≤ d) (q5 : d ≤ daysI y m) (q6 : 0 ≤ h) (q7 : h ≤ 23) (q8 : 0 ≤ mi) (q9 : mi ≤ 59) (q10 : s < 0) : Calls Try.prog 12 #[dateV y m d h mi s wd] w fun e w' => e = .returned (.tuple #[.int .i64 0, .bool false]) ∧ Below w.heap.size w w' := by
  have b0 : decide (y < 2000) = false := by simp; omega
  have b1 : decide (2199 < y) = false := by simp; omega
  have b2 : decide (m < 1) = false := by simp; omega
  have b3 : decide (12 < m) = false := by simp; omega
  have b4 : decide (d < 1) = false := by simp; omega
  have b5 : decide (daysI y m < d) = false := by simp; omega
  have b6 : decide (h < 0) = false := by simp; omega
  have b7 : decide (23 < h) = false := by simp; omega
  have b8 : decide (mi < 0) = false := by simp; omega
  have b9 : decide (59 < mi) = false := by simp; omega
  have b10 : decide (s < 0) = true := by simp; omega
  unfold dateV
  go_enter Try.func12, Try.ntmps12
  go_wp2_with fail
  go_quiet ((go_at_call 16; exact quiet_left (rdays_any y m _)))
  go_wp2_with fail
  go_ret2
  exact ⟨rfl, below_drewN ((Below.refl _ _).alloc (Nat.le_refl _) _) _⟩

set_option maxHeartbeats 1000000 in
theorem rto_no11 (y m d h mi s wd : Int) (w : World) (q0 : 2000 ≤ y) (q1 : y ≤ 2199) (q2 : 1 ≤ m) (q3 : m ≤ 12) (q4 : 1 ≤ d) (q5 : d ≤ daysI y m) (q6 : 0 ≤ h) (q7 : h ≤ 23) (q8 : 0 ≤ mi) (q9 : mi ≤ 59) (q10 : 0 ≤ s) (q11 : 59 < s) : Calls Try.prog 12 #[dateV y m d h mi s wd] w fun e w' => e = .returned (.tuple #[.int .i64 0, .bool false]) ∧ Below w.heap.size w w' := by
  have b0 : decide (y < 2000) = false := by simp; omega
  have b1 : decide (2199 < y) = false := by simp; omega
  have b2 : decide (m < 1) = false := by simp; omega
  have b3 : decide (12 < m) = false := by simp; omega
  have b4 : decide (d < 1) = false := by simp; omega
  have b5 : decide (daysI y m < d) = false := by simp; omega
  have b6 : decide (h < 0) = false := by simp; omega
  have b7 : decide (23 < h) = false := by simp; omega
  have b8 : decide (mi < 0) = false := by simp; omega
  have b9 : decide (59 < mi) = false := by simp; omega
  have b10 : decide (s < 0) = false := by simp; omega
  have b11 : decide (59 < s) = true := by simp; omega
  unfold dateV
  go_enter Try.func12, Try.ntmps12
  go_wp2_with fail
  go_quiet ((go_at_call 16; exact quiet_left (rdays_any y m _)))
  go_wp2_with fail
  go_ret2
  exact ⟨rfl, below_drewN ((Below.refl _ _).alloc (Nat.le_refl _) _) _⟩

set_option maxHeartbeats 4000000 in
theorem rto_yes (y m d h mi s wd : Int) (w : World) (hv : MayD y m d h mi s) : Calls Try.prog 12 #[dateV y m d h mi s wd] w fun e w' => e = .returned (.tuple #[.int .i64 (secI y m d h mi s), .bool true]) ∧ Below w.heap.size w w' := by
  obtain ⟨a0, b0, a1, b1, a2, b2, a3, b3, a4, b4, a5, b5⟩ := hv
  have b0' : decide (y < 2000) = false := by simp; omega
  have b1' : decide (2199 < y) = false := by simp; omega
  have b2' : decide (m < 1) = false := by simp; omega
  have b3' : decide (12 < m) = false := by simp; omega
  have b4' : decide (d < 1) = false := by simp; omega
  have b5' : decide (daysI y m < d) = false := by simp; omega
  have b6' : decide (h < 0) = false := by simp; omega
  have b7' : decide (23 < h) = false := by simp; omega
  have b8' : decide (mi < 0) = false := by simp; omega
  have b9' : decide (59 < mi) = false := by simp; omega
  have b10' : decide (s < 0) = false := by simp; omega
  have b11' : decide (59 < s) = false := by simp; omega
  have d31 := daysI_bd y m
  have yb := dY_mono y 2199 b0
  have y0 := dY_mono 2000 y a0
  have e99 : dY 2199 = 72684 := by decide
  have e00 := dY_2000
  have mb := dM_mono y m 13 (by omega)
  have m0 := dM_mono y 1 m a1
  have m13 := dM_13 y
  have m1 := dM_1 y
  have lb := longI_bd y
  have z1 : dY y ≤ 72684 := by omega
  have z2 : 0 ≤ dY y := by omega
  have z3 : dM y m ≤ 366 := by omega
  have z4 : 0 ≤ dM y m := by omega
  have z5 : dY 2000 ≤ 0 ∧ 0 ≤ dY 2000 := by omega
  have z6 : dM y 1 ≤ 0 ∧ 0 ≤ dM y 1 := by omega
  have HSEC : Hid (secI y m d h mi s = (dY y + dM y m + d - 1) * 86400 + h * 3600 + mi * 60 + s) := rfl
  clear yb y0 e99 e00 mb m0 m13 m1 lb
  unfold dateV
  go_enter Try.func12, Try.ntmps12
  go_wp2_with fail
  go_quiet ((go_at_call 16; exact quiet_left (rdays_any y m _)))
  go_wp2_with fail
  go_loop [4, 5] (fun days yr => ∃ k dd : Int, 2000 ≤ k ∧ k ≤ y ∧ dd ≤ d - 1 + dY k ∧ d - 1 + dY k ≤ dd ∧ 0 ≤ dd ∧ dd ≤ 80000 ∧ days = .int .i64 dd ∧ yr = .int .i64 k) (fun _ yr => (y - intOf yr).toNat)
  case atStart => exact ⟨2000, _, by omega, by omega, by omega, by omega, by omega, by omega, rfl, rfl⟩
  case round =>
    obtain ⟨k, dd, k0, k1, e1, e2, d0, d1, rfl, rfl⟩ := hrel
    by_cases hk : k < y
    · have g0 := dY_mono (k + 1) y (by omega)
      have ds := dY_succ k
      have lk := longI_bd k
      rcases Bool.eq_false_or_eq_true (leapB k) with hl | hl
      · have lv : longI k = 366 := by simp [longI, lp, hl]
        have g1 : dd + 365 + 1 ≤ d - 1 + dY (k + 1) := by omega
        have g2 : d - 1 + dY (k + 1) ≤ dd + 365 + 1 := by omega
        have g3 : dd + 365 + 1 ≤ 80000 := by omega
        have HL := Lib.hid hl
        clear ds g0 e1 e2 lv hl lk
        go_wp2_with (go_at_call 14; refine (rleap_any _ _).mono ?_; rintro e w' ⟨rfl, rfl⟩; rw [HL.out])
        go_round
        case rel => exact ⟨k + 1, _, by omega, by omega, g1, g2, by omega, g3, rfl, rfl⟩
        case measure => simp [intOf]; omega
      · have lv : longI k = 365 := by simp [longI, lp, hl]
        have g1 : dd + 365 ≤ d - 1 + dY (k + 1) := by omega
        have g2 : d - 1 + dY (k + 1) ≤ dd + 365 := by omega
        have g3 : dd + 365 ≤ 80000 := by omega
        have HL := Lib.hid hl
        clear ds g0 e1 e2 lv hl lk
        go_wp2_with (go_at_call 14; refine (rleap_any _ _).mono ?_; rintro e w' ⟨rfl, rfl⟩; rw [HL.out])
        go_round
        case rel => exact ⟨k + 1, _, by omega, by omega, g1, g2, by omega, g3, rfl, rfl⟩
        case measure => simp [intOf]; omega
    · obtain rfl : k = y := by omega
      go_wp2_with fail
      go_loop [4, 6] (fun days mo => ∃ j ee : Int, 1 ≤ j ∧ j ≤ m ∧ ee ≤ dd + dM k j ∧ dd + dM k j ≤ ee ∧ 0 ≤ ee ∧ ee ≤ 90000 ∧ days = .int .i64 ee ∧ mo = .int .i64 j) (fun _ mo => (m - intOf mo).toNat)
      case atStart => exact ⟨1, _, by omega, by omega, by omega, by omega, by omega, by omega, rfl, rfl⟩
      case round =>
        obtain ⟨j, ee, j0, j1, f1, f2, f3, f4, rfl, rfl⟩ := hrel
        have dj := daysI_bd k j
        by_cases hj : j < m
        · have g0 := dM_mono k (j + 1) m (by omega)
          have ds := dM_succ k j j0 (by omega)
          have g1 : ee + daysI k j ≤ dd + dM k (j + 1) := by omega
          have g2 : dd + dM k (j + 1) ≤ ee + daysI k j := by omega
          have g3 : ee + daysI k j ≤ 90000 := by omega
          clear ds g0 e1 e2 f1 f2
          go_wp2_with (go_at_call 16; refine (rdays_any _ _ _).mono ?_; rintro e w' ⟨rfl, rfl⟩)
          go_round
          case rel => exact ⟨j + 1, _, by omega, by omega, g1, g2, by omega, g3, rfl, rfl⟩
          case measure => simp [intOf]; omega
        · obtain rfl : j = m := by omega
          have HE : Hid (ee = dY k + dM k j + d - 1) := Lib.hid (by omega)
          clear e1 e2 f1 f2 hk hj
          go_wp2_with fail
          go_ret2
          refine ⟨?_, below_drewN ((Below.refl _ _).alloc (Nat.le_refl _) _) _⟩
          rw [HSEC.out, ← HE.out]
          rfl

theorem rto_no (y m d h mi s wd : Int) (w : World) (hv : ¬ MayD y m d h mi s) : Calls Try.prog 12 #[dateV y m d h mi s wd] w fun e w' => e = .returned (.tuple #[.int .i64 0, .bool false]) ∧ Below w.heap.size w w' := by
  by_cases q0 : 2000 ≤ y
  case neg => exact rto_no0 y m d h mi s wd w  (by omega)
  by_cases q1 : y ≤ 2199
  case neg => exact rto_no1 y m d h mi s wd w q0 (by omega)
  by_cases q2 : 1 ≤ m
  case neg => exact rto_no2 y m d h mi s wd w q0 q1 (by omega)
  by_cases q3 : m ≤ 12
  case neg => exact rto_no3 y m d h mi s wd w q0 q1 q2 (by omega)
  by_cases q4 : 1 ≤ d
  case neg => exact rto_no4 y m d h mi s wd w q0 q1 q2 q3 (by omega)
  by_cases q5 : d ≤ daysI y m
  case neg => exact rto_no5 y m d h mi s wd w q0 q1 q2 q3 q4 (by omega)
  by_cases q6 : 0 ≤ h
  case neg => exact rto_no6 y m d h mi s wd w q0 q1 q2 q3 q4 q5 (by omega)
  by_cases q7 : h ≤ 23
  case neg => exact rto_no7 y m d h mi s wd w q0 q1 q2 q3 q4 q5 q6 (by omega)
  by_cases q8 : 0 ≤ mi
  case neg => exact rto_no8 y m d h mi s wd w q0 q1 q2 q3 q4 q5 q6 q7 (by omega)
  by_cases q9 : mi ≤ 59
  case neg => exact rto_no9 y m d h mi s wd w q0 q1 q2 q3 q4 q5 q6 q7 q8 (by omega)
  by_cases q10 : 0 ≤ s
  case neg => exact rto_no10 y m d h mi s wd w q0 q1 q2 q3 q4 q5 q6 q7 q8 q9 (by omega)
  by_cases q11 : s ≤ 59
  case neg => exact rto_no11 y m d h mi s wd w q0 q1 q2 q3 q4 q5 q6 q7 q8 q9 q10 (by omega)
  exact absurd ⟨q0, q1, q2, q3, q4, q5, q6, q7, q8, q9, q10, q11⟩ hv

end Go.Proofs.Ytokcllmceppbmaa
