/-
  The contract of civil.To: the second of a day and a time of day, where they may be; old memory is as it was.
-/
import Derived.Test.YtokcllmceppbmaaCivilOf
import Derived.Deep.QuietTactic
import Derived.Deep.RegionWith
import Derived.BigQuiet
namespace Go.Proofs.Ytokcllmceppbmaa
open Go.ChangeShapes Go.WideShapes Go.ChangeAt Go.RowKit

def MayD (y m d h mi s : Int) : Prop := 2000 ≤ y ∧ y ≤ 2199 ∧ 1 ≤ m ∧ m ≤ 12 ∧ 1 ≤ d ∧ d ≤ daysI y m ∧ 0 ≤ h ∧ h ≤ 23 ∧ 0 ≤ mi ∧ mi ≤ 59 ∧ 0 ≤ s ∧ s ≤ 59
def secI (y m d h mi s : Int) : Int := (dY y + dM y m + d - 1) * 86400 + h * 3600 + mi * 60 + s

theorem quiet_left {P : Program} {f : FuncId} {args : Array Value} {w : World} {n : Nat} {v : Value}
    (h : Calls P f args (w.drewN n) fun e w' => e = .returned v ∧ w.drewN n = w') : Calls P f args (w.drewN n) fun e w' => e = .returned v ∧ ∃ m, w' = w.drewN m :=
  h.mono fun _ _ ⟨he, hm⟩ => ⟨he, n, hm.symm⟩

theorem below_drewN {B : Nat} {a w : World} (h : Below B a w) (n : Nat) : Below B a (w.drewN n) := ⟨h.os, h.tape, h.output, h.size, h.block⟩

set_option maxHeartbeats 1000000 in
theorem to_no0 (y m d h mi s wd : Int) (w : World)  (q0 : y < 2000 ∨ 2199 < y) : Calls Try.prog 11 #[dateV y m d h mi s wd] w fun e w' => e = .returned (.tuple #[.int .i64 0, .bool false]) ∧ Below w.heap.size w w' := by
  unfold dateV
  go_enter Try.func11, Try.ntmps11
  go_wp2_with fail
  go_quiet ((first
    | (go_at_call_of 18 (Value.int IntKind.i64 y); exact quiet_left (within_false y 2000 2199 _ (by omega)))))
  go_wp2_with fail
  go_ret2
  exact ⟨rfl, below_drewN ((Below.refl _ _).alloc (Nat.le_refl _) _) _⟩

set_option maxHeartbeats 1000000 in
theorem to_no1 (y m d h mi s wd : Int) (w : World) (q0 : 2000 ≤ y ∧ y ≤ 2199) (q1 : m < 1 ∨ 12 < m) : Calls Try.prog 11 #[dateV y m d h mi s wd] w fun e w' => e = .returned (.tuple #[.int .i64 0, .bool false]) ∧ Below w.heap.size w w' := by
  obtain ⟨a0, b0⟩ := q0
  unfold dateV
  go_enter Try.func11, Try.ntmps11
  go_wp2_with fail
  go_quiet ((first
    | (go_at_call_of 18 (Value.int IntKind.i64 y); exact quiet_left (within_true y 2000 2199 _ (by omega) (by omega)))
    | (go_at_call_of 18 (Value.int IntKind.i64 m); exact quiet_left (within_false m 1 12 _ (by omega)))))
  go_wp2_with fail
  go_ret2
  exact ⟨rfl, below_drewN ((Below.refl _ _).alloc (Nat.le_refl _) _) _⟩

set_option maxHeartbeats 1000000 in
theorem to_no2 (y m d h mi s wd : Int) (w : World) (q0 : 2000 ≤ y ∧ y ≤ 2199) (q1 : 1 ≤ m ∧ m ≤ 12) (q2 : d < 1 ∨ daysI y m < d) : Calls Try.prog 11 #[dateV y m d h mi s wd] w fun e w' => e = .returned (.tuple #[.int .i64 0, .bool false]) ∧ Below w.heap.size w w' := by
  obtain ⟨a0, b0⟩ := q0
  obtain ⟨a1, b1⟩ := q1
  unfold dateV
  go_enter Try.func11, Try.ntmps11
  go_wp2_with fail
  go_quiet ((first
    | (go_at_call_of 18 (Value.int IntKind.i64 y); exact quiet_left (within_true y 2000 2199 _ (by omega) (by omega)))
    | (go_at_call_of 18 (Value.int IntKind.i64 m); exact quiet_left (within_true m 1 12 _ (by omega) (by omega)))
    | (go_at_call_of 18 (Value.int IntKind.i64 d); exact quiet_left (within_false d 1 (daysI y m) _ (by omega)))
    | (go_at_call 15; exact quiet_left (days_any y m _))))
  go_wp2_with fail
  go_ret2
  exact ⟨rfl, below_drewN ((Below.refl _ _).alloc (Nat.le_refl _) _) _⟩

set_option maxHeartbeats 1000000 in
theorem to_no3 (y m d h mi s wd : Int) (w : World) (q0 : 2000 ≤ y ∧ y ≤ 2199) (q1 : 1 ≤ m ∧ m ≤ 12) (q2 : 1 ≤ d ∧ d ≤ daysI y m) (q3 : h < 0 ∨ 23 < h) : Calls Try.prog 11 #[dateV y m d h mi s wd] w fun e w' => e = .returned (.tuple #[.int .i64 0, .bool false]) ∧ Below w.heap.size w w' := by
  obtain ⟨a0, b0⟩ := q0
  obtain ⟨a1, b1⟩ := q1
  obtain ⟨a2, b2⟩ := q2
  unfold dateV
  go_enter Try.func11, Try.ntmps11
  go_wp2_with fail
  go_quiet ((first
    | (go_at_call_of 18 (Value.int IntKind.i64 y); exact quiet_left (within_true y 2000 2199 _ (by omega) (by omega)))
    | (go_at_call_of 18 (Value.int IntKind.i64 m); exact quiet_left (within_true m 1 12 _ (by omega) (by omega)))
    | (go_at_call_of 18 (Value.int IntKind.i64 d); exact quiet_left (within_true d 1 (daysI y m) _ (by omega) (by omega)))
    | (go_at_call_of 18 (Value.int IntKind.i64 h); exact quiet_left (within_false h 0 23 _ (by omega)))
    | (go_at_call 15; exact quiet_left (days_any y m _))))
  go_wp2_with fail
  go_ret2
  exact ⟨rfl, below_drewN ((Below.refl _ _).alloc (Nat.le_refl _) _) _⟩

set_option maxHeartbeats 1000000 in
theorem to_no4 (y m d h mi s wd : Int) (w : World) (q0 : 2000 ≤ y ∧ y ≤ 2199) (q1 : 1 ≤ m ∧ m ≤ 12) (q2 : 1 ≤ d ∧ d ≤ daysI y m) (q3 : 0 ≤ h ∧ h ≤ 23) (q4 : mi < 0 ∨ 59 < mi) : Calls Try.prog 11 #[dateV y m d h mi s wd] w fun e w' => e = .returned (.tuple #[.int .i64 0, .bool false]) ∧ Below w.heap.size w w' := by
  obtain ⟨a0, b0⟩ := q0
  obtain ⟨a1, b1⟩ := q1
  obtain ⟨a2, b2⟩ := q2
  obtain ⟨a3, b3⟩ := q3
  unfold dateV
  go_enter Try.func11, Try.ntmps11
  go_wp2_with fail
  go_quiet ((first
    | (go_at_call_of 18 (Value.int IntKind.i64 y); exact quiet_left (within_true y 2000 2199 _ (by omega) (by omega)))
    | (go_at_call_of 18 (Value.int IntKind.i64 m); exact quiet_left (within_true m 1 12 _ (by omega) (by omega)))
    | (go_at_call_of 18 (Value.int IntKind.i64 d); exact quiet_left (within_true d 1 (daysI y m) _ (by omega) (by omega)))
    | (go_at_call_of 18 (Value.int IntKind.i64 h); exact quiet_left (within_true h 0 23 _ (by omega) (by omega)))
    | (go_at_call_of 18 (Value.int IntKind.i64 mi); exact quiet_left (within_false mi 0 59 _ (by omega)))
    | (go_at_call 15; exact quiet_left (days_any y m _))))
  go_wp2_with fail
  go_ret2
  exact ⟨rfl, below_drewN ((Below.refl _ _).alloc (Nat.le_refl _) _) _⟩

set_option maxHeartbeats 1000000 in
theorem to_no5 (y m d h mi s wd : Int) (w : World) (q0 : 2000 ≤ y ∧ y ≤ 2199) (q1 : 1 ≤ m ∧ m ≤ 12) (q2 : 1 ≤ d ∧ d ≤ daysI y m) (q3 : 0 ≤ h ∧ h ≤ 23) (q4 : 0 ≤ mi ∧ mi ≤ 59) (q5 : s < 0 ∨ 59 < s) : Calls Try.prog 11 #[dateV y m d h mi s wd] w fun e w' => e = .returned (.tuple #[.int .i64 0, .bool false]) ∧ Below w.heap.size w w' := by
  obtain ⟨a0, b0⟩ := q0
  obtain ⟨a1, b1⟩ := q1
  obtain ⟨a2, b2⟩ := q2
  obtain ⟨a3, b3⟩ := q3
  obtain ⟨a4, b4⟩ := q4
  unfold dateV
  go_enter Try.func11, Try.ntmps11
  go_wp2_with fail
  go_quiet ((first
    | (go_at_call_of 18 (Value.int IntKind.i64 y); exact quiet_left (within_true y 2000 2199 _ (by omega) (by omega)))
    | (go_at_call_of 18 (Value.int IntKind.i64 m); exact quiet_left (within_true m 1 12 _ (by omega) (by omega)))
    | (go_at_call_of 18 (Value.int IntKind.i64 d); exact quiet_left (within_true d 1 (daysI y m) _ (by omega) (by omega)))
    | (go_at_call_of 18 (Value.int IntKind.i64 h); exact quiet_left (within_true h 0 23 _ (by omega) (by omega)))
    | (go_at_call_of 18 (Value.int IntKind.i64 mi); exact quiet_left (within_true mi 0 59 _ (by omega) (by omega)))
    | (go_at_call_of 18 (Value.int IntKind.i64 s); exact quiet_left (within_false s 0 59 _ (by omega)))
    | (go_at_call 15; exact quiet_left (days_any y m _))))
  go_wp2_with fail
  go_ret2
  exact ⟨rfl, below_drewN ((Below.refl _ _).alloc (Nat.le_refl _) _) _⟩

set_option maxHeartbeats 4000000 in
theorem to_yes (y m d h mi s wd : Int) (w : World) (hv : MayD y m d h mi s) : Calls Try.prog 11 #[dateV y m d h mi s wd] w fun e w' => e = .returned (.tuple #[.int .i64 (secI y m d h mi s), .bool true]) ∧ Below w.heap.size w w' := by
  obtain ⟨a0, b0, a1, b1, a2, b2, a3, b3, a4, b4, a5, b5⟩ := hv
  have d31 := daysI_bd y m
  have yb := dY_mono y 2199 b0
  have y0 := dY_mono 2000 y a0
  have e99 : dY 2199 = 72684 := by decide
  have e00 := dY_2000
  have mb := dM_mono y m 13 (by omega)
  have m0 := dM_mono y 1 m a1
  have m13 := dM_13 y
  have m1 := dM_1 y
  have lb := longI_bd y
  have z1 : dY y ≤ 72684 := by omega
  have z2 : 0 ≤ dY y := by omega
  have z3 : dM y m ≤ 366 := by omega
  have z4 : 0 ≤ dM y m := by omega
  have z5 : dY 2000 ≤ 0 ∧ 0 ≤ dY 2000 := by omega
  have z6 : dM y 1 ≤ 0 ∧ 0 ≤ dM y 1 := by omega
  have HSEC : Hid (secI y m d h mi s = (dY y + dM y m + d - 1) * 86400 + h * 3600 + mi * 60 + s) := rfl
  clear yb y0 e99 e00 mb m0 m13 m1 lb
  unfold dateV
  go_enter Try.func11, Try.ntmps11
  go_wp2_with fail
  go_quiet ((first
    | (go_at_call_of 18 (Value.int IntKind.i64 y); exact quiet_left (within_true y 2000 2199 _ (by omega) (by omega)))
    | (go_at_call_of 18 (Value.int IntKind.i64 m); exact quiet_left (within_true m 1 12 _ (by omega) (by omega)))
    | (go_at_call_of 18 (Value.int IntKind.i64 d); exact quiet_left (within_true d 1 (daysI y m) _ (by omega) (by omega)))
    | (go_at_call_of 18 (Value.int IntKind.i64 h); exact quiet_left (within_true h 0 23 _ (by omega) (by omega)))
    | (go_at_call_of 18 (Value.int IntKind.i64 mi); exact quiet_left (within_true mi 0 59 _ (by omega) (by omega)))
    | (go_at_call_of 18 (Value.int IntKind.i64 s); exact quiet_left (within_true s 0 59 _ (by omega) (by omega)))
    | (go_at_call 15; exact quiet_left (days_any y m _))))
  go_wp2_with fail
  go_loop [4, 5] (fun days yr => ∃ k dd : Int, 2000 ≤ k ∧ k ≤ y ∧ dd ≤ d - 1 + dY k ∧ d - 1 + dY k ≤ dd ∧ 0 ≤ dd ∧ dd ≤ 80000 ∧ days = .int .i64 dd ∧ yr = .int .i64 k) (fun _ yr => (y - intOf yr).toNat)
  case atStart => exact ⟨2000, _, by omega, by omega, by omega, by omega, by omega, by omega, rfl, rfl⟩
  case round =>
    obtain ⟨k, dd, k0, k1, e1, e2, d0, d1, rfl, rfl⟩ := hrel
    have lk := longI_bd k
    have HDS : Hid (dY (k + 1) = dY k + longI k) := dY_succ k
    by_cases hk : k < y
    · have g0 := dY_mono (k + 1) y (by omega)
      have ds := dY_succ k
      have g1 : dd + longI k ≤ d - 1 + dY (k + 1) := by omega
      have g2 : d - 1 + dY (k + 1) ≤ dd + longI k := by omega
      have g3 : dd + longI k ≤ 80000 := by omega
      clear ds g0 e1 e2
      go_wp2_with (go_at_call 17; refine (long_any _ _).mono ?_; rintro e w' ⟨rfl, rfl⟩)
      go_round
      case rel => exact ⟨k + 1, _, by omega, by omega, g1, g2, by omega, g3, rfl, rfl⟩
      case measure => simp [intOf]; omega
    · obtain rfl : k = y := by omega
      go_wp2_with fail
      go_loop [4, 6] (fun days mo => ∃ j ee : Int, 1 ≤ j ∧ j ≤ m ∧ ee ≤ dd + dM k j ∧ dd + dM k j ≤ ee ∧ 0 ≤ ee ∧ ee ≤ 90000 ∧ days = .int .i64 ee ∧ mo = .int .i64 j) (fun _ mo => (m - intOf mo).toNat)
      case atStart => exact ⟨1, _, by omega, by omega, by omega, by omega, by omega, by omega, rfl, rfl⟩
      case round =>
        obtain ⟨j, ee, j0, j1, f1, f2, f3, f4, rfl, rfl⟩ := hrel
        have dj := daysI_bd k j
        by_cases hj : j < m
        · have g0 := dM_mono k (j + 1) m (by omega)
          have ds := dM_succ k j j0 (by omega)
          have g1 : ee + daysI k j ≤ dd + dM k (j + 1) := by omega
          have g2 : dd + dM k (j + 1) ≤ ee + daysI k j := by omega
          have g3 : ee + daysI k j ≤ 90000 := by omega
          clear ds g0 e1 e2 f1 f2
          go_wp2_with (go_at_call 15; refine (days_any _ _ _).mono ?_; rintro e w' ⟨rfl, rfl⟩)
          go_round
          case rel => exact ⟨j + 1, _, by omega, by omega, g1, g2, by omega, g3, rfl, rfl⟩
          case measure => simp [intOf]; omega
        · obtain rfl : j = m := by omega
          have HE : Hid (ee = dY k + dM k j + d - 1) := Lib.hid (by omega)
          clear e1 e2 f1 f2 hk hj
          go_wp2_with fail
          go_ret2
          refine ⟨?_, below_drewN ((Below.refl _ _).alloc (Nat.le_refl _) _) _⟩
          rw [HSEC.out, ← HE.out]
          rfl

theorem to_no (y m d h mi s wd : Int) (w : World) (hv : ¬ MayD y m d h mi s) : Calls Try.prog 11 #[dateV y m d h mi s wd] w fun e w' => e = .returned (.tuple #[.int .i64 0, .bool false]) ∧ Below w.heap.size w w' := by
  by_cases q0 : 2000 ≤ y ∧ y ≤ 2199
  · by_cases q1 : 1 ≤ m ∧ m ≤ 12
    · by_cases q2 : 1 ≤ d ∧ d ≤ daysI y m
      · by_cases q3 : 0 ≤ h ∧ h ≤ 23
        · by_cases q4 : 0 ≤ mi ∧ mi ≤ 59
          · by_cases q5 : 0 ≤ s ∧ s ≤ 59
            · exact absurd ⟨q0.1, q0.2, q1.1, q1.2, q2.1, q2.2, q3.1, q3.2, q4.1, q4.2, q5.1, q5.2⟩ hv
            · exact to_no5 y m d h mi s wd w q0 q1 q2 q3 q4 (by omega)
          · exact to_no4 y m d h mi s wd w q0 q1 q2 q3 (by omega)
        · exact to_no3 y m d h mi s wd w q0 q1 q2 (by omega)
      · exact to_no2 y m d h mi s wd w q0 q1 (by omega)
    · exact to_no1 y m d h mi s wd w q0 (by omega)
  · exact to_no0 y m d h mi s wd w (by omega)

end Go.Proofs.Ytokcllmceppbmaa
