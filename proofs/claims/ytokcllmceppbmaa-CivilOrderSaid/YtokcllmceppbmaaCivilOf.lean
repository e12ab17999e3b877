/-
  The contracts of civil.Of and matinsref3.Of: which day and time of day a second is; old memory is as it was.
-/
import Derived.Test.YtokcllmceppbmaaCivilFns
namespace Go.Proofs.Ytokcllmceppbmaa
open Go.ChangeShapes Go.WideShapes Go.ChangeAt Go.RowKit

def dateV (y m d h mi s wd : Int) : Value := .agg #[.int .i64 y, .int .i64 m, .int .i64 d, .int .i64 h, .int .i64 mi, .int .i64 s, .int .i64 wd]

theorem of_no (t : Int) (w : World) (h : t < 0 ∨ 6311433600 ≤ t) :
    Calls Try.prog 9 #[.int .i64 t] w fun e w' => e = .returned (.tuple #[dateV 0 0 0 0 0 0 0, .bool false]) ∧ Below w.heap.size w w' := by
  rcases h with h | h
  · go_enter Try.func9, Try.ntmps9
    go_wp2
    exact bodyPost_ret (v := .tuple #[dateV 0 0 0 0 0 0 0, .bool false]) (by simp [results, Try.results9, go_sem, dateV]) rfl ⟨rfl, (Below.refl _ _).alloc (Nat.le_refl _) _⟩
  · have h' : ¬ t < 0 := by omega
    go_enter Try.func9, Try.ntmps9
    go_wp2
    exact bodyPost_ret (v := .tuple #[dateV 0 0 0 0 0 0 0, .bool false]) (by simp [results, Try.results9, go_sem, dateV]) rfl ⟨rfl, (Below.refl _ _).alloc (Nat.le_refl _) _⟩

set_option maxHeartbeats 2000000 in
theorem of_yes (t : Int) (w : World) (h0 : 0 ≤ t) (h1 : t < 6311433600) :
    Calls Try.prog 9 #[.int .i64 t] w fun e w' => ∃ y m d : Int, e = .returned (.tuple #[dateV y m d (t % 86400 / 3600) (t % 3600 / 60) (t % 60) ((t / 86400 + 5) % 7 + 1), .bool true]) ∧ IsDay (t / 86400) y m d ∧ Below w.heap.size w w' := by
  have n0 : 0 ≤ t / 86400 := by omega
  have n1 : t / 86400 < 73049 := by omega
  have hb1 : decide (t < 0) = false := by simp; omega
  have hb2 : decide (6311433600 ≤ t) = false := by simp; omega
  have z0 : dY 2000 ≤ 0 ∧ 0 ≤ dY 2000 := by rw [dY_2000]; omega
  go_enter Try.func9, Try.ntmps9
  go_wp2
  rw [show t % 86400 % 3600 = t % 3600 from by omega, show t % 86400 % 60 = t % 60 from by omega]
  go_loopw [4] (fun days wr => ∃ y dd : Int, 2000 ≤ y ∧ y ≤ 2199 ∧ 0 ≤ dd ∧ dd + dY y ≤ t / 86400 ∧ t / 86400 ≤ dd + dY y ∧ dd ≤ 73049 ∧ days = .int .i64 dd ∧ wr = (w.alloc (.cells #[.int .i64 0, .int .i64 0, .int .i64 0, .int .i64 0, .int .i64 0, .int .i64 0, .int .i64 0] 23)).alloc (.cells #[.int .i64 y, .int .i64 1, .int .i64 0, .int .i64 (t % 86400 / 3600), .int .i64 (t % 3600 / 60), .int .i64 (t % 60), .int .i64 ((t / 86400 + 5) % 7 + 1)] 23)) (fun days _ => (intOf days).toNat)
  case atStart => exact ⟨2000, _, by omega, by omega, n0, by omega, by omega, by omega, rfl, rfl⟩
  case round =>
    obtain ⟨y, dd, y1, y2, d0, e1, e2, d1, rfl, rfl⟩ := hrel
    have lb := longI_bd y
    have ds := dY_succ y
    have HDS : Hid (dY (y + 1) = dY y + longI y) := ds
    by_cases hc : longI y ≤ dd
    · have y3 : y + 1 ≤ 2199 := by
        by_cases hy : y = 2199
        · subst hy
          have e5 := dY_2200
          have e6 : dY (2199 + 1) = 73049 := e5
          omega
        · omega
      have g1 : dd - longI y + dY (y + 1) ≤ t / 86400 := by omega
      have g2 : t / 86400 ≤ dd - longI y + dY (y + 1) := by omega
      clear ds e1 e2 z0
      go_wp2_with (go_at_call 17; refine (long_any _ _).mono ?_; rintro e w' ⟨rfl, rfl⟩)
      go_roundw
      case rel => exact ⟨y + 1, _, by omega, y3, by omega, g1, g2, by omega, rfl, rfl⟩
      case measure => simp [intOf]; omega
    · have g3 : dd < longI y := by omega
      clear ds z0 hc HDS
      have m1 : dM y 1 ≤ 0 ∧ 0 ≤ dM y 1 := by rw [dM_1]; omega
      go_wp2_with (go_at_call 17; refine (long_any _ _).mono ?_; rintro e w' ⟨rfl, rfl⟩)
      go_loopw [4] (fun days wr => ∃ m ee : Int, 1 ≤ m ∧ m ≤ 12 ∧ 0 ≤ ee ∧ ee + dM y m ≤ dd ∧ dd ≤ ee + dM y m ∧ ee ≤ 366 ∧ days = .int .i64 ee ∧ wr = (w.alloc (.cells #[.int .i64 0, .int .i64 0, .int .i64 0, .int .i64 0, .int .i64 0, .int .i64 0, .int .i64 0] 23)).alloc (.cells #[.int .i64 y, .int .i64 m, .int .i64 0, .int .i64 (t % 86400 / 3600), .int .i64 (t % 3600 / 60), .int .i64 (t % 60), .int .i64 ((t / 86400 + 5) % 7 + 1)] 23)) (fun days _ => (intOf days).toNat)
      case atStart => exact ⟨1, _, by omega, by omega, d0, by omega, by omega, by omega, rfl, rfl⟩
      case round =>
        obtain ⟨m, ee, k1, k2, q0, q1, q2, q3, rfl, rfl⟩ := hrel
        have db := daysI_bd y m
        have dp := daysI_pos y m k1 k2
        have ms := dM_succ y m k1 k2
        have HMS : Hid (dM y (m + 1) = dM y m + daysI y m) := ms
        have m13 := dM_13 y
        by_cases hd : daysI y m ≤ ee
        · have k3 : m + 1 ≤ 12 := by
            by_cases hm : m = 12
            · subst hm
              have e6 : dM y (12 + 1) = longI y := m13
              omega
            · omega
          have g1 : ee - daysI y m + dM y (m + 1) ≤ dd := by omega
          have g2 : dd ≤ ee - daysI y m + dM y (m + 1) := by omega
          clear ms m13 q1 q2 e1 e2
          go_wp2_with (go_at_call 15; refine (days_any _ _ _).mono ?_; rintro e w' ⟨rfl, rfl⟩)
          go_roundw
          case rel => exact ⟨m + 1, _, by omega, k3, by omega, g1, g2, by omega, rfl, rfl⟩
          case measure => simp [intOf]; omega
        · have g3 : ee < daysI y m := by omega
          have hday : Hid (IsDay (t / 86400) y m (ee + 1)) := ⟨y1, y2, k1, k2, by omega, by omega, by omega⟩
          clear ms m13 q1 q2 e1 e2 m1 hd HMS
          go_wp2_with (go_at_call 15; refine (days_any _ _ _).mono ?_; rintro e w' ⟨rfl, rfl⟩)
          refine bodyPost_ret (v := .tuple #[dateV y m (ee + 1) (t % 86400 / 3600) (t % 3600 / 60) (t % 60) ((t / 86400 + 5) % 7 + 1), .bool true]) (by simp [results, Try.results9, go_sem, dateV]) rfl ⟨y, m, ee + 1, rfl, hday.out, ((Below.refl _ _).alloc (Nat.le_refl _) _).alloc (by simp) _⟩

end Go.Proofs.Ytokcllmceppbmaa
