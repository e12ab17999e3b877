/-
  Contracts of run.Begin, run.Tell, run.Ends: what they compute; old memory is as it was.
-/
import Derived.Test.YtohgnmpmledljaaRunMath
import Derived.Test.YtohgnmpmledljaaFrame
import Derived.Deep.QuietTactic
import Derived.Deep.RegionWith
import Derived.BigQuiet
import Derived.Lib.Hide
namespace Go.Proofs.Ytohgnmpmledljaa
open Go.ChangeShapes Go.WideShapes Go.ChangeAt Go.RowKit

theorem quiet_left {P : Program} {f : FuncId} {args : Array Value} {w : World} {n : Nat} {v : Value}
    (h : Calls P f args (w.drewN n) fun e w' => e = .returned v ∧ w.drewN n = w') : Calls P f args (w.drewN n) fun e w' => e = .returned v ∧ ∃ m, w' = w.drewN m :=
  h.mono fun _ _ ⟨he, hm⟩ => ⟨he, n, hm.symm⟩
theorem below_drewN {B : Nat} {a w : World} (h : Below B a w) (n : Nat) : Below B a (w.drewN n) := ⟨h.os, h.tape, h.output, h.size, h.block⟩

/-- An act's cells hold what is read of it (its texts apart). -/
structure ActCells (cs : Array Value) (A : ActM) : Prop where
  size : cs.size = 9
  lasts : cs[4]? = some (.int .i64 A.lasts)
  code : cs[5]? = some (.int .i64 A.code)
  ready : cs[6]? = some (.int .i64 A.ready)
  dies : cs[7]? = some (.int .i64 A.dies)

theorem begin_any (p n t : Int) (w : World) : Calls Try.prog 11 #[.int .i64 p, .int .i64 n, .int .i64 t] w fun e w' => e = .returned (beginP p n t).val ∧ Below w.heap.size w w' := by
  unfold beginP RunM.val
  go_enter Try.func11, Try.ntmps11
  go_wp2
  exact bodyPost_ret (v := .agg #[.int .i64 p, .int .i64 n, .int .i64 t, .int .i64 (-1), .int .i64 0, .bool false]) (by simp [results, Try.results11, go_sem]) rfl ⟨rfl, (Below.refl _ _).alloc (Nat.le_refl _) _⟩

theorem tell_any (r : RunM) (t : Int) (w : World) : Calls Try.prog 13 #[r.val, .int .i64 t] w fun e w' => e = .returned (tellP r t).val ∧ Below w.heap.size w w' := by
  obtain ⟨p, n, b, td, sd, rd⟩ := r
  by_cases h1 : 0 < p
  · by_cases h2 : td < 0
    · have e : tellP ⟨p, n, b, td, sd, rd⟩ t = ⟨p, n, b, t, sd, rd⟩ := by simp [tellP, h1, h2]
      rw [e]; clear e
      unfold RunM.val
      go_enter Try.func13, Try.ntmps13
      go_wp2
      exact bodyPost_ret (v := .agg #[.int .i64 p, .int .i64 n, .int .i64 b, .int .i64 t, .int .i64 sd, .bool rd]) (by simp [results, Try.results13, go_sem]) rfl ⟨rfl, ((Below.refl _ _).alloc (Nat.le_refl _) _).alloc (by simp) _⟩
    · have e : tellP ⟨p, n, b, td, sd, rd⟩ t = ⟨p, n, b, td, sd, rd⟩ := by simp [tellP, h2]
      rw [e]; clear e
      unfold RunM.val
      go_enter Try.func13, Try.ntmps13
      go_wp2
      exact bodyPost_ret (v := .agg #[.int .i64 p, .int .i64 n, .int .i64 b, .int .i64 td, .int .i64 sd, .bool rd]) (by simp [results, Try.results13, go_sem]) rfl ⟨rfl, ((Below.refl _ _).alloc (Nat.le_refl _) _).alloc (by simp) _⟩
  · have e : tellP ⟨p, n, b, td, sd, rd⟩ t = ⟨p, n, b, td, sd, rd⟩ := by simp [tellP, h1]
    rw [e]; clear e
    unfold RunM.val
    go_enter Try.func13, Try.ntmps13
    go_wp2
    exact bodyPost_ret (v := .agg #[.int .i64 p, .int .i64 n, .int .i64 b, .int .i64 td, .int .i64 sd, .bool rd]) (by simp [results, Try.results13, go_sem]) rfl ⟨rfl, ((Below.refl _ _).alloc (Nat.le_refl _) _).alloc (by simp) _⟩

theorem sumI_bd (a b : Int) : 0 ≤ sumI a b ∧ sumI a b ≤ 1099511627776 := heldI_bd _

set_option maxHeartbeats 2000000 in
theorem ends_any (cs : Array Value) (A : ActM) (hc : ActCells cs A) (r : RunM) (w : World) :
    Calls Try.prog 15 #[.agg cs, r.val] w fun e w' => e = .returned (.tuple #[.int .i64 (endsP A r).1, .int .i64 (endsP A r).2]) ∧ Below w.heap.size w w' := by
  obtain ⟨p, n, b, td, sd, rd⟩ := r
  obtain ⟨L, C, R, D, S⟩ := A
  have k4 : cs[4]? = some (.int .i64 L) := hc.lasts
  have k5 : cs[5]? = some (.int .i64 C) := hc.code
  have k7 : cs[7]? = some (.int .i64 D) := hc.dies
  clear hc
  by_cases h1 : p ≤ 0
  · have e : endsP ⟨L, C, R, D, S⟩ ⟨p, n, b, td, sd, rd⟩ = (1099511627776, 0) := by simp [endsP, h1]
    rw [e]; clear e
    unfold RunM.val
    go_enter Try.func15, Try.ntmps15
    go_wp2_with fail
    go_ret2
    exact ⟨rfl, ((Below.refl _ _).alloc (Nat.le_refl _) _).alloc (by simp) _⟩
  have hx := sumI_bd b L
  have hy := sumI_bd td D
  by_cases h2 : 0 ≤ td
  · by_cases h3 : sumI td D < sumI b L
    · by_cases hF : sumI td D = 1099511627776
      · exfalso; omega
      · have e : endsP ⟨L, C, R, D, S⟩ ⟨p, n, b, td, sd, rd⟩ = (sumI td D, 0) := by
          have hraw : endsRaw ⟨L, C, R, D, S⟩ ⟨p, n, b, td, sd, rd⟩ = (sumI td D, 0) := by unfold endsRaw; simp only []; rw [if_pos ⟨h2, h3⟩]
          unfold endsP; rw [if_neg h1, hraw]; exact if_neg hF
        rw [e]; clear e
        have hT : (sumI td D == 1099511627776) = false := by simp; omega
        have HF := Lib.hid hF
        clear hF
        unfold RunM.val
        go_enter Try.func15, Try.ntmps15
        go_wp2_with (go_at_call 28; fail)
        go_quiet ((go_at_call 28; exact quiet_left (sum_any _ _ _)))
        go_wp2_with (go_at_call 28; refine (sum_any _ _ _).mono ?_; rintro e w' ⟨rfl, rfl⟩)
        go_ret2
        exact ⟨rfl, below_drewN (((Below.refl _ _).alloc (Nat.le_refl _) _).alloc (by simp) _) _⟩
    · by_cases hF : sumI b L = 1099511627776
      · have e : endsP ⟨L, C, R, D, S⟩ ⟨p, n, b, td, sd, rd⟩ = (1099511627776, 0) := by
          have hraw : endsRaw ⟨L, C, R, D, S⟩ ⟨p, n, b, td, sd, rd⟩ = (sumI b L, C) := by unfold endsRaw; simp only []; rw [if_neg (by omega)]
          unfold endsP; rw [if_neg h1, hraw]; exact if_pos hF
        rw [e]; clear e
        have hT : (sumI b L == 1099511627776) = true := by rw [hF]; decide
        have HF := Lib.hid hF
        clear hF
        unfold RunM.val
        go_enter Try.func15, Try.ntmps15
        go_wp2_with (go_at_call 28; fail)
        go_quiet ((go_at_call 28; exact quiet_left (sum_any _ _ _)))
        go_wp2_with (go_at_call 28; refine (sum_any _ _ _).mono ?_; rintro e w' ⟨rfl, rfl⟩)
        go_ret2
        exact ⟨rfl, below_drewN (((Below.refl _ _).alloc (Nat.le_refl _) _).alloc (by simp) _) _⟩
      · have e : endsP ⟨L, C, R, D, S⟩ ⟨p, n, b, td, sd, rd⟩ = (sumI b L, C) := by
          have hraw : endsRaw ⟨L, C, R, D, S⟩ ⟨p, n, b, td, sd, rd⟩ = (sumI b L, C) := by unfold endsRaw; simp only []; rw [if_neg (by omega)]
          unfold endsP; rw [if_neg h1, hraw]; exact if_neg hF
        rw [e]; clear e
        have hT : (sumI b L == 1099511627776) = false := by simp; omega
        have HF := Lib.hid hF
        clear hF
        unfold RunM.val
        go_enter Try.func15, Try.ntmps15
        go_wp2_with (go_at_call 28; fail)
        go_quiet ((go_at_call 28; exact quiet_left (sum_any _ _ _)))
        go_wp2_with (go_at_call 28; refine (sum_any _ _ _).mono ?_; rintro e w' ⟨rfl, rfl⟩)
        go_ret2
        exact ⟨rfl, below_drewN (((Below.refl _ _).alloc (Nat.le_refl _) _).alloc (by simp) _) _⟩
  · by_cases hF : sumI b L = 1099511627776
    · have e : endsP ⟨L, C, R, D, S⟩ ⟨p, n, b, td, sd, rd⟩ = (1099511627776, 0) := by
        have hraw : endsRaw ⟨L, C, R, D, S⟩ ⟨p, n, b, td, sd, rd⟩ = (sumI b L, C) := by unfold endsRaw; simp only []; rw [if_neg (by omega)]
        unfold endsP; rw [if_neg h1, hraw]; exact if_pos hF
      rw [e]; clear e
      have hT : (sumI b L == 1099511627776) = true := by rw [hF]; decide
      have HF := Lib.hid hF
      clear hF
      unfold RunM.val
      go_enter Try.func15, Try.ntmps15
      go_wp2_with (go_at_call 28; fail)
      go_quiet ((go_at_call 28; exact quiet_left (sum_any _ _ _)))
      go_wp2_with (go_at_call 28; refine (sum_any _ _ _).mono ?_; rintro e w' ⟨rfl, rfl⟩)
      go_ret2
      exact ⟨rfl, below_drewN (((Below.refl _ _).alloc (Nat.le_refl _) _).alloc (by simp) _) _⟩
    · have e : endsP ⟨L, C, R, D, S⟩ ⟨p, n, b, td, sd, rd⟩ = (sumI b L, C) := by
        have hraw : endsRaw ⟨L, C, R, D, S⟩ ⟨p, n, b, td, sd, rd⟩ = (sumI b L, C) := by unfold endsRaw; simp only []; rw [if_neg (by omega)]
        unfold endsP; rw [if_neg h1, hraw]; exact if_neg hF
      rw [e]; clear e
      have hT : (sumI b L == 1099511627776) = false := by simp; omega
      have HF := Lib.hid hF
      clear hF
      unfold RunM.val
      go_enter Try.func15, Try.ntmps15
      go_wp2_with (go_at_call 28; fail)
      go_quiet ((go_at_call 28; exact quiet_left (sum_any _ _ _)))
      go_wp2_with (go_at_call 28; refine (sum_any _ _ _).mono ?_; rintro e w' ⟨rfl, rfl⟩)
      go_ret2
      exact ⟨rfl, below_drewN (((Below.refl _ _).alloc (Nat.le_refl _) _).alloc (by simp) _) _⟩

set_option maxHeartbeats 2000000 in
theorem rends_any (cs : Array Value) (A : ActM) (hc : ActCells cs A) (r : RunM) (w : World) :
    Calls Try.prog 33 #[.agg cs, r.val] w fun e w' => e = .returned (.tuple #[.int .i64 (endsP A r).1, .int .i64 (endsP A r).2]) ∧ Below w.heap.size w w' := by
  obtain ⟨p, n, b, td, sd, rd⟩ := r
  obtain ⟨L, C, R, D, S⟩ := A
  have k4 : cs[4]? = some (.int .i64 L) := hc.lasts
  have k5 : cs[5]? = some (.int .i64 C) := hc.code
  have k7 : cs[7]? = some (.int .i64 D) := hc.dies
  clear hc
  by_cases h1 : p ≤ 0
  · have e : endsP ⟨L, C, R, D, S⟩ ⟨p, n, b, td, sd, rd⟩ = (1099511627776, 0) := by simp [endsP, h1]
    rw [e]; clear e
    unfold RunM.val
    go_enter Try.func33, Try.ntmps33
    go_wp2_with fail
    go_ret2
    exact ⟨rfl, ((Below.refl _ _).alloc (Nat.le_refl _) _).alloc (by simp) _⟩
  have hx := sumI_bd b L
  have hy := sumI_bd td D
  by_cases h2 : 0 ≤ td
  · by_cases h3 : sumI td D < sumI b L
    · by_cases hF : sumI td D = 1099511627776
      · exfalso; omega
      · have e : endsP ⟨L, C, R, D, S⟩ ⟨p, n, b, td, sd, rd⟩ = (sumI td D, 0) := by
          have hraw : endsRaw ⟨L, C, R, D, S⟩ ⟨p, n, b, td, sd, rd⟩ = (sumI td D, 0) := by unfold endsRaw; simp only []; rw [if_pos ⟨h2, h3⟩]
          unfold endsP; rw [if_neg h1, hraw]; exact if_neg hF
        rw [e]; clear e
        have hT : decide (1099511627776 ≤ sumI td D) = false := by simp; omega
        have HF := Lib.hid hF
        clear hF
        unfold RunM.val
        go_enter Try.func33, Try.ntmps33
        go_wp2_with (go_at_call 16; fail)
        go_quiet ((go_at_call 16; exact quiet_left (rsum_any _ _ _)))
        go_wp2_with (go_at_call 16; refine (rsum_any _ _ _).mono ?_; rintro e w' ⟨rfl, rfl⟩)
        go_ret2
        exact ⟨rfl, below_drewN (((Below.refl _ _).alloc (Nat.le_refl _) _).alloc (by simp) _) _⟩
    · by_cases hF : sumI b L = 1099511627776
      · have e : endsP ⟨L, C, R, D, S⟩ ⟨p, n, b, td, sd, rd⟩ = (1099511627776, 0) := by
          have hraw : endsRaw ⟨L, C, R, D, S⟩ ⟨p, n, b, td, sd, rd⟩ = (sumI b L, C) := by unfold endsRaw; simp only []; rw [if_neg (by omega)]
          unfold endsP; rw [if_neg h1, hraw]; exact if_pos hF
        rw [e]; clear e
        have hT : decide (1099511627776 ≤ sumI b L) = true := by rw [hF]; decide
        have HF := Lib.hid hF
        clear hF
        unfold RunM.val
        go_enter Try.func33, Try.ntmps33
        go_wp2_with (go_at_call 16; fail)
        go_quiet ((go_at_call 16; exact quiet_left (rsum_any _ _ _)))
        go_wp2_with (go_at_call 16; refine (rsum_any _ _ _).mono ?_; rintro e w' ⟨rfl, rfl⟩)
        go_ret2
        exact ⟨rfl, below_drewN (((Below.refl _ _).alloc (Nat.le_refl _) _).alloc (by simp) _) _⟩
      · have e : endsP ⟨L, C, R, D, S⟩ ⟨p, n, b, td, sd, rd⟩ = (sumI b L, C) := by
          have hraw : endsRaw ⟨L, C, R, D, S⟩ ⟨p, n, b, td, sd, rd⟩ = (sumI b L, C) := by unfold endsRaw; simp only []; rw [if_neg (by omega)]
          unfold endsP; rw [if_neg h1, hraw]; exact if_neg hF
        rw [e]; clear e
        have hT : decide (1099511627776 ≤ sumI b L) = false := by simp; omega
        have HF := Lib.hid hF
        clear hF
        unfold RunM.val
        go_enter Try.func33, Try.ntmps33
        go_wp2_with (go_at_call 16; fail)
        go_quiet ((go_at_call 16; exact quiet_left (rsum_any _ _ _)))
        go_wp2_with (go_at_call 16; refine (rsum_any _ _ _).mono ?_; rintro e w' ⟨rfl, rfl⟩)
        go_ret2
        exact ⟨rfl, below_drewN (((Below.refl _ _).alloc (Nat.le_refl _) _).alloc (by simp) _) _⟩
  · by_cases hF : sumI b L = 1099511627776
    · have e : endsP ⟨L, C, R, D, S⟩ ⟨p, n, b, td, sd, rd⟩ = (1099511627776, 0) := by
        have hraw : endsRaw ⟨L, C, R, D, S⟩ ⟨p, n, b, td, sd, rd⟩ = (sumI b L, C) := by unfold endsRaw; simp only []; rw [if_neg (by omega)]
        unfold endsP; rw [if_neg h1, hraw]; exact if_pos hF
      rw [e]; clear e
      have hT : decide (1099511627776 ≤ sumI b L) = true := by rw [hF]; decide
      have HF := Lib.hid hF
      clear hF
      unfold RunM.val
      go_enter Try.func33, Try.ntmps33
      go_wp2_with (go_at_call 16; fail)
      go_quiet ((go_at_call 16; exact quiet_left (rsum_any _ _ _)))
      go_wp2_with (go_at_call 16; refine (rsum_any _ _ _).mono ?_; rintro e w' ⟨rfl, rfl⟩)
      go_ret2
      exact ⟨rfl, below_drewN (((Below.refl _ _).alloc (Nat.le_refl _) _).alloc (by simp) _) _⟩
    · have e : endsP ⟨L, C, R, D, S⟩ ⟨p, n, b, td, sd, rd⟩ = (sumI b L, C) := by
        have hraw : endsRaw ⟨L, C, R, D, S⟩ ⟨p, n, b, td, sd, rd⟩ = (sumI b L, C) := by unfold endsRaw; simp only []; rw [if_neg (by omega)]
        unfold endsP; rw [if_neg h1, hraw]; exact if_neg hF
      rw [e]; clear e
      have hT : decide (1099511627776 ≤ sumI b L) = false := by simp; omega
      have HF := Lib.hid hF
      clear hF
      unfold RunM.val
      go_enter Try.func33, Try.ntmps33
      go_wp2_with (go_at_call 16; fail)
      go_quiet ((go_at_call 16; exact quiet_left (rsum_any _ _ _)))
      go_wp2_with (go_at_call 16; refine (rsum_any _ _ _).mono ?_; rintro e w' ⟨rfl, rfl⟩)
      go_ret2
      exact ⟨rfl, below_drewN (((Below.refl _ _).alloc (Nat.le_refl _) _).alloc (by simp) _) _⟩

end Go.Proofs.Ytohgnmpmledljaa
