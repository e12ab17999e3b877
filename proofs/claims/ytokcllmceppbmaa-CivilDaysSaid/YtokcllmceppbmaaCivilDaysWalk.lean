/-
  The walk of matinslaw3.CivilDays: it returns true; old memory is as it was.
-/
import Derived.Test.YtokcllmceppbmaaCivilAllWalk
namespace Go.Proofs.Ytokcllmceppbmaa
open Go.ChangeShapes Go.WideShapes Go.ChangeAt Go.RowKit

theorem dayslaw_early (t : Int) (w : World) (ht : t < 0 ∨ 6311347200 ≤ t) : Calls Try.prog 5 #[.int .i64 t] w fun e w' => e = .returned (.bool true) ∧ Below w.heap.size w w' := by
  rcases ht with ht | ht
  · go_enter Try.func5, Try.ntmps5
    go_wp2_with fail
    refine (shown_any _).mono ?_
    rintro e w1 ⟨rfl, hb1⟩
    go_wp2_with fail
    go_ret
    exact ⟨rfl, hb1⟩
  · have h0 : ¬ t < 0 := by omega
    go_enter Try.func5, Try.ntmps5
    go_wp2_with fail
    refine (shown_any _).mono ?_
    rintro e w1 ⟨rfl, hb1⟩
    go_wp2_with fail
    go_ret
    exact ⟨rfl, hb1⟩

set_option maxHeartbeats 4000000 in
theorem dayslaw_main (t : Int) (w : World) (h0 : 0 ≤ t) (h1 : t < 6311347200) : Calls Try.prog 5 #[.int .i64 t] w fun e w' => e = .returned (.bool true) ∧ Below w.heap.size w w' := by
  have g1 : decide (t < 0) = false := by simp; omega
  have g2 : decide (6311347200 ≤ t) = false := by simp; omega
  go_enter Try.func5, Try.ntmps5
  go_wp2_with fail
  refine (shown_any _).mono ?_
  rintro e w1 ⟨rfl, hb1⟩
  go_wp2_with fail
  refine (of_yes t _ h0 (by omega)).mono ?_
  rintro e w2 ⟨y, m, d, rfl, hd, hb2⟩
  have b2 : Below w.heap.size w w2 := hb1.trans (hb2.mono hb1.size)
  clear hb1 hb2
  unfold dateV
  have HD := Lib.hid hd
  clear hd
  generalize hA : (t / 86400 + 5) % 7 + 1 = wa
  generalize hB : t % 86400 / 3600 = hh
  generalize hC : t % 3600 / 60 = mm
  generalize hE : t % 60 = ss
  have wa0 : 1 ≤ wa := by omega
  have wa1 : wa ≤ 7 := by omega
  have HA := Lib.hid hA
  have HB := Lib.hid hB
  have HC := Lib.hid hC
  have HE := Lib.hid hE
  clear hA hB hC hE
  go_wp2_with (go_at_call 9; fail)
  refine (of_yes (t + 86400) _ (by omega) (by omega)).mono ?_
  rintro e w3 ⟨y', m', d', rfl, hd', hb3⟩
  have e0 : (t + 86400) / 86400 = t / 86400 + 1 := by omega
  rw [e0] at hd'
  rw [show ((t + 86400) / 86400 + 5) % 7 + 1 = wa % 7 + 1 from by have := HA.out; omega, show (t + 86400) % 86400 / 3600 = hh from by have := HB.out; omega,
    show (t + 86400) % 3600 / 60 = mm from by have := HC.out; omega, show (t + 86400) % 60 = ss from by have := HE.out; omega]
  unfold dateV
  have hc2 := rowAfter hb3
  have hsz := hb3.size
  rw [size_alloc] at hsz
  have s3 : w2.heap.size < w3.heap.size := by omega
  have b3 : Below w.heap.size w w3 := (b2.alloc b2.size _).trans (hb3.mono (by rw [size_alloc]; have := b2.size; omega))
  have hn := HD.out.next hd'
  obtain ⟨_, _, n1, n2, n3, n4, _⟩ := HD.out
  obtain ⟨_, _, _, _, _, n5, _⟩ := hd'
  have dp := daysI_pos y m n1 n2
  have db := daysI_bd y m
  clear hb3 b2 HA HB HC HE hsz e0 HD
  rcases hn with ⟨rfl, rfl, rfl⟩ | ⟨rfl, rfl, ⟨k1, rfl, rfl⟩ | ⟨rfl, rfl, rfl⟩⟩
  · go_wp2_with fail
    go_quiet ((go_at_call 15; exact quiet_left (days_any _ _ _)))
    go_wp2_with fail
    go_ret
    exact ⟨ret_bool (by first | rfl | (simp; omega)), below_drewN (b3.alloc b3.size _) _⟩
  · go_wp2_with fail
    go_quiet ((go_at_call 15; exact quiet_left (days_any _ _ _)))
    go_wp2_with fail
    go_ret
    exact ⟨ret_bool (by first | rfl | (simp; done) | (simp; omega)), below_drewN (b3.alloc b3.size _) _⟩
  · go_wp2_with fail
    go_quiet ((go_at_call 15; exact quiet_left (days_any _ _ _)))
    go_wp2_with fail
    go_ret
    exact ⟨ret_bool (by first | rfl | (simp; done) | (simp; omega)), below_drewN (b3.alloc b3.size _) _⟩

theorem dayslaw_any (t : Int) (w : World) : Calls Try.prog 5 #[.int .i64 t] w fun e w' => e = .returned (.bool true) ∧ Below w.heap.size w w' := by
  by_cases ht : 0 ≤ t ∧ t < 6311347200
  · exact dayslaw_main t w ht.1 ht.2
  · exact dayslaw_early t w (by omega)

end Go.Proofs.Ytokcllmceppbmaa
