/-
  The walk of matinslaw3.CivilTurn: it returns true; old memory is as it was.
-/
import Derived.Test.YtokcllmceppbmaaCivilAllWalk
namespace Go.Proofs.Ytokcllmceppbmaa
open Go.ChangeShapes Go.WideShapes Go.ChangeAt Go.RowKit

theorem sec_of {t y m d : Int} (hd : IsDay (t / 86400) y m d) : secI y m d (t % 86400 / 3600) (t % 3600 / 60) (t % 60) = t := by
  obtain ⟨_, _, _, _, _, _, e⟩ := hd
  unfold secI
  omega
theorem may_of {t y m d : Int} (hd : IsDay (t / 86400) y m d) : MayD y m d (t % 86400 / 3600) (t % 3600 / 60) (t % 60) := by
  obtain ⟨a, b, c, d, e, f, g⟩ := hd
  exact ⟨a, b, c, d, e, f, by omega, by omega, by omega, by omega, by omega, by omega⟩
theorem of_sec {y m d h mi s : Int} (hv : MayD y m d h mi s) : 0 ≤ secI y m d h mi s ∧ secI y m d h mi s < 6311433600 ∧ IsDay (secI y m d h mi s / 86400) y m d ∧
    secI y m d h mi s % 86400 / 3600 = h ∧ secI y m d h mi s % 3600 / 60 = mi ∧ secI y m d h mi s % 60 = s := by
  obtain ⟨a0, b0, a1, b1, a2, b2, a3, b3, a4, b4, a5, b5⟩ := hv
  have hd : IsDay (dY y + dM y m + d - 1) y m d := ⟨a0, b0, a1, b1, a2, b2, rfl⟩
  have hr := hd.range
  have e1 : secI y m d h mi s / 86400 = dY y + dM y m + d - 1 := by unfold secI; omega
  rw [e1]
  refine ⟨?_, ?_, hd, ?_, ?_, ?_⟩ <;> unfold secI <;> omega

set_option maxHeartbeats 4000000 in
theorem turn_yes_yes (t y m d h mi s wd : Int) (w : World) (h0 : 0 ≤ t) (h1 : t < 6311433600) (hv : MayD y m d h mi s) :
    Calls Try.prog 4 #[.int .i64 t, .agg #[.int .i64 y, .int .i64 m, .int .i64 d, .int .i64 h, .int .i64 mi, .int .i64 s, .int .i64 wd]] w fun e w' => e = .returned (.bool true) ∧ Below w.heap.size w w' := by
  have HV := Lib.hid hv
  clear hv
  go_enter Try.func4, Try.ntmps4
  go_wp2_with fail
  refine (shown_any _).mono ?_
  rintro e w1 ⟨rfl, hb1⟩
  have D1 : Hid (w1.heap[w.heap.size]? = some (.cells #[.int .i64 y, .int .i64 m, .int .i64 d, .int .i64 h, .int .i64 mi, .int .i64 s, .int .i64 wd] 23 (0, 0))) := heapAfter hb1 (by simp) (heap_alloc_new w _)
  have b1 : Below w.heap.size w w1 := ((Below.refl _ _).alloc (Nat.le_refl _) _).trans (hb1.mono (by simp))
  have s1 : w.heap.size < w1.heap.size := heapLt D1.out
  clear hb1
  go_wp2_with fail
  refine (of_yes t _ h0 h1).mono ?_
  rintro e w2 ⟨y1, m1, d1, rfl, hd1, hb2⟩
  have HM := Lib.hid (may_of hd1)
  have HSEC := Lib.hid (sec_of hd1)
  clear hd1
  have D2 : Hid (w2.heap[w.heap.size]? = some (.cells #[.int .i64 y, .int .i64 m, .int .i64 d, .int .i64 h, .int .i64 mi, .int .i64 s, .int .i64 wd] 23 (0, 0))) := heapAfter hb2 s1 D1.out
  have b2 : Below w.heap.size w w2 := b1.trans (hb2.mono (by omega))
  have s2 : w1.heap.size ≤ w2.heap.size := hb2.size
  clear hb2 b1 D1
  unfold dateV
  go_wp2_with (first
    | (refine wpList_load_row rfl 23 _ rfl w2.heap.size rfl 23 #[.int .i64 y1, .int .i64 m1, .int .i64 d1, .int .i64 (t % 86400 / 3600), .int .i64 (t % 3600 / 60), .int .i64 (t % 60), .int .i64 ((t / 86400 + 5) % 7 + 1)] (0, 0) _ (heap_alloc_new w2 _) Try.underlying23 rfl sizeDate ?_)
    | (go_at_call 11; fail))
  refine (to_yes y1 m1 d1 _ _ _ _ _ HM.out).mono ?_
  rintro e w3 ⟨rfl, hb3⟩
  rw [HSEC.out]
  have hsz := hb3.size
  rw [size_alloc] at hsz
  have D3 : Hid (w3.heap[w.heap.size]? = some (.cells #[.int .i64 y, .int .i64 m, .int .i64 d, .int .i64 h, .int .i64 mi, .int .i64 s, .int .i64 wd] 23 (0, 0))) := heapAfter hb3 (by rw [size_alloc]; omega) (heapOld _ D2.out)
  have b3 : Below w.heap.size w w3 := (b2.alloc b2.size _).trans (hb3.mono (by rw [size_alloc]; omega))
  have s3 : w.heap.size < w3.heap.size := by omega
  clear hb3 b2 D2 HM HSEC
  go_wp2_with (first
    | (refine wpList_load_row rfl 23 _ rfl w.heap.size rfl 23 #[.int .i64 y, .int .i64 m, .int .i64 d, .int .i64 h, .int .i64 mi, .int .i64 s, .int .i64 wd] (0, 0) _ D3.out Try.underlying23 rfl sizeDate ?_)
    | (go_at_call 11; fail))
  refine (to_yes y m d h mi s wd _ HV.out).mono ?_
  rintro e w4 ⟨rfl, hb4⟩
  have D4 : Hid (w4.heap[w.heap.size]? = some (.cells #[.int .i64 y, .int .i64 m, .int .i64 d, .int .i64 h, .int .i64 mi, .int .i64 s, .int .i64 wd] 23 (0, 0))) := heapAfter hb4 s3 D3.out
  have b4 : Below w.heap.size w w4 := b3.trans (hb4.mono (by omega))
  have s4 : w.heap.size < w4.heap.size := heapLt D4.out
  clear hb4 b3 D3
  go_wp2_with fail
  obtain ⟨f1, f2, f3, f4, f5, f6⟩ := of_sec HV.out
  refine (of_yes _ _ f1 f2).mono ?_
  rintro e w5 ⟨y2, m2, d2, rfl, hd2, hb5⟩
  obtain ⟨rfl, rfl, rfl⟩ := f3.uniq hd2
  rw [f4, f5, f6]
  clear f3 f4 f5 f6 hd2
  have D5 : Hid (w5.heap[w.heap.size]? = some (.cells #[.int .i64 y, .int .i64 m, .int .i64 d, .int .i64 h, .int .i64 mi, .int .i64 s, .int .i64 wd] 23 (0, 0))) := heapAfter hb5 s4 D4.out
  have b5 : Below w.heap.size w w5 := b4.trans (hb5.mono (by omega))
  have s5 : w.heap.size < w5.heap.size := heapLt D5.out
  have c6 : ∀ o, w5.cell? ⟨w.heap.size, o, none⟩ = (#[.int .i64 y, .int .i64 m, .int .i64 d, .int .i64 h, .int .i64 mi, .int .i64 s, .int .i64 wd] : Array Value)[o]? := fun o => cell_of_row _ _ _ _ _ _ D5.out
  have fz : w5.frozen? ⟨w.heap.size, 6, none⟩ = false := frozen_of_row _ _ _ _ _ D5.out
  clear hb5 b4 D4
  unfold dateV
  go_wp2_with (at_builtin; fail)
  go_ret
  exact ⟨rfl, (b5.setCell (by simp) _).alloc (by have := b5.size; simp [World.setCell]; omega) _⟩

set_option maxHeartbeats 4000000 in
theorem turn_yes_no (t y m d h mi s wd : Int) (w : World) (h0 : 0 ≤ t) (h1 : t < 6311433600) (hv : ¬ MayD y m d h mi s) :
    Calls Try.prog 4 #[.int .i64 t, .agg #[.int .i64 y, .int .i64 m, .int .i64 d, .int .i64 h, .int .i64 mi, .int .i64 s, .int .i64 wd]] w fun e w' => e = .returned (.bool true) ∧ Below w.heap.size w w' := by
  have HV := Lib.hid hv
  clear hv
  go_enter Try.func4, Try.ntmps4
  go_wp2_with fail
  refine (shown_any _).mono ?_
  rintro e w1 ⟨rfl, hb1⟩
  have D1 : Hid (w1.heap[w.heap.size]? = some (.cells #[.int .i64 y, .int .i64 m, .int .i64 d, .int .i64 h, .int .i64 mi, .int .i64 s, .int .i64 wd] 23 (0, 0))) := heapAfter hb1 (by simp) (heap_alloc_new w _)
  have b1 : Below w.heap.size w w1 := ((Below.refl _ _).alloc (Nat.le_refl _) _).trans (hb1.mono (by simp))
  have s1 : w.heap.size < w1.heap.size := heapLt D1.out
  clear hb1
  go_wp2_with fail
  refine (of_yes t _ h0 h1).mono ?_
  rintro e w2 ⟨y1, m1, d1, rfl, hd1, hb2⟩
  have HM := Lib.hid (may_of hd1)
  have HSEC := Lib.hid (sec_of hd1)
  clear hd1
  have D2 : Hid (w2.heap[w.heap.size]? = some (.cells #[.int .i64 y, .int .i64 m, .int .i64 d, .int .i64 h, .int .i64 mi, .int .i64 s, .int .i64 wd] 23 (0, 0))) := heapAfter hb2 s1 D1.out
  have b2 : Below w.heap.size w w2 := b1.trans (hb2.mono (by omega))
  have s2 : w1.heap.size ≤ w2.heap.size := hb2.size
  clear hb2 b1 D1
  unfold dateV
  go_wp2_with (first
    | (refine wpList_load_row rfl 23 _ rfl w2.heap.size rfl 23 #[.int .i64 y1, .int .i64 m1, .int .i64 d1, .int .i64 (t % 86400 / 3600), .int .i64 (t % 3600 / 60), .int .i64 (t % 60), .int .i64 ((t / 86400 + 5) % 7 + 1)] (0, 0) _ (heap_alloc_new w2 _) Try.underlying23 rfl sizeDate ?_)
    | (go_at_call 11; fail))
  refine (to_yes y1 m1 d1 _ _ _ _ _ HM.out).mono ?_
  rintro e w3 ⟨rfl, hb3⟩
  rw [HSEC.out]
  have hsz := hb3.size
  rw [size_alloc] at hsz
  have D3 : Hid (w3.heap[w.heap.size]? = some (.cells #[.int .i64 y, .int .i64 m, .int .i64 d, .int .i64 h, .int .i64 mi, .int .i64 s, .int .i64 wd] 23 (0, 0))) := heapAfter hb3 (by rw [size_alloc]; omega) (heapOld _ D2.out)
  have b3 : Below w.heap.size w w3 := (b2.alloc b2.size _).trans (hb3.mono (by rw [size_alloc]; omega))
  have s3 : w.heap.size < w3.heap.size := by omega
  clear hb3 b2 D2 HM HSEC
  go_wp2_with (first
    | (refine wpList_load_row rfl 23 _ rfl w.heap.size rfl 23 #[.int .i64 y, .int .i64 m, .int .i64 d, .int .i64 h, .int .i64 mi, .int .i64 s, .int .i64 wd] (0, 0) _ D3.out Try.underlying23 rfl sizeDate ?_)
    | (go_at_call 11; fail))
  refine (to_no y m d h mi s wd _ HV.out).mono ?_
  rintro e w4 ⟨rfl, hb4⟩
  go_wp2_with fail
  go_ret
  exact ⟨rfl, b3.trans (hb4.mono (by omega))⟩

set_option maxHeartbeats 4000000 in
theorem turn_neg_yes (t y m d h mi s wd : Int) (w : World) (ht : t < 0) (hv : MayD y m d h mi s) :
    Calls Try.prog 4 #[.int .i64 t, .agg #[.int .i64 y, .int .i64 m, .int .i64 d, .int .i64 h, .int .i64 mi, .int .i64 s, .int .i64 wd]] w fun e w' => e = .returned (.bool true) ∧ Below w.heap.size w w' := by
  have HV := Lib.hid hv
  clear hv
  go_enter Try.func4, Try.ntmps4
  go_wp2_with fail
  refine (shown_any _).mono ?_
  rintro e w1 ⟨rfl, hb1⟩
  have D1 : Hid (w1.heap[w.heap.size]? = some (.cells #[.int .i64 y, .int .i64 m, .int .i64 d, .int .i64 h, .int .i64 mi, .int .i64 s, .int .i64 wd] 23 (0, 0))) := heapAfter hb1 (by simp) (heap_alloc_new w _)
  have b1 : Below w.heap.size w w1 := ((Below.refl _ _).alloc (Nat.le_refl _) _).trans (hb1.mono (by simp))
  have s1 : w.heap.size < w1.heap.size := heapLt D1.out
  clear hb1
  go_wp2_with fail
  refine (of_no t _ (by omega)).mono ?_
  rintro e w3 ⟨rfl, hb2⟩
  have D3 : Hid ((w3.alloc (.cells #[.int .i64 0, .int .i64 0, .int .i64 0, .int .i64 0, .int .i64 0, .int .i64 0, .int .i64 0] 23)).heap[w.heap.size]? = some (.cells #[.int .i64 y, .int .i64 m, .int .i64 d, .int .i64 h, .int .i64 mi, .int .i64 s, .int .i64 wd] 23 (0, 0))) := heapOld _ (heapAfter hb2 s1 D1.out)
  have b2 : Below w.heap.size w w3 := b1.trans (hb2.mono (by omega))
  have b3 : Below w.heap.size w (w3.alloc (.cells #[.int .i64 0, .int .i64 0, .int .i64 0, .int .i64 0, .int .i64 0, .int .i64 0, .int .i64 0] 23)) := b2.alloc b2.size _
  have s3 : w.heap.size < (w3.alloc (.cells #[.int .i64 0, .int .i64 0, .int .i64 0, .int .i64 0, .int .i64 0, .int .i64 0, .int .i64 0] 23)).heap.size := heapLt D3.out
  clear hb2 b1 D1 b2
  unfold dateV
  go_wp2_with (first
    | (refine wpList_load_row rfl 23 _ rfl w.heap.size rfl 23 #[.int .i64 y, .int .i64 m, .int .i64 d, .int .i64 h, .int .i64 mi, .int .i64 s, .int .i64 wd] (0, 0) _ D3.out Try.underlying23 rfl sizeDate ?_)
    | (go_at_call 11; fail))
  refine (to_yes y m d h mi s wd _ HV.out).mono ?_
  rintro e w4 ⟨rfl, hb4⟩
  have D4 : Hid (w4.heap[w.heap.size]? = some (.cells #[.int .i64 y, .int .i64 m, .int .i64 d, .int .i64 h, .int .i64 mi, .int .i64 s, .int .i64 wd] 23 (0, 0))) := heapAfter hb4 s3 D3.out
  have b4 : Below w.heap.size w w4 := b3.trans (hb4.mono (by omega))
  have s4 : w.heap.size < w4.heap.size := heapLt D4.out
  clear hb4 b3 D3
  go_wp2_with fail
  obtain ⟨f1, f2, f3, f4, f5, f6⟩ := of_sec HV.out
  refine (of_yes _ _ f1 f2).mono ?_
  rintro e w5 ⟨y2, m2, d2, rfl, hd2, hb5⟩
  obtain ⟨rfl, rfl, rfl⟩ := f3.uniq hd2
  rw [f4, f5, f6]
  clear f3 f4 f5 f6 hd2
  have D5 : Hid (w5.heap[w.heap.size]? = some (.cells #[.int .i64 y, .int .i64 m, .int .i64 d, .int .i64 h, .int .i64 mi, .int .i64 s, .int .i64 wd] 23 (0, 0))) := heapAfter hb5 s4 D4.out
  have b5 : Below w.heap.size w w5 := b4.trans (hb5.mono (by omega))
  have s5 : w.heap.size < w5.heap.size := heapLt D5.out
  have c6 : ∀ o, w5.cell? ⟨w.heap.size, o, none⟩ = (#[.int .i64 y, .int .i64 m, .int .i64 d, .int .i64 h, .int .i64 mi, .int .i64 s, .int .i64 wd] : Array Value)[o]? := fun o => cell_of_row _ _ _ _ _ _ D5.out
  have fz : w5.frozen? ⟨w.heap.size, 6, none⟩ = false := frozen_of_row _ _ _ _ _ D5.out
  clear hb5 b4 D4
  unfold dateV
  go_wp2_with (at_builtin; fail)
  go_ret
  exact ⟨rfl, (b5.setCell (by simp) _).alloc (by have := b5.size; simp [World.setCell]; omega) _⟩

set_option maxHeartbeats 4000000 in
theorem turn_neg_no (t y m d h mi s wd : Int) (w : World) (ht : t < 0) (hv : ¬ MayD y m d h mi s) :
    Calls Try.prog 4 #[.int .i64 t, .agg #[.int .i64 y, .int .i64 m, .int .i64 d, .int .i64 h, .int .i64 mi, .int .i64 s, .int .i64 wd]] w fun e w' => e = .returned (.bool true) ∧ Below w.heap.size w w' := by
  have HV := Lib.hid hv
  clear hv
  go_enter Try.func4, Try.ntmps4
  go_wp2_with fail
  refine (shown_any _).mono ?_
  rintro e w1 ⟨rfl, hb1⟩
  have D1 : Hid (w1.heap[w.heap.size]? = some (.cells #[.int .i64 y, .int .i64 m, .int .i64 d, .int .i64 h, .int .i64 mi, .int .i64 s, .int .i64 wd] 23 (0, 0))) := heapAfter hb1 (by simp) (heap_alloc_new w _)
  have b1 : Below w.heap.size w w1 := ((Below.refl _ _).alloc (Nat.le_refl _) _).trans (hb1.mono (by simp))
  have s1 : w.heap.size < w1.heap.size := heapLt D1.out
  clear hb1
  go_wp2_with fail
  refine (of_no t _ (by omega)).mono ?_
  rintro e w3 ⟨rfl, hb2⟩
  have D3 : Hid ((w3.alloc (.cells #[.int .i64 0, .int .i64 0, .int .i64 0, .int .i64 0, .int .i64 0, .int .i64 0, .int .i64 0] 23)).heap[w.heap.size]? = some (.cells #[.int .i64 y, .int .i64 m, .int .i64 d, .int .i64 h, .int .i64 mi, .int .i64 s, .int .i64 wd] 23 (0, 0))) := heapOld _ (heapAfter hb2 s1 D1.out)
  have b2 : Below w.heap.size w w3 := b1.trans (hb2.mono (by omega))
  have b3 : Below w.heap.size w (w3.alloc (.cells #[.int .i64 0, .int .i64 0, .int .i64 0, .int .i64 0, .int .i64 0, .int .i64 0, .int .i64 0] 23)) := b2.alloc b2.size _
  have s3 : w.heap.size < (w3.alloc (.cells #[.int .i64 0, .int .i64 0, .int .i64 0, .int .i64 0, .int .i64 0, .int .i64 0, .int .i64 0] 23)).heap.size := heapLt D3.out
  clear hb2 b1 D1 b2
  unfold dateV
  go_wp2_with (first
    | (refine wpList_load_row rfl 23 _ rfl w.heap.size rfl 23 #[.int .i64 y, .int .i64 m, .int .i64 d, .int .i64 h, .int .i64 mi, .int .i64 s, .int .i64 wd] (0, 0) _ D3.out Try.underlying23 rfl sizeDate ?_)
    | (go_at_call 11; fail))
  refine (to_no y m d h mi s wd _ HV.out).mono ?_
  rintro e w4 ⟨rfl, hb4⟩
  go_wp2_with fail
  go_ret
  exact ⟨rfl, b3.trans (hb4.mono (by omega))⟩

set_option maxHeartbeats 4000000 in
theorem turn_big_yes (t y m d h mi s wd : Int) (w : World) (ht : 6311433600 ≤ t) (hv : MayD y m d h mi s) :
    Calls Try.prog 4 #[.int .i64 t, .agg #[.int .i64 y, .int .i64 m, .int .i64 d, .int .i64 h, .int .i64 mi, .int .i64 s, .int .i64 wd]] w fun e w' => e = .returned (.bool true) ∧ Below w.heap.size w w' := by
  have HV := Lib.hid hv
  clear hv
  go_enter Try.func4, Try.ntmps4
  go_wp2_with fail
  refine (shown_any _).mono ?_
  rintro e w1 ⟨rfl, hb1⟩
  have D1 : Hid (w1.heap[w.heap.size]? = some (.cells #[.int .i64 y, .int .i64 m, .int .i64 d, .int .i64 h, .int .i64 mi, .int .i64 s, .int .i64 wd] 23 (0, 0))) := heapAfter hb1 (by simp) (heap_alloc_new w _)
  have b1 : Below w.heap.size w w1 := ((Below.refl _ _).alloc (Nat.le_refl _) _).trans (hb1.mono (by simp))
  have s1 : w.heap.size < w1.heap.size := heapLt D1.out
  clear hb1
  go_wp2_with fail
  refine (of_no t _ (by omega)).mono ?_
  rintro e w3 ⟨rfl, hb2⟩
  have D3 : Hid ((w3.alloc (.cells #[.int .i64 0, .int .i64 0, .int .i64 0, .int .i64 0, .int .i64 0, .int .i64 0, .int .i64 0] 23)).heap[w.heap.size]? = some (.cells #[.int .i64 y, .int .i64 m, .int .i64 d, .int .i64 h, .int .i64 mi, .int .i64 s, .int .i64 wd] 23 (0, 0))) := heapOld _ (heapAfter hb2 s1 D1.out)
  have b2 : Below w.heap.size w w3 := b1.trans (hb2.mono (by omega))
  have b3 : Below w.heap.size w (w3.alloc (.cells #[.int .i64 0, .int .i64 0, .int .i64 0, .int .i64 0, .int .i64 0, .int .i64 0, .int .i64 0] 23)) := b2.alloc b2.size _
  have s3 : w.heap.size < (w3.alloc (.cells #[.int .i64 0, .int .i64 0, .int .i64 0, .int .i64 0, .int .i64 0, .int .i64 0, .int .i64 0] 23)).heap.size := heapLt D3.out
  clear hb2 b1 D1 b2
  unfold dateV
  go_wp2_with (first
    | (refine wpList_load_row rfl 23 _ rfl w.heap.size rfl 23 #[.int .i64 y, .int .i64 m, .int .i64 d, .int .i64 h, .int .i64 mi, .int .i64 s, .int .i64 wd] (0, 0) _ D3.out Try.underlying23 rfl sizeDate ?_)
    | (go_at_call 11; fail))
  refine (to_yes y m d h mi s wd _ HV.out).mono ?_
  rintro e w4 ⟨rfl, hb4⟩
  have D4 : Hid (w4.heap[w.heap.size]? = some (.cells #[.int .i64 y, .int .i64 m, .int .i64 d, .int .i64 h, .int .i64 mi, .int .i64 s, .int .i64 wd] 23 (0, 0))) := heapAfter hb4 s3 D3.out
  have b4 : Below w.heap.size w w4 := b3.trans (hb4.mono (by omega))
  have s4 : w.heap.size < w4.heap.size := heapLt D4.out
  clear hb4 b3 D3
  go_wp2_with fail
  obtain ⟨f1, f2, f3, f4, f5, f6⟩ := of_sec HV.out
  refine (of_yes _ _ f1 f2).mono ?_
  rintro e w5 ⟨y2, m2, d2, rfl, hd2, hb5⟩
  obtain ⟨rfl, rfl, rfl⟩ := f3.uniq hd2
  rw [f4, f5, f6]
  clear f3 f4 f5 f6 hd2
  have D5 : Hid (w5.heap[w.heap.size]? = some (.cells #[.int .i64 y, .int .i64 m, .int .i64 d, .int .i64 h, .int .i64 mi, .int .i64 s, .int .i64 wd] 23 (0, 0))) := heapAfter hb5 s4 D4.out
  have b5 : Below w.heap.size w w5 := b4.trans (hb5.mono (by omega))
  have s5 : w.heap.size < w5.heap.size := heapLt D5.out
  have c6 : ∀ o, w5.cell? ⟨w.heap.size, o, none⟩ = (#[.int .i64 y, .int .i64 m, .int .i64 d, .int .i64 h, .int .i64 mi, .int .i64 s, .int .i64 wd] : Array Value)[o]? := fun o => cell_of_row _ _ _ _ _ _ D5.out
  have fz : w5.frozen? ⟨w.heap.size, 6, none⟩ = false := frozen_of_row _ _ _ _ _ D5.out
  clear hb5 b4 D4
  unfold dateV
  go_wp2_with (at_builtin; fail)
  go_ret
  exact ⟨rfl, (b5.setCell (by simp) _).alloc (by have := b5.size; simp [World.setCell]; omega) _⟩

set_option maxHeartbeats 4000000 in
theorem turn_big_no (t y m d h mi s wd : Int) (w : World) (ht : 6311433600 ≤ t) (hv : ¬ MayD y m d h mi s) :
    Calls Try.prog 4 #[.int .i64 t, .agg #[.int .i64 y, .int .i64 m, .int .i64 d, .int .i64 h, .int .i64 mi, .int .i64 s, .int .i64 wd]] w fun e w' => e = .returned (.bool true) ∧ Below w.heap.size w w' := by
  have HV := Lib.hid hv
  clear hv
  go_enter Try.func4, Try.ntmps4
  go_wp2_with fail
  refine (shown_any _).mono ?_
  rintro e w1 ⟨rfl, hb1⟩
  have D1 : Hid (w1.heap[w.heap.size]? = some (.cells #[.int .i64 y, .int .i64 m, .int .i64 d, .int .i64 h, .int .i64 mi, .int .i64 s, .int .i64 wd] 23 (0, 0))) := heapAfter hb1 (by simp) (heap_alloc_new w _)
  have b1 : Below w.heap.size w w1 := ((Below.refl _ _).alloc (Nat.le_refl _) _).trans (hb1.mono (by simp))
  have s1 : w.heap.size < w1.heap.size := heapLt D1.out
  clear hb1
  go_wp2_with fail
  refine (of_no t _ (by omega)).mono ?_
  rintro e w3 ⟨rfl, hb2⟩
  have D3 : Hid ((w3.alloc (.cells #[.int .i64 0, .int .i64 0, .int .i64 0, .int .i64 0, .int .i64 0, .int .i64 0, .int .i64 0] 23)).heap[w.heap.size]? = some (.cells #[.int .i64 y, .int .i64 m, .int .i64 d, .int .i64 h, .int .i64 mi, .int .i64 s, .int .i64 wd] 23 (0, 0))) := heapOld _ (heapAfter hb2 s1 D1.out)
  have b2 : Below w.heap.size w w3 := b1.trans (hb2.mono (by omega))
  have b3 : Below w.heap.size w (w3.alloc (.cells #[.int .i64 0, .int .i64 0, .int .i64 0, .int .i64 0, .int .i64 0, .int .i64 0, .int .i64 0] 23)) := b2.alloc b2.size _
  have s3 : w.heap.size < (w3.alloc (.cells #[.int .i64 0, .int .i64 0, .int .i64 0, .int .i64 0, .int .i64 0, .int .i64 0, .int .i64 0] 23)).heap.size := heapLt D3.out
  clear hb2 b1 D1 b2
  unfold dateV
  go_wp2_with (first
    | (refine wpList_load_row rfl 23 _ rfl w.heap.size rfl 23 #[.int .i64 y, .int .i64 m, .int .i64 d, .int .i64 h, .int .i64 mi, .int .i64 s, .int .i64 wd] (0, 0) _ D3.out Try.underlying23 rfl sizeDate ?_)
    | (go_at_call 11; fail))
  refine (to_no y m d h mi s wd _ HV.out).mono ?_
  rintro e w4 ⟨rfl, hb4⟩
  go_wp2_with fail
  go_ret
  exact ⟨rfl, b3.trans (hb4.mono (by omega))⟩

theorem turn_any (t y m d h mi s wd : Int) (w : World) :
    Calls Try.prog 4 #[.int .i64 t, .agg #[.int .i64 y, .int .i64 m, .int .i64 d, .int .i64 h, .int .i64 mi, .int .i64 s, .int .i64 wd]] w fun e w' => e = .returned (.bool true) ∧ Below w.heap.size w w' := by
  by_cases hv : MayD y m d h mi s
  · by_cases ht : 0 ≤ t ∧ t < 6311433600
    · exact turn_yes_yes t y m d h mi s wd w ht.1 ht.2 hv
    · by_cases hn : t < 0
      · exact turn_neg_yes t y m d h mi s wd w hn hv
      · exact turn_big_yes t y m d h mi s wd w (by omega) hv
  · by_cases ht : 0 ≤ t ∧ t < 6311433600
    · exact turn_yes_no t y m d h mi s wd w ht.1 ht.2 hv
    · by_cases hn : t < 0
      · exact turn_neg_no t y m d h mi s wd w hn hv
      · exact turn_big_no t y m d h mi s wd w (by omega) hv

end Go.Proofs.Ytokcllmceppbmaa
