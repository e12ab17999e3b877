/-
  The walk of matinslaw3.CivilAll: it returns true; old memory is as it was.
-/
import Derived.Test.YtokcllmceppbmaaCivilShown
import Derived.Test.YtokcllmceppbmaaCivilRto
namespace Go.Proofs.Ytokcllmceppbmaa
open Go.ChangeShapes Go.WideShapes Go.ChangeAt Go.RowKit

theorem sizeDate : (Try.prog.info? 23).map (·.size) = some 7 := by kernel_rfl
theorem heapAfter {N g : Nat} {W w' : World} {x : Option Obj} (hb : Below N W w') (hg : g < N) (h : W.heap[g]? = x) : w'.heap[g]? = x := (hb.block g hg).trans h
theorem size_alloc (w : World) (o : Obj) : (w.alloc o).heap.size = w.heap.size + 1 := by simp
theorem heapOld {W : World} {g : Nat} {x : Obj} (o : Obj) (h : W.heap[g]? = some x) : (W.alloc o).heap[g]? = some x := by
  have hlt : g < W.heap.size := by
    by_cases hg : g < W.heap.size
    · exact hg
    · rw [Array.getElem?_eq_none (by omega)] at h
      cases h
  exact (Below.heap_alloc W o g hlt).trans h
theorem heapLt {W : World} {g : Nat} {x : Obj} (h : W.heap[g]? = some x) : g < W.heap.size := by
  by_cases hg : g < W.heap.size
  · exact hg
  · rw [Array.getElem?_eq_none (by omega)] at h
    cases h

set_option maxHeartbeats 4000000 in
theorem all_yes_yes (t y m d h mi s wd year month : Int) (w : World) (h0 : 0 ≤ t) (h1 : t < 6311433600) (hv : MayD y m d h mi s) :
    Calls Try.prog 3 #[.int .i64 t, .agg #[.int .i64 y, .int .i64 m, .int .i64 d, .int .i64 h, .int .i64 mi, .int .i64 s, .int .i64 wd], .int .i64 year, .int .i64 month] w fun e w' => e = .returned (.bool true) ∧ Below w.heap.size w w' := by
  have HV := Lib.hid hv
  clear hv
  go_enter Try.func3, Try.ntmps3
  go_wp2_with fail
  refine (shown_any _).mono ?_
  rintro e w1 ⟨rfl, hb1⟩
  have D1 : Hid (w1.heap[w.heap.size]? = some (.cells #[.int .i64 y, .int .i64 m, .int .i64 d, .int .i64 h, .int .i64 mi, .int .i64 s, .int .i64 wd] 23 (0, 0))) := heapAfter hb1 (by simp) (heap_alloc_new w _)
  have b1 : Below w.heap.size w w1 := ((Below.refl _ _).alloc (Nat.le_refl _) _).trans (hb1.mono (by simp))
  have s1 : w.heap.size < w1.heap.size := heapLt D1.out
  clear hb1
  go_wp2_with fail
  refine (of_yes t _ h0 h1).mono ?_
  rintro e w2 ⟨y1, m1, d1, rfl, hd1, hb2⟩
  have D2 : Hid (w2.heap[w.heap.size]? = some (.cells #[.int .i64 y, .int .i64 m, .int .i64 d, .int .i64 h, .int .i64 mi, .int .i64 s, .int .i64 wd] 23 (0, 0))) := heapAfter hb2 s1 D1.out
  have b2 : Below w.heap.size w w2 := b1.trans (hb2.mono (by omega))
  have s2 : w1.heap.size ≤ w2.heap.size := hb2.size
  clear hb2 b1 D1
  unfold dateV
  go_wp2_with (go_at_call 10; fail)
  refine (rof_yes t _ h0 h1).mono ?_
  rintro e w3 ⟨y2, m2, d2, rfl, hd2, hb3⟩
  obtain ⟨rfl, rfl, rfl⟩ := hd1.uniq hd2
  clear hd1 hd2
  have hsz := hb3.size
  rw [size_alloc] at hsz
  have D3 : Hid (w3.heap[w.heap.size]? = some (.cells #[.int .i64 y, .int .i64 m, .int .i64 d, .int .i64 h, .int .i64 mi, .int .i64 s, .int .i64 wd] 23 (0, 0))) := heapAfter hb3 (by rw [size_alloc]; omega) (heapOld _ D2.out)
  have A3 : Hid (w3.heap[w2.heap.size]? = some (.cells #[.int .i64 y1, .int .i64 m1, .int .i64 d1, .int .i64 (t % 86400 / 3600), .int .i64 (t % 3600 / 60), .int .i64 (t % 60), .int .i64 ((t / 86400 + 5) % 7 + 1)] 23 (0, 0))) := heapAfter hb3 (by rw [size_alloc]; omega) (heap_alloc_new w2 _)
  have b3 : Below w.heap.size w w3 := (b2.alloc b2.size _).trans (hb3.mono (by rw [size_alloc]; omega))
  clear hb3 b2 D2
  unfold dateV
  have D4 : Hid ((w3.alloc (.cells #[.int .i64 y1, .int .i64 m1, .int .i64 d1, .int .i64 (t % 86400 / 3600), .int .i64 (t % 3600 / 60), .int .i64 (t % 60), .int .i64 ((t / 86400 + 5) % 7 + 1)] 23)).heap[w.heap.size]? = some (.cells #[.int .i64 y, .int .i64 m, .int .i64 d, .int .i64 h, .int .i64 mi, .int .i64 s, .int .i64 wd] 23 (0, 0))) := heapOld _ D3.out
  go_wp2_with (first
    | (refine wpList_load_row rfl 23 _ rfl w.heap.size rfl 23 #[.int .i64 y, .int .i64 m, .int .i64 d, .int .i64 h, .int .i64 mi, .int .i64 s, .int .i64 wd] (0, 0) _ D4.out Try.underlying23 rfl sizeDate ?_)
    | (go_at_call 11; fail))
  refine (to_yes y m d h mi s wd _ HV.out).mono ?_
  rintro e w4 ⟨rfl, hb4⟩
  have hsz4 := hb4.size
  rw [size_alloc] at hsz4
  have D5 : Hid (w4.heap[w.heap.size]? = some (.cells #[.int .i64 y, .int .i64 m, .int .i64 d, .int .i64 h, .int .i64 mi, .int .i64 s, .int .i64 wd] 23 (0, 0))) := heapAfter hb4 (by rw [size_alloc]; omega) D4.out
  have A5 : Hid (w4.heap[w2.heap.size]? = some (.cells #[.int .i64 y1, .int .i64 m1, .int .i64 d1, .int .i64 (t % 86400 / 3600), .int .i64 (t % 3600 / 60), .int .i64 (t % 60), .int .i64 ((t / 86400 + 5) % 7 + 1)] 23 (0, 0))) := heapAfter hb4 (by rw [size_alloc]; omega) (heapOld _ A3.out)
  have B5 : Hid (w4.heap[w3.heap.size]? = some (.cells #[.int .i64 y1, .int .i64 m1, .int .i64 d1, .int .i64 (t % 86400 / 3600), .int .i64 (t % 3600 / 60), .int .i64 (t % 60), .int .i64 ((t / 86400 + 5) % 7 + 1)] 23 (0, 0))) := heapAfter hb4 (by rw [size_alloc]; omega) (heap_alloc_new w3 _)
  have b4 : Below w.heap.size w w4 := (b3.alloc b3.size _).trans (hb4.mono (by rw [size_alloc]; omega))
  clear hb4 b3 D4 D3 A3
  go_wp2_with (first
    | (refine wpList_load_row rfl 23 _ rfl w.heap.size rfl 23 #[.int .i64 y, .int .i64 m, .int .i64 d, .int .i64 h, .int .i64 mi, .int .i64 s, .int .i64 wd] (0, 0) _ D5.out Try.underlying23 rfl sizeDate ?_)
    | (go_at_call 12; fail))
  refine (rto_yes y m d h mi s wd _ HV.out).mono ?_
  rintro e w5 ⟨rfl, hb5⟩
  have A6 : Hid (w5.heap[w2.heap.size]? = some (.cells #[.int .i64 y1, .int .i64 m1, .int .i64 d1, .int .i64 (t % 86400 / 3600), .int .i64 (t % 3600 / 60), .int .i64 (t % 60), .int .i64 ((t / 86400 + 5) % 7 + 1)] 23 (0, 0))) := heapAfter hb5 (by omega) A5.out
  have B6 : Hid (w5.heap[w3.heap.size]? = some (.cells #[.int .i64 y1, .int .i64 m1, .int .i64 d1, .int .i64 (t % 86400 / 3600), .int .i64 (t % 3600 / 60), .int .i64 (t % 60), .int .i64 ((t / 86400 + 5) % 7 + 1)] 23 (0, 0))) := heapAfter hb5 (by omega) B5.out
  have b5 : Below w.heap.size w w5 := b4.trans (hb5.mono (by omega))
  clear hb5 b4 A5 B5 D5
  go_wp2_with (first
    | (refine wpList_load_row rfl 23 _ rfl w2.heap.size rfl 23 #[.int .i64 y1, .int .i64 m1, .int .i64 d1, .int .i64 (t % 86400 / 3600), .int .i64 (t % 3600 / 60), .int .i64 (t % 60), .int .i64 ((t / 86400 + 5) % 7 + 1)] (0, 0) _ A6.out Try.underlying23 rfl sizeDate ?_)
    | (refine wpList_load_row rfl 23 _ rfl w3.heap.size rfl 23 #[.int .i64 y1, .int .i64 m1, .int .i64 d1, .int .i64 (t % 86400 / 3600), .int .i64 (t % 3600 / 60), .int .i64 (t % 60), .int .i64 ((t / 86400 + 5) % 7 + 1)] (0, 0) _ B6.out Try.underlying23 rfl sizeDate ?_)
    | (go_at_call 13; refine (leap_any _ _).mono ?_; rintro e w' ⟨rfl, rfl⟩)
    | (go_at_call 14; refine (rleap_any _ _).mono ?_; rintro e w' ⟨rfl, rfl⟩)
    | (go_at_call 15; refine (days_any _ _ _).mono ?_; rintro e w' ⟨rfl, rfl⟩)
    | (go_at_call 16; refine (rdays_any _ _ _).mono ?_; rintro e w' ⟨rfl, rfl⟩))
  go_ret
  exact ⟨rfl, b5⟩

set_option maxHeartbeats 4000000 in
theorem all_yes_no (t y m d h mi s wd year month : Int) (w : World) (h0 : 0 ≤ t) (h1 : t < 6311433600) (hv : ¬ MayD y m d h mi s) :
    Calls Try.prog 3 #[.int .i64 t, .agg #[.int .i64 y, .int .i64 m, .int .i64 d, .int .i64 h, .int .i64 mi, .int .i64 s, .int .i64 wd], .int .i64 year, .int .i64 month] w fun e w' => e = .returned (.bool true) ∧ Below w.heap.size w w' := by
  have HV := Lib.hid hv
  clear hv
  go_enter Try.func3, Try.ntmps3
  go_wp2_with fail
  refine (shown_any _).mono ?_
  rintro e w1 ⟨rfl, hb1⟩
  have D1 : Hid (w1.heap[w.heap.size]? = some (.cells #[.int .i64 y, .int .i64 m, .int .i64 d, .int .i64 h, .int .i64 mi, .int .i64 s, .int .i64 wd] 23 (0, 0))) := heapAfter hb1 (by simp) (heap_alloc_new w _)
  have b1 : Below w.heap.size w w1 := ((Below.refl _ _).alloc (Nat.le_refl _) _).trans (hb1.mono (by simp))
  have s1 : w.heap.size < w1.heap.size := heapLt D1.out
  clear hb1
  go_wp2_with fail
  refine (of_yes t _ h0 h1).mono ?_
  rintro e w2 ⟨y1, m1, d1, rfl, hd1, hb2⟩
  have D2 : Hid (w2.heap[w.heap.size]? = some (.cells #[.int .i64 y, .int .i64 m, .int .i64 d, .int .i64 h, .int .i64 mi, .int .i64 s, .int .i64 wd] 23 (0, 0))) := heapAfter hb2 s1 D1.out
  have b2 : Below w.heap.size w w2 := b1.trans (hb2.mono (by omega))
  have s2 : w1.heap.size ≤ w2.heap.size := hb2.size
  clear hb2 b1 D1
  unfold dateV
  go_wp2_with (go_at_call 10; fail)
  refine (rof_yes t _ h0 h1).mono ?_
  rintro e w3 ⟨y2, m2, d2, rfl, hd2, hb3⟩
  obtain ⟨rfl, rfl, rfl⟩ := hd1.uniq hd2
  clear hd1 hd2
  have hsz := hb3.size
  rw [size_alloc] at hsz
  have D3 : Hid (w3.heap[w.heap.size]? = some (.cells #[.int .i64 y, .int .i64 m, .int .i64 d, .int .i64 h, .int .i64 mi, .int .i64 s, .int .i64 wd] 23 (0, 0))) := heapAfter hb3 (by rw [size_alloc]; omega) (heapOld _ D2.out)
  have A3 : Hid (w3.heap[w2.heap.size]? = some (.cells #[.int .i64 y1, .int .i64 m1, .int .i64 d1, .int .i64 (t % 86400 / 3600), .int .i64 (t % 3600 / 60), .int .i64 (t % 60), .int .i64 ((t / 86400 + 5) % 7 + 1)] 23 (0, 0))) := heapAfter hb3 (by rw [size_alloc]; omega) (heap_alloc_new w2 _)
  have b3 : Below w.heap.size w w3 := (b2.alloc b2.size _).trans (hb3.mono (by rw [size_alloc]; omega))
  clear hb3 b2 D2
  unfold dateV
  have D4 : Hid ((w3.alloc (.cells #[.int .i64 y1, .int .i64 m1, .int .i64 d1, .int .i64 (t % 86400 / 3600), .int .i64 (t % 3600 / 60), .int .i64 (t % 60), .int .i64 ((t / 86400 + 5) % 7 + 1)] 23)).heap[w.heap.size]? = some (.cells #[.int .i64 y, .int .i64 m, .int .i64 d, .int .i64 h, .int .i64 mi, .int .i64 s, .int .i64 wd] 23 (0, 0))) := heapOld _ D3.out
  go_wp2_with (first
    | (refine wpList_load_row rfl 23 _ rfl w.heap.size rfl 23 #[.int .i64 y, .int .i64 m, .int .i64 d, .int .i64 h, .int .i64 mi, .int .i64 s, .int .i64 wd] (0, 0) _ D4.out Try.underlying23 rfl sizeDate ?_)
    | (go_at_call 11; fail))
  refine (to_no y m d h mi s wd _ HV.out).mono ?_
  rintro e w4 ⟨rfl, hb4⟩
  have hsz4 := hb4.size
  rw [size_alloc] at hsz4
  have D5 : Hid (w4.heap[w.heap.size]? = some (.cells #[.int .i64 y, .int .i64 m, .int .i64 d, .int .i64 h, .int .i64 mi, .int .i64 s, .int .i64 wd] 23 (0, 0))) := heapAfter hb4 (by rw [size_alloc]; omega) D4.out
  have A5 : Hid (w4.heap[w2.heap.size]? = some (.cells #[.int .i64 y1, .int .i64 m1, .int .i64 d1, .int .i64 (t % 86400 / 3600), .int .i64 (t % 3600 / 60), .int .i64 (t % 60), .int .i64 ((t / 86400 + 5) % 7 + 1)] 23 (0, 0))) := heapAfter hb4 (by rw [size_alloc]; omega) (heapOld _ A3.out)
  have B5 : Hid (w4.heap[w3.heap.size]? = some (.cells #[.int .i64 y1, .int .i64 m1, .int .i64 d1, .int .i64 (t % 86400 / 3600), .int .i64 (t % 3600 / 60), .int .i64 (t % 60), .int .i64 ((t / 86400 + 5) % 7 + 1)] 23 (0, 0))) := heapAfter hb4 (by rw [size_alloc]; omega) (heap_alloc_new w3 _)
  have b4 : Below w.heap.size w w4 := (b3.alloc b3.size _).trans (hb4.mono (by rw [size_alloc]; omega))
  clear hb4 b3 D4 D3 A3
  go_wp2_with (first
    | (refine wpList_load_row rfl 23 _ rfl w.heap.size rfl 23 #[.int .i64 y, .int .i64 m, .int .i64 d, .int .i64 h, .int .i64 mi, .int .i64 s, .int .i64 wd] (0, 0) _ D5.out Try.underlying23 rfl sizeDate ?_)
    | (go_at_call 12; fail))
  refine (rto_no y m d h mi s wd _ HV.out).mono ?_
  rintro e w5 ⟨rfl, hb5⟩
  have A6 : Hid (w5.heap[w2.heap.size]? = some (.cells #[.int .i64 y1, .int .i64 m1, .int .i64 d1, .int .i64 (t % 86400 / 3600), .int .i64 (t % 3600 / 60), .int .i64 (t % 60), .int .i64 ((t / 86400 + 5) % 7 + 1)] 23 (0, 0))) := heapAfter hb5 (by omega) A5.out
  have B6 : Hid (w5.heap[w3.heap.size]? = some (.cells #[.int .i64 y1, .int .i64 m1, .int .i64 d1, .int .i64 (t % 86400 / 3600), .int .i64 (t % 3600 / 60), .int .i64 (t % 60), .int .i64 ((t / 86400 + 5) % 7 + 1)] 23 (0, 0))) := heapAfter hb5 (by omega) B5.out
  have b5 : Below w.heap.size w w5 := b4.trans (hb5.mono (by omega))
  clear hb5 b4 A5 B5 D5
  go_wp2_with (first
    | (refine wpList_load_row rfl 23 _ rfl w2.heap.size rfl 23 #[.int .i64 y1, .int .i64 m1, .int .i64 d1, .int .i64 (t % 86400 / 3600), .int .i64 (t % 3600 / 60), .int .i64 (t % 60), .int .i64 ((t / 86400 + 5) % 7 + 1)] (0, 0) _ A6.out Try.underlying23 rfl sizeDate ?_)
    | (refine wpList_load_row rfl 23 _ rfl w3.heap.size rfl 23 #[.int .i64 y1, .int .i64 m1, .int .i64 d1, .int .i64 (t % 86400 / 3600), .int .i64 (t % 3600 / 60), .int .i64 (t % 60), .int .i64 ((t / 86400 + 5) % 7 + 1)] (0, 0) _ B6.out Try.underlying23 rfl sizeDate ?_)
    | (go_at_call 13; refine (leap_any _ _).mono ?_; rintro e w' ⟨rfl, rfl⟩)
    | (go_at_call 14; refine (rleap_any _ _).mono ?_; rintro e w' ⟨rfl, rfl⟩)
    | (go_at_call 15; refine (days_any _ _ _).mono ?_; rintro e w' ⟨rfl, rfl⟩)
    | (go_at_call 16; refine (rdays_any _ _ _).mono ?_; rintro e w' ⟨rfl, rfl⟩))
  go_ret
  exact ⟨rfl, b5⟩

set_option maxHeartbeats 4000000 in
theorem all_no_yes (t y m d h mi s wd year month : Int) (w : World) (ht : t < 0 ∨ 6311433600 ≤ t) (hv : MayD y m d h mi s) :
    Calls Try.prog 3 #[.int .i64 t, .agg #[.int .i64 y, .int .i64 m, .int .i64 d, .int .i64 h, .int .i64 mi, .int .i64 s, .int .i64 wd], .int .i64 year, .int .i64 month] w fun e w' => e = .returned (.bool true) ∧ Below w.heap.size w w' := by
  have HV := Lib.hid hv
  clear hv
  go_enter Try.func3, Try.ntmps3
  go_wp2_with fail
  refine (shown_any _).mono ?_
  rintro e w1 ⟨rfl, hb1⟩
  have D1 : Hid (w1.heap[w.heap.size]? = some (.cells #[.int .i64 y, .int .i64 m, .int .i64 d, .int .i64 h, .int .i64 mi, .int .i64 s, .int .i64 wd] 23 (0, 0))) := heapAfter hb1 (by simp) (heap_alloc_new w _)
  have b1 : Below w.heap.size w w1 := ((Below.refl _ _).alloc (Nat.le_refl _) _).trans (hb1.mono (by simp))
  have s1 : w.heap.size < w1.heap.size := heapLt D1.out
  clear hb1
  go_wp2_with fail
  refine (of_no t _ ht).mono ?_
  rintro e w2 ⟨rfl, hb2⟩
  have D2 : Hid (w2.heap[w.heap.size]? = some (.cells #[.int .i64 y, .int .i64 m, .int .i64 d, .int .i64 h, .int .i64 mi, .int .i64 s, .int .i64 wd] 23 (0, 0))) := heapAfter hb2 s1 D1.out
  have b2 : Below w.heap.size w w2 := b1.trans (hb2.mono (by omega))
  have s2 : w1.heap.size ≤ w2.heap.size := hb2.size
  clear hb2 b1 D1
  unfold dateV
  go_wp2_with (go_at_call 10; fail)
  refine (rof_no t _ ht).mono ?_
  rintro e w3 ⟨rfl, hb3⟩
  have hsz := hb3.size
  rw [size_alloc] at hsz
  have D3 : Hid (w3.heap[w.heap.size]? = some (.cells #[.int .i64 y, .int .i64 m, .int .i64 d, .int .i64 h, .int .i64 mi, .int .i64 s, .int .i64 wd] 23 (0, 0))) := heapAfter hb3 (by rw [size_alloc]; omega) (heapOld _ D2.out)
  have A3 : Hid (w3.heap[w2.heap.size]? = some (.cells #[.int .i64 0, .int .i64 0, .int .i64 0, .int .i64 0, .int .i64 0, .int .i64 0, .int .i64 0] 23 (0, 0))) := heapAfter hb3 (by rw [size_alloc]; omega) (heap_alloc_new w2 _)
  have b3 : Below w.heap.size w w3 := (b2.alloc b2.size _).trans (hb3.mono (by rw [size_alloc]; omega))
  clear hb3 b2 D2
  unfold dateV
  have D4 : Hid ((w3.alloc (.cells #[.int .i64 0, .int .i64 0, .int .i64 0, .int .i64 0, .int .i64 0, .int .i64 0, .int .i64 0] 23)).heap[w.heap.size]? = some (.cells #[.int .i64 y, .int .i64 m, .int .i64 d, .int .i64 h, .int .i64 mi, .int .i64 s, .int .i64 wd] 23 (0, 0))) := heapOld _ D3.out
  go_wp2_with (first
    | (refine wpList_load_row rfl 23 _ rfl w.heap.size rfl 23 #[.int .i64 y, .int .i64 m, .int .i64 d, .int .i64 h, .int .i64 mi, .int .i64 s, .int .i64 wd] (0, 0) _ D4.out Try.underlying23 rfl sizeDate ?_)
    | (go_at_call 11; fail))
  refine (to_yes y m d h mi s wd _ HV.out).mono ?_
  rintro e w4 ⟨rfl, hb4⟩
  have hsz4 := hb4.size
  rw [size_alloc] at hsz4
  have D5 : Hid (w4.heap[w.heap.size]? = some (.cells #[.int .i64 y, .int .i64 m, .int .i64 d, .int .i64 h, .int .i64 mi, .int .i64 s, .int .i64 wd] 23 (0, 0))) := heapAfter hb4 (by rw [size_alloc]; omega) D4.out
  have A5 : Hid (w4.heap[w2.heap.size]? = some (.cells #[.int .i64 0, .int .i64 0, .int .i64 0, .int .i64 0, .int .i64 0, .int .i64 0, .int .i64 0] 23 (0, 0))) := heapAfter hb4 (by rw [size_alloc]; omega) (heapOld _ A3.out)
  have B5 : Hid (w4.heap[w3.heap.size]? = some (.cells #[.int .i64 0, .int .i64 0, .int .i64 0, .int .i64 0, .int .i64 0, .int .i64 0, .int .i64 0] 23 (0, 0))) := heapAfter hb4 (by rw [size_alloc]; omega) (heap_alloc_new w3 _)
  have b4 : Below w.heap.size w w4 := (b3.alloc b3.size _).trans (hb4.mono (by rw [size_alloc]; omega))
  clear hb4 b3 D4 D3 A3
  go_wp2_with (first
    | (refine wpList_load_row rfl 23 _ rfl w.heap.size rfl 23 #[.int .i64 y, .int .i64 m, .int .i64 d, .int .i64 h, .int .i64 mi, .int .i64 s, .int .i64 wd] (0, 0) _ D5.out Try.underlying23 rfl sizeDate ?_)
    | (go_at_call 12; fail))
  refine (rto_yes y m d h mi s wd _ HV.out).mono ?_
  rintro e w5 ⟨rfl, hb5⟩
  have A6 : Hid (w5.heap[w2.heap.size]? = some (.cells #[.int .i64 0, .int .i64 0, .int .i64 0, .int .i64 0, .int .i64 0, .int .i64 0, .int .i64 0] 23 (0, 0))) := heapAfter hb5 (by omega) A5.out
  have B6 : Hid (w5.heap[w3.heap.size]? = some (.cells #[.int .i64 0, .int .i64 0, .int .i64 0, .int .i64 0, .int .i64 0, .int .i64 0, .int .i64 0] 23 (0, 0))) := heapAfter hb5 (by omega) B5.out
  have b5 : Below w.heap.size w w5 := b4.trans (hb5.mono (by omega))
  clear hb5 b4 A5 B5 D5
  go_wp2_with (first
    | (refine wpList_load_row rfl 23 _ rfl w2.heap.size rfl 23 #[.int .i64 0, .int .i64 0, .int .i64 0, .int .i64 0, .int .i64 0, .int .i64 0, .int .i64 0] (0, 0) _ A6.out Try.underlying23 rfl sizeDate ?_)
    | (refine wpList_load_row rfl 23 _ rfl w3.heap.size rfl 23 #[.int .i64 0, .int .i64 0, .int .i64 0, .int .i64 0, .int .i64 0, .int .i64 0, .int .i64 0] (0, 0) _ B6.out Try.underlying23 rfl sizeDate ?_)
    | (go_at_call 13; refine (leap_any _ _).mono ?_; rintro e w' ⟨rfl, rfl⟩)
    | (go_at_call 14; refine (rleap_any _ _).mono ?_; rintro e w' ⟨rfl, rfl⟩)
    | (go_at_call 15; refine (days_any _ _ _).mono ?_; rintro e w' ⟨rfl, rfl⟩)
    | (go_at_call 16; refine (rdays_any _ _ _).mono ?_; rintro e w' ⟨rfl, rfl⟩))
  go_ret
  exact ⟨rfl, b5⟩

set_option maxHeartbeats 4000000 in
theorem all_no_no (t y m d h mi s wd year month : Int) (w : World) (ht : t < 0 ∨ 6311433600 ≤ t) (hv : ¬ MayD y m d h mi s) :
    Calls Try.prog 3 #[.int .i64 t, .agg #[.int .i64 y, .int .i64 m, .int .i64 d, .int .i64 h, .int .i64 mi, .int .i64 s, .int .i64 wd], .int .i64 year, .int .i64 month] w fun e w' => e = .returned (.bool true) ∧ Below w.heap.size w w' := by
  have HV := Lib.hid hv
  clear hv
  go_enter Try.func3, Try.ntmps3
  go_wp2_with fail
  refine (shown_any _).mono ?_
  rintro e w1 ⟨rfl, hb1⟩
  have D1 : Hid (w1.heap[w.heap.size]? = some (.cells #[.int .i64 y, .int .i64 m, .int .i64 d, .int .i64 h, .int .i64 mi, .int .i64 s, .int .i64 wd] 23 (0, 0))) := heapAfter hb1 (by simp) (heap_alloc_new w _)
  have b1 : Below w.heap.size w w1 := ((Below.refl _ _).alloc (Nat.le_refl _) _).trans (hb1.mono (by simp))
  have s1 : w.heap.size < w1.heap.size := heapLt D1.out
  clear hb1
  go_wp2_with fail
  refine (of_no t _ ht).mono ?_
  rintro e w2 ⟨rfl, hb2⟩
  have D2 : Hid (w2.heap[w.heap.size]? = some (.cells #[.int .i64 y, .int .i64 m, .int .i64 d, .int .i64 h, .int .i64 mi, .int .i64 s, .int .i64 wd] 23 (0, 0))) := heapAfter hb2 s1 D1.out
  have b2 : Below w.heap.size w w2 := b1.trans (hb2.mono (by omega))
  have s2 : w1.heap.size ≤ w2.heap.size := hb2.size
  clear hb2 b1 D1
  unfold dateV
  go_wp2_with (go_at_call 10; fail)
  refine (rof_no t _ ht).mono ?_
  rintro e w3 ⟨rfl, hb3⟩
  have hsz := hb3.size
  rw [size_alloc] at hsz
  have D3 : Hid (w3.heap[w.heap.size]? = some (.cells #[.int .i64 y, .int .i64 m, .int .i64 d, .int .i64 h, .int .i64 mi, .int .i64 s, .int .i64 wd] 23 (0, 0))) := heapAfter hb3 (by rw [size_alloc]; omega) (heapOld _ D2.out)
  have A3 : Hid (w3.heap[w2.heap.size]? = some (.cells #[.int .i64 0, .int .i64 0, .int .i64 0, .int .i64 0, .int .i64 0, .int .i64 0, .int .i64 0] 23 (0, 0))) := heapAfter hb3 (by rw [size_alloc]; omega) (heap_alloc_new w2 _)
  have b3 : Below w.heap.size w w3 := (b2.alloc b2.size _).trans (hb3.mono (by rw [size_alloc]; omega))
  clear hb3 b2 D2
  unfold dateV
  have D4 : Hid ((w3.alloc (.cells #[.int .i64 0, .int .i64 0, .int .i64 0, .int .i64 0, .int .i64 0, .int .i64 0, .int .i64 0] 23)).heap[w.heap.size]? = some (.cells #[.int .i64 y, .int .i64 m, .int .i64 d, .int .i64 h, .int .i64 mi, .int .i64 s, .int .i64 wd] 23 (0, 0))) := heapOld _ D3.out
  go_wp2_with (first
    | (refine wpList_load_row rfl 23 _ rfl w.heap.size rfl 23 #[.int .i64 y, .int .i64 m, .int .i64 d, .int .i64 h, .int .i64 mi, .int .i64 s, .int .i64 wd] (0, 0) _ D4.out Try.underlying23 rfl sizeDate ?_)
    | (go_at_call 11; fail))
  refine (to_no y m d h mi s wd _ HV.out).mono ?_
  rintro e w4 ⟨rfl, hb4⟩
  have hsz4 := hb4.size
  rw [size_alloc] at hsz4
  have D5 : Hid (w4.heap[w.heap.size]? = some (.cells #[.int .i64 y, .int .i64 m, .int .i64 d, .int .i64 h, .int .i64 mi, .int .i64 s, .int .i64 wd] 23 (0, 0))) := heapAfter hb4 (by rw [size_alloc]; omega) D4.out
  have A5 : Hid (w4.heap[w2.heap.size]? = some (.cells #[.int .i64 0, .int .i64 0, .int .i64 0, .int .i64 0, .int .i64 0, .int .i64 0, .int .i64 0] 23 (0, 0))) := heapAfter hb4 (by rw [size_alloc]; omega) (heapOld _ A3.out)
  have B5 : Hid (w4.heap[w3.heap.size]? = some (.cells #[.int .i64 0, .int .i64 0, .int .i64 0, .int .i64 0, .int .i64 0, .int .i64 0, .int .i64 0] 23 (0, 0))) := heapAfter hb4 (by rw [size_alloc]; omega) (heap_alloc_new w3 _)
  have b4 : Below w.heap.size w w4 := (b3.alloc b3.size _).trans (hb4.mono (by rw [size_alloc]; omega))
  clear hb4 b3 D4 D3 A3
  go_wp2_with (first
    | (refine wpList_load_row rfl 23 _ rfl w.heap.size rfl 23 #[.int .i64 y, .int .i64 m, .int .i64 d, .int .i64 h, .int .i64 mi, .int .i64 s, .int .i64 wd] (0, 0) _ D5.out Try.underlying23 rfl sizeDate ?_)
    | (go_at_call 12; fail))
  refine (rto_no y m d h mi s wd _ HV.out).mono ?_
  rintro e w5 ⟨rfl, hb5⟩
  have A6 : Hid (w5.heap[w2.heap.size]? = some (.cells #[.int .i64 0, .int .i64 0, .int .i64 0, .int .i64 0, .int .i64 0, .int .i64 0, .int .i64 0] 23 (0, 0))) := heapAfter hb5 (by omega) A5.out
  have B6 : Hid (w5.heap[w3.heap.size]? = some (.cells #[.int .i64 0, .int .i64 0, .int .i64 0, .int .i64 0, .int .i64 0, .int .i64 0, .int .i64 0] 23 (0, 0))) := heapAfter hb5 (by omega) B5.out
  have b5 : Below w.heap.size w w5 := b4.trans (hb5.mono (by omega))
  clear hb5 b4 A5 B5 D5
  go_wp2_with (first
    | (refine wpList_load_row rfl 23 _ rfl w2.heap.size rfl 23 #[.int .i64 0, .int .i64 0, .int .i64 0, .int .i64 0, .int .i64 0, .int .i64 0, .int .i64 0] (0, 0) _ A6.out Try.underlying23 rfl sizeDate ?_)
    | (refine wpList_load_row rfl 23 _ rfl w3.heap.size rfl 23 #[.int .i64 0, .int .i64 0, .int .i64 0, .int .i64 0, .int .i64 0, .int .i64 0, .int .i64 0] (0, 0) _ B6.out Try.underlying23 rfl sizeDate ?_)
    | (go_at_call 13; refine (leap_any _ _).mono ?_; rintro e w' ⟨rfl, rfl⟩)
    | (go_at_call 14; refine (rleap_any _ _).mono ?_; rintro e w' ⟨rfl, rfl⟩)
    | (go_at_call 15; refine (days_any _ _ _).mono ?_; rintro e w' ⟨rfl, rfl⟩)
    | (go_at_call 16; refine (rdays_any _ _ _).mono ?_; rintro e w' ⟨rfl, rfl⟩))
  go_ret
  exact ⟨rfl, b5⟩

theorem all_any (t y m d h mi s wd year month : Int) (w : World) :
    Calls Try.prog 3 #[.int .i64 t, .agg #[.int .i64 y, .int .i64 m, .int .i64 d, .int .i64 h, .int .i64 mi, .int .i64 s, .int .i64 wd], .int .i64 year, .int .i64 month] w fun e w' => e = .returned (.bool true) ∧ Below w.heap.size w w' := by
  by_cases hv : MayD y m d h mi s
  · by_cases ht : 0 ≤ t ∧ t < 6311433600
    · exact all_yes_yes t y m d h mi s wd year month w ht.1 ht.2 hv
    · exact all_no_yes t y m d h mi s wd year month w (by omega) hv
  · by_cases ht : 0 ≤ t ∧ t < 6311433600
    · exact all_yes_no t y m d h mi s wd year month w ht.1 ht.2 hv
    · exact all_no_no t y m d h mi s wd year month w (by omega) hv

end Go.Proofs.Ytokcllmceppbmaa
