/-
  matinslaw24.shown is true.
-/
import Derived.Test.YtohgnmpmledljaaStThree
namespace Go.Proofs.Ytohgnmpmledljaa
open Go.ChangeShapes Go.WideShapes Go.ChangeAt Go.RowKit

theorem course_x : courseGo (fun i => doesA [act3] nm3 2 1 i 1) (fun i c => goodB (execs3.getD i (false, none, 0, 0)).1 c []) 1 200 3 0 100 = ([⟨0, 100, 100, 0⟩, ⟨1, 100, 104, 2⟩], false) := by first | rfl | kernel_rfl
theorem course_y : courseGo (fun i => doesA [act3] nm3 2 1 i 1) (fun i c => goodB (execs3.getD i (false, none, 0, 0)).1 c [2]) 1 200 3 0 100 = ([⟨0, 100, 100, 0⟩, ⟨1, 100, 104, 2⟩, ⟨2, 104, 104, 0⟩], true) := by first | rfl | kernel_rfl

theorem light3 : Light [act3] := by
  intro r hr
  simp at hr
  subst hr
  decide

theorem no_ints (w : World) (B : Nat) : IntsIn w B none 0 [] := ⟨rfl, fun h => absurd h (Nat.lt_irrefl _)⟩

theorem one_int (w : World) (x : Int) : IntsIn (w.alloc (.cells #[.int .i64 x] 3)) (w.alloc (.cells #[.int .i64 x] 3)).heap.size (some ⟨w.heap.size, 0, none⟩) 1 [x] := by
  refine ⟨rfl, fun _ => ⟨_, _, rfl, by simp, fun j hj => ?_⟩⟩
  obtain rfl : j = 0 := by omega
  exact cell_of_row _ _ 0 _ _ _ (heap_alloc_new w _)

theorem marks_at {w : World} {base n g cap : Nat} {l : List MarkM} (h : w.ownsRow base 63 4 (.slice (some ⟨g, 0, none⟩) n cap) n (markCells l)) : ∀ j u, (markCells l)[j]? = some u → w.cell? ⟨g, j, none⟩ = some u := by
  intro j u hu
  have := h.cells (g := g) rfl j u hu
  rwa [add_plain, Nat.zero_add] at this

set_option maxRecDepth 100000 in
set_option maxHeartbeats 4000000 in
theorem shown24_true (w : World) : Calls Try.prog 17 #[] w fun e w' => e = .returned (.bool true) ∧ Below w.heap.size w w' := by
  have hzs : (zeroUnit nm3 2).size = 35 := rfl
  have hzo : (zeroUnit nm3 2).all (·.oneCell') = true := by simp [zeroUnit, Value.oneCell']
  have hz0 : (zeroUnit nm3 2)[0]? = some (.string nm3) := rfl
  have hz7 : (zeroUnit nm3 2)[7]? = some (.int .i64 2) := rfl
  have HTHREE := Lib.hid (three_any w)
  unfold ThreeRet at HTHREE
  generalize zeroUnit nm3 2 = zu at *
  have HZS := Lib.hid hzs
  have HZO := Lib.hid hzo
  have HZ0 := Lib.hid hz0
  have HZ7 := Lib.hid hz7
  clear hzo hz0 hz7
  go_enter Try.func17, Try.ntmps17
  go_wp2_with (go_at_call 30; refine HTHREE.out.mono ?_; rintro e w1 ⟨rfl, hb1, ha1, he1⟩; have HB1 := Lib.hid hb1; have HA1 := Lib.hid ha1; have HE1 := Lib.hid he1; clear hb1 ha1 he1)
  generalize hW4 : World.alloc _ _ = W4
  have g1 : ∃ old, W4.heap[w1.heap.size + 1]? = some (.cells old 51 (0, 0)) ∧ old.size = 35 := by rw [← hW4]; exact ⟨_, row_two w1 _ _, rfl⟩
  have g0 : W4.heap[w1.heap.size]? = some (.cells #[.slice (some ⟨w.heap.size + 1 + 1, 0, none⟩) 1 1, .slice none 0 0, .slice none 0 0] 44 (0, 0)) := by rw [← hW4]; exact (Below.heap_alloc (w1.alloc _) _ _ (by simp)).trans (heap_alloc_new w1 _)
  have g4 : Below w1.heap.size w1 W4 ∧ W4.heap.size = w1.heap.size + 2 := by rw [← hW4]; exact ⟨((Below.refl _ _).alloc (Nat.le_refl _) _).alloc (by simp) _, by simp⟩
  clear hW4
  obtain ⟨old, g1, go⟩ := g1
  rw [run_storeUnit W4 (w1.heap.size + 1) old zu g1 (by rw [go, HZS.out]) HZS.out HZO.out]
  have k1 := setRow_heap W4 (w1.heap.size + 1) old zu _ _ g1
  have k0 := (setRow_other W4 (w1.heap.size + 1) w1.heap.size zu (by omega)).trans g0
  have k4 : Below w1.heap.size w1 (W4.setRow (w1.heap.size + 1) zu) := below_setRow3 g4.1 (by omega) zu
  have ks : (W4.setRow (w1.heap.size + 1) zu).heap.size = w1.heap.size + 2 := by simpa using g4.2
  generalize W4.setRow (w1.heap.size + 1) zu = W5 at *
  clear g0 g1 g4 go
  have HK0 := Lib.hid k0
  have HK1 := Lib.hid k1
  have HK4 := Lib.hid k4
  have HKS := Lib.hid ks
  have q0 : W5.cell? ⟨w1.heap.size, 0, none⟩ = some (.slice (some ⟨w.heap.size + 1 + 1, 0, none⟩) 1 1) := by rw [cell_of_row W5 _ 0 _ _ _ k0]; rfl
  have q1 : W5.cell? ⟨w1.heap.size, 1, none⟩ = some (.slice none 0 0) := by rw [cell_of_row W5 _ 1 _ _ _ k0]; rfl
  have q2 : W5.cell? ⟨w1.heap.size, 2, none⟩ = some (.slice none 0 0) := by rw [cell_of_row W5 _ 2 _ _ _ k0]; rfl
  clear k0 k1 k4 ks
  have HCO : Hid (∀ W a n c zs co, Below w1.heap.size w1 W → IntsIn W W.heap.size a n zs → n ≤ 9223372036854775807 → courseGo (fun i => doesA [act3] nm3 2 1 i 1) (fun i c => goodB (execs3.getD i (false, none, 0, 0)).1 c zs) 1 200 3 0 100 = co →
      Calls Try.prog 20 #[.agg #[.slice (some ⟨w.heap.size + 1 + 1, 0, none⟩) 1 1, .slice none 0 0, .slice none 0 0], .agg zu, .int .i64 1, .slice (some ⟨w.heap.size + 1 + 1 + 1, 0, none⟩) 3 3, .slice a n c, .int .i64 1, .int .i64 100, .int .i64 200] W (CourseRet W.heap.size co W)) := by
    refine Lib.hid fun W a n c zs co hW hz hn hco => ?_
    have h := course_any [act3] zu nm3 2 1 1 100 200 (some ⟨w.heap.size + 1 + 1, 0, none⟩) 1 1 none 0 0 none 0 0 (some ⟨w.heap.size + 1 + 1 + 1, 0, none⟩) 3 3 execs3 a n c zs W (HA1.out.later hW hW.size) (by decide) light3 HZS.out HZ0.out HZ7.out (HE1.out.later hW hW.size) (by decide) hz hn
    rw [hco] at h
    exact h
  go_wp2_with (first
    | (refine wpList_load_row rfl 51 _ rfl (w1.heap.size + 1) rfl 51 zu (0, 0) _ HK1.out Try.underlying51 rfl (by rw [HZS.out]; exact sizeUnit) ?_)
    | (go_at_call 20; fail))
  refine (HCO.out W5 none 0 0 [] _ HK4.out (no_ints _ _) (by decide) course_x).mono ?_
  rintro e w6 ⟨v6, rfl, hown6, hb6⟩
  have hown6' : w6.ownsRow W5.heap.size 63 4 v6 2 (markCells [⟨0, 100, 100, 0⟩, ⟨1, 100, 104, 2⟩]) := hown6
  obtain ⟨g6, cap6, rfl, -, hl6⟩ := hown6'.form (by decide)
  have HR6 := Lib.hid (marks_at hown6')
  have HB6 := Lib.hid (HK4.out.trans (hb6.mono HK4.out.size))
  have hl1 : w1.heap.size < w6.heap.size := by have := hb6.size; have := HKS.out; omega
  have k0 := (hb6.block w1.heap.size (by have := HKS.out; omega)).trans HK0.out
  have k1 := (hb6.block (w1.heap.size + 1) (by have := HKS.out; omega)).trans HK1.out
  have hl2 : w1.heap.size + 1 < w6.heap.size := by have := hb6.size; have := HKS.out; omega
  have HL6 := Lib.hid hl6
  have HK1' := Lib.hid k1
  clear q0 q1 q2 hown6 hown6' hb6
  have q0 : w6.cell? ⟨w1.heap.size, 0, none⟩ = some (.slice (some ⟨w.heap.size + 1 + 1, 0, none⟩) 1 1) := by rw [cell_of_row w6 _ 0 _ _ _ k0]; rfl
  have q1 : w6.cell? ⟨w1.heap.size, 1, none⟩ = some (.slice none 0 0) := by rw [cell_of_row w6 _ 1 _ _ _ k0]; rfl
  have q2 : w6.cell? ⟨w1.heap.size, 2, none⟩ = some (.slice none 0 0) := by rw [cell_of_row w6 _ 2 _ _ _ k0]; rfl
  clear k0 k1
  go_wp2_with (first
    | (refine wpList_load_row rfl 51 _ rfl (w1.heap.size + 1) rfl 51 zu (0, 0) _ HK1'.out Try.underlying51 rfl (by rw [HZS.out]; exact sizeUnit) ?_)
    | (go_at_call 20; fail))
  refine (HCO.out _ (some ⟨w6.heap.size, 0, none⟩) 1 1 [2] _ (HB6.out.alloc HB6.out.size _) (one_int w6 2) (by decide) course_y).mono ?_
  rintro e w7 ⟨v7, rfl, hown7, hb7⟩
  have hown7' : w7.ownsRow (w6.heap.size + 1) 63 4 v7 3 (markCells [⟨0, 100, 100, 0⟩, ⟨1, 100, 104, 2⟩, ⟨2, 104, 104, 0⟩]) := by simpa using hown7
  obtain ⟨g7, cap7, rfl, -, hl7⟩ := hown7'.form (by decide)
  have hr7 := marks_at hown7'
  have hb67 : Below w6.heap.size w6 w7 := ((Below.refl _ _).alloc (Nat.le_refl _) _).trans (hb7.mono (by simp))
  have hr6 : ∀ j u, (markCells [⟨0, 100, 100, 0⟩, ⟨1, 100, 104, 2⟩])[j]? = some u → w7.cell? ⟨g6, j, none⟩ = some u := fun j u hu => (hb67.cell (p := ⟨g6, j, none⟩) HL6.out).trans (HR6.out j u hu)
  have m4 := hr6 4 _ rfl
  have m5 := hr6 5 _ rfl
  have m6 := hr6 6 _ rfl
  have m7 := hr6 7 _ rfl
  have n10 := hr7 10 _ rfl
  have HB7 := Lib.hid (HB1.out.trans ((HB6.out.trans (hb67.mono HB6.out.size)).mono HB1.out.size))
  have HG0 : Hid (∀ W, Calls Try.prog 18 #[.agg #[.bool false, .slice none 0 0], .int .i64 1, .slice none 0 0] W fun e w' => e = .returned (.bool false) ∧ Below W.heap.size W w') :=
    Lib.hid fun W => good_any false none 0 0 1 none 0 0 0 [] W (no_ints _ _) (Nat.zero_le _) (by decide)
  have HG1 : Hid (∀ W, Calls Try.prog 18 #[.agg #[.bool true, .slice none 0 0], .int .i64 1, .slice none 0 0] W fun e w' => e = .returned (.bool true) ∧ Below W.heap.size W w') :=
    Lib.hid fun W => good_any true none 0 0 1 none 0 0 0 [] W (no_ints _ _) (Nat.zero_le _) (by decide)
  clear hown7 hown7' hb7 hb67 hr6 hr7 q0 q1 q2
  have hl6' : g6 < w7.heap.size := cell_lt m4
  dsimp only
  go_wp2_with (go_at_call 18; fail)
  refine (HG0.out _).mono ?_
  rintro e w8 ⟨rfl, hb8⟩
  go_wp2_with (go_at_call 18; fail)
  refine (HG1.out _).mono ?_
  rintro e w9 ⟨rfl, hb9⟩
  have hb79 : Below w7.heap.size w7 w9 := hb8.trans (hb9.mono hb8.size)
  have o4 := (hb79.cell (p := ⟨g6, 4, none⟩) hl6').trans m4
  have o5 := (hb79.cell (p := ⟨g6, 5, none⟩) hl6').trans m5
  have o6 := (hb79.cell (p := ⟨g6, 6, none⟩) hl6').trans m6
  have o7 := (hb79.cell (p := ⟨g6, 7, none⟩) hl6').trans m7
  have o10 := (hb79.cell (p := ⟨g7, 10, none⟩) hl7).trans n10
  have HB9 := Lib.hid (HB7.out.trans (hb79.mono HB7.out.size))
  clear hb8 hb9 hb79 m4 m5 m6 m7 n10
  go_wp2_with fail
  exact bodyPost_ret (v := .bool true) (by simp [results, Try.results17, go_sem]) rfl ⟨rfl, HB9.out⟩

end Go.Proofs.Ytohgnmpmledljaa
