/-
  The walk of matinslaw26.RetryPause: it returns true; old memory is as it was.
-/
import Derived.Test.YtjmdnmnmojjodaaRetryWalks
import Derived.Deep.WholeRow
namespace Go.Proofs.Ytjmdnmnmojjodaa
open Go.ChangeShapes Go.WideShapes Go.ChangeAt Go.RowKit

def timeB (t : Int) : Bool := decide (0 ≤ t ∧ t < 6311433600)
def spanB (t : Int) : Bool := decide (0 ≤ t ∧ t ≤ 6311433600 ∨ t = 1099511627776)

theorem time_any (t : Int) (w : World) : Calls Try.prog 13 #[.int .i64 t] w fun e w' => e = .returned (.bool (timeB t)) ∧ w = w' := by
  by_cases h1 : 0 ≤ t
  · by_cases h2 : t < 6311433600
    · go_enter Try.func13, Try.ntmps13
      go_wp2
      go_ret
      exact ⟨ret_bool (by simp [timeB, h1, h2]), rfl⟩
    · go_enter Try.func13, Try.ntmps13
      go_wp2
      go_ret
      exact ⟨ret_bool (by simp [timeB, h1, h2]), rfl⟩
  · go_enter Try.func13, Try.ntmps13
    go_wp2
    go_ret
    exact ⟨ret_bool (by simp [timeB]; omega), rfl⟩

theorem span_any (t : Int) (w : World) : Calls Try.prog 14 #[.int .i64 t] w fun e w' => e = .returned (.bool (spanB t)) ∧ w = w' := by
  by_cases h3 : t = 1099511627776
  · have e : spanB t = true := by simp [spanB, h3]
    rw [e]
    subst h3
    go_enter Try.func14, Try.ntmps14
    go_wp2
    go_ret
    exact ⟨rfl, rfl⟩
  · by_cases h1 : 0 ≤ t
    · by_cases h2 : t ≤ 6311433600
      · have e : spanB t = true := by simp [spanB, h1, h2]
        rw [e]
        go_enter Try.func14, Try.ntmps14
        go_wp2
        go_ret
        exact ⟨rfl, rfl⟩
      · have e : spanB t = false := by simp [spanB, h3]; omega
        have E := Lib.hid e; clear e
        go_enter Try.func14, Try.ntmps14
        go_wp2
        go_ret
        exact ⟨ret_bool (by rw [E.out]; simp; omega), rfl⟩
    · have e : spanB t = false := by simp [spanB, h3]; omega
      have E := Lib.hid e; clear e
      go_enter Try.func14, Try.ntmps14
      go_wp2
      go_ret
      exact ⟨ret_bool (by rw [E.out]; simp; omega), rfl⟩

def unitZero : Array Value := #[.string ByteArray.empty, .int .i64 0, .string ByteArray.empty, .bool false, .slice none 0 0, .int .i64 0, .int .i64 0, .int .i64 0, .slice none 0 0, .slice none 0 0, .slice none 0 0, .slice none 0 0, .slice none 0 0, .bool false, .int .i64 0, .int .i64 0, .int .i64 0, .int .i64 0, .slice none 0 0, .slice none 0 0, .slice none 0 0, .slice none 0 0, .int .i64 0, .string ByteArray.empty, .string ByteArray.empty, .slice none 0 0, .slice none 0 0, .slice none 0 0, .slice none 0 0, .bool false, .slice none 0 0, .slice none 0 0, .slice none 0 0, .slice none 0 0, .string ByteArray.empty]

theorem unitZeros (W : World) : (zeroValue 28).run Try.prog W = .ok (.agg unitZero) W := by kernel_rfl

theorem heldI_mono (a b : Int) (h : a ≤ b) : heldI a ≤ heldI b := by
  unfold heldI
  repeat' split
  all_goals omega
theorem heldI_span (n : Int) (h : 0 ≤ n ∧ n ≤ 6311433600 ∨ n = 1099511627776) : heldI n = n := by
  unfold heldI
  repeat' split
  all_goals omega
theorem heldI_sum (n : Int) (h : 0 ≤ n) (h2 : n ≤ 2199023255552) : n ≤ heldI n ∨ heldI n = 1099511627776 := by
  unfold heldI
  repeat' split
  all_goals omega

theorem pause_facts (now later p pause : Int) (h1 : timeB now = true) (h2 : timeB later = true) (h3 : now ≤ later) (h4 : spanB p = true) (h5 : spanB pause = true) (h6 : p ≤ pause) :
    now ≤ sumI now p ∧ (sumI now p = 1099511627776 ∨ sumI now p = now + p) ∧ sumI now p ≤ sumI later p ∧ sumI now p ≤ sumI now pause ∧ 0 ≤ now ∧ now < 6311433600 ∧ 0 ≤ p ∧ p ≤ 1099511627776 := by
  simp only [timeB, spanB, decide_eq_true_eq] at h1 h2 h4 h5
  unfold sumI
  rw [heldI_span now (by omega), heldI_span later (by omega), heldI_span p h4, heldI_span pause h5]
  have m1 := heldI_mono (now + p) (later + p) (by omega)
  have m2 := heldI_mono (now + p) (now + pause) (by omega)
  have m3 : heldI (now + p) = 1099511627776 ∨ heldI (now + p) = now + p := by
    unfold heldI
    repeat' split
    all_goals omega
  refine ⟨?_, m3, m1, m2, by omega, by omega, by omega, by omega⟩
  rcases m3 with e | e <;> rw [e] <;> omega

set_option maxHeartbeats 4000000 in
theorem pauselaw_any (res now later pause r p : Int) (cs : Array Value) (w : World) (hs : cs.size = 35) (hall : cs.all (·.oneCell') = true) (hr : cs[14]? = some (.int .i64 r)) (hp : cs[15]? = some (.int .i64 p)) :
    Calls Try.prog 5 #[.agg cs, .int .i64 res, .int .i64 now, .int .i64 later, .int .i64 pause] w fun e w' => e = .returned (.bool true) ∧ Below w.heap.size w w' := by
  have HS := Lib.hid hs
  have HA := Lib.hid hall
  have HR := Lib.hid hr
  have HP := Lib.hid hp
  clear hs hr hp hall
  go_enter Try.func5, Try.ntmps5
  go_wp2_with fail
  refine (shown_any _).mono ?_
  rintro e w1 ⟨rfl, hb1⟩
  have hb : Below w.heap.size w w1 := ((Below.refl _ _).alloc (Nat.le_refl _) _).trans (hb1.mono (by simp))
  have hsz : w.heap.size < w1.heap.size := by have := hb1.size; simp at this; omega
  have HB1 : Hid (w1.heap[w.heap.size]? = some (.cells cs 28 (0, 0))) := (hb1.block _ (by simp)).trans (heap_alloc_new w _)
  have hc15 : w1.cell? ⟨w.heap.size, 15, none⟩ = some (.int .i64 p) := by rw [cell_of_row _ _ _ cs _ _ HB1.out, HP.out]
  clear hb1
  have hp15 := HP.out
  have HB2 : Hid ((w1.alloc (.cells (cs.setIfInBounds 15 (.int .i64 pause)) 28)).heap[w.heap.size]? = some (.cells cs 28 (0, 0))) := (heap_alloc_old w1 _ hsz).trans HB1.out
  go_wp2_with (first
    | (go_at_call 13; refine (time_any _ _).mono ?_; rintro e w' ⟨rfl, rfl⟩)
    | (go_at_call 14; refine (span_any _ _).mono ?_; rintro e w' ⟨rfl, rfl⟩)
    | (refine wpList_load_row rfl 28 _ rfl w.heap.size rfl 28 cs (0, 0) _ HB1.out Try.underlying28 rfl (by rw [HS.out]; exact sizeUnit) ?_)
    | (refine wpList_store_row rfl 28 _ _ rfl w1.heap.size cs rfl rfl 28 _ (heap_alloc_new w1 _) (by rw [HS.out]; exact sizeUnit) (by rw [HS.out]; rfl) HA.out ?_; rw [World.setRow_alloc_new])
    | (refine wpList_load_row rfl 28 _ rfl w.heap.size rfl 28 cs (0, 0) _ HB2.out Try.underlying28 rfl (by rw [HS.out]; exact sizeUnit) ?_)
    | (go_at_call 7; fail))
  all_goals try (go_ret; exact ⟨rfl, hb⟩)
  have t1 : timeB now = true := by assumption
  have t2 : timeB later = true := by assumption
  have t3 : now ≤ later := by assumption
  have t4 : spanB p = true := by assumption
  have t5 : spanB pause = true := by assumption
  have t6 : p ≤ pause := by omega
  obtain ⟨f1, F2, f3, f4, f5, f6, f7, f8⟩ := pause_facts now later p pause t1 t2 t3 t4 t5 t6
  clear hc15
  refine (due_any cs r p res now _ HS.out HR.out HP.out).mono ?_
  rintro e w2 ⟨rfl, hb2⟩
  have hbb : Below w.heap.size w w2 := (hb.alloc hb.size _).trans (hb2.mono (by simp; omega))
  have hs2 : w1.heap.size + 1 ≤ w2.heap.size := by have := hb2.size; simpa using this
  have HB3 : Hid (w2.heap[w.heap.size]? = some (.cells cs 28 (0, 0))) := (hb2.block _ (by simp; omega)).trans HB2.out
  have HV3 : Hid (w2.heap[w1.heap.size]? = some (.cells (cs.setIfInBounds 15 (.int .i64 pause)) 28 (0, 0))) := (hb2.block _ (by simp)).trans (heap_alloc_new w1 _)
  clear hb2 HB2 HB1 hb hp15
  go_wp2_with (first
    | (refine wpList_load_row rfl 28 _ rfl w.heap.size rfl 28 cs (0, 0) _ HB3.out Try.underlying28 rfl (by rw [HS.out]; exact sizeUnit) ?_)
    | (go_at_call 7; fail))
  refine (due_any cs r p res later _ HS.out HR.out HP.out).mono ?_
  rintro e w3 ⟨rfl, hb3⟩
  have hbb3 : Below w.heap.size w w3 := hbb.trans (hb3.mono (by omega))
  have hs3 := hb3.size
  have HB4 : Hid (w3.heap[w.heap.size]? = some (.cells cs 28 (0, 0))) := (hb3.block _ (by omega)).trans HB3.out
  have HV4 : Hid (w3.heap[w1.heap.size]? = some (.cells (cs.setIfInBounds 15 (.int .i64 pause)) 28 (0, 0))) := (hb3.block _ (by omega)).trans HV3.out
  clear hb3 HB3 HV3 hbb
  go_wp2_with (first
    | (refine wpList_load_row rfl 28 _ rfl w1.heap.size rfl 28 (cs.setIfInBounds 15 (.int .i64 pause)) (0, 0) _ HV4.out Try.underlying28 rfl (by simp only [Array.size_setIfInBounds]; rw [HS.out]; exact sizeUnit) ?_)
    | (go_at_call 7; fail))
  refine (due_any (cs.setIfInBounds 15 (.int .i64 pause)) r pause res now _ (by simp only [Array.size_setIfInBounds]; exact HS.out) (by rw [Array.getElem?_setIfInBounds]; simp; exact HR.out) (by rw [Array.getElem?_setIfInBounds]; simp; rw [HS.out]; omega)).mono ?_
  rintro e w4 ⟨rfl, hb4⟩
  have hbb4 : Below w.heap.size w w4 := hbb3.trans (hb4.mono (by omega))
  have HB5 : Hid (w4.heap[w.heap.size]? = some (.cells cs 28 (0, 0))) := (hb4.block _ (by omega)).trans HB4.out
  have hc14 : w4.cell? ⟨w.heap.size, 14, none⟩ = some (.int .i64 r) := by rw [cell_of_row _ _ _ cs _ _ HB5.out, HR.out]
  have hc15 : w4.cell? ⟨w.heap.size, 15, none⟩ = some (.int .i64 p) := by rw [cell_of_row _ _ _ cs _ _ HB5.out, HP.out]
  clear hb4 HB4 HV4 hbb3 HB5
  rcases Bool.eq_false_or_eq_true (agB r res) with hag | hag
  · have g1 : ∀ n q, dueT r res n q = sumI n q := fun n q => by unfold dueT; rw [if_pos hag]
    rw [g1, g1, g1, hag]
    have HG := Lib.hid hag
    clear hag g1
    rcases F2 with F2 | F2
    · have f2 : (sumI now p == 1099511627776) = true := by simpa using F2
      clear F2
      go_wp2_with fail
      all_goals go_ret
      all_goals exact ⟨ret_bool (by first | rfl | (simp; omega)), hbb4⟩
    · have f2 : (sumI now p == now + p) = true := by simpa using F2
      clear F2
      go_wp2_with fail
      all_goals go_ret
      all_goals exact ⟨ret_bool (by first | rfl | (simp; omega)), hbb4⟩
  · have g1 : ∀ n q, dueT r res n q = 0 := fun n q => by unfold dueT; rw [if_neg (by rw [hag]; simp)]
    rw [g1, g1, g1, hag]
    have HG := Lib.hid hag
    clear hag g1
    go_wp2_with (go_at_call 11; refine (again_any _ _ _).mono ?_; rintro e w' ⟨rfl, rfl⟩; rw [HG.out])
    go_ret
    exact ⟨rfl, hbb4⟩

end Go.Proofs.Ytjmdnmnmojjodaa
