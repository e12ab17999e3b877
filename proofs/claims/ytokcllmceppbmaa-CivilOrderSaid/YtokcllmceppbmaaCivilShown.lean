/-
  The contract of matinslaw3.shown: it returns true; old memory is as it was.
-/
import Derived.Test.YtokcllmceppbmaaCivilTo
namespace Go.Proofs.Ytokcllmceppbmaa
open Go.ChangeShapes Go.WideShapes Go.ChangeAt Go.RowKit

theorem day0 : IsDay 0 2000 1 1 := by unfold IsDay; decide
theorem mayLeap : MayD 2000 2 29 1 0 0 := by unfold MayD; decide
theorem secLeap : secI 2000 2 29 1 0 0 = 5101200 := by decide
theorem leap2000 : leapB 2000 = true := by decide
theorem leap2100 : leapB 2100 = false := by decide
theorem days2001 : daysI 2001 2 = 28 := by decide

/-- What a block that was laid last holds behind a call that leaves old memory alone. -/
theorem rowAfter {W w2 : World} {cs : Array Value} {t : TypeId} (hb : Below (W.alloc (.cells cs t)).heap.size (W.alloc (.cells cs t)) w2) : ∀ o, w2.cell? ⟨W.heap.size, o, none⟩ = cs[o]? :=
  fun o => cell_of_row _ _ _ _ _ _ ((hb.block _ (by simp)).trans (heap_alloc_new W _))

set_option maxHeartbeats 1000000 in
theorem shown_any (w : World) : Calls Try.prog 8 #[] w fun e w' => e = .returned (.bool true) ∧ Below w.heap.size w w' := by
  go_enter Try.func8, Try.ntmps8
  go_wp2_with fail
  refine (of_yes 0 _ (by omega) (by omega)).mono ?_
  rintro e w1 ⟨y, m, d, rfl, hd, hb1⟩
  have hd0 : IsDay 0 y m d := hd
  obtain ⟨rfl, rfl, rfl⟩ := day0.uniq hd0
  clear hd hd0
  unfold dateV
  go_wp2_with fail
  refine (to_yes 2000 2 29 1 0 0 0 _ mayLeap).mono ?_
  rintro e w2 ⟨rfl, hb2⟩
  rw [secLeap]
  have hc2 := rowAfter hb2
  have hb : Below w.heap.size w w2 := (hb1.alloc hb1.size _).trans (hb2.mono (by have := hb1.size; simp; omega))
  clear hb1 hb2
  go_wp2_with (first
    | (go_at_call 13; refine (leap_any _ _).mono ?_; rintro e w' ⟨rfl, rfl⟩; first | rw [leap2000] | rw [leap2100])
    | (go_at_call 15; refine (days_any _ _ _).mono ?_; rintro e w' ⟨rfl, rfl⟩; rw [days2001]))
  go_ret
  exact ⟨rfl, hb⟩

end Go.Proofs.Ytokcllmceppbmaa
