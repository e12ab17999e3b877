/-
  The walk of BlendAll.
-/
import Derived.Test.YtcionpepgpfjdaaBlRefW
namespace Go.Proofs.Ytcionpepgpfjdaa
open Go.ChangeShapes Go.WideShapes Go.ChangeAt Go.RowKit

theorem rblend_at (W : World) (ls : List (SlOf LineM)) (hin : ∀ x ∈ ls, RowsIn LineM.row 4 W W.heap.size x.a x.n x.l) (hs : sumN ls ≤ 90000000) (hk : ls.length ≤ 1000) :
    Calls Try.prog 11 #[.slice (some ⟨W.heap.size, 0, none⟩) ls.length ls.length] (W.alloc (.cells (ls.map SlOf.val).toArray 22))
      fun e w' => ∃ a c, e = .returned (.slice a (blendP (allOf ls)).length c) ∧ RowsIn LineM.row 4 w' w'.heap.size a (blendP (allOf ls)).length (blendP (allOf ls)) ∧ Below W.heap.size W w' := by
  have hb : Below W.heap.size W (W.alloc (.cells (ls.map SlOf.val).toArray 22)) := (Below.refl _ _).alloc (Nat.le_refl _) _
  refine (rblend_any (some ⟨W.heap.size, 0, none⟩) ls.length ls _ (ls_at (heap_alloc_new W _)) (fun x hx => (hin x hx).later hb hb.size) hs hk).mono ?_
  rintro e w' ⟨v, rfl, hown, hb'⟩
  rw [← blend_ref] at hown
  obtain ⟨a, c, rfl, hr, -, -⟩ := rows_form LineM.size hown
  exact ⟨a, c, rfl, hr, hb.trans (hb'.mono hb.size)⟩

set_option maxRecDepth 100000 in
set_option maxHeartbeats 3000000 in
theorem law_any (a b c : Option Addr) (na ca nb cb nc cc : Nat) (la lb lc : List LineM) (w : World) (ha : RowsIn LineM.row 4 w w.heap.size a na la) (hb : RowsIn LineM.row 4 w w.heap.size b nb lb) (hc : RowsIn LineM.row 4 w w.heap.size c nc lc)
    (hna : na ≤ 10000000) (hnb : nb ≤ 10000000) (hnc : nc ≤ 10000000) :
    Calls Try.prog 3 #[.slice a na ca, .slice b nb cb, .slice c nc cc] w fun e w' => e = .returned (.bool true) ∧ Below w.heap.size w w' := by
  have h3 : ∀ W, Below w.heap.size w W → ∀ x ∈ [(⟨a, na, ca, la⟩ : SlOf LineM), ⟨b, nb, cb, lb⟩, ⟨c, nc, cc, lc⟩], RowsIn LineM.row 4 W W.heap.size x.a x.n x.l := by
    intro W hW x hx
    simp only [List.mem_cons, List.not_mem_nil, or_false] at hx
    rcases hx with rfl | rfl | rfl
    · exact ha.later hW hW.size
    · exact hb.later hW hW.size
    · exact hc.later hW hW.size
  have h1 : ∀ W, Below w.heap.size w W → ∀ x ∈ [(⟨a, na, ca, la⟩ : SlOf LineM)], RowsIn LineM.row 4 W W.heap.size x.a x.n x.l := by
    intro W hW x hx
    simp only [List.mem_cons, List.not_mem_nil, or_false] at hx
    subst hx
    exact ha.later hW hW.size
  have hl3 := blendP_len (allOf [(⟨a, na, ca, la⟩ : SlOf LineM), ⟨b, nb, cb, lb⟩, ⟨c, nc, cc, lc⟩])
  have hl1 := blendP_len (allOf [(⟨a, na, ca, la⟩ : SlOf LineM)])
  rw [show (allOf [(⟨a, na, ca, la⟩ : SlOf LineM), ⟨b, nb, cb, lb⟩, ⟨c, nc, cc, lc⟩]).length = na + (nb + nc) by simp [allOf, ha.len, hb.len, hc.len]] at hl3
  rw [show (allOf [(⟨a, na, ca, la⟩ : SlOf LineM)]).length = na by simp [allOf, ha.len]] at hl1
  have P3 := Lib.hid (fun W hW => blend_at W [⟨a, na, ca, la⟩, ⟨b, nb, cb, lb⟩, ⟨c, nc, cc, lc⟩] (h3 W hW) (by simp only [sumN]; omega) (by simp))
  have R3 := Lib.hid (fun W hW => rblend_at W [⟨a, na, ca, la⟩, ⟨b, nb, cb, lb⟩, ⟨c, nc, cc, lc⟩] (h3 W hW) (by simp only [sumN]; omega) (by simp))
  have P1 := Lib.hid (fun W hW => blend_at W [⟨a, na, ca, la⟩] (h1 W hW) (by simp only [sumN]; omega) (by simp))
  have R1 := Lib.hid (fun W hW => rblend_at W [⟨a, na, ca, la⟩] (h1 W hW) (by simp only [sumN]; omega) (by simp))
  clear ha hb hc h3 h1
  generalize blendP (allOf [(⟨a, na, ca, la⟩ : SlOf LineM), ⟨b, nb, cb, lb⟩, ⟨c, nc, cc, lc⟩]) = L3 at *
  generalize blendP (allOf [(⟨a, na, ca, la⟩ : SlOf LineM)]) = L1 at *
  generalize hm3 : L3.length = m3 at *
  generalize hm1 : L1.length = m1 at *
  clear hm3 hm1
  go_enter Try.func3, Try.ntmps3
  go_wp2_with (go_at_call 8; fail)
  refine (shown_true _).mono ?_
  rintro e w1 ⟨rfl, hb1⟩
  have HB1 := Lib.hid hb1
  clear hb1
  go_wp2_with (go_at_call 10; fail)
  refine (P3.out _ HB1.out).mono ?_
  rintro e w2 ⟨a2, c2, rfl, hin2, hb2⟩
  have HIN2 := Lib.hid hin2
  have HB2 := Lib.hid (HB1.out.trans (hb2.mono HB1.out.size))
  clear hin2 hb2
  go_wp2_with (go_at_call 11; fail)
  refine (R3.out _ HB2.out).mono ?_
  rintro e w3 ⟨a3, c3, rfl, hin3, hb3⟩
  have HSA := Lib.hid (same_any a2 a3 m3 c2 c3 L3 w3 (HIN2.out.later hb3 hb3.size) hin3 (by omega))
  have HB3 := Lib.hid (HB2.out.trans (hb3.mono HB2.out.size))
  clear hin3 hb3
  go_wp2_with (first
    | (go_at_call 9; refine HSA.out.mono ?_; rintro e w4 ⟨rfl, hb4⟩; have HB4 := Lib.hid (HB3.out.trans (hb4.mono HB3.out.size)); clear hb4)
    | (go_at_call 10; fail))
  refine (P1.out _ HB4.out).mono ?_
  rintro e w5 ⟨a5, c5, rfl, hin5, hb5⟩
  have HIN5 := Lib.hid hin5
  have HB5 := Lib.hid (HB4.out.trans (hb5.mono HB4.out.size))
  clear hin5 hb5
  go_wp2_with (go_at_call 11; fail)
  refine (R1.out _ HB5.out).mono ?_
  rintro e w6 ⟨a6, c6, rfl, hin6, hb6⟩
  have HSB := Lib.hid (same_any a5 a6 m1 c5 c6 L1 w6 (HIN5.out.later hb6 hb6.size) hin6 (by omega))
  have HB6 := Lib.hid (HB5.out.trans (hb6.mono HB5.out.size))
  clear hin6 hb6
  go_wp2_with (go_at_call 9; refine HSB.out.mono ?_; rintro e w7 ⟨rfl, hb7⟩)
  exact bodyPost_ret (v := .bool true) (by simp [results, Try.results3, go_sem]) rfl ⟨rfl, HB6.out.trans (hb7.mono HB6.out.size)⟩

end Go.Proofs.Ytcionpepgpfjdaa
