/-
  The walk of BlendSteps.
-/
import Derived.Test.YtcionpepgpfjdaaBlShown
import Derived.Test.YtcionpepgpfjdaaBlSame
import Derived.Test.YtcionpepgpfjdaaBlPlain
namespace Go.Proofs.Ytcionpepgpfjdaa
open Go.ChangeShapes Go.WideShapes Go.ChangeAt Go.RowKit

/-- blend.All of lists that lie in a fresh block -/
theorem blend_at (W : World) (ls : List (SlOf LineM)) (hin : ∀ x ∈ ls, RowsIn LineM.row 4 W W.heap.size x.a x.n x.l) (hs : sumN ls ≤ 2513169434914) (hk : ls.length ≤ 1000) :
    Calls Try.prog 10 #[.slice (some ⟨W.heap.size, 0, none⟩) ls.length ls.length] (W.alloc (.cells (ls.map SlOf.val).toArray 22))
      fun e w' => ∃ a c, e = .returned (.slice a (blendP (allOf ls)).length c) ∧ RowsIn LineM.row 4 w' w'.heap.size a (blendP (allOf ls)).length (blendP (allOf ls)) ∧ Below W.heap.size W w' := by
  have hb : Below W.heap.size W (W.alloc (.cells (ls.map SlOf.val).toArray 22)) := (Below.refl _ _).alloc (Nat.le_refl _) _
  refine (blend_any (some ⟨W.heap.size, 0, none⟩) ls.length ls _ (ls_at (heap_alloc_new W _)) (fun x hx => (hin x hx).later hb hb.size) hs hk).mono ?_
  rintro e w' ⟨v, rfl, hown, hb'⟩
  obtain ⟨a, c, rfl, hr, -, -⟩ := rows_form LineM.size hown
  exact ⟨a, c, rfl, hr, hb.trans (hb'.mono hb.size)⟩

set_option maxRecDepth 100000 in
set_option maxHeartbeats 3000000 in
theorem steps_any (a b c : Option Addr) (na ca nb cb nc cc : Nat) (la lb lc : List LineM) (w : World) (ha : RowsIn LineM.row 4 w w.heap.size a na la) (hb : RowsIn LineM.row 4 w w.heap.size b nb lb) (hc : RowsIn LineM.row 4 w w.heap.size c nc lc)
    (hna : na ≤ 10000000) (hnb : nb ≤ 10000000) (hnc : nc ≤ 10000000) :
    Calls Try.prog 5 #[.slice a na ca, .slice b nb cb, .slice c nc cc] w fun e w' => e = .returned (.bool true) ∧ Below w.heap.size w w' := by
  have HA := Lib.hid ha
  have HB := Lib.hid hb
  have HC := Lib.hid hc
  clear ha hb hc
  go_enter Try.func5, Try.ntmps5
  go_wp2_with (go_at_call 8; fail)
  refine (shown_true _).mono ?_
  rintro e w1 ⟨rfl, hb1⟩
  have HB1 := Lib.hid hb1
  have h1 := blend_at w1 [⟨a, na, ca, la⟩, ⟨b, nb, cb, lb⟩] (by
    intro x hx
    simp only [List.mem_cons, List.not_mem_nil, or_false] at hx
    rcases hx with rfl | rfl
    · exact HA.out.later hb1 hb1.size
    · exact HB.out.later hb1 hb1.size) (by simp only [sumN]; omega) (by simp)
  rw [show allOf [⟨a, na, ca, la⟩, (⟨b, nb, cb, lb⟩ : SlOf LineM)] = la ++ lb by simp [allOf]] at h1
  have H1 := Lib.hid h1
  clear h1 hb1
  go_wp2_with (go_at_call 10; fail)
  refine H1.out.mono ?_
  rintro e w2 ⟨a2, c2, rfl, hin2, hb2⟩
  have HB2 := Lib.hid (HB1.out.trans (hb2.mono HB1.out.size))
  have hl2 := blendP_len (la ++ lb)
  rw [List.length_append, HA.out.len, HB.out.len] at hl2
  have h2 := blend_at w2 [⟨a2, (blendP (la ++ lb)).length, c2, blendP (la ++ lb)⟩, ⟨c, nc, cc, lc⟩] (by
    intro x hx
    simp only [List.mem_cons, List.not_mem_nil, or_false] at hx
    rcases hx with rfl | rfl
    · exact hin2
    · exact HC.out.later HB2.out HB2.out.size) (by simp only [sumN]; omega) (by simp)
  rw [show allOf [⟨a2, (blendP (la ++ lb)).length, c2, blendP (la ++ lb)⟩, (⟨c, nc, cc, lc⟩ : SlOf LineM)] = blendP (la ++ lb) ++ lc by simp [allOf], blend_steps] at h2
  have H2 := Lib.hid h2
  clear h2 hb2 hin2
  generalize (blendP (la ++ lb)).length = m2 at *
  go_wp2_with (go_at_call 10; fail)
  refine H2.out.mono ?_
  rintro e w3 ⟨a3, c3, rfl, hin3, hb3⟩
  have HIN3 := Lib.hid hin3
  have HB3 := Lib.hid (HB2.out.trans (hb3.mono HB2.out.size))
  clear hin3 hb3
  have h3 := blend_at w3 [⟨a, na, ca, la⟩, ⟨b, nb, cb, lb⟩, ⟨c, nc, cc, lc⟩] (by
    intro x hx
    simp only [List.mem_cons, List.not_mem_nil, or_false] at hx
    rcases hx with rfl | rfl | rfl
    · exact HA.out.later HB3.out HB3.out.size
    · exact HB.out.later HB3.out HB3.out.size
    · exact HC.out.later HB3.out HB3.out.size) (by simp only [sumN]; omega) (by simp)
  rw [show allOf [⟨a, na, ca, la⟩, ⟨b, nb, cb, lb⟩, (⟨c, nc, cc, lc⟩ : SlOf LineM)] = la ++ lb ++ lc by simp [allOf]] at h3
  have H3 := Lib.hid h3
  have hl3 := blendP_len (la ++ lb ++ lc)
  rw [List.length_append, List.length_append, HA.out.len, HB.out.len, HC.out.len] at hl3
  clear h3
  generalize blendP (la ++ lb ++ lc) = L at *
  generalize hm : L.length = m at *
  go_wp2_with (go_at_call 10; fail)
  refine H3.out.mono ?_
  rintro e w4 ⟨a4, c4, rfl, hin4, hb4⟩
  have HS := Lib.hid (same_any a3 a4 m c3 c4 L w4 (HIN3.out.later hb4 hb4.size) hin4 (by omega))
  have HB4 := Lib.hid (HB3.out.trans (hb4.mono HB3.out.size))
  clear hin4 hb4
  go_wp2_with (go_at_call 9; refine HS.out.mono ?_; rintro e w5 ⟨rfl, hb5⟩)
  exact bodyPost_ret (v := .bool true) (by simp [results, Try.results5, go_sem]) rfl ⟨rfl, HB4.out.trans (hb5.mono HB4.out.size)⟩

end Go.Proofs.Ytcionpepgpfjdaa
