/-
  Contract of matinslaw9.shown.
-/
import Derived.Test.YtcionpepgpfjdaaBlBlend
namespace Go.Proofs.Ytcionpepgpfjdaa
open Go.ChangeShapes Go.WideShapes Go.ChangeAt Go.RowKit

theorem RowsIn.of_block {α : Type} {row : α → Array Value} {m : Nat} (hm : ∀ x, (row x).size = m) {w : World} {B b : Nat} {cs : Array Value} {t : TypeId} {fr : Nat × Nat} {l : List α} (h : w.heap[b]? = some (.cells cs t fr)) (hc : cs.toList = flat row l) (hB : b < B) :
    RowsIn row m w B (some ⟨b, 0, none⟩) l.length l := by
  refine ⟨rfl, fun _ => ⟨b, 0, rfl, hB, fun i x hx j v hv => ?_⟩⟩
  have h2 := flat_get hm l i j x v hx hv
  rw [← hc] at h2
  rw [cell_of_row _ _ _ _ _ _ h, Nat.zero_add]
  simpa using h2

def shA : List LineM := [⟨⟨#[85, 110, 105, 116]⟩, ⟨#[65, 102, 116, 101, 114]⟩, ⟨#[97, 46, 115, 101, 114, 118, 105, 99, 101]⟩, 0⟩, ⟨⟨#[85, 110, 105, 116]⟩, ⟨#[68, 101, 115, 99, 114, 105, 112, 116, 105, 111, 110]⟩, ⟨#[120]⟩, 0⟩]
def shB : List LineM := [⟨⟨#[85, 110, 105, 116]⟩, ⟨#[65, 102, 116, 101, 114]⟩, ⟨#[]⟩, 0⟩, ⟨⟨#[85, 110, 105, 116]⟩, ⟨#[65, 102, 116, 101, 114]⟩, ⟨#[98, 46, 115, 101, 114, 118, 105, 99, 101]⟩, 0⟩, ⟨⟨#[85, 110, 105, 116]⟩, ⟨#[68, 101, 115, 99, 114, 105, 112, 116, 105, 111, 110]⟩, ⟨#[121]⟩, 0⟩]
theorem shAB : blendP (shA ++ shB) = [⟨⟨#[85, 110, 105, 116]⟩, ⟨#[65, 102, 116, 101, 114]⟩, ⟨#[98, 46, 115, 101, 114, 118, 105, 99, 101]⟩, 0⟩, ⟨⟨#[85, 110, 105, 116]⟩, ⟨#[68, 101, 115, 99, 114, 105, 112, 116, 105, 111, 110]⟩, ⟨#[121]⟩, 0⟩] := by kernel_rfl
theorem shA1 : blendP shA = shA := by kernel_rfl

/-- lists in one block -/
theorem ls_at {w : World} {b : Nat} {t : TypeId} {ls : List (SlOf LineM)} (h : w.heap[b]? = some (.cells (ls.map SlOf.val).toArray t (0, 0))) : 0 < ls.length → ∃ b', (some (⟨b, 0, none⟩ : Addr)) = some ⟨b', 0, none⟩ ∧ b' < w.heap.size ∧ ∀ i x, ls[i]? = some x → w.cell? ⟨b', i, none⟩ = some x.val := by
  intro _
  refine ⟨b, rfl, (Array.getElem?_eq_some_iff.1 h).1, fun i x hx => ?_⟩
  rw [cell_of_row _ _ _ _ _ _ h]
  simp [hx]

set_option maxRecDepth 100000 in
set_option maxHeartbeats 3000000 in
theorem shown_true (w : World) : Calls Try.prog 8 #[] w fun e w' => e = .returned (.bool true) ∧ Below w.heap.size w w' := by
  go_enter Try.func8, Try.ntmps8
  go_upto_region 3 with fail
  generalize hW2 : World.alloc (World.alloc w _) _ = w2
  have hr1 : w2.heap[w.heap.size]? = some (.cells (flat LineM.row shA).toArray 30 (0, 0)) := by rw [← hW2]; exact (Below.heap_alloc _ _ _ (by simp)).trans (heap_alloc_new w _)
  have hr2 : w2.heap[w.heap.size + 1]? = some (.cells (flat LineM.row shB).toArray 30 (0, 0)) := by rw [← hW2]; exact row_two w _ _
  have hb2 : Below w.heap.size w w2 := by rw [← hW2]; exact ((Below.refl _ _).alloc (Nat.le_refl _) _).alloc (by simp) _
  have hl2 : w.heap.size + 1 < w2.heap.size := by rw [← hW2]; simp
  have HR1 := Lib.hid hr1
  have HR2 := Lib.hid hr2
  have HB2 := Lib.hid hb2
  have ha : ∀ W, Below w2.heap.size w2 W → RowsIn LineM.row 4 W W.heap.size (some ⟨w.heap.size, 0, none⟩) 2 shA := fun W hW => (RowsIn.of_block (l := shA) LineM.size (B := w2.heap.size) hr1 (by simp) (by omega)).later hW hW.size
  have hbb : ∀ W, Below w2.heap.size w2 W → RowsIn LineM.row 4 W W.heap.size (some ⟨w.heap.size + 1, 0, none⟩) 3 shB := fun W hW => (RowsIn.of_block (l := shB) LineM.size (B := w2.heap.size) hr2 (by simp) (by omega)).later hW hW.size
  have hx2 : ∀ o, Below w2.heap.size w2 (w2.alloc o) := fun o => (Below.refl _ _).alloc (Nat.le_refl _) _
  have H1 := Lib.hid (blend_any (some ⟨w2.heap.size, 0, none⟩) 2 [⟨some ⟨w.heap.size, 0, none⟩, 2, 2, shA⟩, ⟨some ⟨w.heap.size + 1, 0, none⟩, 3, 3, shB⟩] (w2.alloc (.cells #[.slice (some ⟨w.heap.size, 0, none⟩) 2 2, .slice (some ⟨w.heap.size + 1, 0, none⟩) 3 3] 22)) (ls_at (heap_alloc_new w2 _))
    (by
      intro x hx
      simp only [List.mem_cons, List.not_mem_nil, or_false] at hx
      rcases hx with rfl | rfl
      · exact ha _ (hx2 _)
      · exact hbb _ (hx2 _)) (by simp [sumN]) (by simp))
  have HAA := Lib.hid ha
  clear hr1 hr2 hb2 ha hbb hx2
  clear hW2
  go_upto_region 4 with (go_at_call 10; refine H1.out.mono ?_; rintro e w3 ⟨v3, rfl, hown3, hb3⟩; have HO3 := Lib.hid hown3; have HB3 := Lib.hid (((Below.refl w2.heap.size w2).alloc (Nat.le_refl _) _).trans (hb3.mono (by simp))); clear hown3 hb3)
  have hown := HO3.out
  rw [show allOf [⟨some ⟨w.heap.size, 0, none⟩, 2, 2, shA⟩, (⟨some ⟨w.heap.size + 1, 0, none⟩, 3, 3, shB⟩ : SlOf LineM)] = shA ++ shB by simp [allOf], shAB] at hown
  obtain ⟨a3, c3, rfl, hin3, -, -⟩ := rows_form LineM.size hown
  obtain ⟨b3, o3, rfl, hlt3, hc3⟩ := hin3.at_ (by decide)
  have p0 : w3.cell? ⟨b3, o3 + 2, none⟩ = some (.string ⟨#[98, 46, 115, 101, 114, 118, 105, 99, 101]⟩) := hc3 0 _ rfl 2 _ rfl
  have p1 : w3.cell? ⟨b3, o3 + 4 + 2, none⟩ = some (.string ⟨#[121]⟩) := hc3 1 _ rfl 2 _ rfl
  have H2 := Lib.hid (blend_any (some ⟨w3.heap.size, 0, none⟩) 1 [⟨some ⟨w.heap.size, 0, none⟩, 2, 2, shA⟩] (w3.alloc (.cells #[.slice (some ⟨w.heap.size, 0, none⟩) 2 2] 22)) (ls_at (heap_alloc_new w3 _))
    (by
      intro x hx
      simp only [List.mem_cons, List.not_mem_nil, or_false] at hx
      subst hx
      exact HAA.out _ (HB3.out.alloc HB3.out.size _)) (by simp [sumN]) (by simp))
  have H3 : Hid (∀ W, Calls Try.prog 10 #[.slice none 0 0] W _) := Lib.hid fun W => blend_any none 0 [] W (fun h => absurd h (by decide)) (by intro x hx; simp at hx) (by decide) (by decide)
  clear hin3 hc3 hown
  go_wp2_with (go_at_call 10; fail)
  refine H2.out.mono ?_
  rintro e w4 ⟨v4, rfl, hown4, hb4⟩
  rw [show allOf [(⟨some ⟨w.heap.size, 0, none⟩, 2, 2, shA⟩ : SlOf LineM)] = shA by simp [allOf], shA1] at hown4
  obtain ⟨a4, c4, rfl, -, -, -⟩ := rows_form LineM.size hown4
  have HB4 := Lib.hid (HB3.out.trans (((Below.refl w3.heap.size w3).alloc (Nat.le_refl _) _).trans (hb4.mono (by simp)) |>.mono HB3.out.size))
  clear hown4 hb4
  go_wp2_with (go_at_call 10; fail)
  refine (H3.out _).mono ?_
  rintro e w5 ⟨v5, rfl, hown5, hb5⟩
  obtain ⟨a5, c5, rfl, -, -, -⟩ := rows_form LineM.size hown5
  have HB5 := Lib.hid (HB2.out.trans (HB4.out.trans (hb5.mono HB4.out.size) |>.mono HB2.out.size))
  clear hown5 hb5
  have e4 : shA.length = 2 := rfl
  have e5 : (blendP (allOf [])).length = 0 := rfl
  rw [e4, e5]
  go_wp2_with fail
  exact bodyPost_ret (v := .bool true) (by simp [results, Try.results8, go_sem]) rfl ⟨rfl, HB5.out⟩

end Go.Proofs.Ytcionpepgpfjdaa
