/-
  The state of the walks of RunOrder and RunTexts: the act, the run in memory.
-/
import Derived.Test.YtohgnmpmledljaaRunMore
namespace Go.Proofs.Ytohgnmpmledljaa
open Go.ChangeShapes Go.WideShapes Go.ChangeAt Go.RowKit

/-- the state of a walk: the act at w's end, the run at b9 -/
structure OSt (w : World) (b9 : Nat) (un : ByteArray) (p n tt L C R D : Int) (sa : Option Addr) (N sc : Nat) (r : RunM) (wx : World) : Prop where
  lo : Below w.heap.size w wx
  lt0 : w.heap.size < b9
  lt9 : b9 < wx.heap.size
  act : ActAt wx w.heap.size un p n tt L C R D sa N sc
  run : RunAt wx b9 r.part r.num r.begun r.told r.said r.ready

theorem OSt.below {w wc wx : World} {b9 : Nat} {un : ByteArray} {p n tt L C R D : Int} {sa : Option Addr} {N sc : Nat} {r : RunM} (h : OSt w b9 un p n tt L C R D sa N sc r wc) (hb : Below wc.heap.size wc wx) : OSt w b9 un p n tt L C R D sa N sc r wx :=
  ⟨h.lo.trans (hb.mono h.lo.size), h.lt0, Nat.lt_of_lt_of_le h.lt9 hb.size, h.act.below hb (Nat.lt_trans h.lt0 h.lt9), h.run.below hb h.lt9⟩

theorem ActAt.other {w : World} {b : Nat} {un : ByteArray} {p n t L C R D : Int} {sa : Option Addr} {sn sc : Nat} (h : ActAt w b un p n t L C R D sa sn sc) (b' i : Nat) (v : Value) (hne : b ≠ b') : ActAt (w.setCell ⟨b', i, none⟩ v) b un p n t L C R D sa sn sc := by
  obtain ⟨c0, c1, c2, c3, c4, c5, c6, c7, c8⟩ := h
  have ne : ∀ j, (⟨b', i, none⟩ : Addr) ≠ ⟨b, j, none⟩ := fun j e => hne (by injection e with e; exact e.symm)
  refine ⟨?_, ?_, ?_, ?_, ?_, ?_, ?_, ?_, ?_⟩
  all_goals (rw [World.cell?_setCell_other _ _ _ _ (ne _)]; assumption)

theorem OSt.set {w wx : World} {b9 : Nat} {un : ByteArray} {p n tt L C R D : Int} {sa : Option Addr} {N sc : Nat} {r : RunM} (h : OSt w b9 un p n tt L C R D sa N sc r wx) (p' n' g' t' s' : Int) (rd' : Bool) :
    OSt w b9 un p n tt L C R D sa N sc ⟨p', n', g', t', s', rd'⟩
      ((((((wx.setCell ⟨b9, 0, none⟩ (.int .i64 p')).setCell ⟨b9, 1, none⟩ (.int .i64 n')).setCell ⟨b9, 2, none⟩ (.int .i64 g')).setCell ⟨b9, 3, none⟩ (.int .i64 t')).setCell ⟨b9, 4, none⟩ (.int .i64 s')).setCell ⟨b9, 5, none⟩ (.bool rd')) := by
  have hne : w.heap.size ≠ b9 := by have := h.lt0; omega
  have hle : w.heap.size ≤ b9 := by have := h.lt0; omega
  refine ⟨?_, h.lt0, by simpa using h.lt9, ?_, h.run.set _ _ _ _ _ _⟩
  · iterate 6 refine Below.setCell ?_ hle _
    exact h.lo
  · iterate 6 refine ActAt.other ?_ _ _ _ hne
    exact h.act

theorem OSt.start {w w3 w4 : World} {un : ByteArray} {p n tt L C R D : Int} {sa : Option Addr} {N sc : Nat} {r : RunM} (h0 : Below w.heap.size w w3) (hl : w.heap.size < w3.heap.size) (ha : ActAt w3 w.heap.size un p n tt L C R D sa N sc)
    (hb4 : Below (w3.heap.size + 1) (w3.alloc (.cells (runRow r) 28)) w4) : OSt w w3.heap.size un p n tt L C R D sa N sc r w4 := by
  have hz4 := hb4.size
  simp at hz4
  have hbz : Below w3.heap.size w3 w4 := ((Below.refl _ _).alloc (Nat.le_refl _) _).trans (hb4.mono (by omega))
  exact ⟨h0.trans (hbz.mono h0.size), hl, by omega, ha.below hbz hl, RunAt.of_row ((hb4.block _ (by omega)).trans (heap_alloc_new w3 _))⟩

end Go.Proofs.Ytohgnmpmledljaa
