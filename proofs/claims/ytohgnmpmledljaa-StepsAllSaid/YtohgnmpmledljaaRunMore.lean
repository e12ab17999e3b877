/-
  What the walks of RunOrder, RunTold, RunTexts share: an act's nine cells in memory, the law's may, the plain facts on sums.
-/
import Derived.Test.YtohgnmpmledljaaRunOpen
import Derived.Test.YtohgnmpmledljaaRunShown
namespace Go.Proofs.Ytohgnmpmledljaa
open Go.ChangeShapes Go.WideShapes Go.ChangeAt Go.RowKit

/-- an act's nine cells -/
structure ActAt (w : World) (b : Nat) (un : ByteArray) (p n t L C R D : Int) (sa : Option Addr) (sn sc : Nat) : Prop where
  c0 : w.cell? ⟨b, 0, none⟩ = some (.string un)
  c1 : w.cell? ⟨b, 1, none⟩ = some (.int .i64 p)
  c2 : w.cell? ⟨b, 2, none⟩ = some (.int .i64 n)
  c3 : w.cell? ⟨b, 3, none⟩ = some (.int .i64 t)
  c4 : w.cell? ⟨b, 4, none⟩ = some (.int .i64 L)
  c5 : w.cell? ⟨b, 5, none⟩ = some (.int .i64 C)
  c6 : w.cell? ⟨b, 6, none⟩ = some (.int .i64 R)
  c7 : w.cell? ⟨b, 7, none⟩ = some (.int .i64 D)
  c8 : w.cell? ⟨b, 8, none⟩ = some (.slice sa sn sc)

theorem ActAt.of_row {w : World} {b : Nat} {un : ByteArray} {p n t L C R D : Int} {sa : Option Addr} {sn sc : Nat} {ty : TypeId}
    (h : w.heap[b]? = some (.cells #[.string un, .int .i64 p, .int .i64 n, .int .i64 t, .int .i64 L, .int .i64 C, .int .i64 R, .int .i64 D, .slice sa sn sc] ty (0, 0))) : ActAt w b un p n t L C R D sa sn sc := by
  refine ⟨?_, ?_, ?_, ?_, ?_, ?_, ?_, ?_, ?_⟩
  all_goals (rw [cell_of_row w b _ _ ty (0, 0) h]; rfl)

theorem ActAt.below {w w' : World} {B b : Nat} {un : ByteArray} {p n t L C R D : Int} {sa : Option Addr} {sn sc : Nat} (h : ActAt w b un p n t L C R D sa sn sc) (hb : Below B w w') (hB : b < B) : ActAt w' b un p n t L C R D sa sn sc := by
  obtain ⟨c0, c1, c2, c3, c4, c5, c6, c7, c8⟩ := h
  refine ⟨?_, ?_, ?_, ?_, ?_, ?_, ?_, ?_, ?_⟩
  all_goals (rw [hb.cell (p := ⟨b, _, none⟩) hB]; assumption)

theorem ActAt.drew {w : World} {b : Nat} {un : ByteArray} {p n t L C R D : Int} {sa : Option Addr} {sn sc : Nat} (h : ActAt w b un p n t L C R D sa sn sc) : ActAt w.drew b un p n t L C R D sa sn sc :=
  ⟨h.c0, h.c1, h.c2, h.c3, h.c4, h.c5, h.c6, h.c7, h.c8⟩

theorem SaysIn.slice {w : World} {B : Nat} {cs cs' : Array Value} {l : List (Int × ByteArray)} (h : SaysIn w B cs l) (e : cs'[8]? = cs[8]?) : SaysIn w B cs' l := by
  obtain ⟨⟨a, c, k, hl⟩, hs⟩ := h
  exact ⟨⟨a, c, e.trans k, hl⟩, hs⟩

theorem actRow_cells (un : ByteArray) (p n t : Int) (A : ActM) (sa : Option Addr) (sc : Nat) : ActCells (actRow un p n t A sa sc) A := ⟨rfl, rfl, rfl, rfl, rfl⟩

theorem mayLaw_row (un : ByteArray) (p n t : Int) (A : ActM) (sa : Option Addr) (sc : Nat) (now : Int) (w : World) (hs : SaysIn w w.heap.size (actRow un p n t A sa sc) A.says)
    (ht : ∀ j, (A.says.getD j (0, ByteArray.empty)).2.size ≤ 9223372036854775807) :
    Calls Try.prog 10 #[.agg (actRow un p n t A sa sc), .int .i64 now] w (SomeNow A now w) :=
  mayLaw_any un p n t A sa sc now w (fun _ _ _ _ => hs.slice rfl) ht

end Go.Proofs.Ytohgnmpmledljaa
