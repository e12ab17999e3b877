/-
  An act that came in: its cells, its texts in memory.
-/
import Derived.Test.YtohgnmpmledljaaRunMayLaw
import Derived.Test.YtohgnmpmledljaaFrame
import Derived.Deep.SlicePairs
namespace Go.Proofs.Ytohgnmpmledljaa
open Go.ChangeShapes Go.WideShapes Go.ChangeAt Go.RowKit

def strOf : Value → ByteArray
  | .string s => s
  | _ => ByteArray.empty

def actRow (un : ByteArray) (p n t : Int) (A : ActM) (sa : Option Addr) (sc : Nat) : Array Value :=
  #[.string un, .int .i64 p, .int .i64 n, .int .i64 t, .int .i64 A.lasts, .int .i64 A.code, .int .i64 A.ready, .int .i64 A.dies, .slice sa A.says.length sc]

/-- an act as it comes in -/
structure ActIn (w : World) (cs : Array Value) (A : ActM) : Prop where
  row : ∃ un p n t sa sc, cs = actRow un p n t A sa sc
  says : SaysIn w w.heap.size cs A.says
  texts : ∀ j, (A.says.getD j (0, ByteArray.empty)).2.size ≤ 9223372036854775807

theorem actTypes : Try.prog.cellTypes Try.prog.depth 24 = some [9, 3, 3, 3, 3, 3, 3, 3, 22] := by kernel_rfl

theorem cell_lt {w : World} {p : Addr} {v : Value} (h : w.cell? p = some v) : p.block < w.heap.size := by
  by_cases hb : p.block < w.heap.size
  · exact hb
  · exfalso
    have : w.heap[p.block]? = none := by simp; omega
    simp [World.cell?, this] at h

section
variable {H : Type} {enc : TypeId × Value → H} {w : World} {base b0 : Nat} {spare : Nat → Bool} {held : Bool} {r : Reach}

theorem cell_str {w : World} {r : Reach} {b u : Nat} {x : Value} (hu : Try.prog.underlying u = some .string) (h : Cell.okWide Try.prog w r b u x) : ∃ s : ByteArray, x = .string s := by
  simp only [Cell.okWide, hu, Cell.ok] at h
  cases x <;> simp_all

theorem open_act {v : Value} {d : DataW H} {ps : List MemPlace} (hv : Value.okWide Try.prog w r b0 24 v) (hd : DataW.Trod enc Try.prog w base spare held 24 v d ps) :
    ∃ cs A, v = .agg cs ∧ ActIn w cs A := by
  obtain ⟨cs, rfl, hsz, hcs⟩ := okWide_cells Try.underlying24 actTypes (by kernel_rfl) hv
  obtain ⟨fuel, hd⟩ := hd
  obtain ⟨xs, m, -, -, -, hxl, hf⟩ := DataW.trod_struct Try.underlying24 hd
  have cell : ∀ (i : Nat) (u : TypeId), [9, 3, 3, 3, 3, 3, 3, 3, 22][i]? = some u → ∃ x, cs[i]? = some x ∧ Cell.okWide Try.prog w r b0 u x := hcs
  obtain ⟨c0, e0, k0⟩ := cell 0 9 rfl
  obtain ⟨un, rfl⟩ := cell_str Try.underlying9 k0
  obtain ⟨c1, e1, k1⟩ := cell 1 3 rfl
  obtain ⟨p, rfl, -⟩ := cell_int Try.underlying3 k1
  obtain ⟨c2, e2, k2⟩ := cell 2 3 rfl
  obtain ⟨n, rfl, -⟩ := cell_int Try.underlying3 k2
  obtain ⟨c3, e3, k3⟩ := cell 3 3 rfl
  obtain ⟨t, rfl, -⟩ := cell_int Try.underlying3 k3
  obtain ⟨c4, e4, k4⟩ := cell 4 3 rfl
  obtain ⟨L, rfl, -⟩ := cell_int Try.underlying3 k4
  obtain ⟨c5, e5, k5⟩ := cell 5 3 rfl
  obtain ⟨C, rfl, -⟩ := cell_int Try.underlying3 k5
  obtain ⟨c6, e6, k6⟩ := cell 6 3 rfl
  obtain ⟨R, rfl, -⟩ := cell_int Try.underlying3 k6
  obtain ⟨c7, e7, k7⟩ := cell 7 3 rfl
  obtain ⟨D, rfl, -⟩ := cell_int Try.underlying3 k7
  obtain ⟨c8, e8, k8⟩ := cell 8 22 rfl
  clear k0 k1 k2 k3 k4 k5 k6 k7 k8 cell hcs
  have h8 := hf 8 _ rfl
  have hxs : xs[8]? = some (xs[8]'(by rw [hxl]; decide)) := List.getElem?_eq_getElem (by rw [hxl]; decide)
  rw [hxs] at h8
  clear hf hd
  obtain ⟨l⟩ := cs
  match l, hsz with
  | [q0, q1, q2, q3, q4, q5, q6, q7, q8], _ =>
    simp at e0 e1 e2 e3 e4 e5 e6 e7 e8
    subst e0 e1 e2 e3 e4 e5 e6 e7 e8
    have h8' : DataW.trod enc Try.prog w base spare held m 22 [q8] = some (xs[8]'(by rw [hxl]; decide)) := h8
    clear h8
    rcases Go.Deep.open_slice_pairs Try.underlying22 Try.underlying37 (by kernel_rfl) rfl rfl (by kernel_rfl) (by kernel_rfl) h8' with ⟨hq, -⟩ | ⟨a, len, cap, m', n', V0, V1, D0, D1, P0, P1, hq, hba, hl, hm, hmm, -, hx⟩
    · injection hq with hq
      subst hq
      exact ⟨_, ⟨L, C, R, D, []⟩, rfl, ⟨un, p, n, t, none, 0, rfl⟩, ⟨⟨none, 0, rfl, fun h => absurd h (Nat.lt_irrefl _)⟩, by simp⟩, fun j => by simp [ByteArray.empty, ByteArray.emptyWithCapacity, ByteArray.size]; exact Nat.zero_le _⟩
    · injection hq with hq
      subst hq
      have hlm : len ≤ m' := by rw [hmm]; split <;> omega
      have hel : ∀ i, i < len → ∃ (x : Int) (s : ByteArray), V0 i = .int .i64 x ∧ V1 i = .string s ∧ s.size ≤ 9223372036854775807 := by
        intro i hi
        obtain ⟨-, -, g0, g1⟩ := hx i (by omega)
        obtain ⟨x, hx0, -, -⟩ := DataW.trod_int Try.underlying3 g0
        obtain ⟨s, hs0, -, hsb⟩ := DataW.trod_string Try.underlying9 g1
        injection hx0 with hx0
        injection hs0 with hs0
        exact ⟨x, s, hx0, hs0, Nat.le_trans hsb (by decide)⟩
      have hget : ∀ j, j < len → ((List.range len).map fun i => (intOf (V0 i), strOf (V1 i))).getD j (0, ByteArray.empty) = (intOf (V0 j), strOf (V1 j)) := by
        intro j hj
        simp [List.getD, hj]
      refine ⟨_, ⟨L, C, R, D, (List.range len).map fun i => (intOf (V0 i), strOf (V1 i))⟩, rfl, ⟨un, p, n, t, some a, cap, by simp [actRow]⟩, ⟨⟨some a, cap, by simp, fun h => ?_⟩, ?_⟩, fun j => ?_⟩
      · simp at h
        have hc := (hx 0 (by omega)).1
        have hspot : a.spot = none := by simpa [Addr.add] using World.cell?_spot hc
        have hlt := cell_lt hc
        obtain ⟨b, off, sp⟩ := a
        simp at hspot
        subst hspot
        refine ⟨b, off, rfl, by simpa [Addr.add] using hlt, fun j hj => ?_⟩
        have hj' : j < len := by simpa using hj
        obtain ⟨x, s, hv0, hv1, -⟩ := hel j hj'
        have g := hx j (by omega)
        rw [hget j hj', hv0, hv1]
        rw [hv0, hv1] at g
        exact ⟨by simpa [add_plain, intOf, strOf] using g.1, by simpa [add_plain, Nat.add_assoc, intOf, strOf] using g.2.1⟩
      · simp
        exact Nat.le_trans (Nat.le_trans hl hm) (by decide)
      · by_cases hj : j < len
        · obtain ⟨x, s, hv0, hv1, hs⟩ := hel j hj
          rw [hget j hj, hv1]
          exact hs
        · have : ((List.range len).map fun i => (intOf (V0 i), strOf (V1 i))).getD j (0, ByteArray.empty) = (0, ByteArray.empty) := by simp [List.getD, hj]
          rw [this]
          simp [ByteArray.empty, ByteArray.emptyWithCapacity, ByteArray.size]; exact Nat.zero_le _
end

end Go.Proofs.Ytohgnmpmledljaa
