/-
  A date that came in: seven integers.
-/
import Derived.Test.YtokcllmceppbmaaFrame
namespace Go.Proofs.Ytokcllmceppbmaa
open Go.ChangeShapes Go.WideShapes Go.ChangeAt Go.RowKit

theorem dateCells : Try.prog.cellTypes Try.prog.depth 23 = some [3, 3, 3, 3, 3, 3, 3] := by kernel_rfl

theorem open_date {W : World} {r : Reach} {base : Nat} {v : Value} (hv : Value.okWide Try.prog W r base 23 v) :
    ∃ y m d h mi s wd : Int, v = .agg #[.int .i64 y, .int .i64 m, .int .i64 d, .int .i64 h, .int .i64 mi, .int .i64 s, .int .i64 wd] := by
  obtain ⟨cs, rfl, hsz, hc⟩ := okWide_cells Try.underlying23 dateCells (by kernel_rfl) hv
  have hi : ∀ i, i < 7 → ∃ n : Int, cs[i]? = some (.int .i64 n) := by
    intro i hi
    have hu : [3, 3, 3, 3, 3, 3, 3][i]? = some 3 := by
      have : i = 0 ∨ i = 1 ∨ i = 2 ∨ i = 3 ∨ i = 4 ∨ i = 5 ∨ i = 6 := by omega
      rcases this with rfl | rfl | rfl | rfl | rfl | rfl | rfl <;> rfl
    obtain ⟨x, hx, hok⟩ := hc i 3 hu
    obtain ⟨n, rfl, _⟩ := cell_int Try.underlying3 hok
    exact ⟨n, hx⟩
  obtain ⟨n0, e0⟩ := hi 0 (by omega)
  obtain ⟨n1, e1⟩ := hi 1 (by omega)
  obtain ⟨n2, e2⟩ := hi 2 (by omega)
  obtain ⟨n3, e3⟩ := hi 3 (by omega)
  obtain ⟨n4, e4⟩ := hi 4 (by omega)
  obtain ⟨n5, e5⟩ := hi 5 (by omega)
  obtain ⟨n6, e6⟩ := hi 6 (by omega)
  clear hi hc
  obtain ⟨l⟩ := cs
  match l, hsz with
  | [c0, c1, c2, c3, c4, c5, c6], _ =>
    simp at e0 e1 e2 e3 e4 e5 e6
    subst e0 e1 e2 e3 e4 e5 e6
    exact ⟨n0, n1, n2, n3, n4, n5, n6, rfl⟩

end Go.Proofs.Ytokcllmceppbmaa
