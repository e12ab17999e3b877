/-
  Lists of lines that came in, by the form's own bound.
-/
import Derived.Test.YtcionpepgpfjdaaBlOpen
import Derived.SizedLaws
namespace Go.Proofs.Ytcionpepgpfjdaa
open Go.ChangeShapes Go.WideShapes Go.ChangeAt Go.RowKit

section
variable {H : Type} {enc : TypeId × Value → H} {w : World} {base b0 : Nat} {spare : Nat → Bool} {held : Bool} {r : Reach}

theorem wt_lines {m B : Nat} {c : Value} {x : DataW H × List MemPlace} {sa : Option Addr} {n sc : Nat} (h : DataW.trod enc Try.prog w base spare held m 22 [c] = some x) (hc : c = .slice sa n sc)
    (hB : ∀ q ∈ x.1.weights Try.prog 22, q ≤ B) : n * 56 ≤ B := by
  have hby : Try.prog.bytesOf 30 = 56 := by kernel_rfl
  rcases Go.Deep.open_slice Try.underlying22 h with ⟨hq, rfl⟩ | ⟨a, len, cap, m', n', D, Pl, hq, hba, hl, hm, hmm, rfl, hx⟩
  · injection hq with hq
    rw [hc] at hq
    injection hq with _ h2 _
    subst h2
    omega
  · injection hq with hq
    rw [hc] at hq
    injection hq with _ h2 _
    subst h2
    have h1 := hB ((n + (m' - n)) * 56) (by
      simp only [DataW.weights, Try.underlying22, hby, List.length_map, List.length_range]
      exact List.mem_cons_self ..)
    have : n * 56 ≤ (n + (m' - n)) * 56 := Nat.mul_le_mul_right _ (Nat.le_add_right _ _)
    omega

theorem open_lines_wt {v : Value} {d : DataW H} {ps : List MemPlace} (hv : Value.okWide Try.prog w r b0 22 v) (hd : DataW.Trod enc Try.prog w base spare held 22 v d ps) (hB : ∀ q ∈ d.weights Try.prog 22, q ≤ reachBytes) :
    ∃ (a : Option Addr) (n c : Nat) (l : List LineM), v = .slice a n c ∧ RowsIn LineM.row 4 w w.heap.size a n l ∧ n * 56 ≤ reachBytes := by
  obtain ⟨a0, len, cap, rfl⟩ := okWide_slice Try.underlying22 hv
  obtain ⟨fuel, hd⟩ := hd
  have h : DataW.trod enc Try.prog w base spare held fuel 22 [.slice a0 len cap] = some (d, ps) := by simpa [Value.cells] using hd
  obtain ⟨a, n, c, l, e, h1, -⟩ := lines_of h
  exact ⟨a, n, c, l, e, h1, wt_lines h e hB⟩

end

end Go.Proofs.Ytcionpepgpfjdaa
