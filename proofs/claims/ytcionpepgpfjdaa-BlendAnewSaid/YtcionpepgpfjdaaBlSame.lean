/-
  Contract of matinsref7.SameLines where both lists read alike.
-/
import Derived.Test.YtcionpepgpfjdaaBlBase
namespace Go.Proofs.Ytcionpepgpfjdaa
open Go.ChangeShapes Go.WideShapes Go.ChangeAt Go.RowKit

theorem below_drewN {B : Nat} {a w : World} (h : Below B a w) (q : Nat) : Below B a (w.drewN q) := ⟨h.os, h.tape, h.output, h.size, h.block⟩

set_option maxRecDepth 100000 in
set_option maxHeartbeats 2000000 in
theorem same_any (a b : Option Addr) (n c d : Nat) (l : List LineM) (w : World) (ha : RowsIn LineM.row 4 w w.heap.size a n l) (hb : RowsIn LineM.row 4 w w.heap.size b n l) (hn : n ≤ 4000000000000) :
    Calls Try.prog 9 #[.slice a n c, .slice b n d] w fun e w' => e = .returned (.bool true) ∧ Below w.heap.size w w' := by
  have HA := Lib.hid ha
  have HB := Lib.hid hb
  clear ha hb
  go_enter Try.func9, Try.ntmps9
  go_wp2_with fail
  go_loopw [5, 13] (fun v5 v13 wr => ∃ (i k : Nat), v13 = .int .i64 i ∧ i ≤ n ∧ wr = w.drewN k) (fun _ v13 _ => n - (intOf v13).toNat)
  case atStart => exact ⟨0, 0, rfl, Nat.zero_le _, rfl⟩
  case round =>
    obtain ⟨i, k, rfl, hi, rfl⟩ := hrel
    by_cases hlt : i < n
    · have hlti : (i : Int) < (n : Int) := by omega
      have hwi : IntKind.i64.wrap ((i : Int) + 1) = (i : Int) + 1 := by rw [IntKind.wrap_i64]; omega
      have hil : i < l.length := by rw [HA.out.len]; exact hlt
      obtain ⟨ba, oa, rfl, hba, hca⟩ := HA.out.at_ (by omega)
      obtain ⟨bb, ob, rfl, hbb, hcb⟩ := HB.out.at_ (by omega)
      have ra := hca i l[i] (List.getElem?_eq_getElem hil)
      have rb := hcb i l[i] (List.getElem?_eq_getElem hil)
      generalize l[i] = m at ra rb
      obtain ⟨ms, mk, mv, ma⟩ := m
      unfold LineM.row at ra rb
      dsimp only at ra rb
      have x0 := ra 0 _ rfl
      have x1 := ra 1 _ rfl
      have x2 := ra 2 _ rfl
      have x3 := ra 3 _ rfl
      have y0 := rb 0 _ rfl
      have y1 := rb 1 _ rfl
      have y2 := rb 2 _ rfl
      have y3 := rb 3 _ rfl
      simp only [Nat.add_zero] at x0 y0
      clear hca hcb ra rb
      go_wp2_with fail
      go_quiet (fail)
      go_wp2_with fail
      go_roundw
      case rel => exact ⟨i + 1, _, by go_num, by omega, rfl⟩
      case measure => simp [intOf]; omega
    · have hlti : ¬ (i : Int) < (n : Int) := by omega
      go_wp2_with fail
      exact bodyPost_ret (v := .bool true) (by simp [results, Try.results9, go_sem]) rfl ⟨rfl, below_drewN (Below.refl _ _) _⟩

end Go.Proofs.Ytcionpepgpfjdaa
