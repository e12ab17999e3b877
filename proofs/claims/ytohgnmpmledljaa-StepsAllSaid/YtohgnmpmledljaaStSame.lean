/-
  Contract of matinsref22.SameMarks where both lists read alike.
-/
import Derived.Test.YtohgnmpmledljaaStLater
namespace Go.Proofs.Ytohgnmpmledljaa
open Go.ChangeShapes Go.WideShapes Go.ChangeAt Go.RowKit

set_option maxRecDepth 100000 in
set_option maxHeartbeats 4000000 in
theorem same_any (a b : Option Addr) (n c d : Nat) (l : List MarkM) (w : World) (ha : MarksIn w w.heap.size a n l) (hb : MarksIn w w.heap.size b n l) (hn : n ≤ 1000) :
    Calls Try.prog 22 #[.slice a n c, .slice b n d] w fun e w' => e = .returned (.bool true) ∧ Below w.heap.size w w' := by
  have HA := Lib.hid ha
  have HB := Lib.hid hb
  clear ha hb
  go_enter Try.func22, Try.ntmps22
  go_wp2_with fail
  go_loopw [5, 13] (fun v5 v13 wr => ∃ (i k : Nat), v13 = .int .i64 i ∧ i ≤ n ∧ wr = w.drewN k) (fun _ v13 _ => n - (intOf v13).toNat)
  case atStart => exact ⟨0, 0, rfl, Nat.zero_le _, rfl⟩
  case round =>
    obtain ⟨i, k, rfl, hi, rfl⟩ := hrel
    by_cases hlt : i < n
    · have hlti : (i : Int) < (n : Int) := by omega
      have hwi : IntKind.i64.wrap ((i : Int) + 1) = (i : Int) + 1 := by rw [IntKind.wrap_i64]; omega
      have hil : i < l.length := by rw [HA.out.len]; exact hlt
      obtain ⟨ga, rfl, hga, x0, x1, x2, x3⟩ := HA.out.at_ i l[i] (List.getElem?_eq_getElem hil)
      obtain ⟨gb, rfl, hgb, y0, y1, y2, y3⟩ := HB.out.at_ i l[i] (List.getElem?_eq_getElem hil)
      generalize l[i] = m at x0 x1 x2 x3 y0 y1 y2 y3
      obtain ⟨mn, mb, me, mc⟩ := m
      dsimp only at x0 x1 x2 x3 y0 y1 y2 y3
      go_wp2_with fail
      go_quiet (fail)
      go_wp2_with fail
      go_roundw
      case rel => exact ⟨i + 1, _, by go_num, by omega, rfl⟩
      case measure => simp [intOf]; omega
    · have hlti : ¬ (i : Int) < (n : Int) := by omega
      go_wp2_with fail
      exact bodyPost_ret (v := .bool true) (by simp [results, Try.results22, go_sem]) rfl ⟨rfl, below_drewN (Below.refl _ _) _⟩

end Go.Proofs.Ytohgnmpmledljaa
