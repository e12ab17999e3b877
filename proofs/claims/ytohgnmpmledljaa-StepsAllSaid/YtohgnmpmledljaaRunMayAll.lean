/-
  The contract of matinsref22.May for a world of one act, no calls and no asks.
-/
import Derived.Test.YtohgnmpmledljaaRunMay
import Derived.Deep.WholeRow
namespace Go.Proofs.Ytohgnmpmledljaa
open Go.ChangeShapes Go.WideShapes Go.ChangeAt Go.RowKit

theorem setRow_two (w : World) (X : Obj) (c c' : Array Value) (t : TypeId) : ((w.alloc X).alloc (.cells c t)).setRow (w.heap.size + 1) c' = (w.alloc X).alloc (.cells c' t) := by
  have h := World.setRow_alloc_new (w.alloc X) c c' t
  simpa using h

theorem row_two (w : World) (X Y : Obj) : ((w.alloc X).alloc Y).heap[w.heap.size + 1]? = some Y := by
  have h := heap_alloc_new (w.alloc X) Y
  simpa using h

set_option maxRecDepth 100000 in
set_option maxHeartbeats 4000000 in
theorem mayOne_any (cs : Array Value) (A : ActM) (u : ByteArray) (hc : ActFull cs A u) (hall : cs.all (·.oneCell') = true) (w : World) (b : Nat) (hb : b < w.heap.size) (t : TypeId)
    (hrow : w.heap[b]? = some (.cells cs t (0, 0))) (hs : SaysIn w w.heap.size cs A.says) :
    Calls Try.prog 23 #[.agg #[.slice (some ⟨b, 0, none⟩) 1 1, .slice none 0 0, .slice none 0 0]] w (SomeMay A w) := by
  have HS := Lib.hid hs
  have HC := Lib.hid hc
  have HA := Lib.hid hall
  have HSZ := Lib.hid hc.cells.size
  have HB0 : Hid ((w.alloc (.cells #[.slice (some ⟨b, 0, none⟩) 1 1, .slice none 0 0, .slice none 0 0] 44)).heap[b]? = some (.cells cs t (0, 0))) := (heap_alloc_old w _ hb).trans hrow
  clear hs hc hrow hall
  go_enter Try.func23, Try.ntmps23
  go_wp2_with fail
  go_loopw [30] (fun i wr => (i = .int .i64 0 ∧ wr = w.alloc (.cells #[.slice (some ⟨b, 0, none⟩) 1 1, .slice none 0 0, .slice none 0 0] 44)) ∨
    (i = .int .i64 1 ∧ Below (w.heap.size + 1) (w.alloc (.cells #[.slice (some ⟨b, 0, none⟩) 1 1, .slice none 0 0, .slice none 0 0] 44)) wr ∧ MayP A)) (fun i _ => (1 - intOf i).toNat)
  case atStart => exact .inl ⟨rfl, rfl⟩
  case round =>
    rcases hrel with ⟨rfl, rfl⟩ | ⟨rfl, hbr, hmay⟩
    · go_wp2_with (first
        | (refine wpList_load_row rfl 24 _ rfl b rfl t cs (0, 0) _ HB0.out Try.underlying24 rfl (by rw [HSZ.out]; exact sizeAct) ?_)
        | (refine wpList_store_row rfl 24 _ _ rfl (w.heap.size + 1) cs rfl rfl 24 _ (row_two _ _ _) (by rw [HSZ.out]; exact sizeAct) (by rw [HSZ.out]; rfl) HA.out ?_; rw [setRow_two])
        | (refine wpList_load_row rfl 24 _ rfl (w.heap.size + 1) rfl 24 cs (0, 0) _ (row_two _ _ _) Try.underlying24 rfl (by rw [HSZ.out]; exact sizeAct) ?_)
        | (go_at_call 36; fail))
      refine (mayAct_any cs A u HC.out _ (HS.out.later (((Below.refl _ _).alloc (Nat.le_refl _) _).alloc (by simp) _) (by simp; omega))).mono ?_
      rintro e w2 ⟨bb, rfl, hb2, hmb⟩
      have hbw : Below (w.heap.size + 1) (w.alloc (.cells #[.slice (some ⟨b, 0, none⟩) 1 1, .slice none 0 0, .slice none 0 0] 44)) w2 := ((Below.refl _ _).alloc (by simp) _).trans (hb2.mono (by simp))
      have hbz : Below w.heap.size w w2 := ((Below.refl _ _).alloc (Nat.le_refl _) _).trans (hbw.mono (by omega))
      have hr2 : w2.heap[w.heap.size]? = some (.cells #[.slice (some ⟨b, 0, none⟩) 1 1, .slice none 0 0, .slice none 0 0] 44 (0, 0)) := (hbw.block _ (by omega)).trans (heap_alloc_new w _)
      have c0 : w2.cell? ⟨w.heap.size, 0, none⟩ = some (.slice (some ⟨b, 0, none⟩) 1 1) := by rw [cell_of_row w2 _ 0 _ _ _ hr2]; rfl
      have HBW := Lib.hid hbw
      have HBZ := Lib.hid hbz
      clear hb2 hr2 hbw hbz
      cases bb
      · clear hmb
        go_wp2_with fail
        exact bodyPost_ret (v := .bool false) (by simp [results, Try.results23, go_sem]) rfl ⟨false, rfl, HBZ.out, by simp⟩
      · have HM : Hid (MayP A) := Lib.hid (hmb rfl)
        clear hmb
        go_wp2_with fail
        go_loopw [43] (fun i wr => i = .int .i64 0 ∧ wr = w2) (fun _ _ => 0)
        case atStart => exact ⟨rfl, rfl⟩
        case round =>
          obtain ⟨rfl, rfl⟩ := hrel
          go_wp2_with fail
          go_roundw
          case rel => exact .inr ⟨rfl, HBW.out, HM.out⟩
          case measure => simp [intOf]
    · have HBR := Lib.hid hbr
      have HM := Lib.hid hmay
      have hbz : Below w.heap.size w wr := ((Below.refl _ _).alloc (Nat.le_refl _) _).trans (hbr.mono (by omega))
      have HBZ := Lib.hid hbz
      have hr2 : wr.heap[w.heap.size]? = some (.cells #[.slice (some ⟨b, 0, none⟩) 1 1, .slice none 0 0, .slice none 0 0] 44 (0, 0)) := (hbr.block _ (by omega)).trans (heap_alloc_new w _)
      have c1 : wr.cell? ⟨w.heap.size, 1, none⟩ = some (.slice none 0 0) := by rw [cell_of_row wr _ 1 _ _ _ hr2]; rfl
      have c2 : wr.cell? ⟨w.heap.size, 2, none⟩ = some (.slice none 0 0) := by rw [cell_of_row wr _ 2 _ _ _ hr2]; rfl
      clear hr2 hbr hmay hbz
      go_wp2_with fail
      go_loopw [78] (fun i w' => i = .int .i64 0 ∧ w' = wr) (fun _ _ => 0)
      case atStart => exact ⟨rfl, rfl⟩
      case round =>
        obtain ⟨rfl, rfl⟩ := hrel
        go_wp2_with fail
        go_loopw [128] (fun i w' => i = .int .i64 0 ∧ w' = wr) (fun _ _ => 0)
        case atStart => exact ⟨rfl, rfl⟩
        case round =>
          obtain ⟨rfl, rfl⟩ := hrel
          go_wp2_with fail
          exact bodyPost_ret (v := .bool true) (by simp [results, Try.results23, go_sem]) rfl ⟨true, rfl, HBZ.out, fun _ => HM.out⟩

end Go.Proofs.Ytohgnmpmledljaa
