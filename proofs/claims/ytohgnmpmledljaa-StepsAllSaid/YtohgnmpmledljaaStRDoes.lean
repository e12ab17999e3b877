/-
  Contract of matinsref22.Does.
-/
import Derived.Test.YtohgnmpmledljaaStRFind
import Derived.Test.YtohgnmpmledljaaStDoes
namespace Go.Proofs.Ytohgnmpmledljaa
open Go.ChangeShapes Go.WideShapes Go.ChangeAt Go.RowKit

set_option maxRecDepth 100000 in
set_option maxHeartbeats 8000000 in
theorem rdoes_any (l : List ActR) (cu : Array Value) (u : ByteArray) (ty p n t : Int) (aa : Option Addr) (na ca : Nat) (ab : Option Addr) (nb cb : Nat) (ak : Option Addr) (nk ck : Nat) (w : World) (hl : ActsIn w w.heap.size aa na l) (hbig : na ≤ 9223372036854775807)
    (hu0 : cu[0]? = some (.string u)) (hu7 : cu[7]? = some (.int .i64 ty)) :
    Calls Try.prog 34 #[.agg #[.slice aa na ca, .slice ab nb cb, .slice ak nk ck], .agg cu, .int .i64 p, .int .i64 n, .int .i64 t] w (DoesRet (doesA l u ty p n t) w) := by
  have HL := Lib.hid hl
  have HBG := Lib.hid hbig
  have H0 := Lib.hid hu0
  have H7 := Lib.hid hu7
  clear hl hu7 hbig
  go_enter Try.func34, Try.ntmps34
  go_wp2_with (go_at_call 42; fail)
  have hb0 : ∀ X Y Z : Obj, Below w.heap.size w (((w.alloc X).alloc Y).alloc Z) := fun X Y Z => (((Below.refl _ _).alloc (Nat.le_refl _) _).alloc (by simp) _).alloc (by simp; omega) _
  refine (rfind_any l u p n t aa na ca ab nb cb ak nk ck _ (HL.out.later (hb0 _ _ _) (by simp; omega)) HBG.out).mono ?_
  rintro e w1 ⟨hret, hb1⟩
  have hr6 := (hb1.block (w.heap.size + 1) (by simp)).trans ((Below.heap_alloc ((w.alloc _).alloc _) _ (w.heap.size + 1) (by simp)).trans (row_two w _ _))
  have hr10 := (hb1.block (w.heap.size + 1 + 1) (by simp)).trans (row_three w _ _ _)
  have HB := Lib.hid ((hb0 _ _ _).trans (hb1.mono (by simp; omega)))
  have HL1 : Hid (w.heap.size + 1 + 1 < w1.heap.size) := Lib.hid (by have := hb1.size; simp at this; omega)
  have x0 : w1.cell? ⟨w.heap.size + 1, 0, none⟩ = some (.string u) := by rw [cell_of_row w1 _ 0 _ _ _ hr6]; exact H0.out
  have x7 : w1.cell? ⟨w.heap.size + 1, 7, none⟩ = some (.int .i64 ty) := by rw [cell_of_row w1 _ 7 _ _ _ hr6]; exact H7.out
  clear hu0
  have HA10 := Lib.hid (ActAt.of_row hr10)
  have f10 : ∀ i, w1.frozen? ⟨w.heap.size + 1 + 1, i, none⟩ = false := by intro i; simp [World.frozen?, hr10]
  clear hb0 hb1 hr6 hr10
  obtain ⟨d0, d1, d2, d3, d4, d5, d6, d7, d8⟩ := HA10.out
  have hlt1 := HL1.out
  have hlt6 : w.heap.size + 1 < w1.heap.size := by omega
  have hlt0 : w.heap.size < w1.heap.size := by omega
  unfold RFindRet at hret
  generalize hfr : findR l u p n t = fr at hret
  have HFR := Lib.hid hfr
  clear hfr
  rcases fr with _ | r
  · obtain rfl := hret
    by_cases hp2 : p = 2
    · subst hp2
      by_cases hty : ty = 2
      · subst hty
        have hd : doesA l u 2 2 n t = ⟨0, 0, 0, 0, []⟩ := by unfold doesA; rw [HFR.out]; rfl
        have HD := Lib.hid hd
        clear hd
        go_wp2_with fail
        refine bodyPost_ret (v := .agg (nineCs u 2 n t 0 0 0 0 none 0 0)) (act_results _ 10 rfl _ (w.heap.size + 1 + 1) _ _ _ _ _ _ _ _ _ _ _ _ ((ActAt.set HA10.out _ _ _ _ _ _ _ _ _ _ _).alloc (by simpa using HL1.out) _) rfl) rfl ⟨⟨_, rfl, by rw [HD.out]; exact nine_cells _ _ _ _ _ _ _ _ _ _ _ _ rfl rfl rfl rfl⟩, ?_⟩
        refine Below.alloc ?_ ?_ _
        · iterate 9 refine Below.setCell ?_ (by simp; omega) _
          exact HB.out
        · simpa using HB.out.size
      · skip
        have hd : doesA l u ty 2 n t = ⟨1099511627776, 0, 0, 0, []⟩ := by unfold doesA; rw [HFR.out]; simp [hty]
        have HD := Lib.hid hd
        clear hd
        go_wp2_with fail
        refine bodyPost_ret (v := .agg (nineCs u 2 n t 1099511627776 0 0 0 none 0 0)) (act_results _ 10 rfl _ (w.heap.size + 1 + 1) _ _ _ _ _ _ _ _ _ _ _ _ ((ActAt.set HA10.out _ _ _ _ _ _ _ _ _ _ _).alloc (by simpa using HL1.out) _) rfl) rfl ⟨⟨_, rfl, by rw [HD.out]; exact nine_cells _ _ _ _ _ _ _ _ _ _ _ _ rfl rfl rfl rfl⟩, ?_⟩
        refine Below.alloc ?_ ?_ _
        · iterate 9 refine Below.setCell ?_ (by simp; omega) _
          exact HB.out
        · simpa using HB.out.size
    · skip
      have hd : doesA l u ty p n t = ⟨0, 0, 0, 0, []⟩ := by unfold doesA; rw [HFR.out]; simp [hp2]
      have HD := Lib.hid hd
      clear hd
      go_wp2_with fail
      refine bodyPost_ret (v := .agg (nineCs u p n t 0 0 0 0 none 0 0)) (act_results _ 10 rfl _ (w.heap.size + 1 + 1) _ _ _ _ _ _ _ _ _ _ _ _ ((ActAt.set HA10.out _ _ _ _ _ _ _ _ _ _ _).alloc (by simpa using HL1.out) _) rfl) rfl ⟨⟨_, rfl, by rw [HD.out]; exact nine_cells _ _ _ _ _ _ _ _ _ _ _ _ rfl rfl rfl rfl⟩, ?_⟩
      refine Below.alloc ?_ ?_ _
      · iterate 9 refine Below.setCell ?_ (by simp; omega) _
        exact HB.out
      · simpa using HB.out.size
  · obtain rfl := hret
    obtain ⟨ru, rp, rn, rt, ⟨L, C, R, D, S⟩, rsa, rsc⟩ := r
    have hd : doesA l u ty p n t = ⟨L, C, R, D, S⟩ := by unfold doesA; rw [HFR.out]
    have HD := Lib.hid hd
    clear hd
    unfold ActR.row actRow
    dsimp only
    go_wp2_with fail
    refine bodyPost_ret (v := .agg (nineCs ru rp rn rt L C R D rsa S.length rsc)) (act_results _ 10 rfl _ (w.heap.size + 1 + 1) _ _ _ _ _ _ _ _ _ _ _ _ ((ActAt.set HA10.out _ _ _ _ _ _ _ _ _ _ _).alloc (by simpa using HL1.out) _) rfl) rfl ⟨⟨_, rfl, by rw [HD.out]; exact nine_cells _ _ _ _ _ _ _ _ _ _ _ _ rfl rfl rfl rfl⟩, ?_⟩
    refine Below.alloc ?_ ?_ _
    · iterate 9 refine Below.setCell ?_ (by simp; omega) _
      exact HB.out
    · simpa using HB.out.size

end Go.Proofs.Ytohgnmpmledljaa
