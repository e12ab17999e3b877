/-
  matinslaw24.three: what it makes.
-/
import Derived.Test.YtohgnmpmledljaaStCourse
namespace Go.Proofs.Ytohgnmpmledljaa
open Go.ChangeShapes Go.WideShapes Go.ChangeAt Go.RowKit

def zeroUnit (u : ByteArray) (ty : Int) : Array Value := #[.string u, .int .i64 0, .string ⟨#[]⟩, .bool false, .slice none 0 0, .int .i64 0, .int .i64 0, .int .i64 ty, .slice none 0 0, .slice none 0 0, .slice none 0 0, .slice none 0 0, .slice none 0 0, .bool false, .int .i64 0, .int .i64 0, .int .i64 0, .int .i64 0, .slice none 0 0, .slice none 0 0, .slice none 0 0, .slice none 0 0, .int .i64 0, .string ⟨#[]⟩, .string ⟨#[]⟩, .slice none 0 0, .slice none 0 0, .slice none 0 0, .slice none 0 0, .bool false, .slice none 0 0, .slice none 0 0, .slice none 0 0, .slice none 0 0, .string ⟨#[]⟩]
theorem build_unit (u : ByteArray) (ty : Int) (W : World) : Sem.run Try.prog (Instr.build 51 #[(0, .string u), (7, .int .i64 ty)]) W = .ok (.agg (zeroUnit u ty)) W := by kernel_rfl
theorem zero_unit (W : World) : Sem.run Try.prog (zeroValue 51) W = .ok (.agg (zeroUnit ⟨#[]⟩ 0)) W := by kernel_rfl
theorem wp_build_unit {o : Oper} {a : Act} {w : World} {K : Act → World → Prop} {Q : Exit → Act → World → Prop} (u : ByteArray) (ty : Int)
    (ho : o.op = .build 51 #[(0, .const (.string u)), (7, .const (.int .i64 ty))]) (h : K (a.put o.dst (.agg (zeroUnit u ty))) w) : o.wp Try.prog a w K Q := by
  have e : (Sem.run Try.prog (execOp a.eval o) w) = .ok (.value (.agg (zeroUnit u ty))) w := by
    unfold execOp
    simp only [ho, Sem.run_bind, Sem.run_pure]
    have e1 : (#[((0 : Nat), Operand.const (.string u)), (7, .const (.int .i64 ty))].map fun (i, x) => (i, a.eval x)) = #[(0, .string u), (7, .int .i64 ty)] := by simp [Act.eval]
    rw [e1, build_unit]
    rfl
  unfold Oper.wp
  rw [e]
  exact h

theorem wpList_build_unit {ops : Array Oper} {rest : List Oper} {o : Oper} {a : Act} {w : World} {Q : Exit → Act → World → Prop} (hgd : o.guard = none) (u : ByteArray) (ty : Int) (zu : Array Value) (hz : zeroUnit u ty = zu)
    (ho : o.op = .build 51 #[(0, .const (.string u)), (7, .const (.int .i64 ty))]) (h : wpList Try.prog ops Q rest (a.put o.dst (.agg zu)) w) : wpList Try.prog ops Q (o :: rest) a w :=
  wpList_plain hgd fun _ hK => wp_build_unit u ty ho (by rw [hz]; exact hK _ _ h)

def nm3 : ByteArray := ⟨#[97, 46, 115, 101, 114, 118, 105, 99, 101]⟩
def act3 : ActR := ⟨nm3, 1, 1, 0, ⟨4, 2, 0, 0, []⟩, none, 0⟩
def execs3 : List (Bool × Option Addr × Nat × Nat) := [(false, none, 0, 0), (false, none, 0, 0), (false, none, 0, 0)]

theorem four_0 (w : World) (X Y Z U : Obj) : ((((w.alloc X).alloc Y).alloc Z).alloc U).heap[w.heap.size]? = some X := by
  exact (Below.heap_alloc _ _ _ (by simp; omega)).trans ((Below.heap_alloc _ _ _ (by simp; omega)).trans ((Below.heap_alloc _ _ _ (by simp)).trans (heap_alloc_new w X)))
theorem four_1 (w : World) (X Y Z U : Obj) : ((((w.alloc X).alloc Y).alloc Z).alloc U).heap[w.heap.size + 1]? = some Y := by
  rw [Below.heap_alloc _ _ _ (by simp), Below.heap_alloc _ _ _ (by simp)]
  exact row_two w X Y
theorem four_2 (w : World) (X Y Z U : Obj) : ((((w.alloc X).alloc Y).alloc Z).alloc U).heap[w.heap.size + 1 + 1]? = some Z := by
  rw [Below.heap_alloc _ _ _ (by simp)]
  exact row_three w X Y Z
theorem four_3 (w : World) (X Y Z U : Obj) : ((((w.alloc X).alloc Y).alloc Z).alloc U).heap[w.heap.size + 1 + 1 + 1]? = some U := by
  have h := heap_alloc_new (((w.alloc X).alloc Y).alloc Z) U
  simpa using h

theorem sizeWorld : (Try.prog.info? 44).map (·.size) = some 3 := by kernel_rfl

theorem row_load (W : World) (b : Nat) (cs : Array Value) (t : TypeId) (n : Nat) (hn : cs.size = n) (h : W.heap[b]? = some (.cells cs t (0, 0))) : (loadCellsFrom ⟨b, 0, none⟩ 0 n #[]).run Try.prog W = .ok cs W := by
  subst hn
  have := run_loadCells_list (P := Try.prog) W ⟨b, 0, none⟩ cs.toList (fun j v hv => by
    rw [add_plain, Nat.zero_add, cell_of_row _ _ j cs t (0, 0) h]
    simpa using hv)
  simpa [loadCells] using this

theorem three_results (W : World) (b b1 : Nat) (v2 : Value) (cw cu : Array Value) (tw tu : TypeId) (tm : Array Value) (hw : W.heap[b]? = some (.cells cw tw (0, 0))) (hws : cw.size = 3) (hu : W.heap[b1]? = some (.cells cu tu (0, 0))) (hus : cu.size = 35)
    (h0 : tm[0]? = some (.pointer (some ⟨b, 0, none⟩))) (h1 : tm[1]? = some (.pointer (some ⟨b1, 0, none⟩))) (h2 : tm[2]? = some v2) :
    (results Try.f30 tm).run Try.prog W = .ok (.tuple #[.agg cw, .agg cu, v2]) W := by
  have e1 : Sem.run Try.prog (loadVar 44 ⟨b, 0, none⟩) W = .ok (.agg cw) W := run_loadVar_row W b tw 44 cw (0, 0) _ hw Try.underlying44 rfl (by rw [hws]; exact sizeWorld)
  have e2 : Sem.run Try.prog (loadVar 51 ⟨b1, 0, none⟩) W = .ok (.agg cu) W := run_loadVar_row W b1 tu 51 cu (0, 0) _ hu Try.underlying51 rfl (by rw [hus]; exact sizeUnit)
  simp [results, Try.results30, h0, h1, h2, asAddr, e1, e2]

theorem run_storeUnit (W : World) (g : Nat) (old zu : Array Value) (hg : W.heap[g]? = some (.cells old 51 (0, 0))) (hold : old.size = zu.size) (hz : zu.size = 35) (h1 : zu.all (·.oneCell') = true) :
    Sem.run Try.prog (storeCells ⟨g, 0, none⟩ zu.toList) W = .ok () (W.setRow g zu) := by
  have hi : (Try.prog.info? 51).map (·.size) = some zu.size := by rw [hz]; exact sizeUnit
  have := run_storeVar_row (P := Try.prog) W g 51 51 old zu hg hi hold h1
  cases hq : Try.prog.info? 51 with
  | none => simp [hq] at hi
  | some i =>
    have hs : zu.size = i.size := by simp [hq] at hi; omega
    simpa [storeVar, sizeOf, typeInfo, hq, Value.cells, hs] using this

theorem below_setRow3 {B g : Nat} {w0 w : World} (hb : Below B w0 w) (hBg : B ≤ g) (cs : Array Value) : Below B w0 (w.setRow g cs) :=
  ⟨hb.os, hb.tape, hb.output, by simpa using hb.size, fun k hk => (setRow_other w g k cs (by omega)).trans (hb.block k hk)⟩

def ThreeRet (w : World) (e : Ending) (w' : World) : Prop :=
  e = .returned (.tuple #[.agg #[.slice (some ⟨w.heap.size + 1 + 1, 0, none⟩) 1 1, .slice none 0 0, .slice none 0 0], .agg (zeroUnit nm3 2), .slice (some ⟨w.heap.size + 1 + 1 + 1, 0, none⟩) 3 3]) ∧ Below w.heap.size w w' ∧
    ActsIn w' w'.heap.size (some ⟨w.heap.size + 1 + 1, 0, none⟩) 1 [act3] ∧ ExecsIn w' w'.heap.size (some ⟨w.heap.size + 1 + 1 + 1, 0, none⟩) 3 execs3

set_option maxRecDepth 100000 in
set_option maxHeartbeats 1000000 in
theorem three_any (w : World) : Calls Try.prog 30 #[] w (ThreeRet w) := by
  have hzs : (zeroUnit nm3 2).size = 35 := rfl
  have hzo : (zeroUnit nm3 2).all (·.oneCell') = true := by simp [zeroUnit, Value.oneCell']
  unfold ThreeRet
  generalize hzu : zeroUnit nm3 2 = zu at *
  have HZU : Hid (zeroUnit ⟨#[97, 46, 115, 101, 114, 118, 105, 99, 101]⟩ 2 = zu) := Lib.hid hzu
  have HZS := Lib.hid hzs
  have HZO := Lib.hid hzo
  clear hzu hzs hzo
  go_enter Try.func30, Try.ntmps30
  have hz35 : zu.size = 35 := HZS.out
  go_wp2_with (refine wpList_build_unit rfl ⟨#[97, 46, 115, 101, 114, 118, 105, 99, 101]⟩ 2 zu HZU.out rfl ?_)
  generalize hW4 : World.alloc _ _ = W4
  have g1 : ∃ old, W4.heap[w.heap.size + 1]? = some (.cells old 51 (0, 0)) ∧ old.size = 35 := by rw [← hW4]; exact ⟨_, four_1 w _ _ _ _, rfl⟩
  have g0 : W4.heap[w.heap.size]? = some (.cells #[.slice (some ⟨w.heap.size + 1 + 1, 0, none⟩) 1 1, .slice none 0 0, .slice none 0 0] 44 (0, 0)) := by rw [← hW4]; exact four_0 w _ _ _ _
  have g2 : W4.heap[w.heap.size + 1 + 1]? = some (.cells #[.string ⟨#[97, 46, 115, 101, 114, 118, 105, 99, 101]⟩, .int .i64 1, .int .i64 1, .int .i64 0, .int .i64 4, .int .i64 2, .int .i64 0, .int .i64 0, .slice none 0 0] 24 (0, 0)) := by rw [← hW4]; exact four_2 w _ _ _ _
  have g3 : W4.heap[w.heap.size + 1 + 1 + 1]? = some (.cells #[.bool false, .slice none 0 0, .bool false, .slice none 0 0, .bool false, .slice none 0 0] 53 (0, 0)) := by rw [← hW4]; exact four_3 w _ _ _ _
  have g4 : Below w.heap.size w W4 ∧ W4.heap.size = w.heap.size + 4 := by rw [← hW4]; exact ⟨(((Below.refl _ _).alloc (Nat.le_refl _) _).alloc (by simp) _ |>.alloc (by simp; omega) _).alloc (by simp; omega) _, by simp⟩
  clear hW4
  obtain ⟨old, g1, go⟩ := g1
  rw [run_storeUnit W4 (w.heap.size + 1) old zu g1 (by rw [go, HZS.out]) HZS.out HZO.out]
  go_wp2_with fail
  have hz1 := setRow_heap W4 (w.heap.size + 1) old zu _ _ g1
  refine bodyPost_ret (three_results (W4.setRow (w.heap.size + 1) zu) w.heap.size (w.heap.size + 1) _ _ _ _ _ _ ((setRow_other _ _ _ _ (by omega)).trans g0) rfl hz1 HZS.out rfl rfl rfl) rfl ⟨rfl, below_setRow3 g4.1 (by omega) zu, ?_, ?_⟩
  · refine ⟨rfl, fun _ => ⟨_, _, rfl, by simp [g4.2], fun i r hr => ?_⟩⟩
    obtain rfl : i = 0 := by have := (List.getElem?_eq_some_iff.1 hr).1; simpa using this
    simp at hr
    subst hr
    refine ⟨fun j v hv => ?_, ⟨⟨none, 0, rfl, fun h => absurd h (by decide)⟩, by decide⟩, fun _ => ⟨rfl, rfl⟩⟩
    rw [cell_setRow_other _ _ _ _ (by simp)]
    have : (0 + 0 * 9 + j) = j := by omega
    rw [this, cell_of_row _ _ j _ _ _ g2]
    exact hv
  · refine ⟨rfl, fun _ => ⟨_, _, rfl, by simp [g4.2], fun i d hd => ?_⟩⟩
    have hi : i < 3 := by have := (List.getElem?_eq_some_iff.1 hd).1; simpa [execs3] using this
    have hc : i = 0 ∨ i = 1 ∨ i = 2 := by omega
    rcases hc with rfl | rfl | rfl
    all_goals
      simp [execs3] at hd
      subst hd
      refine ⟨?_, ?_⟩ <;> (rw [cell_setRow_other _ _ _ _ (by simp; omega), cell_of_row _ _ _ _ _ _ g3]; rfl)

end Go.Proofs.Ytohgnmpmledljaa
