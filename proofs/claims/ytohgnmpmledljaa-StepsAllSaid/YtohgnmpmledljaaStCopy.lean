/-
  Contract of world.copied.
-/
import Derived.Test.YtohgnmpmledljaaStOf
namespace Go.Proofs.Ytohgnmpmledljaa
open Go.ChangeShapes Go.WideShapes Go.ChangeAt Go.RowKit

def saidVals (l : List (Int × ByteArray)) : List Value := (List.range (l.length * 2)).map fun k => if k % 2 = 0 then .int .i64 (l.getD (k / 2) (0, ByteArray.empty)).1 else .string (l.getD (k / 2) (0, ByteArray.empty)).2

theorem SaysIn.reads {w : World} {B : Nat} {cs : Array Value} {l : List (Int × ByteArray)} (h : SaysIn w B cs l) {a : Option Addr} {n c : Nat} (hc : cs[8]? = some (.slice a n c)) : n = l.length ∧ Reads w B 2 a n (saidVals l) := by
  obtain ⟨⟨a', c', k8, hl⟩, -⟩ := h
  rw [hc] at k8
  injection k8 with k8
  injection k8 with k1 k2 k3
  subst k1 k2 k3
  refine ⟨rfl, by simp [saidVals], fun hn => ?_⟩
  obtain ⟨b, off, rfl, hb, hcell⟩ := hl hn
  refine ⟨_, rfl, hb, fun j u hu => ?_⟩
  rw [add_plain]
  have hj : j < l.length * 2 := by
    have := (List.getElem?_eq_some_iff.1 hu).1
    simpa [saidVals] using this
  have hu' : u = if j % 2 = 0 then .int .i64 (l.getD (j / 2) (0, ByteArray.empty)).1 else .string (l.getD (j / 2) (0, ByteArray.empty)).2 := by
    have : (saidVals l)[j]? = some (if j % 2 = 0 then .int .i64 (l.getD (j / 2) (0, ByteArray.empty)).1 else .string (l.getD (j / 2) (0, ByteArray.empty)).2) := by
      unfold saidVals
      rw [List.getElem?_map, List.getElem?_range hj]
      rfl
    rw [this] at hu
    injection hu with hu
    exact hu.symm
  have hq := hcell (j / 2) (by omega)
  by_cases h2 : j % 2 = 0
  · have e : off + j = off + j / 2 * 2 := by omega
    rw [if_pos h2] at hu'
    rw [e, hu']
    exact hq.1
  · have e : off + j = off + j / 2 * 2 + 1 := by omega
    rw [if_neg h2] at hu'
    rw [e, hu']
    exact hq.2

theorem saidVals_one (l : List (Int × ByteArray)) : ∀ u ∈ saidVals l, u.oneCell' = true := by
  intro u hu
  unfold saidVals at hu
  obtain ⟨k, -, rfl⟩ := List.mem_map.1 hu
  split <;> rfl

theorem ActAt.set {w : World} {b : Nat} {un : ByteArray} {p n t L C R D : Int} {sa : Option Addr} {sn sc : Nat} (h : ActAt w b un p n t L C R D sa sn sc)
    (un' : ByteArray) (p' n' t' L' C' R' D' : Int) (sa' : Option Addr) (sn' sc' : Nat) :
    ActAt (((((((((w.setCell ⟨b, 0, none⟩ (.string un')).setCell ⟨b, 1, none⟩ (.int .i64 p')).setCell ⟨b, 2, none⟩ (.int .i64 n')).setCell ⟨b, 3, none⟩ (.int .i64 t')).setCell ⟨b, 4, none⟩ (.int .i64 L')).setCell ⟨b, 5, none⟩ (.int .i64 C')).setCell ⟨b, 6, none⟩ (.int .i64 R')).setCell ⟨b, 7, none⟩ (.int .i64 D')).setCell ⟨b, 8, none⟩ (.slice sa' sn' sc'))
      b un' p' n' t' L' C' R' D' sa' sn' sc' := by
  obtain ⟨c0, c1, c2, c3, c4, c5, c6, c7, c8⟩ := h
  refine ⟨?_, ?_, ?_, ?_, ?_, ?_, ?_, ?_, ?_⟩
  all_goals go_simp

theorem act_results (f : Func) (k : Nat) (hf : f.results = #[.cell k 24]) (W : World) (b : Nat) (un : ByteArray) (p n t L C R D : Int) (sa : Option Addr) (sn sc : Nat) (tm : Array Value) (h : ActAt W b un p n t L C R D sa sn sc) (h4 : tm[k]? = some (.pointer (some ⟨b, 0, none⟩))) :
    (results f tm).run Try.prog W = .ok (.agg #[.string un, .int .i64 p, .int .i64 n, .int .i64 t, .int .i64 L, .int .i64 C, .int .i64 R, .int .i64 D, .slice sa sn sc]) W := by
  obtain ⟨c0, c1, c2, c3, c4, c5, c6, c7, c8⟩ := h
  simp [results, hf, go_sem, h4, c0, c1, c2, c3, c4, c5, c6, c7, c8]

set_option maxRecDepth 100000 in
set_option maxHeartbeats 4000000 in
theorem copied_any (r : ActR) (w : World) (hs : SaysIn w w.heap.size r.row r.A.says) (hn : r.A.says.length * 24 ≤ 140737488355328) (hnil : r.sa = none → r.A.says.length = 0 ∧ r.sc = 0) :
    Calls Try.prog 46 #[.agg r.row] w fun e w' => (∃ a' n' c', e = .returned (.agg #[.string r.u, .int .i64 r.p, .int .i64 r.n, .int .i64 r.t, .int .i64 r.A.lasts, .int .i64 r.A.code, .int .i64 r.A.ready, .int .i64 r.A.dies, .slice a' n' c'])) ∧ Below w.heap.size w w' := by
  obtain ⟨u, p, n, t, ⟨L, C, R, D, S⟩, sa, sc⟩ := r
  have hr := (hs.reads (a := sa) (n := S.length) (c := sc) rfl).2
  have HR := Lib.hid hr
  have HN := Lib.hid hn
  have HNIL := Lib.hid hnil
  clear hs hr hn hnil
  unfold ActR.row actRow
  dsimp only
  go_enter Try.func46, Try.ntmps46
  go_wp2_with (go_at_call 49; fail)
  refine (clone_any sa S.length sc (saidVals S) _ ((HR.out.alloc (Nat.le_refl _) _).alloc (by simp) _ |>.more (by simp; omega)) (saidVals_one S) HN.out HNIL.out).mono ?_
  rintro e w1 ⟨a', n', c', rfl, hb1⟩
  have hr1 := (hb1.block w.heap.size (by simp; omega)).trans ((Below.heap_alloc (w.alloc _) _ _ (by simp)).trans (heap_alloc_new w _))
  have hr2 := (hb1.block (w.heap.size + 1) (by simp)).trans (row_two w _ _)
  obtain ⟨a0, a1, a2, a3, a4, a5, a6, a7, a8⟩ := ActAt.of_row hr1
  have HA2 := Lib.hid (ActAt.of_row hr2)
  have f1 : ∀ i, w1.frozen? ⟨w.heap.size, i, none⟩ = false := by intro i; simp [World.frozen?, hr1]
  have f2 : ∀ i, w1.frozen? ⟨w.heap.size + 1, i, none⟩ = false := by intro i; simp [World.frozen?, hr2]
  obtain ⟨d0, d1, d2, d3, d4, d5, d6, d7, d8⟩ := HA2.out
  have hb := ((((Below.refl _ _).alloc (Nat.le_refl _) _).alloc (by simp) _)).trans (hb1.mono (by simp; omega) : Below w.heap.size _ w1)
  have HB := Lib.hid hb
  clear hb1 hr1 hr2 hb
  go_wp2_with fail
  refine bodyPost_ret (v := .agg #[.string u, .int .i64 p, .int .i64 n, .int .i64 t, .int .i64 L, .int .i64 C, .int .i64 R, .int .i64 D, .slice a' n' c']) (act_results _ 2 rfl _ (w.heap.size + 1) _ _ _ _ _ _ _ _ _ _ _ _ (ActAt.set (HA2.out.other _ _ _ (by omega)) _ _ _ _ _ _ _ _ _ _ _) rfl) rfl ⟨⟨a', n', c', rfl⟩, ?_⟩
  iterate 9 refine Below.setCell ?_ (by simp) _
  refine Below.setCell ?_ (by simp) _
  exact HB.out

end Go.Proofs.Ytohgnmpmledljaa
