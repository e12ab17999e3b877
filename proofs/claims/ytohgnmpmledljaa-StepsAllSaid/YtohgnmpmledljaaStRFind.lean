/-
  Contract of matinsref22.Find: it returns the act that fits best, or none. (The walk is begun.)
-/
import Derived.Test.YtohgnmpmledljaaStPlainF
import Derived.Test.YtohgnmpmledljaaStDoes
import Derived.Deep.CutBlock
namespace Go.Proofs.Ytohgnmpmledljaa
open Go.ChangeShapes Go.WideShapes Go.ChangeAt Go.RowKit

def RFindRet (l : List ActR) (u : ByteArray) (p n t : Int) (e : Ending) : Prop :=
  match findR l u p n t with
  | some r => e = .returned (.tuple #[.agg r.row, .bool true])
  | none => e = .returned (.tuple #[.agg #[.string ⟨#[]⟩, .int .i64 0, .int .i64 0, .int .i64 0, .int .i64 0, .int .i64 0, .int .i64 0, .int .i64 0, .slice none 0 0], .bool false])

theorem rfind_results (W : World) (b : Nat) (un : ByteArray) (p n t L C R D : Int) (sa : Option Addr) (sn sc : Nat) (ok : Bool) (tm : Array Value) (h : ActAt W b un p n t L C R D sa sn sc) (h4 : tm[10]? = some (.pointer (some ⟨b, 0, none⟩))) (h5 : tm[11]? = some (.bool ok)) :
    (results Try.f42 tm).run Try.prog W = .ok (.tuple #[.agg #[.string un, .int .i64 p, .int .i64 n, .int .i64 t, .int .i64 L, .int .i64 C, .int .i64 R, .int .i64 D, .slice sa sn sc], .bool ok]) W := by
  obtain ⟨c0, c1, c2, c3, c4, c5, c6, c7, c8⟩ := h
  simp [results, Try.results42, go_sem, h4, h5, c0, c1, c2, c3, c4, c5, c6, c7, c8]

def rfRow (f : Option ActR) : ActR := f.getD ⟨⟨#[]⟩, 0, 0, 0, ⟨0, 0, 0, 0, []⟩, none, 0⟩

set_option maxRecDepth 100000 in
set_option maxHeartbeats 4000000 in
theorem rfind_any (l : List ActR) (u : ByteArray) (p n t : Int) (aa : Option Addr) (na ca : Nat) (ab : Option Addr) (nb cb : Nat) (ak : Option Addr) (nk ck : Nat) (w : World) (hl : ActsIn w w.heap.size aa na l) (hbig : na ≤ 9223372036854775807) :
    Calls Try.prog 42 #[.agg #[.slice aa na ca, .slice ab nb cb, .slice ak nk ck], .string u, .int .i64 p, .int .i64 n, .int .i64 t] w fun e w' => RFindRet l u p n t e ∧ Below w.heap.size w w' := by
  have HL := Lib.hid hl
  have hlen := hl.len
  have HLEN := Lib.hid hlen
  clear hl hlen
  go_enter Try.func42, Try.ntmps42
  go_wp2_with fail
  generalize hW1 : World.alloc _ _ = W1
  have h5 : W1.heap[w.heap.size]? = some (.cells #[.slice aa na ca, .slice ab nb cb, .slice ak nk ck] 44 (0, 0)) := by
    rw [← hW1]; exact (Below.heap_alloc _ _ _ (by simp; omega)).trans ((Below.heap_alloc (w.alloc _) _ _ (by simp)).trans (heap_alloc_new w _))
  have h10 : W1.heap[w.heap.size + 1]? = some (.cells #[.string ⟨#[]⟩, .int .i64 0, .int .i64 0, .int .i64 0, .int .i64 0, .int .i64 0, .int .i64 0, .int .i64 0, .slice none 0 0] 24 (0, 0)) := by rw [← hW1]; exact (Below.heap_alloc _ _ _ (by simp)).trans (row_two w _ _)
  have h13 : W1.heap[w.heap.size + 1 + 1]? = some (.cells #[.string ⟨#[]⟩, .int .i64 0, .int .i64 0, .int .i64 0, .int .i64 0, .int .i64 0, .int .i64 0, .int .i64 0, .slice none 0 0] 24 (0, 0)) := by rw [← hW1]; exact row_three w _ _ _
  have hsz : W1.heap.size = w.heap.size + 3 := by rw [← hW1]; simp
  have hb0 : Below w.heap.size w W1 := by rw [← hW1]; exact (((Below.refl _ _).alloc (Nat.le_refl _) _).alloc (by simp) _).alloc (by simp; omega) _
  clear hW1
  have H5 := Lib.hid h5
  have H10 := Lib.hid h10
  have H13 := Lib.hid h13
  have HSZ := Lib.hid hsz
  have HB0 := Lib.hid hb0
  clear h5 h10 h13 hsz hb0
  go_loopw [12, 21] (fun v12 v21 wr => ∃ (i best : Nat) (f : Option ActR), v21 = .int .i64 i ∧ v12 = .int .i64 best ∧ i ≤ na ∧ Below (w.heap.size + 1 + 1) W1 wr ∧ w.heap.size + 1 + 1 < wr.heap.size ∧
    ActAt wr (w.heap.size + 1 + 1) (rfRow f).u (rfRow f).p (rfRow f).n (rfRow f).t (rfRow f).A.lasts (rfRow f).A.code (rfRow f).A.ready (rfRow f).A.dies (rfRow f).sa (rfRow f).A.says.length (rfRow f).sc ∧
    (∀ j, wr.frozen? ⟨w.heap.size + 1 + 1, j, none⟩ = false) ∧ FoundIn (l.take i) u p n t best f) (fun _ v21 _ => na - (intOf v21).toNat)
  case atStart =>
    refine ⟨0, 9, none, rfl, rfl, Nat.zero_le _, Below.refl _ _, by have := HSZ.out; omega, ActAt.of_row H13.out, fun j => ?_, found_nil u p n t⟩
    simp [World.frozen?, H13.out]
  case round =>
    obtain ⟨i, best, f, rfl, rfl, hi, hbr, hl13, hact, hfz, hfo⟩ := hrel
    have HBR := Lib.hid hbr
    have HACT := Lib.hid hact
    have HFO := Lib.hid hfo
    have h5 := (hbr.block w.heap.size (by omega)).trans H5.out
    have h10 := (hbr.block (w.heap.size + 1) (by omega)).trans H10.out
    have q0 : wr.cell? ⟨w.heap.size, 0, none⟩ = some (.slice aa na ca) := by rw [cell_of_row wr _ 0 _ _ _ h5]; rfl
    have HA10 := Lib.hid (ActAt.of_row h10)
    have f10 : ∀ j, wr.frozen? ⟨w.heap.size + 1, j, none⟩ = false := by intro j; simp [World.frozen?, h10]
    clear hbr hact hfo h5 h10
    by_cases hlt : i < na
    · have hlti : (i : Int) < (na : Int) := by omega
      have hwi : IntKind.i64.wrap ((i : Int) + 1) = (i : Int) + 1 := by rw [IntKind.wrap_i64]; omega
      have hbw : Below w.heap.size w wr := HB0.out.trans (HBR.out.mono (by omega))
      obtain ⟨bs, off, rfl, hbs, hcl⟩ := HL.out.at_ (by omega)
      have hil : i < l.length := by rw [HLEN.out]; exact hlt
      obtain ⟨hcell, -, -⟩ := hcl i l[i] (List.getElem?_eq_getElem hil)
      have htake : l.take (i + 1) = l.take i ++ [l[i]] := (List.take_append_getElem hil).symm
      have hstep := found_step HFO.out l[i]
      rw [← htake] at hstep
      generalize l[i] = ri at hcell hstep
      have HST := Lib.hid hstep
      have hcw : ∀ j v, ri.row[j]? = some v → wr.cell? ⟨bs, off + i * 9 + j, none⟩ = some v := fun j v hv => (hbw.cell (p := ⟨bs, off + i * 9 + j, none⟩) hbs).trans (hcell j v hv)
      clear hcell hcl htake hstep
      obtain ⟨ru, rp, rn, rt, ⟨rL, rC, rR, rD, rS⟩, rsa, rsc⟩ := ri
      unfold ActR.row actRow at hcw
      dsimp only at hcw
      have q0' := hcw 0 _ rfl
      have q1' := hcw 1 _ rfl
      have q2' := hcw 2 _ rfl
      have q3' := hcw 3 _ rfl
      have q4' := hcw 4 _ rfl
      have q5' := hcw 5 _ rfl
      have q6' := hcw 6 _ rfl
      have q7' := hcw 7 _ rfl
      have q8' := hcw 8 _ rfl
      simp only [Nat.add_zero] at q0'
      clear hcw
      by_cases e12 : ru.toList = u.toList ∧ rp = p
      · obtain ⟨e1, rfl⟩ := e12
        have hfit : ∀ x y, ActR.fits ⟨ru, rp, rn, rt, ⟨rL, rC, rR, rD, rS⟩, rsa, rsc⟩ u rp x y = ((rn == x) && (rt == y)) := by
          intro x y
          unfold ActR.fits
          simp [e1]
          rfl
        have hw : worth ⟨ru, rp, rn, rt, ⟨rL, rC, rR, rD, rS⟩, rsa, rsc⟩ u rp n t = (if ((rn == n) && (rt == t)) = true then 0 else if ((rn == -1) && (rt == t)) = true then 1 else if ((rn == n) && (rt == 0)) = true then 2 else if ((rn == -1) && (rt == 0)) = true then 3 else 9) := by
          unfold worth
          rw [hfit, hfit, hfit, hfit]
        have hst := HST.out
        generalize worth ⟨ru, rp, rn, rt, ⟨rL, rC, rR, rD, rS⟩, rsa, rsc⟩ u rp n t = W at hw hst
        have HST := Lib.hid hst
        clear hfit hst
        generalize hb1 : (rn == n) = b1 at hw
        generalize hb2 : (rt == t) = b2 at hw
        generalize hb3 : (rn == -1) = b3 at hw
        generalize hb4 : (rt == 0) = b4 at hw
        go_upto_block 2 with fail
        generalize hWX : wr.alloc _ = wx
        have hx : ActAt wx wr.heap.size ru rp rn rt rL rC rR rD rsa rS.length rsc := by rw [← hWX]; exact ActAt.of_row (heap_alloc_new wr _)
        have hbx : Below wr.heap.size wr wx := by rw [← hWX]; exact (Below.refl _ _).alloc (Nat.le_refl _) _
        have hlx : wr.heap.size < wx.heap.size := by rw [← hWX]; simp
        have HX := Lib.hid hx
        have HBX := Lib.hid hbx
        clear hWX hx hbx
        obtain ⟨a0, a1, a2, a3, a4, a5, a6, a7, a8⟩ := HX.out
        go_cut [16] from 35 to 74 (fun v wz => v = .int .i64 W ∧ wz = wx)
        case first =>
          cases b1 <;> cases b2 <;> cases b3 <;> cases b4 <;> (go_wp2_with fail; go_meet; exact ⟨by rw [hw]; rfl, rfl⟩)
        obtain ⟨rfl, rfl⟩ := hcut
        have hbz : Below (w.heap.size + 1 + 1) W1 wc := HBR.out.trans (HBX.out.mono (Nat.le_trans (by have := HSZ.out; omega) HBR.out.size))
        have hlz : w.heap.size + 1 + 1 < wc.heap.size := Nat.lt_trans hl13 hlx
        have hfr : ∀ j, wc.frozen? ⟨w.heap.size + 1 + 1, j, none⟩ = false := fun j => (HBX.out.frozen (p := ⟨w.heap.size + 1 + 1, j, none⟩) hl13).trans (hfz j)
        have hac := HACT.out.below HBX.out hl13
        have HBZ := Lib.hid hbz
        have HAC := Lib.hid hac
        clear hbz hac hfz HACT HX HBX hw hb1 hb2 hb3 hb4
        by_cases hwb : W < best
        · have hwi : (W : Int) < (best : Int) := by omega
          have hst := HST.out
          rw [if_pos hwb, if_pos hwb] at hst
          have HST2 := Lib.hid hst
          clear hst
          obtain ⟨d0, d1, d2, d3, d4, d5, d6, d7, d8⟩ := HAC.out
          go_wp2_with (go_region)
          go_roundw
          case rel =>
            refine ⟨i + 1, W, some ⟨ru, rp, rn, rt, ⟨rL, rC, rR, rD, rS⟩, rsa, rsc⟩, by go_num, rfl, by omega, Below.drew ?_, ?_, ?_, ?_, HST2.out⟩
            · iterate 9 refine Below.setCell ?_ (by simp) _
              exact HBZ.out
            · simp; exact hlz
            · exact (ActAt.set HAC.out ru rp rn rt rL rC rR rD rsa rS.length rsc).drew
            · intro j
              rw [World.frozen?_drew]
              simp only [World.frozen?_setCell]
              exact hfr j
          case measure => simp [intOf]; omega
        · have hwi : ¬ (W : Int) < (best : Int) := by omega
          have hst := HST.out
          rw [if_neg hwb, if_neg hwb] at hst
          have HST2 := Lib.hid hst
          clear hst
          go_wp2_with fail
          go_roundw
          case rel => exact ⟨i + 1, best, f, by go_num, rfl, by omega, HBZ.out, hlz, HAC.out, hfr, HST2.out⟩
          case measure => simp [intOf]; omega
      · have hno : ∀ x y, ActR.fits ⟨ru, rp, rn, rt, ⟨rL, rC, rR, rD, rS⟩, rsa, rsc⟩ u p x y = false := fun x y => decide_eq_false fun h => e12 ⟨h.1, h.2.1⟩
        have hw9 : worth ⟨ru, rp, rn, rt, ⟨rL, rC, rR, rD, rS⟩, rsa, rsc⟩ u p n t = 9 := by
          unfold worth
          rw [hno, hno, hno, hno]
          rfl
        have hb9 : ¬ 9 < best := by
          rcases HFO.out with ⟨rfl, -⟩ | ⟨rfl, -⟩ | ⟨rfl, -⟩ | ⟨rfl, -⟩ | ⟨rfl, -⟩ <;> decide
        have h9 := HST.out
        rw [hw9, if_neg hb9, if_neg hb9] at h9
        have HST9 := Lib.hid h9
        clear h9 hw9 hno hb9
        by_cases e1 : ru.toList = u.toList
        · have e2 : ¬ rp = p := fun h => e12 ⟨e1, h⟩
          have e2b : (rp == p) = false := by simp [e2]
          clear e12
          go_wp2_with fail
          go_roundw
          case rel => exact ⟨i + 1, best, f, by go_num, rfl, by omega, HBR.out.alloc (Nat.le_trans (by have := HSZ.out; omega) HBR.out.size) _, by simp; omega, HACT.out.alloc hl13 _, fun j => (((Below.refl wr.heap.size wr).alloc (Nat.le_refl _) _).frozen (p := ⟨w.heap.size + 1 + 1, j, none⟩) hl13).trans (hfz j), HST9.out⟩
          case measure => simp [intOf]; omega
        · clear e12
          go_wp2_with fail
          go_roundw
          case rel => exact ⟨i + 1, best, f, by go_num, rfl, by omega, HBR.out.alloc (Nat.le_trans (by have := HSZ.out; omega) HBR.out.size) _, by simp; omega, HACT.out.alloc hl13 _, fun j => (((Below.refl wr.heap.size wr).alloc (Nat.le_refl _) _).frozen (p := ⟨w.heap.size + 1 + 1, j, none⟩) hl13).trans (hfz j), HST9.out⟩
          case measure => simp [intOf]; omega
    · have hlti : ¬ (i : Int) < (na : Int) := by omega
      have hfind : findR l u p n t = f := by
        have h := found_find HFO.out
        rw [List.take_of_length_le (by have := HLEN.out; omega)] at h
        exact h
      have HFIND := Lib.hid hfind
      clear hfind
      have hbest : (f = none ∧ best = 9) ∨ (∃ r, f = some r ∧ best < 9) := by
        rcases HFO.out with ⟨rfl, rfl, -⟩ | ⟨rfl, hf, -⟩ | ⟨rfl, hf, -⟩ | ⟨rfl, hf, -⟩ | ⟨rfl, hf, -⟩
        · exact .inl ⟨rfl, rfl⟩
        all_goals (obtain ⟨x, rfl⟩ := Option.ne_none_iff_exists'.1 hf; exact .inr ⟨x, rfl, by decide⟩)
      obtain ⟨d0, d1, d2, d3, d4, d5, d6, d7, d8⟩ := HA10.out
      rcases hbest with ⟨rfl, rfl⟩ | ⟨r, rfl, hb9⟩
      · obtain ⟨a0, a1, a2, a3, a4, a5, a6, a7, a8⟩ := HACT.out
        dsimp only [rfRow, Option.getD, List.length_nil] at a0 a1 a2 a3 a4 a5 a6 a7 a8
        go_wp2_with fail
        refine bodyPost_ret (v := .tuple #[.agg #[.string ⟨#[]⟩, .int .i64 0, .int .i64 0, .int .i64 0, .int .i64 0, .int .i64 0, .int .i64 0, .int .i64 0, .slice none 0 0], .bool false]) (rfind_results _ (w.heap.size + 1) _ _ _ _ _ _ _ _ _ _ _ false _ (ActAt.set HA10.out _ _ _ _ _ _ _ _ _ _ _) rfl rfl) rfl ⟨?_, ?_⟩
        · unfold RFindRet
          rw [HFIND.out]
        · iterate 9 refine Below.setCell ?_ (by simp) _
          exact HB0.out.trans (HBR.out.mono (by omega))
      · obtain ⟨ru, rp, rn, rt, ⟨rL, rC, rR, rD, rS⟩, rsa, rsc⟩ := r
        obtain ⟨a0, a1, a2, a3, a4, a5, a6, a7, a8⟩ := HACT.out
        dsimp only [rfRow, Option.getD] at a0 a1 a2 a3 a4 a5 a6 a7 a8
        have hb9i : (best : Int) < 9 := by omega
        go_wp2_with fail
        refine bodyPost_ret (v := .tuple #[.agg #[.string ru, .int .i64 rp, .int .i64 rn, .int .i64 rt, .int .i64 rL, .int .i64 rC, .int .i64 rR, .int .i64 rD, .slice rsa rS.length rsc], .bool true]) (rfind_results _ (w.heap.size + 1) _ _ _ _ _ _ _ _ _ _ _ true _ (ActAt.set HA10.out _ _ _ _ _ _ _ _ _ _ _) rfl (by simp)) rfl ⟨?_, ?_⟩
        · unfold RFindRet
          rw [HFIND.out]
          rfl
        · iterate 9 refine Below.setCell ?_ (by simp) _
          exact HB0.out.trans (HBR.out.mono (by omega))

end Go.Proofs.Ytohgnmpmledljaa
