/-
  Contract of matinsref22.mayAct at any act.
-/
import Derived.Test.YtohgnmpmledljaaRunMay
namespace Go.Proofs.Ytohgnmpmledljaa
open Go.ChangeShapes Go.WideShapes Go.ChangeAt Go.RowKit

structure ActG (cs : Array Value) (A : ActM) (u : ByteArray) (p n t : Int) : Prop where
  cells : ActCells cs A
  unit : cs[0]? = some (.string u)
  part : cs[1]? = some (.int .i64 p)
  num : cs[2]? = some (.int .i64 n)
  att : cs[3]? = some (.int .i64 t)
  usize : u.size ≤ 9223372036854775807
  texts : ∀ j, (A.says.getD j (0, ByteArray.empty)).2.size ≤ 9223372036854775807

attribute [local go_sem] cut_kind

set_option maxRecDepth 100000 in
set_option maxHeartbeats 4000000 in
theorem mayActG_any (cs : Array Value) (A : ActM) (u : ByteArray) (p n t : Int) (hc : ActG cs A u p n t) (w : World) (hs : SaysIn w w.heap.size cs A.says) :
    Calls Try.prog 36 #[.agg cs] w (SomeMay A w) := by
  have HS := Lib.hid hs
  have HC := Lib.hid hc
  have k0 : cs[0]? = some (.string u) := hc.unit
  obtain ⟨⟨sa, sc, k8, hsa⟩, hsm⟩ := hs
  have k4 : cs[4]? = some (.int .i64 A.lasts) := hc.cells.lasts
  have hrow : (w.alloc (.cells cs 24)).heap[w.heap.size]? = some (.cells cs 24 (0, 0)) := heap_alloc_new w _
  have HROW := Lib.hid hrow
  have hsz : A.says.length ≤ 9223372036854775807 := hsm
  clear hc hrow
  go_enter Try.func36, Try.ntmps36
  go_wp2_with (go_at_call 43; fail)
  refine (nameOf_any u _ HC.out.usize).mono ?_
  rintro e w1 ⟨kk, pp, ii, aa, rfl, hb1⟩
  have hr1 : w1.heap[w.heap.size]? = some (.cells cs 24 (0, 0)) := by rw [hb1.block _ (by simp)]; exact HROW.out
  have hcell : ∀ i v, cs[i]? = some v → w1.cell? ⟨w.heap.size, i, none⟩ = some v := by
    intro i v h
    rw [cell_of_row w1 _ i cs 24 (0, 0) hr1, h]
  have c1 := hcell 1 _ HC.out.part
  have c2 := hcell 2 _ HC.out.num
  have c3 := hcell 3 _ HC.out.att
  have c4 := hcell 4 _ HC.out.cells.lasts
  have c5 := hcell 5 _ HC.out.cells.code
  have c6 := hcell 6 _ HC.out.cells.ready
  have c7 := hcell 7 _ HC.out.cells.dies
  have c8 := hcell 8 _ k8
  have hb : Below w.heap.size w w1 := ((Below.refl _ _).alloc (Nat.le_refl _) _).trans (hb1.mono (by simp))
  have HB1 := Lib.hid hb1
  have HCELL := Lib.hid hcell
  have HSA := Lib.hid hsa
  clear hcell hr1 hb1 hsa k0 k4 k8
  go_wp2_with (go_at_call 37; refine (span_any _ _).mono ?_; rintro e w' ⟨rfl, rfl⟩; generalize hgb : spanB _ = bb; cases bb)
  all_goals try exact bodyPost_ret (v := .bool false) (by simp [results, Try.results36, go_sem]) rfl ⟨false, rfl, hb, by simp⟩
  have HL : Hid (spanB A.lasts = true) := by assumption
  have HR : Hid (spanB A.ready = true) := by assumption
  have HD : Hid (spanB A.dies = true) := by assumption
  have h4 : A.says.length ≤ 4 := by omega
  go_loopw [75] (fun i wr => ∃ q : Nat, q ≤ A.says.length ∧ i = .int .i64 q ∧ Below w1.heap.size w1 wr ∧ SaysOk A.says q) (fun i _ => A.says.length - (intOf i).toNat)
  case atStart => exact ⟨0, Nat.zero_le _, rfl, Below.refl _ _, fun j h => absurd h (Nat.not_lt_zero _)⟩
  case round =>
    obtain ⟨q, hq, rfl, hbr, hok⟩ := hrel
    have HOK := Lib.hid hok
    have HBR := Lib.hid hbr
    clear hok
    have hsz1 : w.heap.size < w1.heap.size := by have := HB1.out.size; simp at this; omega
    have hszr : w1.heap.size ≤ w.heap.size + (wr.heap.size - w.heap.size) := by have := hbr.size; omega
    by_cases hlt : q < A.says.length
    · have hqi : (q : Int) < (A.says.length : Int) := by omega
      obtain ⟨bs, off, rfl, hbs, hcl⟩ := HSA.out (by omega)
      have r0 : wr.cell? ⟨bs, off + q * 2, none⟩ = some (.int .i64 (A.says.getD q (0, ByteArray.empty)).1) := by
        rw [hbr.cell (p := ⟨bs, off + q * 2, none⟩) (by simp; omega), hb.cell (p := ⟨bs, off + q * 2, none⟩) hbs]; exact (hcl q hlt).1
      have r1 : wr.cell? ⟨bs, off + q * 2 + 1, none⟩ = some (.string (A.says.getD q (0, ByteArray.empty)).2) := by
        rw [hbr.cell (p := ⟨bs, off + q * 2 + 1, none⟩) (by simp; omega), hb.cell (p := ⟨bs, off + q * 2 + 1, none⟩) hbs]; exact (hcl q hlt).2
      have e8 : ∀ O : Obj, (wr.alloc O).cell? ⟨w.heap.size, 8, none⟩ = some (.slice (some ⟨bs, off, none⟩) A.says.length sc) := by
        intro O
        rw [World.cell?_of_block (w := wr) (Below.heap_alloc wr O w.heap.size (by omega)), hbr.cell (p := ⟨w.heap.size, 8, none⟩) (by simp; omega)]; exact c8
      have ep : ∀ (O : Obj) (j : Nat), j < A.says.length → (wr.alloc O).cell? ⟨bs, off + j * 2, none⟩ = some (.int .i64 (A.says.getD j (0, ByteArray.empty)).1) := by
        intro O j hj
        rw [World.cell?_of_block (w := wr) (Below.heap_alloc wr O bs (by omega)), hbr.cell (p := ⟨bs, off + j * 2, none⟩) (by simp; omega), hb.cell (p := ⟨bs, off + j * 2, none⟩) hbs]; exact (hcl j hj).1
      have EP := Lib.hid ep
      clear ep hcl hbr
      have htx := HC.out.texts q
      by_cases hq0 : q = 0
      · subst hq0
        simp only [Nat.zero_mul, Nat.add_zero] at r0 r1
        generalize hft : (A.says.getD 0 (0, ByteArray.empty)).1 = ft at r0
        generalize (A.says.getD 0 (0, ByteArray.empty)).2 = txt at r1 htx
        have HFT := Lib.hid hft
        clear hft
        cases hsp : spanB ft
        · have HSP : Hid (∀ W, Calls Try.prog 37 #[.int .i64 ft] W fun e w' => e = .returned (.bool false) ∧ W = w') := by refine Lib.hid (fun W => ?_); have h := span_any ft W; rw [hsp] at h; exact h
          clear hsp
          go_wp2_with fail
          go_quiet (first
            | (go_at_call 37; exact quiet_left (HSP.out _))
            | (go_at_call 44; exact quiet_left (HPL.out _)))
          go_wp2_with fail
          exact bodyPost_ret (v := .bool false) (by simp [results, Try.results36, go_sem]) rfl ⟨false, rfl, below_drewN ((hb.trans (HBR.out.mono (Nat.le_of_lt hsz1))).alloc (by omega) _) _, by simp⟩
        · by_cases hF : ft = 1099511627776
          · have HSP : Hid (∀ W, Calls Try.prog 37 #[.int .i64 ft] W fun e w' => e = .returned (.bool true) ∧ W = w') := by refine Lib.hid (fun W => ?_); have h := span_any ft W; rw [hsp] at h; exact h
            subst hF
            clear hsp
            go_wp2_with fail
            go_quiet (first
              | (go_at_call 37; exact quiet_left (HSP.out _))
              | (go_at_call 44; exact quiet_left (HPL.out _)))
            go_wp2_with fail
            exact bodyPost_ret (v := .bool false) (by simp [results, Try.results36, go_sem]) rfl ⟨false, rfl, below_drewN ((hb.trans (HBR.out.mono (Nat.le_of_lt hsz1))).alloc (by omega) _) _, by simp⟩
          · have hT : (ft == 1099511627776) = false := by simp [hF]
            have hft1 : 0 ≤ ft ∧ ft ≤ 6311433600 := by simp [spanB] at hsp; omega
            have HSP : Hid (∀ W, Calls Try.prog 37 #[.int .i64 ft] W fun e w' => e = .returned (.bool true) ∧ W = w') := by refine Lib.hid (fun W => ?_); have h := span_any ft W; rw [hsp] at h; exact h
            have HF := Lib.hid hft1
            clear hsp hF hft1
            cases hpl : plainB txt 100
            · have HPL : Hid (∀ W, Calls Try.prog 44 #[.string txt, .int .i64 100] W fun e w' => e = .returned (.bool false) ∧ W = w') := by refine Lib.hid (fun W => ?_); have h := plain_is txt 100 W htx; rw [hpl] at h; exact h
              clear hpl
              go_wp2_with fail
              go_quiet (first
                | (go_at_call 37; exact quiet_left (HSP.out _))
                | (go_at_call 44; exact quiet_left (HPL.out _)))
              go_wp2_with fail
              exact bodyPost_ret (v := .bool false) (by simp [results, Try.results36, go_sem]) rfl ⟨false, rfl, below_drewN ((hb.trans (HBR.out.mono (Nat.le_of_lt hsz1))).alloc (by omega) _) _, by simp⟩
            · have HPL : Hid (∀ W, Calls Try.prog 44 #[.string txt, .int .i64 100] W fun e w' => e = .returned (.bool true) ∧ W = w') := by refine Lib.hid (fun W => ?_); have h := plain_is txt 100 W htx; rw [hpl] at h; exact h
              clear hpl
              go_wp2_with fail
              go_quiet (first
                | (go_at_call 37; exact quiet_left (HSP.out _))
                | (go_at_call 44; exact quiet_left (HPL.out _)))
              go_wp2_with fail
              go_roundw
              case rel => exact ⟨1, by omega, rfl, below_drewN (HBR.out.alloc (by omega) _) _, SaysOk.step HOK.out (by rw [HFT.out]; exact HF.out.1) (by rw [HFT.out]; exact HF.out.2) (fun h => absurd h (Nat.lt_irrefl _))⟩
              case measure => simp [intOf]; omega
      · obtain ⟨p, rfl⟩ : ∃ p, q = p + 1 := ⟨q - 1, by omega⟩
        have dp : ∀ O : Obj, (wr.alloc O).cell? ⟨bs, off + p * 2, none⟩ = some (.int .i64 (A.says.getD p (0, ByteArray.empty)).1) := fun O => EP.out O p (by omega)
        generalize hft : (A.says.getD (p + 1) (0, ByteArray.empty)).1 = ft at r0
        generalize hfp : (A.says.getD p (0, ByteArray.empty)).1 = fp at dp
        generalize (A.says.getD (p + 1) (0, ByteArray.empty)).2 = txt at r1 htx
        have HFT := Lib.hid hft
        have HFP := Lib.hid hfp
        clear hft hfp
        generalize hqe : p + 1 = q at *
        have hpq : 0 < (q : Int) := by omega
        have hpq' : 0 < q := by omega
        have hwr : IntKind.i64.wrap ((q : Int) - 1) = (p : Int) := by rw [IntKind.wrap_i64]; omega
        have hpl2 : (p : Int) < (A.says.length : Int) := by omega
        have HQE := Lib.hid hqe
        clear hqe
        cases hsp : spanB ft
        · have HSP : Hid (∀ W, Calls Try.prog 37 #[.int .i64 ft] W fun e w' => e = .returned (.bool false) ∧ W = w') := by refine Lib.hid (fun W => ?_); have h := span_any ft W; rw [hsp] at h; exact h
          clear hsp
          go_wp2_with fail
          go_quiet (first
            | (go_at_call 37; exact quiet_left (HSP.out _))
            | (go_at_call 44; exact quiet_left (HPL.out _)))
          go_wp2_with fail
          exact bodyPost_ret (v := .bool false) (by simp [results, Try.results36, go_sem]) rfl ⟨false, rfl, below_drewN ((hb.trans (HBR.out.mono (Nat.le_of_lt hsz1))).alloc (by omega) _) _, by simp⟩
        · by_cases hF : ft = 1099511627776
          · have HSP : Hid (∀ W, Calls Try.prog 37 #[.int .i64 ft] W fun e w' => e = .returned (.bool true) ∧ W = w') := by refine Lib.hid (fun W => ?_); have h := span_any ft W; rw [hsp] at h; exact h
            subst hF
            clear hsp
            go_wp2_with fail
            go_quiet (first
              | (go_at_call 37; exact quiet_left (HSP.out _))
              | (go_at_call 44; exact quiet_left (HPL.out _)))
            go_wp2_with fail
            exact bodyPost_ret (v := .bool false) (by simp [results, Try.results36, go_sem]) rfl ⟨false, rfl, below_drewN ((hb.trans (HBR.out.mono (Nat.le_of_lt hsz1))).alloc (by omega) _) _, by simp⟩
          · have hT : (ft == 1099511627776) = false := by simp [hF]
            have hft1 : 0 ≤ ft ∧ ft ≤ 6311433600 := by simp [spanB] at hsp; omega
            have HSP : Hid (∀ W, Calls Try.prog 37 #[.int .i64 ft] W fun e w' => e = .returned (.bool true) ∧ W = w') := by refine Lib.hid (fun W => ?_); have h := span_any ft W; rw [hsp] at h; exact h
            have HF := Lib.hid hft1
            clear hsp hF hft1
            cases hpl : plainB txt 100
            · have HPL : Hid (∀ W, Calls Try.prog 44 #[.string txt, .int .i64 100] W fun e w' => e = .returned (.bool false) ∧ W = w') := by refine Lib.hid (fun W => ?_); have h := plain_is txt 100 W htx; rw [hpl] at h; exact h
              clear hpl
              go_wp2_with fail
              go_quiet (first
                | (go_at_call 37; exact quiet_left (HSP.out _))
                | (go_at_call 44; exact quiet_left (HPL.out _)))
              go_wp2_with fail
              exact bodyPost_ret (v := .bool false) (by simp [results, Try.results36, go_sem]) rfl ⟨false, rfl, below_drewN ((hb.trans (HBR.out.mono (Nat.le_of_lt hsz1))).alloc (by omega) _) _, by simp⟩
            · have HPL : Hid (∀ W, Calls Try.prog 44 #[.string txt, .int .i64 100] W fun e w' => e = .returned (.bool true) ∧ W = w') := by refine Lib.hid (fun W => ?_); have h := plain_is txt 100 W htx; rw [hpl] at h; exact h
              clear hpl
              by_cases hcmp : ft < fp
              · go_wp2_with fail
                go_quiet (first
                  | (go_at_call 37; exact quiet_left (HSP.out _))
                  | (go_at_call 44; exact quiet_left (HPL.out _)))
                go_wp2_with fail
                exact bodyPost_ret (v := .bool false) (by simp [results, Try.results36, go_sem]) rfl ⟨false, rfl, below_drewN ((hb.trans (HBR.out.mono (Nat.le_of_lt hsz1))).alloc (by omega) _) _, by simp⟩
              · have hcd : decide (ft < fp) = false := by simp; omega
                have HCM := Lib.hid hcmp
                clear hcmp
                go_wp2_with fail
                go_quiet (first
                  | (go_at_call 37; exact quiet_left (HSP.out _))
                  | (go_at_call 44; exact quiet_left (HPL.out _)))
                go_wp2_with fail
                go_roundw
                case rel => exact ⟨q + 1, by omega, by go_num, below_drewN (HBR.out.alloc (by omega) _) _, SaysOk.step HOK.out (by rw [HFT.out]; exact HF.out.1) (by rw [HFT.out]; exact HF.out.2) (fun _ => say_le HQE.out HFT.out HFP.out HCM.out)⟩
                case measure => simp [intOf]; omega
    · go_wp2_with fail
      refine bodyPost_ret (v := .bool true) (by simp [results, Try.results36, go_sem]) rfl ⟨true, rfl, hb.trans (HBR.out.mono (by omega)), fun _ => ⟨HL.out, HR.out, HD.out, h4, ?_⟩⟩
      have : q = A.says.length := by omega
      rw [← this]; exact HOK.out

end Go.Proofs.Ytohgnmpmledljaa
