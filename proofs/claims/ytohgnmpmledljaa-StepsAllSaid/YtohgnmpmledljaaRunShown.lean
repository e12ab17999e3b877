/-
  matinslaw23.act and matinslaw23.shown: shown returns true.
-/
import Derived.Test.YtohgnmpmledljaaRunMayLaw
import Derived.Deep.RegionWith
import Derived.Deep.CutRange
namespace Go.Proofs.Ytohgnmpmledljaa
open Go.ChangeShapes Go.WideShapes Go.ChangeAt Go.RowKit

def actX : ByteArray := ⟨#[120]⟩
def actM : ActM := ⟨9, 3, 2, 4, [(1, actX)]⟩
def actCs (b : Nat) : Array Value := #[.string ⟨#[]⟩, .int .i64 0, .int .i64 0, .int .i64 0, .int .i64 9, .int .i64 3, .int .i64 2, .int .i64 4, .slice (some ⟨b, 0, none⟩) 1 1]

theorem act_cells (b : Nat) : ActCells (actCs b) actM := ⟨rfl, rfl, rfl, rfl, rfl⟩

theorem RunAt.below {w w' : World} {B b : Nat} {p n g t s : Int} {rd : Bool} (h : RunAt w b p n g t s rd) (hb : Below B w w') (hB : b < B) : RunAt w' b p n g t s rd := by
  obtain ⟨c0, c1, c2, c3, c4, c5, f⟩ := h
  refine ⟨?_, ?_, ?_, ?_, ?_, ?_, fun i => ?_⟩
  all_goals first
    | (rw [hb.cell (p := ⟨b, _, none⟩) hB]; assumption)
    | (rw [hb.frozen (p := ⟨b, _, none⟩) hB]; exact f _)

theorem act_any (w : World) : Calls Try.prog 26 #[] w fun e w' => ∃ b, e = .returned (.agg (actCs b)) ∧ Below w.heap.size w w' ∧ SaysIn w' w'.heap.size (actCs b) actM.says := by
  go_enter Try.func26, Try.ntmps26
  go_wp2_with fail
  refine bodyPost_ret (v := .agg (actCs (w.heap.size + 1))) (by simp [results, Try.results26, go_sem, actCs]) rfl ⟨w.heap.size + 1, rfl, ((Below.refl _ _).alloc (Nat.le_refl _) _).alloc (by simp) _, ⟨⟨_, _, rfl, fun _ => ⟨_, _, rfl, by simp, fun j hj => ?_⟩⟩, by decide⟩⟩
  obtain rfl : j = 0 := by simp [actM] at hj; omega
  have hr := row_two w (Obj.cells #[Value.string { data := #[] }, Value.int IntKind.i64 0, Value.int IntKind.i64 0, Value.int IntKind.i64 0, Value.int IntKind.i64 9, Value.int IntKind.i64 3, Value.int IntKind.i64 2, Value.int IntKind.i64 4, Value.slice (some { block := w.heap.size + 1, off := 0 }) 1 1] 24) (.cells #[.int .i64 1, .string actX] 37)
  constructor
  · exact cell_of_row _ _ 0 _ _ _ hr
  · exact cell_of_row _ _ 1 _ _ _ hr

theorem ends_lit (cs : Array Value) (A : ActM) (hc : ActCells cs A) (r : RunM) (x y : Int) (h : endsP A r = (x, y)) (w : World) :
    Calls Try.prog 15 #[.agg cs, r.val] w fun e w' => e = .returned (.tuple #[.int .i64 x, .int .i64 y]) ∧ Below w.heap.size w w' := by
  have k := ends_any cs A hc r w
  rw [h] at k
  exact k
theorem due_lit (cs : Array Value) (A : ActM) (hc : ActCells cs A) (r : RunM) (x y : Int) (h : dueP A r = (x, y)) (w : World) (hs : SaysIn w w.heap.size cs A.says) :
    Calls Try.prog 12 #[.agg cs, r.val] w fun e w' => e = .returned (.tuple #[.int .i64 x, .int .i64 y]) ∧ Below w.heap.size w w' := by
  have k := due_any cs A hc r w hs
  rw [h] at k
  exact k
theorem do_lit (cs : Array Value) (A : ActM) (hc : ActCells cs A) (r s : RunM) (x : ByteArray) (h : doP A r = (s, x)) (w : World) (hs : SaysIn w w.heap.size cs A.says) :
    Calls Try.prog 14 #[.agg cs, r.val] w fun e w' => e = .returned (.tuple #[s.val, .string x]) ∧ Below w.heap.size w w' := by
  have k := do_any cs A hc r w hs
  rw [h] at k
  exact k
theorem tell_lit (r s : RunM) (t : Int) (h : tellP r t = s) (w : World) : Calls Try.prog 13 #[r.val, .int .i64 t] w fun e w' => e = .returned s.val ∧ Below w.heap.size w w' := by
  have k := tell_any r t w
  rw [h] at k
  exact k

theorem ends_x : endsP actM ⟨2, 0, 10, -1, 0, false⟩ = (19, 3) := by decide
theorem ends_y : endsP actM ⟨2, 0, 10, 12, 0, false⟩ = (16, 0) := by decide
theorem due_x : dueP actM ⟨2, 0, 10, -1, 0, false⟩ = (11, 1) := by decide
theorem due_y : dueP actM ⟨2, 0, 10, -1, 1, false⟩ = (12, 2) := by decide
theorem do_x : doP actM ⟨2, 0, 10, -1, 0, false⟩ = (⟨2, 0, 10, -1, 1, false⟩, actX) := by rfl
theorem tell_x : tellP ⟨2, 0, 10, -1, 0, false⟩ 12 = ⟨2, 0, 10, 12, 0, false⟩ := by rfl

theorem region4 {w wc wx : World} {b b6 : Nat} (h1 : Below w.heap.size w wc) (h2 : b < wc.heap.size) (h3 : RunAt wc b 2 0 10 (-1) 0 false) (hb : Below wc.heap.size wc wx) (h4 : b6 < wx.heap.size)
    (h5 : RunAt wx b6 2 0 10 (-1) 1 false) : Below w.heap.size w wx ∧ b < wx.heap.size ∧ b6 < wx.heap.size ∧ RunAt wx b 2 0 10 (-1) 0 false ∧ RunAt wx b6 2 0 10 (-1) 1 false :=
  ⟨h1.trans (hb.mono h1.size), Nat.lt_of_lt_of_le h2 hb.size, h4, h3.below hb h2, h5⟩

set_option maxRecDepth 100000 in
set_option maxHeartbeats 4000000 in
theorem shown_true (w : World) : Calls Try.prog 9 #[] w fun e w' => e = .returned (.bool true) ∧ Below w.heap.size w w' := by
  go_enter Try.func9, Try.ntmps9
  go_upto_region 2 with (go_at_call 11; refine (begin_any _ _ _ _).mono ?_; rintro e w1 ⟨rfl, hb1⟩; have HB1 := Lib.hid hb1; clear hb1; unfold beginP RunM.val)
  generalize hwA : w1.alloc _ = wA
  have hR : RunAt wA w1.heap.size 2 0 10 (-1) 0 false := by rw [← hwA]; exact RunAt.of_row (heap_alloc_new _ _)
  have hbA : Below w.heap.size w wA := by rw [← hwA]; exact HB1.out.alloc HB1.out.size _
  have hlt : w1.heap.size < wA.heap.size := by rw [← hwA]; simp
  generalize w1.heap.size = b at *
  have HR := Lib.hid hR
  have HBA := Lib.hid hbA
  have HLT := Lib.hid hlt
  clear hwA HB1 hR hbA hlt
  obtain ⟨c0, c1, c2, c3, c4, c5, cf⟩ := HR.out
  go_cut [2, 3] from 13 to 18 (fun s2 s3 wx => s2 = .int .i64 19 ∧ s3 = .int .i64 3 ∧ Below w.heap.size w wx ∧ b < wx.heap.size ∧ RunAt wx b 2 0 10 (-1) 0 false)
  case first =>
    go_region_with (first
      | (go_at_call 26; refine (act_any _).mono ?_; rintro e wn ⟨bs, rfl, hbn, hsn⟩; have HBN := Lib.hid hbn; have HSN := Lib.hid hsn; clear hsn; obtain ⟨d0, d1, d2, d3, d4, d5, df⟩ := RunAt.below HR.out.drew hbn HLT.out; clear hbn)
      | (go_at_call 15; refine (ends_lit _ actM (act_cells _) ⟨2, 0, 10, -1, 0, false⟩ 19 3 ends_x _).mono ?_; rintro e wm ⟨rfl, hbm⟩; have HBM := Lib.hid hbm; clear hbm))
    all_goals (go_wp2_with fail; go_meet; have hb := (Below.refl wA.heap.size wA).drew.trans (HBN.out.trans (HBM.out.mono HBN.out.size)); exact ⟨rfl, rfl, HBA.out.trans (hb.mono HBA.out.size), Nat.lt_of_lt_of_le HLT.out hb.size, HR.out.below hb HLT.out⟩)
  obtain ⟨rfl, rfl, hb2, hlt2, hr2⟩ := hcut
  clear c0 c1 c2 c3 c4 c5 cf HR HBA HLT
  have HR := Lib.hid hr2
  have HBA := Lib.hid hb2
  have HLT := Lib.hid hlt2
  clear hr2 hb2 hlt2
  obtain ⟨c0, c1, c2, c3, c4, c5, cf⟩ := HR.out
  go_upto_region 3 with fail
  go_cut [4, 5] from 19 to 24 (fun s2 s3 wx => s2 = .int .i64 11 ∧ s3 = .int .i64 1 ∧ Below w.heap.size w wx ∧ b < wx.heap.size ∧ RunAt wx b 2 0 10 (-1) 0 false)
  case first =>
    go_region_with (first
      | (go_at_call 26; refine (act_any _).mono ?_; rintro e wn ⟨bs, rfl, hbn, hsn⟩; have HBN := Lib.hid hbn; have HSN := Lib.hid hsn; clear hsn; obtain ⟨d0, d1, d2, d3, d4, d5, df⟩ := RunAt.below HR.out.drew hbn HLT.out; clear hbn)
      | (go_at_call 12; refine (due_lit _ actM (act_cells _) ⟨2, 0, 10, -1, 0, false⟩ 11 1 due_x _ HSN.out).mono ?_; rintro e wm ⟨rfl, hbm⟩; have HBM := Lib.hid hbm; clear hbm))
    all_goals (go_wp2_with fail; go_meet; have hb := (Below.refl wc.heap.size wc).drew.trans (HBN.out.trans (HBM.out.mono HBN.out.size)); exact ⟨rfl, rfl, HBA.out.trans (hb.mono HBA.out.size), Nat.lt_of_lt_of_le HLT.out hb.size, HR.out.below hb HLT.out⟩)
  obtain ⟨rfl, rfl, hb2, hlt2, hr2⟩ := hcut
  clear c0 c1 c2 c3 c4 c5 cf HR HBA HLT
  have HR := Lib.hid hr2
  have HBA := Lib.hid hb2
  have HLT := Lib.hid hlt2
  clear hr2 hb2 hlt2
  obtain ⟨c0, c1, c2, c3, c4, c5, cf⟩ := HR.out
  go_upto_region 4 with fail
  go_cut [6, 7] from 25 to 30 (fun s2 s3 wx => ∃ b6, s2 = .pointer (some ⟨b6, 0, none⟩) ∧ s3 = .string actX ∧ Below w.heap.size w wx ∧ b < wx.heap.size ∧ b6 < wx.heap.size ∧ RunAt wx b 2 0 10 (-1) 0 false ∧ RunAt wx b6 2 0 10 (-1) 1 false)
  case first =>
    have hlc : b < wc.heap.size := HLT.out
    go_region_with (first
      | (go_at_call 26; refine (act_any _).mono ?_; rintro e wn ⟨bs, rfl, hbn, hsn⟩; have HBN := Lib.hid hbn; have HSN := Lib.hid hsn; clear hsn
         have hk : Below wc.heap.size wc wn := by first | exact (Below.refl _ _).drew.trans hbn | exact ((Below.refl wc.heap.size wc).drew.alloc (by simp) _).trans (hbn.mono (by simp))
         have HK := Lib.hid hk
         have hlw : b < wn.heap.size := Nat.lt_of_lt_of_le HLT.out hk.size
         obtain ⟨d0, d1, d2, d3, d4, d5, df⟩ := RunAt.below HR.out hk HLT.out; clear hbn hk)
      | (go_at_call 14; refine (do_lit _ actM (act_cells _) ⟨2, 0, 10, -1, 0, false⟩ ⟨2, 0, 10, -1, 1, false⟩ actX do_x _ ?_).mono ?_
         · exact HSN.out.later (by first | exact Below.refl _ _ | exact (Below.refl _ _).alloc (by simp) _) (by simp)
         rintro e wm ⟨rfl, hbm⟩; unfold RunM.val
         have hm : Below wn.heap.size wn wm := by first | exact hbm | exact ((Below.refl wn.heap.size wn).alloc (by simp) _).trans (hbm.mono (by simp))
         have HM := Lib.hid hm
         have HBM := Lib.hid hbm; clear hbm hm
         try (have r6 := fun h1 => RunAt.of_row (w := wm) (b := wn.heap.size) (p := 0) (n := 0) (g := 0) (t := 0) (s := 0) (rd := false) ((HBM.out.block _ h1).trans (heap_alloc_new wn _))
              obtain ⟨e0, e1, e2, e3, e4, e5, ef⟩ := r6 (by simp); clear r6)
         try (have r6 := fun h1 h2 => RunAt.of_row (w := wm) (b := wc.heap.size) (p := 0) (n := 0) (g := 0) (t := 0) (s := 0) (rd := false) ((HBM.out.block _ h2).trans ((HBN.out.block _ h1).trans (heap_alloc_new wc.drew _)))
              have hz := HBN.out.size
              simp at hz
              obtain ⟨e0, e1, e2, e3, e4, e5, ef⟩ := r6 (by simp) (by omega); clear r6 hz)))
    all_goals (go_wp2_with fail)
    all_goals go_meet
    all_goals refine ⟨_, rfl, rfl, ?_⟩
    all_goals have hk := HK.out.size
    all_goals have hm := HBM.out.size
    all_goals (try simp at hm)
    all_goals have hn := HBN.out.size
    all_goals (try simp at hn)
    all_goals have hkm := HK.out.trans (HM.out.mono HK.out.size)
    all_goals have hkz := hkm.size
    all_goals first
      | ((fail_if_success (have E6 := e0))
         refine region4 HBA.out HLT.out HR.out ?_ ?_ (RunAt.of_row (heap_alloc_new wm _))
         · exact hkm.alloc hkz _
         · simp)
      | (refine region4 HBA.out HLT.out HR.out ?_ ?_ (RunAt.set ⟨e0, e1, e2, e3, e4, e5, ef⟩ _ _ _ _ _ _)
         · iterate 6 refine Below.setCell ?_ (by first | exact hk | exact Nat.le_refl _) _
           exact hkm
         · simp; omega)
  obtain ⟨b6, rfl, rfl, hb2, hlt2, hlt6, hr2, hr6⟩ := hcut
  clear c0 c1 c2 c3 c4 c5 cf HR HBA HLT
  have HR := Lib.hid hr2
  have HR6 := Lib.hid hr6
  have HBA := Lib.hid hb2
  have HLT := Lib.hid hlt2
  have HL6 := Lib.hid hlt6
  clear hr2 hb2 hlt2 hr6 hlt6
  obtain ⟨c0, c1, c2, c3, c4, c5, cf⟩ := HR6.out
  go_upto_region 5 with fail
  go_cut [8, 9] from 31 to 36 (fun s2 s3 wx => s2 = .int .i64 12 ∧ s3 = .int .i64 2 ∧ Below w.heap.size w wx ∧ b < wx.heap.size ∧ b6 < wx.heap.size ∧ RunAt wx b 2 0 10 (-1) 0 false ∧ RunAt wx b6 2 0 10 (-1) 1 false)
  case first =>
    go_region_with (first
      | (go_at_call 26; refine (act_any _).mono ?_; rintro e wn ⟨bs, rfl, hbn, hsn⟩; have HBN := Lib.hid hbn; have HSN := Lib.hid hsn; clear hsn; obtain ⟨d0, d1, d2, d3, d4, d5, df⟩ := RunAt.below HR6.out.drew hbn HL6.out; clear hbn)
      | (go_at_call 12; refine (due_lit _ actM (act_cells _) ⟨2, 0, 10, -1, 1, false⟩ 12 2 due_y _ HSN.out).mono ?_; rintro e wm ⟨rfl, hbm⟩; have HBM := Lib.hid hbm; clear hbm))
    all_goals (go_wp2_with fail; go_meet; have hb := (Below.refl wc.heap.size wc).drew.trans (HBN.out.trans (HBM.out.mono HBN.out.size)); exact ⟨rfl, rfl, region4 HBA.out HLT.out HR.out hb (Nat.lt_of_lt_of_le HL6.out hb.size) (HR6.out.below hb HL6.out)⟩)
  obtain ⟨rfl, rfl, hb2, hlt2, hlt6, hr2, hr6⟩ := hcut
  clear c0 c1 c2 c3 c4 c5 cf HR HR6 HL6 HBA HLT
  have HR := Lib.hid hr2
  have HR6 := Lib.hid hr6
  have HBA := Lib.hid hb2
  have HLT := Lib.hid hlt2
  have HL6 := Lib.hid hlt6
  clear hr2 hb2 hlt2 hr6 hlt6
  obtain ⟨c0, c1, c2, c3, c4, c5, cf⟩ := HR.out
  go_upto_region 6 with fail
  go_cut [10, 11] from 37 to 43 (fun s2 s3 wx => s2 = .int .i64 16 ∧ s3 = .int .i64 0 ∧ Below w.heap.size w wx ∧ b < wx.heap.size ∧ b6 < wx.heap.size ∧ RunAt wx b 2 0 10 (-1) 0 false ∧ RunAt wx b6 2 0 10 (-1) 1 false)
  case first =>
    go_region_with (first
      | (go_at_call 26; refine (act_any _).mono ?_; rintro e wn ⟨bs, rfl, hbn, hsn⟩; have HBN := Lib.hid hbn; have HSN := Lib.hid hsn; clear hsn; obtain ⟨d0, d1, d2, d3, d4, d5, df⟩ := RunAt.below HR.out.drew hbn HLT.out; clear hbn)
      | (go_at_call 13; refine (tell_lit ⟨2, 0, 10, -1, 0, false⟩ ⟨2, 0, 10, 12, 0, false⟩ 12 tell_x _).mono ?_; rintro e wt ⟨rfl, hbt⟩; have HBT := Lib.hid hbt; clear hbt)
      | (go_at_call 15; refine (ends_lit _ actM (act_cells _) ⟨2, 0, 10, 12, 0, false⟩ 16 0 ends_y _).mono ?_; rintro e wm ⟨rfl, hbm⟩; have HBM := Lib.hid hbm; clear hbm))
    all_goals (go_wp2_with fail; go_meet; have hb := (Below.refl wc.heap.size wc).drew.trans (HBN.out.trans ((HBT.out.trans (HBM.out.mono HBT.out.size)).mono HBN.out.size)); exact ⟨rfl, rfl, region4 HBA.out HLT.out HR.out hb (Nat.lt_of_lt_of_le HL6.out hb.size) (HR6.out.below hb HL6.out)⟩)
  obtain ⟨rfl, rfl, hb2, hlt2, hlt6, hr2, hr6⟩ := hcut
  clear c0 c1 c2 c3 c4 c5 cf HR HR6 HL6 HBA HLT hlt2 hlt6
  have HBA := Lib.hid hb2
  clear hb2
  obtain ⟨c0, c1, c2, c3, c4, c5, cf⟩ := hr2
  obtain ⟨d0, d1, d2, d3, d4, d5, df⟩ := hr6
  have hx : actX.toList = [120] := by first | rfl | decide | kernel_rfl
  go_wp2_with fail
  exact bodyPost_ret (v := .bool true) (by simp [results, Try.results9, go_sem]) rfl ⟨rfl, HBA.out⟩

end Go.Proofs.Ytohgnmpmledljaa
