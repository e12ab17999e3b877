/-
  The walk of StepsAll.
-/
import Derived.Test.YtohgnmpmledljaaStRCourse
import Derived.Test.YtohgnmpmledljaaStSame
namespace Go.Proofs.Ytohgnmpmledljaa
open Go.ChangeShapes Go.WideShapes Go.ChangeAt Go.RowKit

set_option maxRecDepth 100000 in
set_option maxHeartbeats 4000000 in
theorem all_any (l : List ActR) (cu : Array Value) (u : ByteArray) (ty part att now over code : Int) (aa : Option Addr) (na ca : Nat) (ab : Option Addr) (nb cb : Nat) (ak : Option Addr) (nk ck : Nat)
    (la : Option Addr) (ln lc : Nat) (ds : List (Bool × Option Addr × Nat × Nat)) (sa : Option Addr) (sn sc : Nat) (zs : List Int) (w : World) (hw : ActsIn w w.heap.size aa na l) (hna : na ≤ 9223372036854775807) (hli : Light l)
    (hus : cu.size = 35) (hu0 : cu[0]? = some (.string u)) (hu7 : cu[7]? = some (.int .i64 ty)) (hds : ExecsIn w w.heap.size la ln ds) (hln : ln ≤ 9223372036854775807) (hzs : IntsIn w w.heap.size sa sn zs) (hsn : sn ≤ 9223372036854775807) :
    Calls Try.prog 6 #[.agg #[.slice aa na ca, .slice ab nb cb, .slice ak nk ck], .agg cu, .int .i64 part, .slice la ln lc, .slice sa sn sc, .int .i64 att, .int .i64 now, .int .i64 over, .int .i64 code] w
      fun e w' => e = .returned (.bool true) ∧ Below w.heap.size w w' := by
  have HCO : Hid (∀ W, Below w.heap.size w W → ln ≤ 40 → Calls Try.prog 20 #[.agg #[.slice aa na ca, .slice ab nb cb, .slice ak nk ck], .agg cu, .int .i64 part, .slice la ln lc, .slice sa sn sc, .int .i64 att, .int .i64 now, .int .i64 over] W (CourseRet W.heap.size (courseGo (fun i => doesA l u ty part i att) (fun i c => goodB (ds.getD i (false, none, 0, 0)).1 c zs) part over ln 0 now) W)) :=
    Lib.hid fun W hW h40 => course_any l cu u ty part att now over aa na ca ab nb cb ak nk ck la ln lc ds sa sn sc zs W (hw.later hW hW.size) hna hli hus hu0 hu7 (hds.later hW hW.size) (by omega) (hzs.later hW hW.size) hsn
  have HRC : Hid (∀ W, Below w.heap.size w W → ln ≤ 40 → Calls Try.prog 21 #[.agg #[.slice aa na ca, .slice ab nb cb, .slice ak nk ck], .agg cu, .int .i64 part, .slice la ln lc, .slice sa sn sc, .int .i64 att, .int .i64 now, .int .i64 over] W (CourseRet W.heap.size (courseGo (fun i => doesA l u ty part i att) (fun i c => goodB (ds.getD i (false, none, 0, 0)).1 c zs) part over ln 0 now) W)) :=
    Lib.hid fun W hW h40 => rcourse_any l cu u ty part att now over aa na ca ab nb cb ak nk ck la ln lc ds sa sn sc zs W (hw.later hW hW.size) hna hus hu0 hu7 (hds.later hW hW.size) (by omega) (hzs.later hW hW.size) hsn
  have HG : Hid (∀ W, ∀ (d : Bool × Option Addr × Nat × Nat), Below w.heap.size w W → Calls Try.prog 18 #[.agg #[.bool d.1, .slice d.2.1 d.2.2.1 d.2.2.2], .int .i64 code, .slice sa sn sc] W fun e w' => e = .returned (.bool (goodB d.1 code zs)) ∧ Below W.heap.size W w') :=
    Lib.hid fun W d hW => good_any d.1 d.2.1 d.2.2.1 d.2.2.2 code sa W.heap.size sn sc zs W (hzs.later hW hW.size) (Nat.le_refl _) hsn
  have HK : Hid (∀ W, ∀ (d : Bool × Option Addr × Nat × Nat), Below w.heap.size w W → Calls Try.prog 19 #[.agg #[.bool d.1, .slice d.2.1 d.2.2.1 d.2.2.2], .int .i64 code, .slice sa sn sc] W fun e w' => e = .returned (.bool (goodB d.1 code zs)) ∧ Below W.heap.size W w') :=
    Lib.hid fun W d hW => rgood_any d.1 d.2.1 d.2.2.1 d.2.2.2 code sa W.heap.size sn sc zs W (hzs.later hW hW.size) (Nat.le_refl _) hsn
  have HEX := Lib.hid hds
  have HUS := Lib.hid hus
  have HLN := Lib.hid hds.len
  clear hw hna hli hus hu0 hu7 hds hzs hsn
  have hl1 := course_len (fun i => doesA l u ty part i att) (fun i c => goodB (ds.getD i (false, none, 0, 0)).1 c zs) part over ln 0 now
  generalize courseGo (fun i => doesA l u ty part i att) (fun i c => goodB (ds.getD i (false, none, 0, 0)).1 c zs) part over ln 0 now = co at HCO HRC hl1
  obtain ⟨ms, ok⟩ := co
  have HL1' := Lib.hid hl1
  clear hl1
  go_enter Try.func6, Try.ntmps6
  go_upto_region 3 with (go_at_call 17; refine (shown24_true _).mono ?_; rintro e w1 ⟨rfl, hb1⟩; have h0 := (hb1.block w.heap.size (by simp; omega)).trans ((Below.heap_alloc (w.alloc _) _ _ (by simp)).trans (heap_alloc_new w _)); have h1 := (hb1.block (w.heap.size + 1) (by simp)).trans (row_two w _ _); have HR0 := Lib.hid h0; have HR1 := Lib.hid h1; have HB1 := Lib.hid ((((Below.refl _ _).alloc (Nat.le_refl _) _).alloc (by simp) _).trans (hb1.mono (by simp; omega)) : Below w.heap.size w w1); have HL1 : Hid (w.heap.size + 1 < w1.heap.size) := Lib.hid (by have := hb1.size; simp at this; omega); have q0 : w1.cell? ⟨w.heap.size, 0, none⟩ = some (.slice aa na ca) := (by rw [cell_of_row w1 _ 0 _ _ _ h0]; rfl); have q1 : w1.cell? ⟨w.heap.size, 1, none⟩ = some (.slice ab nb cb) := (by rw [cell_of_row w1 _ 1 _ _ _ h0]; rfl); have q2 : w1.cell? ⟨w.heap.size, 2, none⟩ = some (.slice ak nk ck) := (by rw [cell_of_row w1 _ 2 _ _ _ h0]; rfl); clear hb1 h0 h1)
  by_cases g1 : 300 < na
  · have g1' : (300 : Int) < (na : Int) := by omega
    go_wp2_with fail
    exact bodyPost_ret (v := .bool true) (by simp [results, Try.results6, go_sem]) rfl ⟨rfl, HB1.out⟩
  have g1' : ¬ (300 : Int) < (na : Int) := by omega
  by_cases g2 : 40 < ln
  · have g2' : (40 : Int) < (ln : Int) := by omega
    go_wp2_with fail
    exact bodyPost_ret (v := .bool true) (by simp [results, Try.results6, go_sem]) rfl ⟨rfl, HB1.out⟩
  have g2' : ¬ (40 : Int) < (ln : Int) := by omega
  by_cases g3 : 40 < sn
  · have g3' : (40 : Int) < (sn : Int) := by omega
    go_wp2_with fail
    exact bodyPost_ret (v := .bool true) (by simp [results, Try.results6, go_sem]) rfl ⟨rfl, HB1.out⟩
  have g3' : ¬ (40 : Int) < (sn : Int) := by omega
  have H40 : Hid (ln ≤ 40) := Lib.hid (by omega)
  go_wp2_with fail
  clear q0 q1 q2
  go_loopw [43] (fun v43 wr => ∃ i : Nat, v43 = .int .i64 i ∧ i ≤ ln ∧ Below w1.heap.size w1 wr) (fun v43 _ => ln - (intOf v43).toNat)
  case atStart => exact ⟨0, rfl, Nat.zero_le _, Below.refl _ _⟩
  case round =>
    obtain ⟨i, rfl, hi, hbr⟩ := hrel
    have HBR1 := Lib.hid hbr
    by_cases hlt : i < ln
    · have hlti : (i : Int) < (ln : Int) := by omega
      have hwi : IntKind.i64.wrap ((i : Int) + 1) = (i : Int) + 1 := by rw [IntKind.wrap_i64]; omega
      obtain ⟨bs, off, rfl, hbs, hcl⟩ := HEX.out.at_ (by omega)
      have hil : i < ds.length := by rw [HLN.out]; exact hlt
      obtain ⟨hc0, hc1⟩ := hcl i ds[i] (List.getElem?_eq_getElem hil)
      have hbw : Below w.heap.size w wr := HB1.out.trans (hbr.mono HB1.out.size)
      rw [← hbw.cell (p := ⟨bs, off + i * 2, none⟩) hbs] at hc0
      rw [← hbw.cell (p := ⟨bs, off + i * 2 + 1, none⟩) hbs] at hc1
      generalize ds[i] = d at hc0 hc1
      obtain ⟨dd, da, dn, dc⟩ := d
      dsimp only at hc0 hc1
      have HBW := Lib.hid hbw
      have HGd : Hid (∀ W, Below w.heap.size w W → Calls Try.prog 18 #[.agg #[.bool dd, .slice da dn dc], .int .i64 code, .slice sa sn sc] W fun e w' => e = .returned (.bool (goodB dd code zs)) ∧ Below W.heap.size W w') := Lib.hid fun W hW => HG.out W (dd, da, dn, dc) hW
      have HKd : Hid (∀ W, Below w.heap.size w W → Calls Try.prog 19 #[.agg #[.bool dd, .slice da dn dc], .int .i64 code, .slice sa sn sc] W fun e w' => e = .returned (.bool (goodB dd code zs)) ∧ Below W.heap.size W w') := Lib.hid fun W hW => HK.out W (dd, da, dn, dc) hW
      generalize goodB dd code zs = gd at HGd HKd
      clear hcl hbr hbw
      go_upto_region 8 with fail
      generalize hWX : wr.alloc _ = wx
      have hr9 : wx.heap[wr.heap.size]? = some (.cells #[.bool dd, .slice da dn dc] 53 (0, 0)) := by rw [← hWX]; exact heap_alloc_new wr _
      have hbx : Below w.heap.size w wx := by rw [← hWX]; exact HBW.out.alloc HBW.out.size _
      have hb1x : Below w1.heap.size w1 wx := by rw [← hWX]; exact HBR1.out.alloc HBR1.out.size _
      have hlx : wr.heap.size < wx.heap.size := by rw [← hWX]; simp
      have HR9 := Lib.hid hr9
      have HBR := Lib.hid hbx
      have HBR2 := Lib.hid hb1x
      have HL9 := Lib.hid hlx
      generalize wr.heap.size = b9 at *
      have y0 : wx.cell? ⟨b9, 0, none⟩ = some (.bool dd) := by rw [cell_of_row wx _ 0 _ _ _ hr9]; rfl
      have y1 : wx.cell? ⟨b9, 1, none⟩ = some (.slice da dn dc) := by rw [cell_of_row wx _ 1 _ _ _ hr9]; rfl
      clear hWX hr9 hbx hb1x hc0 hc1 HBR1
      go_cut [55] from 47 to 55 (fun v wz => v = .bool false ∧ Below wx.heap.size wx.drew wz)
      case first =>
        go_region_with (first
          | (go_at_call 18; refine (HGd.out wx.drew HBR.out.drew).mono ?_; rintro e wG ⟨rfl, hbG⟩; have hzG := (hbG.block b9 HL9.out).trans HR9.out; have HTG : Hid (b9 < wG.heap.size) := Lib.hid (Nat.lt_of_lt_of_le HL9.out hbG.size); have HZG := Lib.hid hzG; have HBG := Lib.hid hbG; have y0G : wG.cell? ⟨b9, 0, none⟩ = some (.bool dd) := (by rw [cell_of_row wG _ 0 _ _ _ hzG]; rfl); have y1G : wG.cell? ⟨b9, 1, none⟩ = some (.slice da dn dc) := (by rw [cell_of_row wG _ 1 _ _ _ hzG]; rfl); clear hbG hzG)
          | (go_at_call 19; refine (HKd.out wx.drew HBR.out.drew).mono ?_; rintro e wK ⟨rfl, hbK⟩; have hzK := (hbK.block b9 HL9.out).trans HR9.out; have HTK : Hid (b9 < wK.heap.size) := Lib.hid (Nat.lt_of_lt_of_le HL9.out hbK.size); have HZK := Lib.hid hzK; have HBK := Lib.hid hbK; have y0K : wK.cell? ⟨b9, 0, none⟩ = some (.bool dd) := (by rw [cell_of_row wK _ 0 _ _ _ hzK]; rfl); have y1K : wK.cell? ⟨b9, 1, none⟩ = some (.slice da dn dc) := (by rw [cell_of_row wK _ 1 _ _ _ hzK]; rfl); clear hbK hzK)
          | (go_at_call 18; refine (HGd.out wK (HBR.out.drew.trans (HBK.out.mono HBR.out.size))).mono ?_; rintro e wG ⟨rfl, hbG⟩; have HBG := Lib.hid (HBK.out.trans (hbG.mono HBK.out.size)); clear hbG)
          | (go_at_call 19; refine (HKd.out wG (HBR.out.drew.trans (HBG.out.mono HBR.out.size))).mono ?_; rintro e wK ⟨rfl, hbK⟩; have HBK := Lib.hid (HBG.out.trans (hbK.mono HBG.out.size)); clear hbK))
        all_goals (go_wp2_with fail; go_meet; first | exact ⟨rfl, HBK.out⟩ | exact ⟨rfl, HBG.out⟩)
      obtain ⟨rfl, hbz⟩ := hcut
      have HBZ := Lib.hid (HBR2.out.trans (((Below.refl wx.heap.size wx).drew.trans hbz).mono HBR2.out.size))
      clear hbz y0 y1
      go_wp2_with fail
      go_roundw
      case rel => exact ⟨i + 1, by go_num, by omega, HBZ.out⟩
      case measure => simp [intOf]; omega
    · have hlti : ¬ (i : Int) < (ln : Int) := by omega
      have HB2 := Lib.hid (HB1.out.trans (hbr.mono HB1.out.size))
      have h0 := (hbr.block w.heap.size (by have := HL1.out; omega)).trans HR0.out
      have h1 := (hbr.block (w.heap.size + 1) HL1.out).trans HR1.out
      have HR20 := Lib.hid h0
      have HRR := Lib.hid h1
      have HL2 : Hid (w.heap.size + 1 < wr.heap.size) := Lib.hid (Nat.lt_of_lt_of_le HL1.out hbr.size)
      clear hbr h1
      have q0 : wr.cell? ⟨w.heap.size, 0, none⟩ = some (.slice aa na ca) := by rw [cell_of_row wr _ 0 _ _ _ h0]; rfl
      have q1 : wr.cell? ⟨w.heap.size, 1, none⟩ = some (.slice ab nb cb) := by rw [cell_of_row wr _ 1 _ _ _ h0]; rfl
      have q2 : wr.cell? ⟨w.heap.size, 2, none⟩ = some (.slice ak nk ck) := by rw [cell_of_row wr _ 2 _ _ _ h0]; rfl
      clear h0
      have HCA := Lib.hid (fun W hW => HCO.out W hW H40.out)
      have HCB := Lib.hid (fun W hW => HRC.out W hW H40.out)
      clear HCO HRC HG HK
      go_wp2_with (first
        | (refine wpList_load_row rfl 51 _ rfl (w.heap.size + 1) rfl 51 cu (0, 0) _ HRR.out Try.underlying51 rfl (by rw [HUS.out]; exact sizeUnit) ?_)
        | (go_at_call 20; fail))
      refine (HCA.out _ HB2.out).mono ?_
      rintro e w3 ⟨v3, rfl, hown3, hb3⟩
      dsimp only at hown3 ⊢
      obtain ⟨a3, cap3, rfl, hm3⟩ := marks_form hown3
      have HM3 := Lib.hid hm3
      have HB3 := Lib.hid (HB2.out.trans (hb3.mono HB2.out.size))
      have h0 := (hb3.block w.heap.size (by have := HL2.out; omega)).trans HR20.out
      have h1 := (hb3.block (w.heap.size + 1) HL2.out).trans HRR.out
      have HR31 := Lib.hid h1
      clear q0 q1 q2 hb3 h1 hown3 hm3 HR20 HRR HL2
      have q0 : w3.cell? ⟨w.heap.size, 0, none⟩ = some (.slice aa na ca) := by rw [cell_of_row w3 _ 0 _ _ _ h0]; rfl
      have q1 : w3.cell? ⟨w.heap.size, 1, none⟩ = some (.slice ab nb cb) := by rw [cell_of_row w3 _ 1 _ _ _ h0]; rfl
      have q2 : w3.cell? ⟨w.heap.size, 2, none⟩ = some (.slice ak nk ck) := by rw [cell_of_row w3 _ 2 _ _ _ h0]; rfl
      clear h0
      go_wp2_with (first
        | (refine wpList_load_row rfl 51 _ rfl (w.heap.size + 1) rfl 51 cu (0, 0) _ HR31.out Try.underlying51 rfl (by rw [HUS.out]; exact sizeUnit) ?_)
        | (go_at_call 21; fail))
      refine (HCB.out _ HB3.out).mono ?_
      rintro e w4 ⟨v4, rfl, hown4, hb4⟩
      dsimp only at hown4 ⊢
      obtain ⟨a4, cap4, rfl, hm4⟩ := marks_form hown4
      have HM4 := Lib.hid hm4
      have HM3' := Lib.hid (HM3.out.later hb4 hb4.size)
      have HB4 := Lib.hid (HB3.out.trans (hb4.mono HB3.out.size))
      have hlm : ms.length ≤ 1000 := Nat.le_trans HL1'.out (by have := H40.out; omega)
      have HSM : Hid (Calls Try.prog 22 #[.slice a3 ms.length cap3, .slice a4 ms.length cap4] w4 fun e w' => e = .returned (.bool true) ∧ Below w4.heap.size w4 w') := Lib.hid (same_any a3 a4 ms.length cap3 cap4 ms w4 HM3'.out HM4.out hlm)
      clear hb4 hown4 hm4 HM3 HR31 q0 q1 q2 hlm
      generalize ms.length = m at *
      cases ok
      all_goals
        go_wp2_with (go_at_call 22; refine HSM.out.mono ?_; rintro e w5 ⟨rfl, hb5⟩)
        exact bodyPost_ret (v := .bool true) (by simp [results, Try.results6, go_sem]) rfl ⟨rfl, HB4.out.trans (hb5.mono HB4.out.size)⟩

end Go.Proofs.Ytohgnmpmledljaa
