/-
  The walk of StepsRow.
-/
import Derived.Test.YtohgnmpmledljaaStLater
namespace Go.Proofs.Ytohgnmpmledljaa
open Go.ChangeShapes Go.WideShapes Go.ChangeAt Go.RowKit

set_option maxRecDepth 100000 in
set_option maxHeartbeats 8000000 in
theorem row_any (l : List ActR) (cu : Array Value) (u : ByteArray) (ty part att now over : Int) (aa : Option Addr) (na ca : Nat) (ab : Option Addr) (nb cb : Nat) (ak : Option Addr) (nk ck : Nat)
    (la : Option Addr) (ln lc : Nat) (ds : List (Bool × Option Addr × Nat × Nat)) (sa : Option Addr) (sn sc : Nat) (zs : List Int) (w : World) (hw : WorldIn w aa na ca ab nb ak nk l)
    (hus : cu.size = 35) (hu0 : cu[0]? = some (.string u)) (hu7 : cu[7]? = some (.int .i64 ty)) (hds : ExecsIn w w.heap.size la ln ds) (hln : ln ≤ 9223372036854775807) (hzs : IntsIn w w.heap.size sa sn zs) (hsn : sn ≤ 9223372036854775807) :
    Calls Try.prog 7 #[.agg #[.slice aa na ca, .slice ab nb cb, .slice ak nk ck], .agg cu, .int .i64 part, .slice la ln lc, .slice sa sn sc, .int .i64 att, .int .i64 now, .int .i64 over] w
      fun e w' => e = .returned (.bool true) ∧ Below w.heap.size w w' := by
  have HMAY : Hid (∀ W, Below w.heap.size w W → Calls Try.prog 23 #[.agg #[.slice aa na ca, .slice ab nb cb, .slice ak nk ck]] W (SomeMayW l W)) :=
    Lib.hid fun W hW => mayW_any aa na ca ab nb cb ak nk ck l W (hw.later hW hW.size)
  have HCA : Hid (∀ W, Below w.heap.size w W → Light l → ln ≤ 16 → Calls Try.prog 20 #[.agg #[.slice aa na ca, .slice ab nb cb, .slice ak nk ck], .agg cu, .int .i64 part, .slice la ln lc, .slice sa sn sc, .int .i64 att, .int .i64 now, .int .i64 over] W
      (CourseRet W.heap.size (courseGo (fun i => doesA l u ty part i att) (fun i c => goodB (ds.getD i (false, none, 0, 0)).1 c zs) part over ln 0 now) W)) :=
    Lib.hid fun W hW hli h16 => course_any l cu u ty part att now over aa na ca ab nb cb ak nk ck la ln lc ds sa sn sc zs W (hw.acts.later hW hW.size) hw.na_ hli hus hu0 hu7 (hds.later hW hW.size) (by omega) (hzs.later hW hW.size) hsn
  have HDOES : Hid (∀ W (i : Int), Below w.heap.size w W → Light l → Calls Try.prog 25 #[.agg #[.slice aa na ca, .slice ab nb cb, .slice ak nk ck], .agg cu, .int .i64 part, .int .i64 i, .int .i64 att] W (DoesRet (doesA l u ty part i att) W)) :=
    Lib.hid fun W i hW hli => does_any l cu u ty part i att aa na ca ab nb cb ak nk ck W (hw.acts.later hW hW.size) hw.na_ hli hu0 hu7
  have HGOOD : Hid (∀ W (d : Bool × Option Addr × Nat × Nat) c, Below w.heap.size w W → Calls Try.prog 18 #[.agg #[.bool d.1, .slice d.2.1 d.2.2.1 d.2.2.2], .int .i64 c, .slice sa sn sc] W fun e w' => e = .returned (.bool (goodB d.1 c zs)) ∧ Below W.heap.size W w') :=
    Lib.hid fun W d c hW => good_any d.1 d.2.1 d.2.2.1 d.2.2.2 c sa W.heap.size sn sc zs W (hzs.later hW hW.size) (Nat.le_refl _) hsn
  have HEX := Lib.hid hds
  have HUS := Lib.hid hus
  clear hw hus hu0 hu7 hds hzs hsn
  have hl1 := course_len (fun i => doesA l u ty part i att) (fun i c => goodB (ds.getD i (false, none, 0, 0)).1 c zs) part over ln 0 now
  have HFULL := Lib.hid (course_full (fun i => doesA l u ty part i att) (fun i c => goodB (ds.getD i (false, none, 0, 0)).1 c zs) part over ln 0 now)
  have HZERO : Hid (ln = 0 → (courseGo (fun i => doesA l u ty part i att) (fun i c => goodB (ds.getD i (false, none, 0, 0)).1 c zs) part over ln 0 now).2 = true) := Lib.hid fun h => by rw [h]; rfl
  have HROW := Lib.hid (row_ok (fun i => doesA l u ty part i att) (fun i c => goodB (ds.getD i (false, none, 0, 0)).1 c zs) part over ln 0 now)
  generalize courseGo (fun i => doesA l u ty part i att) (fun i c => goodB (ds.getD i (false, none, 0, 0)).1 c zs) part over ln 0 now = co at HFULL HZERO HROW HCA hl1
  obtain ⟨ms, ok⟩ := co
  generalize hdf : (fun i : Nat => doesA l u ty part i att) = does at HROW
  have HDF : Hid (∀ i : Nat, doesA l u ty part i att = does i) := Lib.hid fun i => by rw [← hdf]
  generalize hgf : (fun (i : Nat) (c : Int) => goodB (ds.getD i (false, none, 0, 0)).1 c zs) = good at HROW
  have HGF : Hid (∀ (i : Nat) (c : Int), goodB (ds.getD i (false, none, 0, 0)).1 c zs = good i c) := Lib.hid fun i c => by rw [← hgf]
  have HL1' := Lib.hid hl1
  clear hl1 hdf hgf
  go_enter Try.func7, Try.ntmps7
  go_wp2_with (first
    | (go_at_call 17; refine (shown24_true _).mono ?_; rintro e w1 ⟨rfl, hb1⟩; have h0 := (hb1.block w.heap.size (by simp; omega)).trans ((Below.heap_alloc (w.alloc _) _ _ (by simp)).trans (heap_alloc_new w _)); have h1 := (hb1.block (w.heap.size + 1) (by simp)).trans (row_two w _ _); have HR0 := Lib.hid h0; have HR1 := Lib.hid h1; have HB1 := Lib.hid ((((Below.refl _ _).alloc (Nat.le_refl _) _).alloc (by simp) _).trans (hb1.mono (by simp; omega)) : Below w.heap.size w w1); have HL1 : Hid (w.heap.size + 1 < w1.heap.size) := Lib.hid (by have := hb1.size; simp at this; omega); have q0 : w1.cell? ⟨w.heap.size, 0, none⟩ = some (.slice aa na ca) := (by rw [cell_of_row w1 _ 0 _ _ _ h0]; rfl); have q1 : w1.cell? ⟨w.heap.size, 1, none⟩ = some (.slice ab nb cb) := (by rw [cell_of_row w1 _ 1 _ _ _ h0]; rfl); have q2 : w1.cell? ⟨w.heap.size, 2, none⟩ = some (.slice ak nk ck) := (by rw [cell_of_row w1 _ 2 _ _ _ h0]; rfl); clear hb1 h0 h1)
    | (go_at_call 23; fail))
  refine (HMAY.out _ HB1.out).mono ?_
  rintro e w2 ⟨bb, rfl, hb2, hmay⟩
  have HB2 := Lib.hid (HB1.out.trans (hb2.mono HB1.out.size))
  have h0 := (hb2.block w.heap.size (by have := HL1.out; omega)).trans HR0.out
  have h1 := (hb2.block (w.heap.size + 1) HL1.out).trans HR1.out
  have HR20 := Lib.hid h0
  have HR21 := Lib.hid h1
  have HL2 : Hid (w.heap.size + 1 < w2.heap.size) := Lib.hid (Nat.lt_of_lt_of_le HL1.out hb2.size)
  clear q0 q1 q2 hb2 h1 HR0 HR1 HB1 HL1
  have q0 : w2.cell? ⟨w.heap.size, 0, none⟩ = some (.slice aa na ca) := by rw [cell_of_row w2 _ 0 _ _ _ h0]; rfl
  have q1 : w2.cell? ⟨w.heap.size, 1, none⟩ = some (.slice ab nb cb) := by rw [cell_of_row w2 _ 1 _ _ _ h0]; rfl
  have q2 : w2.cell? ⟨w.heap.size, 2, none⟩ = some (.slice ak nk ck) := by rw [cell_of_row w2 _ 2 _ _ _ h0]; rfl
  clear h0
  cases bb
  · clear hmay
    go_wp2_with fail
    exact bodyPost_ret (v := .bool true) (by simp [results, Try.results7, go_sem]) rfl ⟨rfl, HB2.out⟩
  have HLI := Lib.hid (light_of (hmay rfl))
  clear hmay
  generalize htt : timeB now = tt
  have HTM : Hid (∀ W, Calls Try.prog 24 #[.int .i64 now] W fun e w' => e = .returned (.bool tt) ∧ W = w') := by refine Lib.hid (fun W => ?_); have h := time_any now W; rw [htt] at h; exact h
  have HTT := Lib.hid htt
  clear htt
  cases tt
  · go_wp2_with (go_at_call 24; refine (HTM.out _).mono ?_; rintro e w' ⟨rfl, rfl⟩)
    exact bodyPost_ret (v := .bool true) (by simp [results, Try.results7, go_sem]) rfl ⟨rfl, HB2.out⟩
  have HNOW : Hid (0 ≤ now ∧ now < 6311433600) := Lib.hid (by have := HTT.out; simpa [timeB] using this)
  by_cases g1 : over < now
  · go_wp2_with (go_at_call 24; refine (HTM.out _).mono ?_; rintro e w' ⟨rfl, rfl⟩)
    exact bodyPost_ret (v := .bool true) (by simp [results, Try.results7, go_sem]) rfl ⟨rfl, HB2.out⟩
  by_cases g3 : 16 < ln
  · have g3' : (16 : Int) < (ln : Int) := by omega
    go_wp2_with (go_at_call 24; refine (HTM.out _).mono ?_; rintro e w' ⟨rfl, rfl⟩)
    exact bodyPost_ret (v := .bool true) (by simp [results, Try.results7, go_sem]) rfl ⟨rfl, HB2.out⟩
  have h16 : ln ≤ 16 := by omega
  have g3' : ¬ (16 : Int) < (ln : Int) := by omega
  have HCA2 := Lib.hid (fun W hW => HCA.out W hW HLI.out h16)
  have HDO := Lib.hid (fun W (i : Int) hW => HDOES.out W i hW HLI.out)
  have hrow := HROW.out HNOW.out.1 (by have := HNOW.out.2; omega) (by omega)
  have HRO := Lib.hid hrow
  clear HCA hrow HROW HLI HMAY HDOES
  go_wp2_with (first
    | (go_at_call 24; refine (HTM.out _).mono ?_; rintro e w' ⟨rfl, rfl⟩)
    | (refine wpList_load_row rfl 51 _ rfl (w.heap.size + 1) rfl 51 cu (0, 0) _ HR21.out Try.underlying51 rfl (by rw [HUS.out]; exact sizeUnit) ?_)
    | (go_at_call 20; fail))
  refine (HCA2.out _ HB2.out).mono ?_
  rintro e w3 ⟨v3, rfl, hown3, hb3⟩
  dsimp only at hown3 ⊢
  obtain ⟨a3, cap3, rfl, hm3⟩ := marks_form hown3
  have HM3 := Lib.hid hm3
  have HB3 := Lib.hid (HB2.out.trans (hb3.mono HB2.out.size))
  have h0 := (hb3.block w.heap.size (by have := HL2.out; omega)).trans HR20.out
  have h1 := (hb3.block (w.heap.size + 1) HL2.out).trans HR21.out
  have HR31 := Lib.hid h1
  have HR30 := Lib.hid h0
  have HL3 : Hid (w.heap.size + 1 < w3.heap.size) := Lib.hid (Nat.lt_of_lt_of_le HL2.out hb3.size)
  clear q0 q1 q2 hb3 h0 h1 hown3 hm3 HR20 HR21 HL2 HCA2 HTM HTT HNOW
  have hmm16 : ms.length ≤ 16 := Nat.le_trans HL1'.out (by omega)
  have hml : ms.length ≤ ln := HL1'.out
  have hgo2 : ok = false ∨ (ok = true ∧ ms.length = ln) := by
    cases ok
    · exact .inl rfl
    · exact .inr ⟨rfl, HFULL.out rfl⟩
  have hz : ln = 0 → ok = true := HZERO.out
  clear HFULL HZERO HL1'
  generalize hmm : ms.length = m at *
  have HMS := Lib.hid hmm
  clear hmm
  have hnl : ¬ (ln : Int) < (m : Int) := by omega
  rcases hgo2 with rfl | ⟨rfl, hmn⟩
  · have hln0 : ¬ ln = 0 := fun h => by have := hz h; exact Bool.noConfusion this
    have hlnb : ((ln : Int) == 0) = false := by simp; omega
    clear hz
    go_wp2_with fail
    go_loopw [19, 86] (fun v19 v86 wr => ∃ (i : Nat) (at_ : Int), v86 = .int .i64 i ∧ v19 = .int .i64 at_ ∧ i ≤ m ∧ Below w3.heap.size w3 wr ∧ RowOk does good part over false (ms.drop i) i at_) (fun _ v86 _ => m - (intOf v86).toNat)
    case atStart => exact ⟨0, now, rfl, rfl, Nat.zero_le _, Below.refl _ _, HRO.out⟩
    case round =>
      obtain ⟨i, at_, rfl, rfl, hi, hbr, hro⟩ := hrel
      have HBR := Lib.hid hbr
      by_cases hlt : i < m
      · have hlti : (i : Int) < (m : Int) := by omega
        have hwi : IntKind.i64.wrap ((i : Int) + 1) = (i : Int) + 1 := by rw [IntKind.wrap_i64]; omega
        have hwm : IntKind.i64.wrap ((m : Int) - 1) = (m : Int) - 1 := by rw [IntKind.wrap_i64]; omega
        have hil : i < ms.length := by rw [HMS.out]; exact hlt
        rw [List.drop_eq_getElem_cons hil] at hro
        obtain ⟨r1, r2, r3, r4, r5, r6, r7⟩ := hro
        have hrest : ms.drop (i + 1) = [] ↔ i + 1 = m := by rw [List.drop_eq_nil_iff, HMS.out]; omega
        obtain ⟨ga, rfl, hga, x0, x1, x2, x3⟩ := HM3.out.at_ i ms[i] (List.getElem?_eq_getElem hil)
        rw [← hbr.cell (p := ⟨ga, i * 4, none⟩) hga] at x0
        rw [← hbr.cell (p := ⟨ga, i * 4 + 1, none⟩) hga] at x1
        rw [← hbr.cell (p := ⟨ga, i * 4 + 2, none⟩) hga] at x2
        rw [← hbr.cell (p := ⟨ga, i * 4 + 3, none⟩) hga] at x3
        have HXS := Lib.hid hrest
        generalize ms[i] = x at r1 r2 r3 r4 r5 r6 r7 x0 x1 x2 x3
        obtain ⟨xn, xb, xe, xc⟩ := x
        dsimp only at r1 r2 r3 r4 r5 r6 r7 x0 x1 x2 x3
        subst r1
        subst r2
        generalize hen : endsP (does i) (beginP part i xb) = en at r5 r6
        have HEN := Lib.hid hen
        clear hen
        obtain ⟨e0, c0⟩ := en
        dsimp only at r5 r6
        have HR3 := Lib.hid r3
        have HR4 := Lib.hid r4
        have HR5 := Lib.hid r5
        have HR6 := Lib.hid r6
        have HR7 := Lib.hid r7
        clear r3 r4 r5 r6 r7 hrest hbr
        go_upto_region 13 with (go_at_call 11; refine (begin_any _ _ _ _).mono ?_; rintro e w5 ⟨rfl, hb5⟩; have HR21 := Lib.hid ((hb5.block wr.heap.size (by simp)).trans (heap_alloc_new wr _)); have HB5 := Lib.hid ((((Below.refl wr.heap.size wr).alloc (Nat.le_refl _) _).trans (hb5.mono (by simp)) : Below wr.heap.size wr w5)); have HL5 : Hid (wr.heap.size < w5.heap.size) := Lib.hid (by have := hb5.size; simp at this; omega); clear hb5; unfold beginP RunM.val)
        generalize hw6 : w5.alloc _ = w6
        have hb56 : Below w5.heap.size w5 w6 := by rw [← hw6]; exact (Below.refl _ _).alloc (Nat.le_refl _) _
        have hrun : RunAt w6 w5.heap.size part i xb (-1) 0 false := by rw [← hw6]; exact RunAt.of_row (heap_alloc_new w5 _)
        have hl56 : w5.heap.size < w6.heap.size := by rw [← hw6]; simp
        have hbr6 : Below wr.heap.size wr w6 := HB5.out.trans (hb56.mono HB5.out.size)
        have hb36 : Below w3.heap.size w3 w6 := HBR.out.trans (hbr6.mono HBR.out.size)
        have hw0 := (hb36.block w.heap.size (by have := HL3.out; omega)).trans HR30.out
        have q0 : w6.cell? ⟨w.heap.size, 0, none⟩ = some (.slice aa na ca) := by rw [cell_of_row w6 _ 0 _ _ _ hw0]; rfl
        have q1 : w6.cell? ⟨w.heap.size, 1, none⟩ = some (.slice ab nb cb) := by rw [cell_of_row w6 _ 1 _ _ _ hw0]; rfl
        have q2 : w6.cell? ⟨w.heap.size, 2, none⟩ = some (.slice ak nk ck) := by rw [cell_of_row w6 _ 2 _ _ _ hw0]; rfl
        have HU := Lib.hid ((hb36.block (w.heap.size + 1) HL3.out).trans HR31.out)
        have HRUN := Lib.hid hrun
        have HL6 := Lib.hid hl56
        have HB36 := Lib.hid hb36
        have HB6D : Hid (Below w.heap.size w w6.drew) := Lib.hid (HB3.out.trans (hb36.mono HB3.out.size)).drew
        have HR216 := Lib.hid ((hb56.block wr.heap.size HL5.out).trans HR21.out)
        have HLW : Hid (wr.heap.size < w6.heap.size) := Lib.hid (Nat.lt_trans HL5.out hl56)
        obtain ⟨c0', c1, c2, c3, c4, c5, cf⟩ := hrun
        clear hw6 hb56 hl56 hbr6 hb36 hw0 HB5 HR21
        go_cut [23, 24] from 95 to 105 (fun s23 s24 wx => s23 = .int .i64 e0 ∧ s24 = .int .i64 c0 ∧ Below w6.heap.size w6 wx)
        case first =>
          refine wp_region_any (by kernel_rfl) ?_
          try (change wpAny _ _ _ _ _ _ _ (World.drew _))
          refine wpAny_take (i := 2) (v := ?_) rfl (by kernel_rfl) (by kernel_rfl) (by kernel_rfl) (fun _ _ _ h => h) (Or.inl ⟨by kernel_rfl, ?_⟩) ?_; rotate_left; · (intro w; go_simp; try with_reducible rfl)
          refine wpAny_take (i := 3) (v := ?_) rfl (by kernel_rfl) (by kernel_rfl) (by kernel_rfl) (fun _ _ _ h => h) (Or.inl ⟨by kernel_rfl, ?_⟩) ?_; rotate_left; · (intro w; go_simp; try with_reducible rfl)
          refine wpAny_take (i := 4) (v := ?_) rfl (by kernel_rfl) (by kernel_rfl) (by kernel_rfl) (fun _ _ _ h => h) (Or.inl ⟨by kernel_rfl, ?_⟩) ?_; rotate_left; · (intro w; go_simp; try with_reducible rfl)
          refine wpAny_ready (rs := [0, 1, 6]) (by kernel_rfl) (by simp) ?_
          refine AllReady.cons rfl (fun K hK => ?_) (AllReady.cons rfl (fun K hK => ?_) (AllReady.cons rfl (fun K hK => ?_) AllReady.nil))
          · go_simp
            refine hK _ _ ?_
            clear hK K
            refine wpAny_ready (rs := [1, 6]) (by kernel_rfl) (by simp) ?_
            refine AllReady.cons rfl (fun K hK => ?_) (AllReady.cons rfl (fun K hK => ?_) AllReady.nil)
            · rw [if_pos (by kernel_rfl)]
              refine wp_load_row 51 (.tmp 9) rfl (w.heap.size + 1) rfl 51 cu (0, 0) _ HU.out Try.underlying51 rfl (by rw [HUS.out]; exact sizeUnit) ?_
              refine hK _ _ ?_
              clear hK K
              refine wpAny_ready (rs := [5, 6]) (by kernel_rfl) (by simp) ?_
              refine AllReady.cons rfl (fun K hK => ?_) (AllReady.cons rfl (fun K hK => ?_) AllReady.nil)
              · go_simp
                go_wp2_with (go_at_call 25; refine (HDO.out _ i HB6D.out).mono ?_; rintro e wn ⟨⟨cs', rfl, hcs'⟩, hbn⟩; have HBN := Lib.hid hbn; have HCS := Lib.hid hcs'; obtain ⟨f0, f1, f2, f3, f4, f5, ff⟩ := RunAt.below HRUN.out.drew hbn HL6.out; clear hbn hcs' ff)
                refine wpAny_ready (rs := [6]) (by kernel_rfl) (by simp) ?_
                refine AllReady.cons rfl (fun K hK => ?_) AllReady.nil
                go_simp
                refine hK _ _ ?_
                clear hK K
                refine wpAny_ready (rs := [7]) (by kernel_rfl) (by simp) ?_
                refine AllReady.cons rfl (fun K hK => ?_) AllReady.nil
                go_simp
                go_wp2_with (go_at_call 15; refine (ends_lit cs' (does i) (by rw [← HDF.out i]; exact HCS.out) ⟨part, i, xb, -1, 0, false⟩ e0 c0 HEN.out _).mono ?_; rintro e wm ⟨rfl, hbm⟩; have HBM := Lib.hid hbm; clear hbm)
                refine wpAny_ready (rs := [8]) (by kernel_rfl) (by simp) ?_
                refine AllReady.cons rfl (fun K hK => ?_) AllReady.nil
                go_simp
                refine hK _ _ ?_
                clear hK K
                refine wpAny_take (i := 9) (v := ?_) rfl (by kernel_rfl) (by kernel_rfl) (by kernel_rfl) (fun _ _ _ h => h) (Or.inl ⟨by kernel_rfl, ?_⟩) ?_; rotate_left; · (intro w; go_simp; try with_reducible rfl)
                refine wpAny_take (i := 10) (v := ?_) rfl (by kernel_rfl) (by kernel_rfl) (by kernel_rfl) (fun _ _ _ h => h) (Or.inl ⟨by kernel_rfl, ?_⟩) ?_; rotate_left; · (intro w; go_simp; try with_reducible rfl)
                refine wpAny_ready (rs := [11]) (by kernel_rfl) (by simp) ?_
                refine AllReady.cons rfl (fun K hK => ?_) AllReady.nil
                go_simp
                refine hK _ _ ?_
                clear hK K
                refine wpAny_ready (rs := [12]) (by kernel_rfl) (by simp) ?_
                refine AllReady.cons rfl (fun K hK => ?_) AllReady.nil
                go_simp
                refine hK _ _ ?_
                clear hK K
                refine wpAny_done (by kernel_rfl) ?_ _
                go_wp2_with fail
                go_meet
                exact ⟨rfl, rfl, (Below.refl w6.heap.size w6).drew.trans (HBN.out.trans (HBM.out.mono HBN.out.size))⟩
              · go_simp
                refine hK _ _ ?_
                clear hK K
                refine wpAny_ready (rs := [5]) (by kernel_rfl) (by simp) ?_
                refine AllReady.cons rfl (fun K hK => ?_) AllReady.nil
                go_simp
                go_wp2_with (go_at_call 25; refine (HDO.out _ i HB6D.out).mono ?_; rintro e wn ⟨⟨cs', rfl, hcs'⟩, hbn⟩; have HBN := Lib.hid hbn; have HCS := Lib.hid hcs'; obtain ⟨f0, f1, f2, f3, f4, f5, ff⟩ := RunAt.below HRUN.out.drew hbn HL6.out; clear hbn hcs' ff)
                refine wpAny_ready (rs := [7]) (by kernel_rfl) (by simp) ?_
                refine AllReady.cons rfl (fun K hK => ?_) AllReady.nil
                go_simp
                go_wp2_with (go_at_call 15; refine (ends_lit cs' (does i) (by rw [← HDF.out i]; exact HCS.out) ⟨part, i, xb, -1, 0, false⟩ e0 c0 HEN.out _).mono ?_; rintro e wm ⟨rfl, hbm⟩; have HBM := Lib.hid hbm; clear hbm)
                refine wpAny_ready (rs := [8]) (by kernel_rfl) (by simp) ?_
                refine AllReady.cons rfl (fun K hK => ?_) AllReady.nil
                go_simp
                refine hK _ _ ?_
                clear hK K
                refine wpAny_take (i := 9) (v := ?_) rfl (by kernel_rfl) (by kernel_rfl) (by kernel_rfl) (fun _ _ _ h => h) (Or.inl ⟨by kernel_rfl, ?_⟩) ?_; rotate_left; · (intro w; go_simp; try with_reducible rfl)
                refine wpAny_take (i := 10) (v := ?_) rfl (by kernel_rfl) (by kernel_rfl) (by kernel_rfl) (fun _ _ _ h => h) (Or.inl ⟨by kernel_rfl, ?_⟩) ?_; rotate_left; · (intro w; go_simp; try with_reducible rfl)
                refine wpAny_ready (rs := [11]) (by kernel_rfl) (by simp) ?_
                refine AllReady.cons rfl (fun K hK => ?_) AllReady.nil
                go_simp
                refine hK _ _ ?_
                clear hK K
                refine wpAny_ready (rs := [12]) (by kernel_rfl) (by simp) ?_
                refine AllReady.cons rfl (fun K hK => ?_) AllReady.nil
                go_simp
                refine hK _ _ ?_
                clear hK K
                refine wpAny_done (by kernel_rfl) ?_ _
                go_wp2_with fail
                go_meet
                exact ⟨rfl, rfl, (Below.refl w6.heap.size w6).drew.trans (HBN.out.trans (HBM.out.mono HBN.out.size))⟩
            · go_simp
              refine hK _ _ ?_
              clear hK K
              refine wpAny_ready (rs := [1]) (by kernel_rfl) (by simp) ?_
              refine AllReady.cons rfl (fun K hK => ?_) AllReady.nil
              rw [if_pos (by kernel_rfl)]
              refine wp_load_row 51 (.tmp 9) rfl (w.heap.size + 1) rfl 51 cu (0, 0) _ HU.out Try.underlying51 rfl (by rw [HUS.out]; exact sizeUnit) ?_
              refine hK _ _ ?_
              clear hK K
              refine wpAny_ready (rs := [5]) (by kernel_rfl) (by simp) ?_
              refine AllReady.cons rfl (fun K hK => ?_) AllReady.nil
              go_simp
              go_wp2_with (go_at_call 25; refine (HDO.out _ i HB6D.out).mono ?_; rintro e wn ⟨⟨cs', rfl, hcs'⟩, hbn⟩; have HBN := Lib.hid hbn; have HCS := Lib.hid hcs'; obtain ⟨f0, f1, f2, f3, f4, f5, ff⟩ := RunAt.below HRUN.out.drew hbn HL6.out; clear hbn hcs' ff)
              refine wpAny_ready (rs := [7]) (by kernel_rfl) (by simp) ?_
              refine AllReady.cons rfl (fun K hK => ?_) AllReady.nil
              go_simp
              go_wp2_with (go_at_call 15; refine (ends_lit cs' (does i) (by rw [← HDF.out i]; exact HCS.out) ⟨part, i, xb, -1, 0, false⟩ e0 c0 HEN.out _).mono ?_; rintro e wm ⟨rfl, hbm⟩; have HBM := Lib.hid hbm; clear hbm)
              refine wpAny_ready (rs := [8]) (by kernel_rfl) (by simp) ?_
              refine AllReady.cons rfl (fun K hK => ?_) AllReady.nil
              go_simp
              refine hK _ _ ?_
              clear hK K
              refine wpAny_take (i := 9) (v := ?_) rfl (by kernel_rfl) (by kernel_rfl) (by kernel_rfl) (fun _ _ _ h => h) (Or.inl ⟨by kernel_rfl, ?_⟩) ?_; rotate_left; · (intro w; go_simp; try with_reducible rfl)
              refine wpAny_take (i := 10) (v := ?_) rfl (by kernel_rfl) (by kernel_rfl) (by kernel_rfl) (fun _ _ _ h => h) (Or.inl ⟨by kernel_rfl, ?_⟩) ?_; rotate_left; · (intro w; go_simp; try with_reducible rfl)
              refine wpAny_ready (rs := [11]) (by kernel_rfl) (by simp) ?_
              refine AllReady.cons rfl (fun K hK => ?_) AllReady.nil
              go_simp
              refine hK _ _ ?_
              clear hK K
              refine wpAny_ready (rs := [12]) (by kernel_rfl) (by simp) ?_
              refine AllReady.cons rfl (fun K hK => ?_) AllReady.nil
              go_simp
              refine hK _ _ ?_
              clear hK K
              refine wpAny_done (by kernel_rfl) ?_ _
              go_wp2_with fail
              go_meet
              exact ⟨rfl, rfl, (Below.refl w6.heap.size w6).drew.trans (HBN.out.trans (HBM.out.mono HBN.out.size))⟩
          · rw [if_pos (by kernel_rfl)]
            refine wp_load_row 51 (.tmp 9) rfl (w.heap.size + 1) rfl 51 cu (0, 0) _ HU.out Try.underlying51 rfl (by rw [HUS.out]; exact sizeUnit) ?_
            refine hK _ _ ?_
            clear hK K
            refine wpAny_ready (rs := [0, 6]) (by kernel_rfl) (by simp) ?_
            refine AllReady.cons rfl (fun K hK => ?_) (AllReady.cons rfl (fun K hK => ?_) AllReady.nil)
            · go_simp
              refine hK _ _ ?_
              clear hK K
              refine wpAny_ready (rs := [5, 6]) (by kernel_rfl) (by simp) ?_
              refine AllReady.cons rfl (fun K hK => ?_) (AllReady.cons rfl (fun K hK => ?_) AllReady.nil)
              · go_simp
                go_wp2_with (go_at_call 25; refine (HDO.out _ i HB6D.out).mono ?_; rintro e wn ⟨⟨cs', rfl, hcs'⟩, hbn⟩; have HBN := Lib.hid hbn; have HCS := Lib.hid hcs'; obtain ⟨f0, f1, f2, f3, f4, f5, ff⟩ := RunAt.below HRUN.out.drew hbn HL6.out; clear hbn hcs' ff)
                refine wpAny_ready (rs := [6]) (by kernel_rfl) (by simp) ?_
                refine AllReady.cons rfl (fun K hK => ?_) AllReady.nil
                go_simp
                refine hK _ _ ?_
                clear hK K
                refine wpAny_ready (rs := [7]) (by kernel_rfl) (by simp) ?_
                refine AllReady.cons rfl (fun K hK => ?_) AllReady.nil
                go_simp
                go_wp2_with (go_at_call 15; refine (ends_lit cs' (does i) (by rw [← HDF.out i]; exact HCS.out) ⟨part, i, xb, -1, 0, false⟩ e0 c0 HEN.out _).mono ?_; rintro e wm ⟨rfl, hbm⟩; have HBM := Lib.hid hbm; clear hbm)
                refine wpAny_ready (rs := [8]) (by kernel_rfl) (by simp) ?_
                refine AllReady.cons rfl (fun K hK => ?_) AllReady.nil
                go_simp
                refine hK _ _ ?_
                clear hK K
                refine wpAny_take (i := 9) (v := ?_) rfl (by kernel_rfl) (by kernel_rfl) (by kernel_rfl) (fun _ _ _ h => h) (Or.inl ⟨by kernel_rfl, ?_⟩) ?_; rotate_left; · (intro w; go_simp; try with_reducible rfl)
                refine wpAny_take (i := 10) (v := ?_) rfl (by kernel_rfl) (by kernel_rfl) (by kernel_rfl) (fun _ _ _ h => h) (Or.inl ⟨by kernel_rfl, ?_⟩) ?_; rotate_left; · (intro w; go_simp; try with_reducible rfl)
                refine wpAny_ready (rs := [11]) (by kernel_rfl) (by simp) ?_
                refine AllReady.cons rfl (fun K hK => ?_) AllReady.nil
                go_simp
                refine hK _ _ ?_
                clear hK K
                refine wpAny_ready (rs := [12]) (by kernel_rfl) (by simp) ?_
                refine AllReady.cons rfl (fun K hK => ?_) AllReady.nil
                go_simp
                refine hK _ _ ?_
                clear hK K
                refine wpAny_done (by kernel_rfl) ?_ _
                go_wp2_with fail
                go_meet
                exact ⟨rfl, rfl, (Below.refl w6.heap.size w6).drew.trans (HBN.out.trans (HBM.out.mono HBN.out.size))⟩
              · go_simp
                refine hK _ _ ?_
                clear hK K
                refine wpAny_ready (rs := [5]) (by kernel_rfl) (by simp) ?_
                refine AllReady.cons rfl (fun K hK => ?_) AllReady.nil
                go_simp
                go_wp2_with (go_at_call 25; refine (HDO.out _ i HB6D.out).mono ?_; rintro e wn ⟨⟨cs', rfl, hcs'⟩, hbn⟩; have HBN := Lib.hid hbn; have HCS := Lib.hid hcs'; obtain ⟨f0, f1, f2, f3, f4, f5, ff⟩ := RunAt.below HRUN.out.drew hbn HL6.out; clear hbn hcs' ff)
                refine wpAny_ready (rs := [7]) (by kernel_rfl) (by simp) ?_
                refine AllReady.cons rfl (fun K hK => ?_) AllReady.nil
                go_simp
                go_wp2_with (go_at_call 15; refine (ends_lit cs' (does i) (by rw [← HDF.out i]; exact HCS.out) ⟨part, i, xb, -1, 0, false⟩ e0 c0 HEN.out _).mono ?_; rintro e wm ⟨rfl, hbm⟩; have HBM := Lib.hid hbm; clear hbm)
                refine wpAny_ready (rs := [8]) (by kernel_rfl) (by simp) ?_
                refine AllReady.cons rfl (fun K hK => ?_) AllReady.nil
                go_simp
                refine hK _ _ ?_
                clear hK K
                refine wpAny_take (i := 9) (v := ?_) rfl (by kernel_rfl) (by kernel_rfl) (by kernel_rfl) (fun _ _ _ h => h) (Or.inl ⟨by kernel_rfl, ?_⟩) ?_; rotate_left; · (intro w; go_simp; try with_reducible rfl)
                refine wpAny_take (i := 10) (v := ?_) rfl (by kernel_rfl) (by kernel_rfl) (by kernel_rfl) (fun _ _ _ h => h) (Or.inl ⟨by kernel_rfl, ?_⟩) ?_; rotate_left; · (intro w; go_simp; try with_reducible rfl)
                refine wpAny_ready (rs := [11]) (by kernel_rfl) (by simp) ?_
                refine AllReady.cons rfl (fun K hK => ?_) AllReady.nil
                go_simp
                refine hK _ _ ?_
                clear hK K
                refine wpAny_ready (rs := [12]) (by kernel_rfl) (by simp) ?_
                refine AllReady.cons rfl (fun K hK => ?_) AllReady.nil
                go_simp
                refine hK _ _ ?_
                clear hK K
                refine wpAny_done (by kernel_rfl) ?_ _
                go_wp2_with fail
                go_meet
                exact ⟨rfl, rfl, (Below.refl w6.heap.size w6).drew.trans (HBN.out.trans (HBM.out.mono HBN.out.size))⟩
            · go_simp
              refine hK _ _ ?_
              clear hK K
              refine wpAny_ready (rs := [0]) (by kernel_rfl) (by simp) ?_
              refine AllReady.cons rfl (fun K hK => ?_) AllReady.nil
              go_simp
              refine hK _ _ ?_
              clear hK K
              refine wpAny_ready (rs := [5]) (by kernel_rfl) (by simp) ?_
              refine AllReady.cons rfl (fun K hK => ?_) AllReady.nil
              go_simp
              go_wp2_with (go_at_call 25; refine (HDO.out _ i HB6D.out).mono ?_; rintro e wn ⟨⟨cs', rfl, hcs'⟩, hbn⟩; have HBN := Lib.hid hbn; have HCS := Lib.hid hcs'; obtain ⟨f0, f1, f2, f3, f4, f5, ff⟩ := RunAt.below HRUN.out.drew hbn HL6.out; clear hbn hcs' ff)
              refine wpAny_ready (rs := [7]) (by kernel_rfl) (by simp) ?_
              refine AllReady.cons rfl (fun K hK => ?_) AllReady.nil
              go_simp
              go_wp2_with (go_at_call 15; refine (ends_lit cs' (does i) (by rw [← HDF.out i]; exact HCS.out) ⟨part, i, xb, -1, 0, false⟩ e0 c0 HEN.out _).mono ?_; rintro e wm ⟨rfl, hbm⟩; have HBM := Lib.hid hbm; clear hbm)
              refine wpAny_ready (rs := [8]) (by kernel_rfl) (by simp) ?_
              refine AllReady.cons rfl (fun K hK => ?_) AllReady.nil
              go_simp
              refine hK _ _ ?_
              clear hK K
              refine wpAny_take (i := 9) (v := ?_) rfl (by kernel_rfl) (by kernel_rfl) (by kernel_rfl) (fun _ _ _ h => h) (Or.inl ⟨by kernel_rfl, ?_⟩) ?_; rotate_left; · (intro w; go_simp; try with_reducible rfl)
              refine wpAny_take (i := 10) (v := ?_) rfl (by kernel_rfl) (by kernel_rfl) (by kernel_rfl) (fun _ _ _ h => h) (Or.inl ⟨by kernel_rfl, ?_⟩) ?_; rotate_left; · (intro w; go_simp; try with_reducible rfl)
              refine wpAny_ready (rs := [11]) (by kernel_rfl) (by simp) ?_
              refine AllReady.cons rfl (fun K hK => ?_) AllReady.nil
              go_simp
              refine hK _ _ ?_
              clear hK K
              refine wpAny_ready (rs := [12]) (by kernel_rfl) (by simp) ?_
              refine AllReady.cons rfl (fun K hK => ?_) AllReady.nil
              go_simp
              refine hK _ _ ?_
              clear hK K
              refine wpAny_done (by kernel_rfl) ?_ _
              go_wp2_with fail
              go_meet
              exact ⟨rfl, rfl, (Below.refl w6.heap.size w6).drew.trans (HBN.out.trans (HBM.out.mono HBN.out.size))⟩
          · go_simp
            refine hK _ _ ?_
            clear hK K
            refine wpAny_ready (rs := [0, 1]) (by kernel_rfl) (by simp) ?_
            refine AllReady.cons rfl (fun K hK => ?_) (AllReady.cons rfl (fun K hK => ?_) AllReady.nil)
            · go_simp
              refine hK _ _ ?_
              clear hK K
              refine wpAny_ready (rs := [1]) (by kernel_rfl) (by simp) ?_
              refine AllReady.cons rfl (fun K hK => ?_) AllReady.nil
              rw [if_pos (by kernel_rfl)]
              refine wp_load_row 51 (.tmp 9) rfl (w.heap.size + 1) rfl 51 cu (0, 0) _ HU.out Try.underlying51 rfl (by rw [HUS.out]; exact sizeUnit) ?_
              refine hK _ _ ?_
              clear hK K
              refine wpAny_ready (rs := [5]) (by kernel_rfl) (by simp) ?_
              refine AllReady.cons rfl (fun K hK => ?_) AllReady.nil
              go_simp
              go_wp2_with (go_at_call 25; refine (HDO.out _ i HB6D.out).mono ?_; rintro e wn ⟨⟨cs', rfl, hcs'⟩, hbn⟩; have HBN := Lib.hid hbn; have HCS := Lib.hid hcs'; obtain ⟨f0, f1, f2, f3, f4, f5, ff⟩ := RunAt.below HRUN.out.drew hbn HL6.out; clear hbn hcs' ff)
              refine wpAny_ready (rs := [7]) (by kernel_rfl) (by simp) ?_
              refine AllReady.cons rfl (fun K hK => ?_) AllReady.nil
              go_simp
              go_wp2_with (go_at_call 15; refine (ends_lit cs' (does i) (by rw [← HDF.out i]; exact HCS.out) ⟨part, i, xb, -1, 0, false⟩ e0 c0 HEN.out _).mono ?_; rintro e wm ⟨rfl, hbm⟩; have HBM := Lib.hid hbm; clear hbm)
              refine wpAny_ready (rs := [8]) (by kernel_rfl) (by simp) ?_
              refine AllReady.cons rfl (fun K hK => ?_) AllReady.nil
              go_simp
              refine hK _ _ ?_
              clear hK K
              refine wpAny_take (i := 9) (v := ?_) rfl (by kernel_rfl) (by kernel_rfl) (by kernel_rfl) (fun _ _ _ h => h) (Or.inl ⟨by kernel_rfl, ?_⟩) ?_; rotate_left; · (intro w; go_simp; try with_reducible rfl)
              refine wpAny_take (i := 10) (v := ?_) rfl (by kernel_rfl) (by kernel_rfl) (by kernel_rfl) (fun _ _ _ h => h) (Or.inl ⟨by kernel_rfl, ?_⟩) ?_; rotate_left; · (intro w; go_simp; try with_reducible rfl)
              refine wpAny_ready (rs := [11]) (by kernel_rfl) (by simp) ?_
              refine AllReady.cons rfl (fun K hK => ?_) AllReady.nil
              go_simp
              refine hK _ _ ?_
              clear hK K
              refine wpAny_ready (rs := [12]) (by kernel_rfl) (by simp) ?_
              refine AllReady.cons rfl (fun K hK => ?_) AllReady.nil
              go_simp
              refine hK _ _ ?_
              clear hK K
              refine wpAny_done (by kernel_rfl) ?_ _
              go_wp2_with fail
              go_meet
              exact ⟨rfl, rfl, (Below.refl w6.heap.size w6).drew.trans (HBN.out.trans (HBM.out.mono HBN.out.size))⟩
            · rw [if_pos (by kernel_rfl)]
              refine wp_load_row 51 (.tmp 9) rfl (w.heap.size + 1) rfl 51 cu (0, 0) _ HU.out Try.underlying51 rfl (by rw [HUS.out]; exact sizeUnit) ?_
              refine hK _ _ ?_
              clear hK K
              refine wpAny_ready (rs := [0]) (by kernel_rfl) (by simp) ?_
              refine AllReady.cons rfl (fun K hK => ?_) AllReady.nil
              go_simp
              refine hK _ _ ?_
              clear hK K
              refine wpAny_ready (rs := [5]) (by kernel_rfl) (by simp) ?_
              refine AllReady.cons rfl (fun K hK => ?_) AllReady.nil
              go_simp
              go_wp2_with (go_at_call 25; refine (HDO.out _ i HB6D.out).mono ?_; rintro e wn ⟨⟨cs', rfl, hcs'⟩, hbn⟩; have HBN := Lib.hid hbn; have HCS := Lib.hid hcs'; obtain ⟨f0, f1, f2, f3, f4, f5, ff⟩ := RunAt.below HRUN.out.drew hbn HL6.out; clear hbn hcs' ff)
              refine wpAny_ready (rs := [7]) (by kernel_rfl) (by simp) ?_
              refine AllReady.cons rfl (fun K hK => ?_) AllReady.nil
              go_simp
              go_wp2_with (go_at_call 15; refine (ends_lit cs' (does i) (by rw [← HDF.out i]; exact HCS.out) ⟨part, i, xb, -1, 0, false⟩ e0 c0 HEN.out _).mono ?_; rintro e wm ⟨rfl, hbm⟩; have HBM := Lib.hid hbm; clear hbm)
              refine wpAny_ready (rs := [8]) (by kernel_rfl) (by simp) ?_
              refine AllReady.cons rfl (fun K hK => ?_) AllReady.nil
              go_simp
              refine hK _ _ ?_
              clear hK K
              refine wpAny_take (i := 9) (v := ?_) rfl (by kernel_rfl) (by kernel_rfl) (by kernel_rfl) (fun _ _ _ h => h) (Or.inl ⟨by kernel_rfl, ?_⟩) ?_; rotate_left; · (intro w; go_simp; try with_reducible rfl)
              refine wpAny_take (i := 10) (v := ?_) rfl (by kernel_rfl) (by kernel_rfl) (by kernel_rfl) (fun _ _ _ h => h) (Or.inl ⟨by kernel_rfl, ?_⟩) ?_; rotate_left; · (intro w; go_simp; try with_reducible rfl)
              refine wpAny_ready (rs := [11]) (by kernel_rfl) (by simp) ?_
              refine AllReady.cons rfl (fun K hK => ?_) AllReady.nil
              go_simp
              refine hK _ _ ?_
              clear hK K
              refine wpAny_ready (rs := [12]) (by kernel_rfl) (by simp) ?_
              refine AllReady.cons rfl (fun K hK => ?_) AllReady.nil
              go_simp
              refine hK _ _ ?_
              clear hK K
              refine wpAny_done (by kernel_rfl) ?_ _
              go_wp2_with fail
              go_meet
              exact ⟨rfl, rfl, (Below.refl w6.heap.size w6).drew.trans (HBN.out.trans (HBM.out.mono HBN.out.size))⟩
        obtain ⟨rfl, rfl, hbx⟩ := hcut
        clear q0 q1 q2 c0' c1 c2 c3 c4 c5 cf HRUN HU
        have hr := (hbx.block wr.heap.size HLW.out).trans HR216.out
        have z0 : wc.cell? ⟨wr.heap.size, 0, none⟩ = some (.int .i64 i) := by rw [cell_of_row wc _ 0 _ _ _ hr]; rfl
        have z1 : wc.cell? ⟨wr.heap.size, 1, none⟩ = some (.int .i64 xb) := by rw [cell_of_row wc _ 1 _ _ _ hr]; rfl
        have z2 : wc.cell? ⟨wr.heap.size, 2, none⟩ = some (.int .i64 xe) := by rw [cell_of_row wc _ 2 _ _ _ hr]; rfl
        have z3 : wc.cell? ⟨wr.heap.size, 3, none⟩ = some (.int .i64 xc) := by rw [cell_of_row wc _ 3 _ _ _ hr]; rfl
        have HBC := Lib.hid (HB36.out.trans (hbx.mono HB36.out.size))
        have HBCW := Lib.hid (HB3.out.trans (HBC.out.mono HB3.out.size))
        have HLC : Hid (wr.heap.size < wc.heap.size) := Lib.hid (Nat.lt_of_lt_of_le HLW.out hbx.size)
        have hge : ¬ xe < xb := by have := HR3.out; omega
        have hle : ¬ over < xe := by have := HR4.out; omega
        clear hr hbx
        by_cases hlate : lateP over e0
        · obtain ⟨l1, l2, l3⟩ := HR5.out hlate
          have him : i + 1 = m := HXS.out.1 l2
          have himb : decide ((i : Int) < (m : Int) - 1) = false := by simp; omega
          have him2 : ¬ (i : Int) < (m : Int) - 1 := by omega
          subst l1
          clear l2 l3
          unfold lateP at hlate
          have hff : over < e0 ∨ (¬ over < e0 ∧ e0 = 1099511627776) := by omega
          clear hlate
          rcases hff with hf1 | ⟨hf1, rfl⟩
          · have hf1b : decide (over < e0) = true := by simp [hf1]
            go_wp2_with fail
            go_roundw
            case rel => exact ⟨i + 1, xe, by go_num, rfl, by omega, HBC.out, HR7.out⟩
            case measure => simp [intOf]; omega
          · go_wp2_with fail
            go_roundw
            case rel => exact ⟨i + 1, xe, by go_num, rfl, by omega, HBC.out, HR7.out⟩
            case measure => simp [intOf]; omega
        · obtain ⟨n1, n2, n3⟩ := HR6.out hlate
          have hF1 : ¬ over < e0 := fun h => hlate (.inl h)
          have hF2 : ¬ e0 = 1099511627776 := fun h => hlate (.inr h)
          have hF1b : decide (over < e0) = false := by simp [hF1]
          have hF2b : (e0 == 1099511627776) = false := by simp [hF2]
          clear hlate
          subst n1
          subst n2
          obtain ⟨bl, off, rfl, hbl, hex⟩ := HEX.out.at_ (by omega)
          have hid : i < ds.length := by rw [HEX.out.len]; omega
          obtain ⟨d0, d1⟩ := hex i ds[i] (List.getElem?_eq_getElem hid)
          have hgd : ds.getD i (false, none, 0, 0) = ds[i] := by simp [List.getD, hid]
          rw [← HBCW.out.cell (p := ⟨bl, off + i * 2, none⟩) hbl] at d0
          rw [← HBCW.out.cell (p := ⟨bl, off + i * 2 + 1, none⟩) hbl] at d1
          have HGI : Hid (∀ c, goodB (ds[i]).1 c zs = good i c) := Lib.hid fun c => by rw [← HGF.out i c, hgd]
          generalize ds[i] = d at d0 d1 HGI
          obtain ⟨dd, da, dn, dc⟩ := d
          dsimp only at d0 d1
          clear hex hgd
          have hilln : (i : Int) < (ln : Int) := by omega
          generalize hgg : good i xc = gg at n3
          have HGO : Hid (∀ W, Below w.heap.size w W → Calls Try.prog 18 #[.agg #[.bool dd, .slice da dn dc], .int .i64 xc, .slice sa sn sc] W fun e w' => e = .returned (.bool gg) ∧ Below W.heap.size W w') := by
            refine Lib.hid fun W hW => ?_
            have h := HGOOD.out W (dd, da, dn, dc) xc hW
            rw [← hgg, ← HGI.out xc]
            exact h
          clear hgg
          by_cases him : i + 1 = m
          · have hgf : gg = false := by
              cases gg
              · rfl
              · rcases n3.1 rfl with h | h
                · exact absurd (HXS.out.2 him) h
                · exact absurd h (by decide)
            subst hgf
            clear n3
            have himb : decide ((i : Int) < (m : Int) - 1) = false := by simp; omega
            have him2 : ¬ (i : Int) < (m : Int) - 1 := by omega
            go_wp2_with (go_at_call 18; fail)
            refine (HGO.out _ HBCW.out).mono ?_
            rintro e w8 ⟨rfl, hb8⟩
            have y0 := (hb8.cell (p := ⟨wr.heap.size, 0, none⟩) HLC.out).trans z0
            have y1 := (hb8.cell (p := ⟨wr.heap.size, 1, none⟩) HLC.out).trans z1
            have y2 := (hb8.cell (p := ⟨wr.heap.size, 2, none⟩) HLC.out).trans z2
            have y3 := (hb8.cell (p := ⟨wr.heap.size, 3, none⟩) HLC.out).trans z3
            have HB8 := Lib.hid (HBC.out.trans (hb8.mono HBC.out.size))
            clear hb8 z0 z1 z2 z3 d0 d1
            go_wp2_with fail
            go_roundw
            case rel => exact ⟨i + 1, xe, by go_num, rfl, by omega, HB8.out, HR7.out⟩
            case measure => simp [intOf]; omega
          · have hgf : gg = true := n3.2 (.inl fun h => him (HXS.out.1 h))
            subst hgf
            clear n3
            have himb : decide ((i : Int) < (m : Int) - 1) = true := by simp; omega
            have him2 : (i : Int) < (m : Int) - 1 := by omega
            go_wp2_with (go_at_call 18; fail)
            refine (HGO.out _ HBCW.out).mono ?_
            rintro e w8 ⟨rfl, hb8⟩
            have y0 := (hb8.cell (p := ⟨wr.heap.size, 0, none⟩) HLC.out).trans z0
            have y1 := (hb8.cell (p := ⟨wr.heap.size, 1, none⟩) HLC.out).trans z1
            have y2 := (hb8.cell (p := ⟨wr.heap.size, 2, none⟩) HLC.out).trans z2
            have y3 := (hb8.cell (p := ⟨wr.heap.size, 3, none⟩) HLC.out).trans z3
            have HB8 := Lib.hid (HBC.out.trans (hb8.mono HBC.out.size))
            clear hb8 z0 z1 z2 z3 d0 d1
            go_wp2_with fail
            go_roundw
            case rel => exact ⟨i + 1, xe, by go_num, rfl, by omega, HB8.out, HR7.out⟩
            case measure => simp [intOf]; omega
      · have hlti : ¬ (i : Int) < (m : Int) := by omega
        go_wp2_with fail
        exact bodyPost_ret (v := .bool true) (by simp [results, Try.results7, go_sem]) rfl ⟨rfl, HB3.out.trans (HBR.out.mono HB3.out.size)⟩
  · clear hz
    subst hmn
    clear hnl hml
    by_cases h0 : m = 0
    · have hlnb : ((m : Int) == 0) = true := by simp [h0]
      have hm0 : m ≤ 0 := by omega
      clear h0
      go_wp2_with fail
      go_loopw [19, 86] (fun v19 v86 wr => ∃ (i : Nat) (at_ : Int), v86 = .int .i64 i ∧ v19 = .int .i64 at_ ∧ i ≤ m ∧ Below w3.heap.size w3 wr) (fun _ v86 _ => m - (intOf v86).toNat)
      case atStart => exact ⟨0, now, rfl, rfl, Nat.zero_le _, Below.refl _ _⟩
      case round =>
        obtain ⟨i, at_, rfl, rfl, hi, hbr⟩ := hrel
        have HBR := Lib.hid hbr
        clear hbr
        have hlti : ¬ (i : Int) < (m : Int) := by omega
        go_wp2_with fail
        exact bodyPost_ret (v := .bool true) (by simp [results, Try.results7, go_sem]) rfl ⟨rfl, HB3.out.trans (HBR.out.mono HB3.out.size)⟩
    · have hlnb : ((m : Int) == 0) = false := by simp [h0]
      go_wp2_with fail
      go_loopw [19, 86] (fun v19 v86 wr => ∃ (i : Nat) (at_ : Int), v86 = .int .i64 i ∧ v19 = .int .i64 at_ ∧ i ≤ m ∧ Below w3.heap.size w3 wr ∧ RowOk does good part over true (ms.drop i) i at_) (fun _ v86 _ => m - (intOf v86).toNat)
      case atStart => exact ⟨0, now, rfl, rfl, Nat.zero_le _, Below.refl _ _, HRO.out⟩
      case round =>
        obtain ⟨i, at_, rfl, rfl, hi, hbr, hro⟩ := hrel
        have HBR := Lib.hid hbr
        by_cases hlt : i < m
        · have hlti : (i : Int) < (m : Int) := by omega
          have hwi : IntKind.i64.wrap ((i : Int) + 1) = (i : Int) + 1 := by rw [IntKind.wrap_i64]; omega
          have hwm : IntKind.i64.wrap ((m : Int) - 1) = (m : Int) - 1 := by rw [IntKind.wrap_i64]; omega
          have hil : i < ms.length := by rw [HMS.out]; exact hlt
          rw [List.drop_eq_getElem_cons hil] at hro
          obtain ⟨r1, r2, r3, r4, r5, r6, r7⟩ := hro
          have hrest : ms.drop (i + 1) = [] ↔ i + 1 = m := by rw [List.drop_eq_nil_iff, HMS.out]; omega
          obtain ⟨ga, rfl, hga, x0, x1, x2, x3⟩ := HM3.out.at_ i ms[i] (List.getElem?_eq_getElem hil)
          rw [← hbr.cell (p := ⟨ga, i * 4, none⟩) hga] at x0
          rw [← hbr.cell (p := ⟨ga, i * 4 + 1, none⟩) hga] at x1
          rw [← hbr.cell (p := ⟨ga, i * 4 + 2, none⟩) hga] at x2
          rw [← hbr.cell (p := ⟨ga, i * 4 + 3, none⟩) hga] at x3
          have HXS := Lib.hid hrest
          generalize ms[i] = x at r1 r2 r3 r4 r5 r6 r7 x0 x1 x2 x3
          obtain ⟨xn, xb, xe, xc⟩ := x
          dsimp only at r1 r2 r3 r4 r5 r6 r7 x0 x1 x2 x3
          subst r1
          subst r2
          generalize hen : endsP (does i) (beginP part i xb) = en at r5 r6
          have HEN := Lib.hid hen
          clear hen
          obtain ⟨e0, c0⟩ := en
          dsimp only at r5 r6
          have HR3 := Lib.hid r3
          have HR4 := Lib.hid r4
          have HR5 := Lib.hid r5
          have HR6 := Lib.hid r6
          have HR7 := Lib.hid r7
          clear r3 r4 r5 r6 r7 hrest hbr
          go_upto_region 13 with (go_at_call 11; refine (begin_any _ _ _ _).mono ?_; rintro e w5 ⟨rfl, hb5⟩; have HR21 := Lib.hid ((hb5.block wr.heap.size (by simp)).trans (heap_alloc_new wr _)); have HB5 := Lib.hid ((((Below.refl wr.heap.size wr).alloc (Nat.le_refl _) _).trans (hb5.mono (by simp)) : Below wr.heap.size wr w5)); have HL5 : Hid (wr.heap.size < w5.heap.size) := Lib.hid (by have := hb5.size; simp at this; omega); clear hb5; unfold beginP RunM.val)
          generalize hw6 : w5.alloc _ = w6
          have hb56 : Below w5.heap.size w5 w6 := by rw [← hw6]; exact (Below.refl _ _).alloc (Nat.le_refl _) _
          have hrun : RunAt w6 w5.heap.size part i xb (-1) 0 false := by rw [← hw6]; exact RunAt.of_row (heap_alloc_new w5 _)
          have hl56 : w5.heap.size < w6.heap.size := by rw [← hw6]; simp
          have hbr6 : Below wr.heap.size wr w6 := HB5.out.trans (hb56.mono HB5.out.size)
          have hb36 : Below w3.heap.size w3 w6 := HBR.out.trans (hbr6.mono HBR.out.size)
          have hw0 := (hb36.block w.heap.size (by have := HL3.out; omega)).trans HR30.out
          have q0 : w6.cell? ⟨w.heap.size, 0, none⟩ = some (.slice aa na ca) := by rw [cell_of_row w6 _ 0 _ _ _ hw0]; rfl
          have q1 : w6.cell? ⟨w.heap.size, 1, none⟩ = some (.slice ab nb cb) := by rw [cell_of_row w6 _ 1 _ _ _ hw0]; rfl
          have q2 : w6.cell? ⟨w.heap.size, 2, none⟩ = some (.slice ak nk ck) := by rw [cell_of_row w6 _ 2 _ _ _ hw0]; rfl
          have HU := Lib.hid ((hb36.block (w.heap.size + 1) HL3.out).trans HR31.out)
          have HRUN := Lib.hid hrun
          have HL6 := Lib.hid hl56
          have HB36 := Lib.hid hb36
          have HB6D : Hid (Below w.heap.size w w6.drew) := Lib.hid (HB3.out.trans (hb36.mono HB3.out.size)).drew
          have HR216 := Lib.hid ((hb56.block wr.heap.size HL5.out).trans HR21.out)
          have HLW : Hid (wr.heap.size < w6.heap.size) := Lib.hid (Nat.lt_trans HL5.out hl56)
          obtain ⟨c0', c1, c2, c3, c4, c5, cf⟩ := hrun
          clear hw6 hb56 hl56 hbr6 hb36 hw0 HB5 HR21
          go_cut [23, 24] from 95 to 105 (fun s23 s24 wx => s23 = .int .i64 e0 ∧ s24 = .int .i64 c0 ∧ Below w6.heap.size w6 wx)
          case first =>
            refine wp_region_any (by kernel_rfl) ?_
            try (change wpAny _ _ _ _ _ _ _ (World.drew _))
            refine wpAny_take (i := 2) (v := ?_) rfl (by kernel_rfl) (by kernel_rfl) (by kernel_rfl) (fun _ _ _ h => h) (Or.inl ⟨by kernel_rfl, ?_⟩) ?_; rotate_left; · (intro w; go_simp; try with_reducible rfl)
            refine wpAny_take (i := 3) (v := ?_) rfl (by kernel_rfl) (by kernel_rfl) (by kernel_rfl) (fun _ _ _ h => h) (Or.inl ⟨by kernel_rfl, ?_⟩) ?_; rotate_left; · (intro w; go_simp; try with_reducible rfl)
            refine wpAny_take (i := 4) (v := ?_) rfl (by kernel_rfl) (by kernel_rfl) (by kernel_rfl) (fun _ _ _ h => h) (Or.inl ⟨by kernel_rfl, ?_⟩) ?_; rotate_left; · (intro w; go_simp; try with_reducible rfl)
            refine wpAny_ready (rs := [0, 1, 6]) (by kernel_rfl) (by simp) ?_
            refine AllReady.cons rfl (fun K hK => ?_) (AllReady.cons rfl (fun K hK => ?_) (AllReady.cons rfl (fun K hK => ?_) AllReady.nil))
            · go_simp
              refine hK _ _ ?_
              clear hK K
              refine wpAny_ready (rs := [1, 6]) (by kernel_rfl) (by simp) ?_
              refine AllReady.cons rfl (fun K hK => ?_) (AllReady.cons rfl (fun K hK => ?_) AllReady.nil)
              · rw [if_pos (by kernel_rfl)]
                refine wp_load_row 51 (.tmp 9) rfl (w.heap.size + 1) rfl 51 cu (0, 0) _ HU.out Try.underlying51 rfl (by rw [HUS.out]; exact sizeUnit) ?_
                refine hK _ _ ?_
                clear hK K
                refine wpAny_ready (rs := [5, 6]) (by kernel_rfl) (by simp) ?_
                refine AllReady.cons rfl (fun K hK => ?_) (AllReady.cons rfl (fun K hK => ?_) AllReady.nil)
                · go_simp
                  go_wp2_with (go_at_call 25; refine (HDO.out _ i HB6D.out).mono ?_; rintro e wn ⟨⟨cs', rfl, hcs'⟩, hbn⟩; have HBN := Lib.hid hbn; have HCS := Lib.hid hcs'; obtain ⟨f0, f1, f2, f3, f4, f5, ff⟩ := RunAt.below HRUN.out.drew hbn HL6.out; clear hbn hcs' ff)
                  refine wpAny_ready (rs := [6]) (by kernel_rfl) (by simp) ?_
                  refine AllReady.cons rfl (fun K hK => ?_) AllReady.nil
                  go_simp
                  refine hK _ _ ?_
                  clear hK K
                  refine wpAny_ready (rs := [7]) (by kernel_rfl) (by simp) ?_
                  refine AllReady.cons rfl (fun K hK => ?_) AllReady.nil
                  go_simp
                  go_wp2_with (go_at_call 15; refine (ends_lit cs' (does i) (by rw [← HDF.out i]; exact HCS.out) ⟨part, i, xb, -1, 0, false⟩ e0 c0 HEN.out _).mono ?_; rintro e wm ⟨rfl, hbm⟩; have HBM := Lib.hid hbm; clear hbm)
                  refine wpAny_ready (rs := [8]) (by kernel_rfl) (by simp) ?_
                  refine AllReady.cons rfl (fun K hK => ?_) AllReady.nil
                  go_simp
                  refine hK _ _ ?_
                  clear hK K
                  refine wpAny_take (i := 9) (v := ?_) rfl (by kernel_rfl) (by kernel_rfl) (by kernel_rfl) (fun _ _ _ h => h) (Or.inl ⟨by kernel_rfl, ?_⟩) ?_; rotate_left; · (intro w; go_simp; try with_reducible rfl)
                  refine wpAny_take (i := 10) (v := ?_) rfl (by kernel_rfl) (by kernel_rfl) (by kernel_rfl) (fun _ _ _ h => h) (Or.inl ⟨by kernel_rfl, ?_⟩) ?_; rotate_left; · (intro w; go_simp; try with_reducible rfl)
                  refine wpAny_ready (rs := [11]) (by kernel_rfl) (by simp) ?_
                  refine AllReady.cons rfl (fun K hK => ?_) AllReady.nil
                  go_simp
                  refine hK _ _ ?_
                  clear hK K
                  refine wpAny_ready (rs := [12]) (by kernel_rfl) (by simp) ?_
                  refine AllReady.cons rfl (fun K hK => ?_) AllReady.nil
                  go_simp
                  refine hK _ _ ?_
                  clear hK K
                  refine wpAny_done (by kernel_rfl) ?_ _
                  go_wp2_with fail
                  go_meet
                  exact ⟨rfl, rfl, (Below.refl w6.heap.size w6).drew.trans (HBN.out.trans (HBM.out.mono HBN.out.size))⟩
                · go_simp
                  refine hK _ _ ?_
                  clear hK K
                  refine wpAny_ready (rs := [5]) (by kernel_rfl) (by simp) ?_
                  refine AllReady.cons rfl (fun K hK => ?_) AllReady.nil
                  go_simp
                  go_wp2_with (go_at_call 25; refine (HDO.out _ i HB6D.out).mono ?_; rintro e wn ⟨⟨cs', rfl, hcs'⟩, hbn⟩; have HBN := Lib.hid hbn; have HCS := Lib.hid hcs'; obtain ⟨f0, f1, f2, f3, f4, f5, ff⟩ := RunAt.below HRUN.out.drew hbn HL6.out; clear hbn hcs' ff)
                  refine wpAny_ready (rs := [7]) (by kernel_rfl) (by simp) ?_
                  refine AllReady.cons rfl (fun K hK => ?_) AllReady.nil
                  go_simp
                  go_wp2_with (go_at_call 15; refine (ends_lit cs' (does i) (by rw [← HDF.out i]; exact HCS.out) ⟨part, i, xb, -1, 0, false⟩ e0 c0 HEN.out _).mono ?_; rintro e wm ⟨rfl, hbm⟩; have HBM := Lib.hid hbm; clear hbm)
                  refine wpAny_ready (rs := [8]) (by kernel_rfl) (by simp) ?_
                  refine AllReady.cons rfl (fun K hK => ?_) AllReady.nil
                  go_simp
                  refine hK _ _ ?_
                  clear hK K
                  refine wpAny_take (i := 9) (v := ?_) rfl (by kernel_rfl) (by kernel_rfl) (by kernel_rfl) (fun _ _ _ h => h) (Or.inl ⟨by kernel_rfl, ?_⟩) ?_; rotate_left; · (intro w; go_simp; try with_reducible rfl)
                  refine wpAny_take (i := 10) (v := ?_) rfl (by kernel_rfl) (by kernel_rfl) (by kernel_rfl) (fun _ _ _ h => h) (Or.inl ⟨by kernel_rfl, ?_⟩) ?_; rotate_left; · (intro w; go_simp; try with_reducible rfl)
                  refine wpAny_ready (rs := [11]) (by kernel_rfl) (by simp) ?_
                  refine AllReady.cons rfl (fun K hK => ?_) AllReady.nil
                  go_simp
                  refine hK _ _ ?_
                  clear hK K
                  refine wpAny_ready (rs := [12]) (by kernel_rfl) (by simp) ?_
                  refine AllReady.cons rfl (fun K hK => ?_) AllReady.nil
                  go_simp
                  refine hK _ _ ?_
                  clear hK K
                  refine wpAny_done (by kernel_rfl) ?_ _
                  go_wp2_with fail
                  go_meet
                  exact ⟨rfl, rfl, (Below.refl w6.heap.size w6).drew.trans (HBN.out.trans (HBM.out.mono HBN.out.size))⟩
              · go_simp
                refine hK _ _ ?_
                clear hK K
                refine wpAny_ready (rs := [1]) (by kernel_rfl) (by simp) ?_
                refine AllReady.cons rfl (fun K hK => ?_) AllReady.nil
                rw [if_pos (by kernel_rfl)]
                refine wp_load_row 51 (.tmp 9) rfl (w.heap.size + 1) rfl 51 cu (0, 0) _ HU.out Try.underlying51 rfl (by rw [HUS.out]; exact sizeUnit) ?_
                refine hK _ _ ?_
                clear hK K
                refine wpAny_ready (rs := [5]) (by kernel_rfl) (by simp) ?_
                refine AllReady.cons rfl (fun K hK => ?_) AllReady.nil
                go_simp
                go_wp2_with (go_at_call 25; refine (HDO.out _ i HB6D.out).mono ?_; rintro e wn ⟨⟨cs', rfl, hcs'⟩, hbn⟩; have HBN := Lib.hid hbn; have HCS := Lib.hid hcs'; obtain ⟨f0, f1, f2, f3, f4, f5, ff⟩ := RunAt.below HRUN.out.drew hbn HL6.out; clear hbn hcs' ff)
                refine wpAny_ready (rs := [7]) (by kernel_rfl) (by simp) ?_
                refine AllReady.cons rfl (fun K hK => ?_) AllReady.nil
                go_simp
                go_wp2_with (go_at_call 15; refine (ends_lit cs' (does i) (by rw [← HDF.out i]; exact HCS.out) ⟨part, i, xb, -1, 0, false⟩ e0 c0 HEN.out _).mono ?_; rintro e wm ⟨rfl, hbm⟩; have HBM := Lib.hid hbm; clear hbm)
                refine wpAny_ready (rs := [8]) (by kernel_rfl) (by simp) ?_
                refine AllReady.cons rfl (fun K hK => ?_) AllReady.nil
                go_simp
                refine hK _ _ ?_
                clear hK K
                refine wpAny_take (i := 9) (v := ?_) rfl (by kernel_rfl) (by kernel_rfl) (by kernel_rfl) (fun _ _ _ h => h) (Or.inl ⟨by kernel_rfl, ?_⟩) ?_; rotate_left; · (intro w; go_simp; try with_reducible rfl)
                refine wpAny_take (i := 10) (v := ?_) rfl (by kernel_rfl) (by kernel_rfl) (by kernel_rfl) (fun _ _ _ h => h) (Or.inl ⟨by kernel_rfl, ?_⟩) ?_; rotate_left; · (intro w; go_simp; try with_reducible rfl)
                refine wpAny_ready (rs := [11]) (by kernel_rfl) (by simp) ?_
                refine AllReady.cons rfl (fun K hK => ?_) AllReady.nil
                go_simp
                refine hK _ _ ?_
                clear hK K
                refine wpAny_ready (rs := [12]) (by kernel_rfl) (by simp) ?_
                refine AllReady.cons rfl (fun K hK => ?_) AllReady.nil
                go_simp
                refine hK _ _ ?_
                clear hK K
                refine wpAny_done (by kernel_rfl) ?_ _
                go_wp2_with fail
                go_meet
                exact ⟨rfl, rfl, (Below.refl w6.heap.size w6).drew.trans (HBN.out.trans (HBM.out.mono HBN.out.size))⟩
            · rw [if_pos (by kernel_rfl)]
              refine wp_load_row 51 (.tmp 9) rfl (w.heap.size + 1) rfl 51 cu (0, 0) _ HU.out Try.underlying51 rfl (by rw [HUS.out]; exact sizeUnit) ?_
              refine hK _ _ ?_
              clear hK K
              refine wpAny_ready (rs := [0, 6]) (by kernel_rfl) (by simp) ?_
              refine AllReady.cons rfl (fun K hK => ?_) (AllReady.cons rfl (fun K hK => ?_) AllReady.nil)
              · go_simp
                refine hK _ _ ?_
                clear hK K
                refine wpAny_ready (rs := [5, 6]) (by kernel_rfl) (by simp) ?_
                refine AllReady.cons rfl (fun K hK => ?_) (AllReady.cons rfl (fun K hK => ?_) AllReady.nil)
                · go_simp
                  go_wp2_with (go_at_call 25; refine (HDO.out _ i HB6D.out).mono ?_; rintro e wn ⟨⟨cs', rfl, hcs'⟩, hbn⟩; have HBN := Lib.hid hbn; have HCS := Lib.hid hcs'; obtain ⟨f0, f1, f2, f3, f4, f5, ff⟩ := RunAt.below HRUN.out.drew hbn HL6.out; clear hbn hcs' ff)
                  refine wpAny_ready (rs := [6]) (by kernel_rfl) (by simp) ?_
                  refine AllReady.cons rfl (fun K hK => ?_) AllReady.nil
                  go_simp
                  refine hK _ _ ?_
                  clear hK K
                  refine wpAny_ready (rs := [7]) (by kernel_rfl) (by simp) ?_
                  refine AllReady.cons rfl (fun K hK => ?_) AllReady.nil
                  go_simp
                  go_wp2_with (go_at_call 15; refine (ends_lit cs' (does i) (by rw [← HDF.out i]; exact HCS.out) ⟨part, i, xb, -1, 0, false⟩ e0 c0 HEN.out _).mono ?_; rintro e wm ⟨rfl, hbm⟩; have HBM := Lib.hid hbm; clear hbm)
                  refine wpAny_ready (rs := [8]) (by kernel_rfl) (by simp) ?_
                  refine AllReady.cons rfl (fun K hK => ?_) AllReady.nil
                  go_simp
                  refine hK _ _ ?_
                  clear hK K
                  refine wpAny_take (i := 9) (v := ?_) rfl (by kernel_rfl) (by kernel_rfl) (by kernel_rfl) (fun _ _ _ h => h) (Or.inl ⟨by kernel_rfl, ?_⟩) ?_; rotate_left; · (intro w; go_simp; try with_reducible rfl)
                  refine wpAny_take (i := 10) (v := ?_) rfl (by kernel_rfl) (by kernel_rfl) (by kernel_rfl) (fun _ _ _ h => h) (Or.inl ⟨by kernel_rfl, ?_⟩) ?_; rotate_left; · (intro w; go_simp; try with_reducible rfl)
                  refine wpAny_ready (rs := [11]) (by kernel_rfl) (by simp) ?_
                  refine AllReady.cons rfl (fun K hK => ?_) AllReady.nil
                  go_simp
                  refine hK _ _ ?_
                  clear hK K
                  refine wpAny_ready (rs := [12]) (by kernel_rfl) (by simp) ?_
                  refine AllReady.cons rfl (fun K hK => ?_) AllReady.nil
                  go_simp
                  refine hK _ _ ?_
                  clear hK K
                  refine wpAny_done (by kernel_rfl) ?_ _
                  go_wp2_with fail
                  go_meet
                  exact ⟨rfl, rfl, (Below.refl w6.heap.size w6).drew.trans (HBN.out.trans (HBM.out.mono HBN.out.size))⟩
                · go_simp
                  refine hK _ _ ?_
                  clear hK K
                  refine wpAny_ready (rs := [5]) (by kernel_rfl) (by simp) ?_
                  refine AllReady.cons rfl (fun K hK => ?_) AllReady.nil
                  go_simp
                  go_wp2_with (go_at_call 25; refine (HDO.out _ i HB6D.out).mono ?_; rintro e wn ⟨⟨cs', rfl, hcs'⟩, hbn⟩; have HBN := Lib.hid hbn; have HCS := Lib.hid hcs'; obtain ⟨f0, f1, f2, f3, f4, f5, ff⟩ := RunAt.below HRUN.out.drew hbn HL6.out; clear hbn hcs' ff)
                  refine wpAny_ready (rs := [7]) (by kernel_rfl) (by simp) ?_
                  refine AllReady.cons rfl (fun K hK => ?_) AllReady.nil
                  go_simp
                  go_wp2_with (go_at_call 15; refine (ends_lit cs' (does i) (by rw [← HDF.out i]; exact HCS.out) ⟨part, i, xb, -1, 0, false⟩ e0 c0 HEN.out _).mono ?_; rintro e wm ⟨rfl, hbm⟩; have HBM := Lib.hid hbm; clear hbm)
                  refine wpAny_ready (rs := [8]) (by kernel_rfl) (by simp) ?_
                  refine AllReady.cons rfl (fun K hK => ?_) AllReady.nil
                  go_simp
                  refine hK _ _ ?_
                  clear hK K
                  refine wpAny_take (i := 9) (v := ?_) rfl (by kernel_rfl) (by kernel_rfl) (by kernel_rfl) (fun _ _ _ h => h) (Or.inl ⟨by kernel_rfl, ?_⟩) ?_; rotate_left; · (intro w; go_simp; try with_reducible rfl)
                  refine wpAny_take (i := 10) (v := ?_) rfl (by kernel_rfl) (by kernel_rfl) (by kernel_rfl) (fun _ _ _ h => h) (Or.inl ⟨by kernel_rfl, ?_⟩) ?_; rotate_left; · (intro w; go_simp; try with_reducible rfl)
                  refine wpAny_ready (rs := [11]) (by kernel_rfl) (by simp) ?_
                  refine AllReady.cons rfl (fun K hK => ?_) AllReady.nil
                  go_simp
                  refine hK _ _ ?_
                  clear hK K
                  refine wpAny_ready (rs := [12]) (by kernel_rfl) (by simp) ?_
                  refine AllReady.cons rfl (fun K hK => ?_) AllReady.nil
                  go_simp
                  refine hK _ _ ?_
                  clear hK K
                  refine wpAny_done (by kernel_rfl) ?_ _
                  go_wp2_with fail
                  go_meet
                  exact ⟨rfl, rfl, (Below.refl w6.heap.size w6).drew.trans (HBN.out.trans (HBM.out.mono HBN.out.size))⟩
              · go_simp
                refine hK _ _ ?_
                clear hK K
                refine wpAny_ready (rs := [0]) (by kernel_rfl) (by simp) ?_
                refine AllReady.cons rfl (fun K hK => ?_) AllReady.nil
                go_simp
                refine hK _ _ ?_
                clear hK K
                refine wpAny_ready (rs := [5]) (by kernel_rfl) (by simp) ?_
                refine AllReady.cons rfl (fun K hK => ?_) AllReady.nil
                go_simp
                go_wp2_with (go_at_call 25; refine (HDO.out _ i HB6D.out).mono ?_; rintro e wn ⟨⟨cs', rfl, hcs'⟩, hbn⟩; have HBN := Lib.hid hbn; have HCS := Lib.hid hcs'; obtain ⟨f0, f1, f2, f3, f4, f5, ff⟩ := RunAt.below HRUN.out.drew hbn HL6.out; clear hbn hcs' ff)
                refine wpAny_ready (rs := [7]) (by kernel_rfl) (by simp) ?_
                refine AllReady.cons rfl (fun K hK => ?_) AllReady.nil
                go_simp
                go_wp2_with (go_at_call 15; refine (ends_lit cs' (does i) (by rw [← HDF.out i]; exact HCS.out) ⟨part, i, xb, -1, 0, false⟩ e0 c0 HEN.out _).mono ?_; rintro e wm ⟨rfl, hbm⟩; have HBM := Lib.hid hbm; clear hbm)
                refine wpAny_ready (rs := [8]) (by kernel_rfl) (by simp) ?_
                refine AllReady.cons rfl (fun K hK => ?_) AllReady.nil
                go_simp
                refine hK _ _ ?_
                clear hK K
                refine wpAny_take (i := 9) (v := ?_) rfl (by kernel_rfl) (by kernel_rfl) (by kernel_rfl) (fun _ _ _ h => h) (Or.inl ⟨by kernel_rfl, ?_⟩) ?_; rotate_left; · (intro w; go_simp; try with_reducible rfl)
                refine wpAny_take (i := 10) (v := ?_) rfl (by kernel_rfl) (by kernel_rfl) (by kernel_rfl) (fun _ _ _ h => h) (Or.inl ⟨by kernel_rfl, ?_⟩) ?_; rotate_left; · (intro w; go_simp; try with_reducible rfl)
                refine wpAny_ready (rs := [11]) (by kernel_rfl) (by simp) ?_
                refine AllReady.cons rfl (fun K hK => ?_) AllReady.nil
                go_simp
                refine hK _ _ ?_
                clear hK K
                refine wpAny_ready (rs := [12]) (by kernel_rfl) (by simp) ?_
                refine AllReady.cons rfl (fun K hK => ?_) AllReady.nil
                go_simp
                refine hK _ _ ?_
                clear hK K
                refine wpAny_done (by kernel_rfl) ?_ _
                go_wp2_with fail
                go_meet
                exact ⟨rfl, rfl, (Below.refl w6.heap.size w6).drew.trans (HBN.out.trans (HBM.out.mono HBN.out.size))⟩
            · go_simp
              refine hK _ _ ?_
              clear hK K
              refine wpAny_ready (rs := [0, 1]) (by kernel_rfl) (by simp) ?_
              refine AllReady.cons rfl (fun K hK => ?_) (AllReady.cons rfl (fun K hK => ?_) AllReady.nil)
              · go_simp
                refine hK _ _ ?_
                clear hK K
                refine wpAny_ready (rs := [1]) (by kernel_rfl) (by simp) ?_
                refine AllReady.cons rfl (fun K hK => ?_) AllReady.nil
                rw [if_pos (by kernel_rfl)]
                refine wp_load_row 51 (.tmp 9) rfl (w.heap.size + 1) rfl 51 cu (0, 0) _ HU.out Try.underlying51 rfl (by rw [HUS.out]; exact sizeUnit) ?_
                refine hK _ _ ?_
                clear hK K
                refine wpAny_ready (rs := [5]) (by kernel_rfl) (by simp) ?_
                refine AllReady.cons rfl (fun K hK => ?_) AllReady.nil
                go_simp
                go_wp2_with (go_at_call 25; refine (HDO.out _ i HB6D.out).mono ?_; rintro e wn ⟨⟨cs', rfl, hcs'⟩, hbn⟩; have HBN := Lib.hid hbn; have HCS := Lib.hid hcs'; obtain ⟨f0, f1, f2, f3, f4, f5, ff⟩ := RunAt.below HRUN.out.drew hbn HL6.out; clear hbn hcs' ff)
                refine wpAny_ready (rs := [7]) (by kernel_rfl) (by simp) ?_
                refine AllReady.cons rfl (fun K hK => ?_) AllReady.nil
                go_simp
                go_wp2_with (go_at_call 15; refine (ends_lit cs' (does i) (by rw [← HDF.out i]; exact HCS.out) ⟨part, i, xb, -1, 0, false⟩ e0 c0 HEN.out _).mono ?_; rintro e wm ⟨rfl, hbm⟩; have HBM := Lib.hid hbm; clear hbm)
                refine wpAny_ready (rs := [8]) (by kernel_rfl) (by simp) ?_
                refine AllReady.cons rfl (fun K hK => ?_) AllReady.nil
                go_simp
                refine hK _ _ ?_
                clear hK K
                refine wpAny_take (i := 9) (v := ?_) rfl (by kernel_rfl) (by kernel_rfl) (by kernel_rfl) (fun _ _ _ h => h) (Or.inl ⟨by kernel_rfl, ?_⟩) ?_; rotate_left; · (intro w; go_simp; try with_reducible rfl)
                refine wpAny_take (i := 10) (v := ?_) rfl (by kernel_rfl) (by kernel_rfl) (by kernel_rfl) (fun _ _ _ h => h) (Or.inl ⟨by kernel_rfl, ?_⟩) ?_; rotate_left; · (intro w; go_simp; try with_reducible rfl)
                refine wpAny_ready (rs := [11]) (by kernel_rfl) (by simp) ?_
                refine AllReady.cons rfl (fun K hK => ?_) AllReady.nil
                go_simp
                refine hK _ _ ?_
                clear hK K
                refine wpAny_ready (rs := [12]) (by kernel_rfl) (by simp) ?_
                refine AllReady.cons rfl (fun K hK => ?_) AllReady.nil
                go_simp
                refine hK _ _ ?_
                clear hK K
                refine wpAny_done (by kernel_rfl) ?_ _
                go_wp2_with fail
                go_meet
                exact ⟨rfl, rfl, (Below.refl w6.heap.size w6).drew.trans (HBN.out.trans (HBM.out.mono HBN.out.size))⟩
              · rw [if_pos (by kernel_rfl)]
                refine wp_load_row 51 (.tmp 9) rfl (w.heap.size + 1) rfl 51 cu (0, 0) _ HU.out Try.underlying51 rfl (by rw [HUS.out]; exact sizeUnit) ?_
                refine hK _ _ ?_
                clear hK K
                refine wpAny_ready (rs := [0]) (by kernel_rfl) (by simp) ?_
                refine AllReady.cons rfl (fun K hK => ?_) AllReady.nil
                go_simp
                refine hK _ _ ?_
                clear hK K
                refine wpAny_ready (rs := [5]) (by kernel_rfl) (by simp) ?_
                refine AllReady.cons rfl (fun K hK => ?_) AllReady.nil
                go_simp
                go_wp2_with (go_at_call 25; refine (HDO.out _ i HB6D.out).mono ?_; rintro e wn ⟨⟨cs', rfl, hcs'⟩, hbn⟩; have HBN := Lib.hid hbn; have HCS := Lib.hid hcs'; obtain ⟨f0, f1, f2, f3, f4, f5, ff⟩ := RunAt.below HRUN.out.drew hbn HL6.out; clear hbn hcs' ff)
                refine wpAny_ready (rs := [7]) (by kernel_rfl) (by simp) ?_
                refine AllReady.cons rfl (fun K hK => ?_) AllReady.nil
                go_simp
                go_wp2_with (go_at_call 15; refine (ends_lit cs' (does i) (by rw [← HDF.out i]; exact HCS.out) ⟨part, i, xb, -1, 0, false⟩ e0 c0 HEN.out _).mono ?_; rintro e wm ⟨rfl, hbm⟩; have HBM := Lib.hid hbm; clear hbm)
                refine wpAny_ready (rs := [8]) (by kernel_rfl) (by simp) ?_
                refine AllReady.cons rfl (fun K hK => ?_) AllReady.nil
                go_simp
                refine hK _ _ ?_
                clear hK K
                refine wpAny_take (i := 9) (v := ?_) rfl (by kernel_rfl) (by kernel_rfl) (by kernel_rfl) (fun _ _ _ h => h) (Or.inl ⟨by kernel_rfl, ?_⟩) ?_; rotate_left; · (intro w; go_simp; try with_reducible rfl)
                refine wpAny_take (i := 10) (v := ?_) rfl (by kernel_rfl) (by kernel_rfl) (by kernel_rfl) (fun _ _ _ h => h) (Or.inl ⟨by kernel_rfl, ?_⟩) ?_; rotate_left; · (intro w; go_simp; try with_reducible rfl)
                refine wpAny_ready (rs := [11]) (by kernel_rfl) (by simp) ?_
                refine AllReady.cons rfl (fun K hK => ?_) AllReady.nil
                go_simp
                refine hK _ _ ?_
                clear hK K
                refine wpAny_ready (rs := [12]) (by kernel_rfl) (by simp) ?_
                refine AllReady.cons rfl (fun K hK => ?_) AllReady.nil
                go_simp
                refine hK _ _ ?_
                clear hK K
                refine wpAny_done (by kernel_rfl) ?_ _
                go_wp2_with fail
                go_meet
                exact ⟨rfl, rfl, (Below.refl w6.heap.size w6).drew.trans (HBN.out.trans (HBM.out.mono HBN.out.size))⟩
          obtain ⟨rfl, rfl, hbx⟩ := hcut
          clear q0 q1 q2 c0' c1 c2 c3 c4 c5 cf HRUN HU
          have hr := (hbx.block wr.heap.size HLW.out).trans HR216.out
          have z0 : wc.cell? ⟨wr.heap.size, 0, none⟩ = some (.int .i64 i) := by rw [cell_of_row wc _ 0 _ _ _ hr]; rfl
          have z1 : wc.cell? ⟨wr.heap.size, 1, none⟩ = some (.int .i64 xb) := by rw [cell_of_row wc _ 1 _ _ _ hr]; rfl
          have z2 : wc.cell? ⟨wr.heap.size, 2, none⟩ = some (.int .i64 xe) := by rw [cell_of_row wc _ 2 _ _ _ hr]; rfl
          have z3 : wc.cell? ⟨wr.heap.size, 3, none⟩ = some (.int .i64 xc) := by rw [cell_of_row wc _ 3 _ _ _ hr]; rfl
          have HBC := Lib.hid (HB36.out.trans (hbx.mono HB36.out.size))
          have HBCW := Lib.hid (HB3.out.trans (HBC.out.mono HB3.out.size))
          have HLC : Hid (wr.heap.size < wc.heap.size) := Lib.hid (Nat.lt_of_lt_of_le HLW.out hbx.size)
          have hge : ¬ xe < xb := by have := HR3.out; omega
          have hle : ¬ over < xe := by have := HR4.out; omega
          clear hr hbx
          by_cases hlate : lateP over e0
          · obtain ⟨l1, l2, l3⟩ := HR5.out hlate
            exact absurd l3 (by decide)
          · obtain ⟨n1, n2, n3⟩ := HR6.out hlate
            have hF1 : ¬ over < e0 := fun h => hlate (.inl h)
            have hF2 : ¬ e0 = 1099511627776 := fun h => hlate (.inr h)
            have hF1b : decide (over < e0) = false := by simp [hF1]
            have hF2b : (e0 == 1099511627776) = false := by simp [hF2]
            clear hlate
            subst n1
            subst n2
            obtain ⟨bl, off, rfl, hbl, hex⟩ := HEX.out.at_ (by omega)
            have hid : i < ds.length := by rw [HEX.out.len]; omega
            obtain ⟨d0, d1⟩ := hex i ds[i] (List.getElem?_eq_getElem hid)
            have hgd : ds.getD i (false, none, 0, 0) = ds[i] := by simp [List.getD, hid]
            rw [← HBCW.out.cell (p := ⟨bl, off + i * 2, none⟩) hbl] at d0
            rw [← HBCW.out.cell (p := ⟨bl, off + i * 2 + 1, none⟩) hbl] at d1
            have HGI : Hid (∀ c, goodB (ds[i]).1 c zs = good i c) := Lib.hid fun c => by rw [← HGF.out i c, hgd]
            generalize ds[i] = d at d0 d1 HGI
            obtain ⟨dd, da, dn, dc⟩ := d
            dsimp only at d0 d1
            clear hex hgd
            have hilln : (i : Int) < (m : Int) := by omega
            generalize hgg : good i xc = gg at n3
            have HGO : Hid (∀ W, Below w.heap.size w W → Calls Try.prog 18 #[.agg #[.bool dd, .slice da dn dc], .int .i64 xc, .slice sa sn sc] W fun e w' => e = .returned (.bool gg) ∧ Below W.heap.size W w') := by
              refine Lib.hid fun W hW => ?_
              have h := HGOOD.out W (dd, da, dn, dc) xc hW
              rw [← hgg, ← HGI.out xc]
              exact h
            clear hgg
            have hgf : gg = true := n3.2 (.inr trivial)
            subst hgf
            clear n3
            by_cases him : i + 1 = m
            · have himb : decide ((i : Int) < (m : Int) - 1) = false := by simp; omega
              have him2 : ¬ (i : Int) < (m : Int) - 1 := by omega
              go_wp2_with (go_at_call 18; fail)
              refine (HGO.out _ HBCW.out).mono ?_
              rintro e w8 ⟨rfl, hb8⟩
              have y0 := (hb8.cell (p := ⟨wr.heap.size, 0, none⟩) HLC.out).trans z0
              have y1 := (hb8.cell (p := ⟨wr.heap.size, 1, none⟩) HLC.out).trans z1
              have y2 := (hb8.cell (p := ⟨wr.heap.size, 2, none⟩) HLC.out).trans z2
              have y3 := (hb8.cell (p := ⟨wr.heap.size, 3, none⟩) HLC.out).trans z3
              have HB8 := Lib.hid (HBC.out.trans (hb8.mono HBC.out.size))
              clear hb8 z0 z1 z2 z3 d0 d1
              go_wp2_with fail
              go_roundw
              case rel => exact ⟨i + 1, xe, by go_num, rfl, by omega, HB8.out, HR7.out⟩
              case measure => simp [intOf]; omega
            · have himb : decide ((i : Int) < (m : Int) - 1) = true := by simp; omega
              have him2 : (i : Int) < (m : Int) - 1 := by omega
              go_wp2_with (go_at_call 18; fail)
              refine (HGO.out _ HBCW.out).mono ?_
              rintro e w8 ⟨rfl, hb8⟩
              have y0 := (hb8.cell (p := ⟨wr.heap.size, 0, none⟩) HLC.out).trans z0
              have y1 := (hb8.cell (p := ⟨wr.heap.size, 1, none⟩) HLC.out).trans z1
              have y2 := (hb8.cell (p := ⟨wr.heap.size, 2, none⟩) HLC.out).trans z2
              have y3 := (hb8.cell (p := ⟨wr.heap.size, 3, none⟩) HLC.out).trans z3
              have HB8 := Lib.hid (HBC.out.trans (hb8.mono HBC.out.size))
              clear hb8 z0 z1 z2 z3 d0 d1
              go_wp2_with fail
              go_roundw
              case rel => exact ⟨i + 1, xe, by go_num, rfl, by omega, HB8.out, HR7.out⟩
              case measure => simp [intOf]; omega
        · have hlti : ¬ (i : Int) < (m : Int) := by omega
          go_wp2_with fail
          exact bodyPost_ret (v := .bool true) (by simp [results, Try.results7, go_sem]) rfl ⟨rfl, HB3.out.trans (HBR.out.mono HB3.out.size)⟩

end Go.Proofs.Ytohgnmpmledljaa
