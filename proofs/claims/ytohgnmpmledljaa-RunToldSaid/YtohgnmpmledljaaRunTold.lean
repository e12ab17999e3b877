/-
  The walk of RunTold.
-/
import Derived.Test.YtohgnmpmledljaaRunMore
import Derived.Test.YtohgnmpmledljaaRunPlain
namespace Go.Proofs.Ytohgnmpmledljaa
open Go.ChangeShapes Go.WideShapes Go.ChangeAt Go.RowKit

structure TSt (w : World) (b9 : Nat) (un : ByteArray) (p n tt L C R D : Int) (sa : Option Addr) (N sc : Nat) (now : Int) (wx : World) : Prop where
  lo : Below w.heap.size w wx
  lt0 : w.heap.size < wx.heap.size
  lt9 : b9 < wx.heap.size
  act : ActAt wx w.heap.size un p n tt L C R D sa N sc
  run : RunAt wx b9 2 0 now (-1) 0 false

theorem TSt.below {w wc wx : World} {b9 : Nat} {un : ByteArray} {p n tt L C R D : Int} {sa : Option Addr} {N sc : Nat} {now : Int} (h : TSt w b9 un p n tt L C R D sa N sc now wc) (hb : Below wc.heap.size wc wx) : TSt w b9 un p n tt L C R D sa N sc now wx :=
  ⟨h.lo.trans (hb.mono h.lo.size), Nat.lt_of_lt_of_le h.lt0 hb.size, Nat.lt_of_lt_of_le h.lt9 hb.size, h.act.below hb h.lt0, h.run.below hb h.lt9⟩

set_option maxRecDepth 100000 in
set_option maxHeartbeats 4000000 in
theorem told_any (cs : Array Value) (A : ActM) (now t u : Int) (w : World) (hin : ActIn w cs A) :
    Calls Try.prog 4 #[.agg cs, .int .i64 now, .int .i64 t, .int .i64 u] w fun e w' => e = .returned (.bool true) ∧ Below w.heap.size w w' := by
  obtain ⟨⟨un, p, n, tt, sa, sc, rfl⟩, hsays, htx⟩ := hin
  have HLAW := Lib.hid (told_law A now t u)
  obtain ⟨L, C, R, D, S⟩ := A
  have HC := Lib.hid (actRow_cells un p n tt ⟨L, C, R, D, S⟩ sa sc)
  have HMAY : Hid (∀ W, Below w.heap.size w W → Calls Try.prog 10 #[.agg #[.string un, .int .i64 p, .int .i64 n, .int .i64 tt, .int .i64 L, .int .i64 C, .int .i64 R, .int .i64 D, .slice sa S.length sc], .int .i64 now] W (SomeNow ⟨L, C, R, D, S⟩ now W)) :=
    Lib.hid fun W hW => mayLaw_row un p n tt ⟨L, C, R, D, S⟩ sa sc now W (hsays.later hW hW.size) htx
  have HENDS : Hid (∀ W r x y, endsP ⟨L, C, R, D, S⟩ r = (x, y) → Calls Try.prog 15 #[.agg #[.string un, .int .i64 p, .int .i64 n, .int .i64 tt, .int .i64 L, .int .i64 C, .int .i64 R, .int .i64 D, .slice sa S.length sc], r.val] W fun e w' => e = .returned (.tuple #[.int .i64 x, .int .i64 y]) ∧ Below W.heap.size W w') :=
    Lib.hid fun W r x y h => ends_lit _ ⟨L, C, R, D, S⟩ HC.out r x y h W
  clear hsays htx HC
  unfold actRow
  dsimp only
  generalize S.length = N at *
  go_enter Try.func4, Try.ntmps4
  go_wp2_with (first
    | (go_at_call 9; refine (shown_true _).mono ?_; rintro e w1 ⟨rfl, hb1⟩
       have hr1 := (hb1.block w.heap.size (by simp)).trans (heap_alloc_new w _)
       have HR1 := Lib.hid hr1
       obtain ⟨a0, a1, a2, a3, a4, a5, a6, a7, a8⟩ := ActAt.of_row hr1
       have HL0 : Hid (w.heap.size < w1.heap.size) := Lib.hid (by have := hb1.size; simp at this; omega)
       have HB1 := Lib.hid (((Below.refl _ _).alloc (Nat.le_refl _) _).trans (hb1.mono (by simp)))
       clear hb1 hr1)
    | (go_at_call 10; fail))
  refine (HMAY.out _ HB1.out).mono ?_
  rintro e w2 ⟨bb, rfl, hb2, hm⟩
  have HB2 := Lib.hid (HB1.out.trans (hb2.mono HB1.out.size))
  have HL1 : Hid (w.heap.size < w1.heap.size) := Lib.hid HL0.out
  have HA2 := Lib.hid ((ActAt.of_row HR1.out).below hb2 HL1.out)
  have HL2 : Hid (w.heap.size < w2.heap.size) := Lib.hid (Nat.lt_of_lt_of_le HL1.out hb2.size)
  clear a0 a1 a2 a3 a4 a5 a6 a7 a8 hb2 HR1 HB1 HL1 HL0
  cases bb
  · clear hm
    go_wp2_with fail
    exact bodyPost_ret (v := .bool true) (by simp [results, Try.results4, go_sem]) rfl ⟨rfl, HB2.out⟩
  have HM := Lib.hid (hm rfl)
  clear hm
  by_cases h1 : t < now
  · go_wp2_with fail
    exact bodyPost_ret (v := .bool true) (by simp [results, Try.results4, go_sem]) rfl ⟨rfl, HB2.out⟩
  by_cases h2 : u < t
  · go_wp2_with fail
    exact bodyPost_ret (v := .bool true) (by simp [results, Try.results4, go_sem]) rfl ⟨rfl, HB2.out⟩
  by_cases h3 : 6311433600 ≤ u
  · go_wp2_with fail
    exact bodyPost_ret (v := .bool true) (by simp [results, Try.results4, go_sem]) rfl ⟨rfl, HB2.out⟩
  have hlaw := HLAW.out HM.out (by omega) (by omega) (by omega)
  have ht0 : 0 ≤ t := by have := HM.out.2.1; omega
  have HT1 : Hid (tellP ⟨2, 0, now, -1, 0, false⟩ t = ⟨2, 0, now, t, 0, false⟩) := Lib.hid (by simp [tellP])
  have HT2 : Hid (tellP ⟨2, 0, now, -1, 0, false⟩ u = ⟨2, 0, now, u, 0, false⟩) := Lib.hid (by simp [tellP])
  have HT3 : Hid (tellP ⟨2, 0, now, t, 0, false⟩ u = ⟨2, 0, now, t, 0, false⟩) := Lib.hid (by unfold tellP; rw [if_neg (by simp only []; omega)])
  generalize hO : endsP ⟨L, C, R, D, S⟩ ⟨2, 0, now, -1, 0, false⟩ = O at *
  generalize hX : endsP ⟨L, C, R, D, S⟩ ⟨2, 0, now, t, 0, false⟩ = X at *
  generalize hY : endsP ⟨L, C, R, D, S⟩ ⟨2, 0, now, u, 0, false⟩ = Y at *
  obtain ⟨o0, o1⟩ := O
  obtain ⟨x0, x1⟩ := X
  obtain ⟨y0, y1⟩ := Y
  have HO := Lib.hid hO
  have HX := Lib.hid hX
  have HY := Lib.hid hY
  have HZ := Lib.hid hlaw
  clear hO hX hY hlaw HLAW HM ht0
  have HN1 := Lib.hid h1
  have HT0 : Hid (∀ w3, Below w2.heap.size w2 w3 → ∀ w4, Below (w3.heap.size + 1) (w3.alloc (.cells #[.int .i64 2, .int .i64 0, .int .i64 now, .int .i64 (-1), .int .i64 0, .bool false] 28)) w4 → TSt w w3.heap.size un p n tt L C R D sa N sc now w4) := by
    refine Lib.hid fun w3 hb3 w4 hb4 => ?_
    have hz := hb3.size
    have hz4 := hb4.size
    have hl := HL2.out
    simp at hz4
    have hbz : Below w3.heap.size w3 w4 := ((Below.refl _ _).alloc (Nat.le_refl _) _).trans (hb4.mono (by omega))
    have hb24 : Below w2.heap.size w2 w4 := hb3.trans (hbz.mono hz)
    refine ⟨HB2.out.trans (hb24.mono HB2.out.size), by omega, by omega, HA2.out.below hb24 HL2.out, RunAt.of_row ((hb4.block _ (by omega)).trans (heap_alloc_new w3 _))⟩
  go_wp2_with (first
    | (go_at_call 11; refine (begin_any _ _ _ _).mono ?_; rintro e w3 ⟨rfl, hb3⟩; obtain ⟨a0, a1, a2, a3, a4, a5, a6, a7, a8⟩ := HA2.out.below hb3 HL2.out; have hl3 := Nat.lt_of_lt_of_le HL2.out hb3.size; have HT1' := Lib.hid (HT0.out _ hb3); clear hb3; unfold beginP RunM.val)
    | (go_at_call 15; fail))
  refine (HENDS.out _ ⟨2, 0, now, -1, 0, false⟩ o0 o1 HO.out).mono ?_
  rintro e w5 ⟨rfl, hb5⟩
  have HT := Lib.hid (HT1'.out w5 (by simpa using hb5))
  clear a0 a1 a2 a3 a4 a5 a6 a7 a8 hb5 HT1' HT0 hl3 HO HB2 HA2 HL2
  generalize w3.heap.size = b9 at *
  go_upto_region 7 with fail
  obtain ⟨a0, a1, a2, a3, a4, a5, a6, a7, a8⟩ := HT.out.act
  obtain ⟨c0, c1, c2, c3, c4, c5, cf⟩ := HT.out.run
  go_cut [12, 13] from 46 to 53 (fun s2 s3 wx => s2 = .int .i64 x0 ∧ s3 = .int .i64 x1 ∧ TSt w b9 un p n tt L C R D sa N sc now wx)
  case first =>
    go_region_with (first
      | (go_at_call 13; refine (tell_lit ⟨2, 0, now, -1, 0, false⟩ ⟨2, 0, now, t, 0, false⟩ t HT1.out _).mono ?_; rintro e wt ⟨rfl, hbt⟩; unfold RunM.val; have HBwt := Lib.hid hbt; obtain ⟨e0, e1, e2, e3, e4, e5, e6, e7, e8⟩ := ActAt.below HT.out.act.drew hbt HT.out.lt0; clear hbt)
      | (go_at_call 15; refine (HENDS.out _ ⟨2, 0, now, t, 0, false⟩ x0 x1 HX.out).mono ?_; rintro e wm ⟨rfl, hbm⟩; have HBM := Lib.hid hbm; clear hbm))
    all_goals (go_wp2_with fail; go_meet; exact ⟨rfl, rfl, HT.out.below ((Below.refl _ _).drew.trans (HBwt.out.trans (HBM.out.mono HBwt.out.size)))⟩)
  obtain ⟨rfl, rfl, ht⟩ := hcut
  clear HT a0 a1 a2 a3 a4 a5 a6 a7 a8 c0 c1 c2 c3 c4 c5 cf
  have HT := Lib.hid ht
  clear ht
  go_upto_region 8 with fail
  obtain ⟨a0, a1, a2, a3, a4, a5, a6, a7, a8⟩ := HT.out.act
  obtain ⟨c0, c1, c2, c3, c4, c5, cf⟩ := HT.out.run
  go_cut [14, 15] from 54 to 61 (fun s2 s3 wx => s2 = .int .i64 y0 ∧ s3 = .int .i64 y1 ∧ TSt w b9 un p n tt L C R D sa N sc now wx)
  case first =>
    go_region_with (first
      | (go_at_call 13; refine (tell_lit ⟨2, 0, now, -1, 0, false⟩ ⟨2, 0, now, u, 0, false⟩ u HT2.out _).mono ?_; rintro e wt ⟨rfl, hbt⟩; unfold RunM.val; have HBwt := Lib.hid hbt; obtain ⟨e0, e1, e2, e3, e4, e5, e6, e7, e8⟩ := ActAt.below HT.out.act.drew hbt HT.out.lt0; clear hbt)
      | (go_at_call 15; refine (HENDS.out _ ⟨2, 0, now, u, 0, false⟩ y0 y1 HY.out).mono ?_; rintro e wm ⟨rfl, hbm⟩; have HBM := Lib.hid hbm; clear hbm))
    all_goals (go_wp2_with fail; go_meet; exact ⟨rfl, rfl, HT.out.below ((Below.refl _ _).drew.trans (HBwt.out.trans (HBM.out.mono HBwt.out.size)))⟩)
  obtain ⟨rfl, rfl, ht⟩ := hcut
  clear HT a0 a1 a2 a3 a4 a5 a6 a7 a8 c0 c1 c2 c3 c4 c5 cf
  have HT := Lib.hid ht
  clear ht
  go_upto_region 9 with fail
  obtain ⟨a0, a1, a2, a3, a4, a5, a6, a7, a8⟩ := HT.out.act
  obtain ⟨c0, c1, c2, c3, c4, c5, cf⟩ := HT.out.run
  go_cut [16, 17] from 62 to 71 (fun s2 s3 wx => s2 = .int .i64 x0 ∧ s3 = .int .i64 x1 ∧ TSt w b9 un p n tt L C R D sa N sc now wx)
  case first =>
    go_region_with (first
      | (go_at_call_of 13 (Value.int IntKind.i64 u); refine (tell_lit ⟨2, 0, now, t, 0, false⟩ ⟨2, 0, now, t, 0, false⟩ u HT3.out _).mono ?_; rintro e wu ⟨rfl, hbt⟩; unfold RunM.val; have HBwu := Lib.hid hbt; obtain ⟨e0, e1, e2, e3, e4, e5, e6, e7, e8⟩ := ActAt.below (HT.out.act.drew.below HBwt.out HT.out.lt0) hbt (Nat.lt_of_lt_of_le HT.out.lt0 HBwt.out.size); clear hbt)
      | (go_at_call 13; refine (tell_lit ⟨2, 0, now, -1, 0, false⟩ ⟨2, 0, now, t, 0, false⟩ t HT1.out _).mono ?_; rintro e wt ⟨rfl, hbt⟩; unfold RunM.val; have HBwt := Lib.hid hbt; obtain ⟨e0, e1, e2, e3, e4, e5, e6, e7, e8⟩ := ActAt.below HT.out.act.drew hbt HT.out.lt0; clear hbt)
      | (go_at_call 15; refine (HENDS.out _ ⟨2, 0, now, t, 0, false⟩ x0 x1 HX.out).mono ?_; rintro e wm ⟨rfl, hbm⟩; have HBM := Lib.hid hbm; clear hbm))
    all_goals (go_wp2_with fail; go_meet; exact ⟨rfl, rfl, HT.out.below ((Below.refl _ _).drew.trans (HBwt.out.trans ((HBwu.out.trans (HBM.out.mono HBwu.out.size)).mono HBwt.out.size)))⟩)
  obtain ⟨rfl, rfl, ht⟩ := hcut
  clear HT a0 a1 a2 a3 a4 a5 a6 a7 a8 c0 c1 c2 c3 c4 c5 cf
  have HT := Lib.hid ht
  clear ht
  have hb := HT.out.lo
  have HB := Lib.hid hb
  clear HT hb
  obtain ⟨z1, z2, z3, z4⟩ := HZ.out
  clear HZ HX HY HT1 HT2 HT3 HENDS HMAY
  by_cases g1 : o0 ≤ t
  · have hmin : min o0 t = o0 := by omega
    have z5 : o0 ≤ x0 := by omega
    go_wp2_with fail
    exact bodyPost_ret (v := .bool true) (by simp [results, Try.results4, go_sem]) rfl ⟨rfl, HB.out⟩
  · have hmin : min o0 t = t := by omega
    have z5 : t ≤ x0 := by omega
    go_wp2_with fail
    exact bodyPost_ret (v := .bool true) (by simp [results, Try.results4, go_sem]) rfl ⟨rfl, HB.out⟩

end Go.Proofs.Ytohgnmpmledljaa
