/-
  The walk of RunTexts.
-/
import Derived.Test.YtohgnmpmledljaaRunSt
import Derived.Test.YtohgnmpmledljaaRunPlainT
namespace Go.Proofs.Ytohgnmpmledljaa
open Go.ChangeShapes Go.WideShapes Go.ChangeAt Go.RowKit

set_option maxRecDepth 100000 in
set_option maxHeartbeats 4000000 in
theorem texts_any (cs : Array Value) (A : ActM) (now tell : Int) (w : World) (hin : ActIn w cs A) :
    Calls Try.prog 5 #[.agg cs, .int .i64 now, .int .i64 tell] w fun e w' => e = .returned (.bool true) ∧ Below w.heap.size w w' := by
  obtain ⟨⟨un, p, n, tt, sa, sc, rfl⟩, hsays, htx⟩ := hin
  obtain ⟨L, C, R, D, S⟩ := A
  have HC := Lib.hid (actRow_cells un p n tt ⟨L, C, R, D, S⟩ sa sc)
  have HSAYS := Lib.hid hsays
  have HMAY : Hid (∀ W, Below w.heap.size w W → Calls Try.prog 10 #[.agg #[.string un, .int .i64 p, .int .i64 n, .int .i64 tt, .int .i64 L, .int .i64 C, .int .i64 R, .int .i64 D, .slice sa S.length sc], .int .i64 now] W (SomeNow ⟨L, C, R, D, S⟩ now W)) :=
    Lib.hid fun W hW => mayLaw_row un p n tt ⟨L, C, R, D, S⟩ sa sc now W (hsays.later hW hW.size) htx
  have HENDS : Hid (∀ W r x y, endsP ⟨L, C, R, D, S⟩ r = (x, y) → Calls Try.prog 15 #[.agg #[.string un, .int .i64 p, .int .i64 n, .int .i64 tt, .int .i64 L, .int .i64 C, .int .i64 R, .int .i64 D, .slice sa S.length sc], r.val] W fun e w' => e = .returned (.tuple #[.int .i64 x, .int .i64 y]) ∧ Below W.heap.size W w') :=
    Lib.hid fun W r x y h => ends_lit _ ⟨L, C, R, D, S⟩ HC.out r x y h W
  have HDUE : Hid (∀ W r x y, Below w.heap.size w W → dueP ⟨L, C, R, D, S⟩ r = (x, y) → Calls Try.prog 12 #[.agg #[.string un, .int .i64 p, .int .i64 n, .int .i64 tt, .int .i64 L, .int .i64 C, .int .i64 R, .int .i64 D, .slice sa S.length sc], r.val] W fun e w' => e = .returned (.tuple #[.int .i64 x, .int .i64 y]) ∧ Below W.heap.size W w') :=
    Lib.hid fun W r x y hW h => due_lit _ ⟨L, C, R, D, S⟩ HC.out r x y h W (hsays.later hW hW.size)
  have HDO : Hid (∀ W r s x, Below w.heap.size w W → doP ⟨L, C, R, D, S⟩ r = (s, x) → Calls Try.prog 14 #[.agg #[.string un, .int .i64 p, .int .i64 n, .int .i64 tt, .int .i64 L, .int .i64 C, .int .i64 R, .int .i64 D, .slice sa S.length sc], r.val] W fun e w' => e = .returned (.tuple #[s.val, .string x]) ∧ Below W.heap.size W w') :=
    Lib.hid fun W r s x hW h => do_lit _ ⟨L, C, R, D, S⟩ HC.out r s x h W (hsays.later hW hW.size)
  clear hsays htx HC
  unfold actRow at HSAYS ⊢
  dsimp only
  generalize hA : (⟨L, C, R, D, S⟩ : ActM) = A at *
  have HN : Hid (A.says.length = S.length) := Lib.hid (by rw [← hA])
  have HR : Hid (A.ready = R) := Lib.hid (by rw [← hA])
  have HCELL : Hid (0 < S.length → ∃ bs off, sa = some ⟨bs, off, none⟩ ∧ bs < w.heap.size ∧ ∀ j, j < S.length → w.cell? ⟨bs, off + j * 2, none⟩ = some (.int .i64 (A.says.getD j (0, ByteArray.empty)).1) ∧ w.cell? ⟨bs, off + j * 2 + 1, none⟩ = some (.string (A.says.getD j (0, ByteArray.empty)).2)) := by
    refine Lib.hid fun h0 => ?_
    obtain ⟨⟨a, c, k8, hl⟩, -⟩ := HSAYS.out
    rw [← hA] at hl k8 ⊢
    obtain ⟨b, off, e, hb, hc⟩ := hl h0
    subst e
    refine ⟨b, off, ?_, hb, hc⟩
    injection k8 with k8
    injection k8
  clear hA HSAYS
  generalize S.length = N at *
  go_enter Try.func5, Try.ntmps5
  go_wp2_with (first
    | (go_at_call 9; refine (shown_true _).mono ?_; rintro e w1 ⟨rfl, hb1⟩
       have hr1 := (hb1.block w.heap.size (by simp)).trans (heap_alloc_new w _)
       have HR1 := Lib.hid hr1
       obtain ⟨a0, a1, a2, a3, a4, a5, a6, a7, a8⟩ := ActAt.of_row hr1
       have HB1 := Lib.hid (((Below.refl _ _).alloc (Nat.le_refl _) _).trans (hb1.mono (by simp)))
       have HL1 : Hid (w.heap.size < w1.heap.size) := Lib.hid (by have := hb1.size; simp at this; omega)
       clear hb1 hr1)
    | (go_at_call 10; fail))
  refine (HMAY.out _ HB1.out).mono ?_
  rintro e w2 ⟨bb, rfl, hb2, hm⟩
  have HB2 := Lib.hid (HB1.out.trans (hb2.mono HB1.out.size))
  have HA2 := Lib.hid ((ActAt.of_row HR1.out).below hb2 HL1.out)
  have HL2 : Hid (w.heap.size < w2.heap.size) := Lib.hid (Nat.lt_of_lt_of_le HL1.out hb2.size)
  clear a0 a1 a2 a3 a4 a5 a6 a7 a8 hb2 HR1 HB1 HL1
  cases bb
  · clear hm
    go_wp2_with fail
    exact bodyPost_ret (v := .bool true) (by simp [results, Try.results5, go_sem]) rfl ⟨rfl, HB2.out⟩
  have HM := Lib.hid (hm rfl)
  clear hm
  have h4 : N ≤ 4 := by rw [← HN.out]; exact HM.out.1.2.2.2.1
  have hwN : IntKind.i64.wrap ((N : Int) + 2) = (N : Int) + 2 := by rw [IntKind.wrap_i64]; omega
  by_cases h1 : tell < now
  · go_wp2_with fail
    exact bodyPost_ret (v := .bool true) (by simp [results, Try.results5, go_sem]) rfl ⟨rfl, HB2.out⟩
  go_upto_region 6 with (go_at_call 11; refine (begin_any _ _ _ _).mono ?_; rintro e w3 ⟨rfl, hb3⟩; have HS0 := Lib.hid (fun w4 h4 => OSt.start (w4 := w4) (r := ⟨2, 0, now, -1, 0, false⟩) (HB2.out.trans (hb3.mono HB2.out.size)) (Nat.lt_of_lt_of_le HL2.out hb3.size) (HA2.out.below hb3 HL2.out) h4); clear hb3; unfold beginP RunM.val)
  have HS := Lib.hid (HS0.out _ (by simpa [runRow] using Below.refl _ _))
  clear HS0 HB2 HL2 HA2
  generalize hw4 : w3.alloc _ = w4 at *
  generalize w3.heap.size = b9 at *
  clear hw4
  obtain ⟨c0, c1, c2, c3, c4, c5, cf⟩ := HS.out.run
  dsimp only at c0 c1 c2 c3 c4 c5 cf
  go_upto_if 35 with (fail)
  go_cut [] from 35 to 38 (fun wx => ∃ told : Int, OSt w b9 un p n tt L C R D sa N sc ⟨2, 0, now, told, 0, false⟩ wx)
  case first =>
    by_cases h2 : tell < 6311433600
    · go_wp2_with (go_at_call 13; fail)
      refine (tell_lit ⟨2, 0, now, -1, 0, false⟩ ⟨2, 0, now, tell, 0, false⟩ tell (by simp [tellP]) _).mono ?_
      rintro e w7 ⟨rfl, hb7⟩
      have HST7 := Lib.hid (HS.out.below hb7)
      clear hb7 c0 c1 c2 c3 c4 c5 cf
      obtain ⟨c0, c1, c2, c3, c4, c5, cf⟩ := HST7.out.run
      dsimp only at c0 c1 c2 c3 c4 c5 cf
      unfold RunM.val
      go_wp2_with fail
      go_meet
      exact ⟨tell, HST7.out.set 2 0 now tell 0 false⟩
    · go_wp2_with fail
      go_meet
      exact ⟨-1, HS.out⟩
  obtain ⟨told, hst⟩ := hcut
  have HST := Lib.hid hst
  clear HS hst c0 c1 c2 c3 c4 c5 cf
  obtain ⟨a0, a1, a2, a3, a4, a5, a6, a7, a8⟩ := HST.out.act
  obtain ⟨c0, c1, c2, c3, c4, c5, cf⟩ := HST.out.run
  dsimp only at c0 c1 c2 c3 c4 c5 cf
  have htb := tx_begin A now told
  generalize hee : endsP A ⟨2, 0, now, told, 0, false⟩ = ee at htb
  have HEE := Lib.hid hee
  clear hee
  obtain ⟨e0, e1⟩ := ee
  dsimp only at htb
  have HTB := Lib.hid htb
  clear htb
  go_wp2_with (go_at_call 15; fail)
  refine (HENDS.out _ ⟨2, 0, now, told, 0, false⟩ e0 e1 HEE.out).mono ?_
  rintro e w5 ⟨rfl, hb5⟩
  have HST5 := Lib.hid (HST.out.below hb5)
  clear hb5 a0 a1 a2 a3 a4 a5 a6 a7 a8 c0 c1 c2 c3 c4 c5 cf HST HEE
  go_wp2_with fail
  have HSLT := Lib.hid HST5.out.lt0
  go_loopw [10, 11, 12, 13, 14, 15] (fun v10 v11 v12 v13 v14 v15 wr => ∃ (k m : Nat) (rd : Bool) (q : Int) (r : RunM), v10 = .int .i64 m ∧ v11 = .int .i64 q ∧ q = (if rd = true then 1 else 0) ∧ v12 = .int .i64 k ∧ OSt w b9 un p n tt L C R D sa N sc r wr ∧ TxI A r now e0 m rd k) (fun _ _ v12 _ _ _ _ => N + 2 - (intOf v12).toNat)
  case atStart => exact ⟨0, 0, false, 0, ⟨2, 0, now, told, 0, false⟩, rfl, rfl, rfl, rfl, HST5.out, HTB.out⟩
  case round =>
    clear HST5 HTB
    obtain ⟨k, m, rd, q, ⟨rp, rn, rg, rt, rs, ry⟩, rfl, rfl, hq, rfl, hst, htx⟩ := hrel
    have HST := Lib.hid hst
    have HTX := Lib.hid htx
    have HQ := Lib.hid hq
    have hmN : m ≤ N := by rw [← HN.out]; exact htx.1
    clear hst htx hq
    obtain ⟨a0, a1, a2, a3, a4, a5, a6, a7, a8⟩ := HST.out.act
    obtain ⟨c0, c1, c2, c3, c4, c5, cf⟩ := HST.out.run
    dsimp only at c0 c1 c2 c3 c4 c5 cf
    by_cases hlt : k < N + 2
    · have hlti : (k : Int) < (N : Int) + 2 := by omega
      have hwk : IntKind.i64.wrap ((k : Int) + 1) = (k : Int) + 1 := by rw [IntKind.wrap_i64]; omega
      have hwm : IntKind.i64.wrap ((m : Int) + 1) = (m : Int) + 1 := by rw [IntKind.wrap_i64]; omega
      have hone : Hid ((dueP A ⟨rp, rn, rg, rt, rs, ry⟩).2 = 1 → m < A.says.length ∧ (doP A ⟨rp, rn, rg, rt, rs, ry⟩).2 = (A.says.getD m (0, ByteArray.empty)).2 ∧ (dueP A ⟨rp, rn, rg, rt, rs, ry⟩).1 = sumI now (A.says.getD m (0, ByteArray.empty)).1 ∧ (dueP A ⟨rp, rn, rg, rt, rs, ry⟩).1 ≤ e0 ∧ TxI A (doP A ⟨rp, rn, rg, rt, rs, ry⟩).1 now e0 (m + 1) rd (k + 1)) := Lib.hid fun h => tx_one HTX.out h
      have htwo : Hid ((dueP A ⟨rp, rn, rg, rt, rs, ry⟩).2 = 2 → rd = false ∧ (dueP A ⟨rp, rn, rg, rt, rs, ry⟩).1 = sumI now A.ready ∧ (dueP A ⟨rp, rn, rg, rt, rs, ry⟩).1 ≤ e0 ∧ TxI A (doP A ⟨rp, rn, rg, rt, rs, ry⟩).1 now e0 m true (k + 1)) := Lib.hid fun h => tx_two HTX.out h
      have hoth : Hid ((dueP A ⟨rp, rn, rg, rt, rs, ry⟩).2 ≠ 1 → (dueP A ⟨rp, rn, rg, rt, rs, ry⟩).2 ≠ 2 → TxI A (doP A ⟨rp, rn, rg, rt, rs, ry⟩).1 now e0 m rd (k + 1)) := Lib.hid fun h h' => tx_other HM.out.1.2.2.2.2 HTX.out h h'
      generalize hdue : dueP A ⟨rp, rn, rg, rt, rs, ry⟩ = du at hone htwo hoth
      have HDU := Lib.hid hdue
      clear hdue
      generalize hdo : doP A ⟨rp, rn, rg, rt, rs, ry⟩ = dd at hone htwo hoth
      have HDD := Lib.hid hdo
      clear hdo
      obtain ⟨t0, k0⟩ := du
      obtain ⟨⟨sp, sn, sg, st, ss, sd⟩, tx⟩ := dd
      go_wp2_with (go_at_call 12; fail)
      refine (HDUE.out _ ⟨rp, rn, rg, rt, rs, ry⟩ _ _ HST.out.lo HDU.out).mono ?_
      rintro e w6 ⟨rfl, hb6⟩
      have HST6 := Lib.hid (HST.out.below hb6)
      clear hb6 a0 a1 a2 a3 a4 a5 a6 a7 a8 c0 c1 c2 c3 c4 c5 cf
      obtain ⟨a0, a1, a2, a3, a4, a5, a6, a7, a8⟩ := HST6.out.act
      obtain ⟨c0, c1, c2, c3, c4, c5, cf⟩ := HST6.out.run
      dsimp only at c0 c1 c2 c3 c4 c5 cf
      go_wp2_with (go_at_call 14; fail)
      refine (HDO.out _ ⟨rp, rn, rg, rt, rs, ry⟩ ⟨sp, sn, sg, st, ss, sd⟩ tx HST6.out.lo HDD.out).mono ?_
      rintro e w8 ⟨rfl, hb8⟩
      have HST8 := Lib.hid (HST6.out.below hb8)
      clear hb8 a0 a1 a2 a3 a4 a5 a6 a7 a8 c0 c1 c2 c3 c4 c5 cf
      obtain ⟨a0, a1, a2, a3, a4, a5, a6, a7, a8⟩ := HST8.out.act
      obtain ⟨c0, c1, c2, c3, c4, c5, cf⟩ := HST8.out.run
      dsimp only at c0 c1 c2 c3 c4 c5 cf
      have hne : ¬ b9 = w.heap.size := by have := HSLT.out; omega
      unfold RunM.val
      by_cases hk1 : k0 = 1
      · subst hk1
        obtain ⟨y1, y2, y3, y4, y5⟩ := hone.out rfl
        have HY5 := Lib.hid y5
        have hmN' : m < N := by rw [← HN.out]; exact y1
        have hmi : (m : Int) < (N : Int) := by omega
        obtain ⟨bs, off, rfl, hbs, hcl⟩ := HCELL.out (by omega)
        have q0 := (hcl m hmN').1
        have q1 := (hcl m hmN').2
        rw [← HST8.out.lo.cell (p := ⟨bs, off + m * 2, none⟩) hbs] at q0
        rw [← HST8.out.lo.cell (p := ⟨bs, off + m * 2 + 1, none⟩) hbs] at q1
        have hne2 : ¬ b9 = bs := by have := HSLT.out; omega
        generalize (A.says.getD m (0, ByteArray.empty)).2 = txt at y2 q1
        generalize (A.says.getD m (0, ByteArray.empty)).1 = ft at y3 q0
        subst y2
        have HSUM : Hid (∀ W, Calls Try.prog 16 #[.int .i64 now, .int .i64 ft] W fun e w' => e = .returned (.int .i64 t0) ∧ W = w') := by
          refine Lib.hid fun W => ?_
          rw [y3]
          exact rsum_any now ft W
        have hle : ¬ e0 < t0 := by omega
        clear y1 y3 y4 y5 hcl hone htwo hoth hbs
        go_wp2_with (go_at_call 16; refine (HSUM.out _).mono ?_; rintro e w' ⟨rfl, rfl⟩)
        go_roundw
        case rel => exact ⟨k + 1, m + 1, rd, q, ⟨sp, sn, sg, st, ss, sd⟩, by go_num, rfl, HQ.out, by go_num, HST8.out.set _ _ _ _ _ _, HY5.out⟩
        case measure => simp [intOf]; omega
      · by_cases hk2 : k0 = 2
        · subst hk2
          obtain ⟨y1, y3, y4, y5⟩ := htwo.out rfl
          have HY5 := Lib.hid y5
          subst y1
          have hq0 : q = 0 := by rw [HQ.out]; rfl
          subst hq0
          have HSUM : Hid (∀ W, Calls Try.prog 16 #[.int .i64 now, .int .i64 R] W fun e w' => e = .returned (.int .i64 t0) ∧ W = w') := by
            refine Lib.hid fun W => ?_
            rw [y3, HR.out]
            exact rsum_any now R W
          have hle : ¬ e0 < t0 := by omega
          clear y3 y4 y5 hone htwo hoth
          go_wp2_with (go_at_call 16; refine (HSUM.out _).mono ?_; rintro e w' ⟨rfl, rfl⟩)
          go_roundw
          case rel => exact ⟨k + 1, m, true, 1, ⟨sp, sn, sg, st, ss, sd⟩, rfl, rfl, rfl, by go_num, HST8.out.set _ _ _ _ _ _, HY5.out⟩
          case measure => simp [intOf]; omega
        · have y5 := hoth.out hk1 hk2
          have HY5 := Lib.hid y5
          clear y5 hone htwo hoth
          go_wp2_with fail
          go_roundw
          case rel => exact ⟨k + 1, m, rd, q, ⟨sp, sn, sg, st, ss, sd⟩, rfl, rfl, HQ.out, by go_num, HST8.out.set _ _ _ _ _ _, HY5.out⟩
          case measure => simp [intOf]; omega
    · have hlti : ¬ (k : Int) < (N : Int) + 2 := by omega
      have hend := tx_end HM.out.1.2.2.2.2 HTX.out (by rw [HN.out]; omega)
      have HEND := Lib.hid hend
      clear hend
      obtain ⟨-, hin, hry⟩ := HEND.out
      have HIN : Hid (∀ j, j < N → (inTime A now e0 j ↔ j < m)) := Lib.hid fun j hj => hin j (by rw [HN.out]; exact hj)
      have HRY := Lib.hid hry
      clear hin hry HEND
      go_wp2_with fail
      go_loopw [16, 18, 19, 119] (fun v16 v18 v19 v119 w' => ∃ (i c : Nat), v119 = .int .i64 i ∧ v16 = .int .i64 c ∧ i ≤ N ∧ c = min i m ∧ OSt w b9 un p n tt L C R D sa N sc ⟨rp, rn, rg, rt, rs, ry⟩ w') (fun _ _ _ v119 _ => N - (intOf v119).toNat)
      case atStart => exact ⟨0, 0, rfl, rfl, Nat.zero_le _, by omega, HST.out⟩
      case round =>
        clear HST a0 a1 a2 a3 a4 a5 a6 a7 a8 c0 c1 c2 c3 c4 c5 cf hlti
        obtain ⟨i, c, rfl, rfl, hi, hc, hst⟩ := hrel
        have HST := Lib.hid hst
        have HCI := Lib.hid hc
        have hcm : c ≤ m := by omega
        clear hst hc
        by_cases hiN : i < N
        · have hii : (i : Int) < (N : Int) := by omega
          have hwi : IntKind.i64.wrap ((i : Int) + 1) = (i : Int) + 1 := by rw [IntKind.wrap_i64]; omega
          have hwc : IntKind.i64.wrap ((c : Int) + 1) = (c : Int) + 1 := by rw [IntKind.wrap_i64]; omega
          obtain ⟨bs, off, rfl, hbs, hcl⟩ := HCELL.out (by omega)
          have q0 := (hcl i hiN).1
          have q1 := (hcl i hiN).2
          rw [← HST.out.lo.cell (p := ⟨bs, off + i * 2, none⟩) hbs] at q0
          rw [← HST.out.lo.cell (p := ⟨bs, off + i * 2 + 1, none⟩) hbs] at q1
          have hit := HIN.out i hiN
          unfold inTime at hit
          generalize (A.says.getD i (0, ByteArray.empty)).2 = txt at q1
          generalize (A.says.getD i (0, ByteArray.empty)).1 = ft at q0 hit
          generalize hsu : sumI now ft = su at hit
          have HSUM : Hid (∀ W, Calls Try.prog 16 #[.int .i64 now, .int .i64 ft] W fun e w' => e = .returned (.int .i64 su) ∧ W = w') := by
            refine Lib.hid fun W => ?_
            rw [← hsu]
            exact rsum_any now ft W
          have HIT := Lib.hid hit
          clear hcl hsu hit hbs
          by_cases g1 : su ≤ e0
          · by_cases g2 : su < 1099511627776
            · have him := HIT.out.1 ⟨g1, g2⟩
              go_wp2_with (go_at_call 16; refine (HSUM.out _).mono ?_; rintro e w' ⟨rfl, rfl⟩)
              go_roundw
              case rel => exact ⟨i + 1, c + 1, by go_num, by go_num, by omega, by have := HCI.out; omega, HST.out.below ((Below.refl _ _).alloc (Nat.le_refl _) _)⟩
              case measure => simp [intOf]; omega
            · have him : ¬ i < m := fun h => g2 (HIT.out.2 h).2
              go_wp2_with (go_at_call 16; refine (HSUM.out _).mono ?_; rintro e w' ⟨rfl, rfl⟩)
              go_roundw
              case rel => exact ⟨i + 1, c, by go_num, rfl, by omega, by have := HCI.out; omega, HST.out.below ((Below.refl _ _).alloc (Nat.le_refl _) _)⟩
              case measure => simp [intOf]; omega
          · have him : ¬ i < m := fun h => g1 (HIT.out.2 h).1
            go_wp2_with (go_at_call 16; refine (HSUM.out _).mono ?_; rintro e w' ⟨rfl, rfl⟩)
            go_roundw
            case rel => exact ⟨i + 1, c, by go_num, rfl, by omega, by have := HCI.out; omega, HST.out.below ((Below.refl _ _).alloc (Nat.le_refl _) _)⟩
            case measure => simp [intOf]; omega
        · have hii : ¬ (i : Int) < (N : Int) := by omega
          have hcn : c = m := by have := HCI.out; omega
          subst hcn
          have HLO := Lib.hid HST.out.lo
          obtain ⟨a0, a1, a2, a3, a4, a5, a6, a7, a8⟩ := HST.out.act
          clear a0 a1 a2 a3 a4 a5 a7
          have hry := HRY.out
          unfold readyIn at hry
          rw [HR.out] at hry
          generalize hsu : sumI now R = su at hry
          have HSUM : Hid (∀ W, Calls Try.prog 16 #[.int .i64 now, .int .i64 R] W fun e w' => e = .returned (.int .i64 su) ∧ W = w') := by
            refine Lib.hid fun W => ?_
            rw [← hsu]
            exact rsum_any now R W
          have HRR := Lib.hid hry
          clear hsu hry
          have hqv := HQ.out
          cases rd
          · simp at hqv
            subst hqv
            have hno : ¬ (su ≤ e0 ∧ su < 1099511627776) := fun h => Bool.noConfusion (HRR.out.1 h)
            by_cases g1 : su ≤ e0
            · have g2 : ¬ su < 1099511627776 := fun h => hno ⟨g1, h⟩
              clear hno
              go_wp2_with (go_at_call 16; refine (HSUM.out _).mono ?_; rintro e w' ⟨rfl, rfl⟩)
              exact bodyPost_ret (v := .bool true) (by simp [results, Try.results5, go_sem]; omega) rfl ⟨rfl, HLO.out⟩
            · clear hno
              go_wp2_with (go_at_call 16; refine (HSUM.out _).mono ?_; rintro e w' ⟨rfl, rfl⟩)
              exact bodyPost_ret (v := .bool true) (by simp [results, Try.results5, go_sem]) rfl ⟨rfl, HLO.out⟩
          · simp at hqv
            subst hqv
            obtain ⟨g1, g2⟩ := HRR.out.2 rfl
            go_wp2_with (go_at_call 16; refine (HSUM.out _).mono ?_; rintro e w' ⟨rfl, rfl⟩)
            exact bodyPost_ret (v := .bool true) (by simp [results, Try.results5, go_sem]) rfl ⟨rfl, HLO.out⟩

end Go.Proofs.Ytohgnmpmledljaa
