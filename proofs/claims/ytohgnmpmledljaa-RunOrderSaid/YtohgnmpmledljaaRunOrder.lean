/-
  The walk of RunOrder.
-/
import Derived.Test.YtohgnmpmledljaaRunSt
import Derived.Test.YtohgnmpmledljaaRunPlain
namespace Go.Proofs.Ytohgnmpmledljaa
open Go.ChangeShapes Go.WideShapes Go.ChangeAt Go.RowKit

theorem due_top (A : ActM) (r : RunM) : (dueP A r).1 ≤ 1099511627776 := by
  rcases due_cases A r with h | ⟨-, h, -⟩
  · rw [h]; exact Int.le_refl _
  · omega

set_option maxRecDepth 100000 in
set_option maxHeartbeats 4000000 in
theorem order_any (cs : Array Value) (A : ActM) (now tell at_ : Int) (w : World) (hin : ActIn w cs A) :
    Calls Try.prog 3 #[.agg cs, .int .i64 now, .int .i64 tell, .int .i64 at_] w fun e w' => e = .returned (.bool true) ∧ Below w.heap.size w w' := by
  obtain ⟨⟨un, p, n, tt, sa, sc, rfl⟩, hsays, htx⟩ := hin
  obtain ⟨L, C, R, D, S⟩ := A
  have HC := Lib.hid (actRow_cells un p n tt ⟨L, C, R, D, S⟩ sa sc)
  have HMAY : Hid (∀ W, Below w.heap.size w W → Calls Try.prog 10 #[.agg #[.string un, .int .i64 p, .int .i64 n, .int .i64 tt, .int .i64 L, .int .i64 C, .int .i64 R, .int .i64 D, .slice sa S.length sc], .int .i64 now] W (SomeNow ⟨L, C, R, D, S⟩ now W)) :=
    Lib.hid fun W hW => mayLaw_row un p n tt ⟨L, C, R, D, S⟩ sa sc now W (hsays.later hW hW.size) htx
  have HDUE : Hid (∀ W r x y, Below w.heap.size w W → dueP ⟨L, C, R, D, S⟩ r = (x, y) → Calls Try.prog 12 #[.agg #[.string un, .int .i64 p, .int .i64 n, .int .i64 tt, .int .i64 L, .int .i64 C, .int .i64 R, .int .i64 D, .slice sa S.length sc], r.val] W fun e w' => e = .returned (.tuple #[.int .i64 x, .int .i64 y]) ∧ Below W.heap.size W w') :=
    Lib.hid fun W r x y hW h => due_lit _ ⟨L, C, R, D, S⟩ HC.out r x y h W (hsays.later hW hW.size)
  have HDO : Hid (∀ W r s x, Below w.heap.size w W → doP ⟨L, C, R, D, S⟩ r = (s, x) → Calls Try.prog 14 #[.agg #[.string un, .int .i64 p, .int .i64 n, .int .i64 tt, .int .i64 L, .int .i64 C, .int .i64 R, .int .i64 D, .slice sa S.length sc], r.val] W fun e w' => e = .returned (.tuple #[s.val, .string x]) ∧ Below W.heap.size W w') :=
    Lib.hid fun W r s x hW h => do_lit _ ⟨L, C, R, D, S⟩ HC.out r s x h W (hsays.later hW hW.size)
  clear hsays htx HC
  unfold actRow
  dsimp only
  generalize hA : (⟨L, C, R, D, S⟩ : ActM) = A at *
  have HN : Hid (A.says.length = S.length) := Lib.hid (by rw [← hA])
  clear hA
  generalize S.length = N at *
  go_enter Try.func3, Try.ntmps3
  go_wp2_with (first
    | (go_at_call 9; refine (shown_true _).mono ?_; rintro e w1 ⟨rfl, hb1⟩
       have hr1 := (hb1.block w.heap.size (by simp)).trans (heap_alloc_new w _)
       have HR1 := Lib.hid hr1
       obtain ⟨a0, a1, a2, a3, a4, a5, a6, a7, a8⟩ := ActAt.of_row hr1
       have HB1 := Lib.hid (((Below.refl _ _).alloc (Nat.le_refl _) _).trans (hb1.mono (by simp)))
       have HL1 : Hid (w.heap.size < w1.heap.size) := Lib.hid (by have := hb1.size; simp at this; omega)
       clear hb1 hr1)
    | (go_at_call 10; fail))
  refine (HMAY.out _ HB1.out).mono ?_
  rintro e w2 ⟨bb, rfl, hb2, hm⟩
  have HB2 := Lib.hid (HB1.out.trans (hb2.mono HB1.out.size))
  have HA2 := Lib.hid ((ActAt.of_row HR1.out).below hb2 HL1.out)
  have HL2 : Hid (w.heap.size < w2.heap.size) := Lib.hid (Nat.lt_of_lt_of_le HL1.out hb2.size)
  clear a0 a1 a2 a3 a4 a5 a6 a7 a8 hb2 HR1 HB1 HL1
  cases bb
  · clear hm
    go_wp2_with fail
    exact bodyPost_ret (v := .bool true) (by simp [results, Try.results3, go_sem]) rfl ⟨rfl, HB2.out⟩
  have HM := Lib.hid (hm rfl)
  clear hm
  have h4 : N ≤ 4 := by rw [← HN.out]; exact HM.out.1.2.2.2.1
  have hwN : IntKind.i64.wrap ((N : Int) + 2) = (N : Int) + 2 := by rw [IntKind.wrap_i64]; omega
  go_wp2_with (go_at_call 11; refine (begin_any _ _ _ _).mono ?_; rintro e w3 ⟨rfl, hb3⟩
               have HS0 := Lib.hid (fun w4 h4 => OSt.start (w4 := w4) (r := ⟨2, 0, now, -1, 0, false⟩) (HB2.out.trans (hb3.mono HB2.out.size)) (Nat.lt_of_lt_of_le HL2.out hb3.size) (HA2.out.below hb3 HL2.out) h4)
               clear hb3; unfold beginP RunM.val)
  have HS := Lib.hid (HS0.out _ (by simpa [runRow] using Below.refl _ _))
  clear HS0 HB2 HL2 HA2
  generalize hw4 : w3.alloc _ = w4 at *
  generalize w3.heap.size = b9 at *
  clear hw4
  go_loopw [10, 11, 12, 13] (fun v10 v11 v12 v13 wr => ∃ (k : Nat) (last : Int) (r : RunM), v10 = .int .i64 last ∧ v11 = .int .i64 k ∧ OSt w b9 un p n tt L C R D sa N sc r wr ∧ k + pend A r ≤ N + 2 ∧ OrdI A r now last) (fun _ v11 _ _ _ => N + 2 - (intOf v11).toNat)
  case atStart => exact ⟨0, now, ⟨2, 0, now, -1, 0, false⟩, rfl, rfl, HS.out, by rw [pend_begin, HN.out]; omega, ord_begin HM.out⟩
  case round =>
    clear HS
    obtain ⟨k, last, ⟨rp, rn, rg, rt, rs, rd⟩, rfl, rfl, hst, hpk, hord⟩ := hrel
    have HST := Lib.hid hst
    have HPK := Lib.hid hpk
    have HORD := Lib.hid hord
    have HBW := Lib.hid hst.lo
    clear hst hpk hord
    obtain ⟨a0, a1, a2, a3, a4, a5, a6, a7, a8⟩ := HST.out.act
    obtain ⟨c0, c1, c2, c3, c4, c5, cf⟩ := HST.out.run
    dsimp only at c0 c1 c2 c3 c4 c5 cf
    generalize hdue : dueP A ⟨rp, rn, rg, rt, rs, rd⟩ = du
    have HDU := Lib.hid hdue
    have HNONE : Hid (du.2 = 0 → du = (1099511627776, 0)) := Lib.hid (by intro h; rw [← hdue] at h ⊢; exact due_none h)
    have HGE : Hid (du.2 ≠ 0 → last ≤ du.1) := Lib.hid (by intro h; rw [← hdue] at h ⊢; exact ord_ge HORD.out h)
    have HTOP : Hid (du.1 ≤ 1099511627776) := Lib.hid (by rw [← hdue]; exact due_top A _)
    clear hdue
    by_cases hlt : k < N + 2
    · have hlti : (k : Int) < (N : Int) + 2 := by omega
      obtain ⟨t0, k0⟩ := du
      by_cases hk0 : k0 = 0
      · obtain ⟨rfl, rfl⟩ : t0 = 1099511627776 ∧ k0 = 0 := by have := HNONE.out hk0; simpa using this
        clear hk0 HGE HNONE
        go_wp2_with (go_at_call 12; fail)
        refine (HDUE.out _ ⟨rp, rn, rg, rt, rs, rd⟩ _ _ HBW.out HDU.out).mono ?_
        rintro e w6 ⟨rfl, hb6⟩
        have HST6 := Lib.hid (HST.out.below hb6)
        clear hb6 a0 a1 a2 a3 a4 a5 a6 a7 a8 c0 c1 c2 c3 c4 c5 cf
        obtain ⟨a0, a1, a2, a3, a4, a5, a6, a7, a8⟩ := HST6.out.act
        obtain ⟨c0, c1, c2, c3, c4, c5, cf⟩ := HST6.out.run
        dsimp only at c0 c1 c2 c3 c4 c5 cf
        go_wp2_with (go_at_call 12; fail)
        refine (HDUE.out _ ⟨rp, rn, rg, rt, rs, rd⟩ _ _ HST6.out.lo HDU.out).mono ?_
        rintro e w7 ⟨rfl, hb7⟩
        have HST7 := Lib.hid (HST6.out.below hb7)
        clear hb7 a0 a1 a2 a3 a4 a5 a6 a7 a8 c0 c1 c2 c3 c4 c5 cf
        go_wp2_with fail
        exact bodyPost_ret (v := .bool true) (by simp [results, Try.results3, go_sem]) rfl ⟨rfl, HST7.out.lo⟩
      · have hge : ¬ t0 < last := by have := HGE.out hk0; dsimp only at this; omega
        clear HGE HNONE
        go_wp2_with (go_at_call 12; fail)
        refine (HDUE.out _ ⟨rp, rn, rg, rt, rs, rd⟩ _ _ HBW.out HDU.out).mono ?_
        rintro e w6 ⟨rfl, hb6⟩
        have HST6 := Lib.hid (HST.out.below hb6)
        clear hb6 a0 a1 a2 a3 a4 a5 a6 a7 a8 c0 c1 c2 c3 c4 c5 cf
        obtain ⟨a0, a1, a2, a3, a4, a5, a6, a7, a8⟩ := HST6.out.act
        obtain ⟨c0, c1, c2, c3, c4, c5, cf⟩ := HST6.out.run
        dsimp only at c0 c1 c2 c3 c4 c5 cf
        have hwk : IntKind.i64.wrap ((k : Int) + 1) = (k : Int) + 1 := by rw [IntKind.wrap_i64]; omega
        by_cases hq : bits BinOp.and IntKind.i64 tell 7 = (k : Int)
        · by_cases hq1 : last ≤ at_
          · by_cases hq2 : at_ ≤ t0
            · have hot := ord_tell HM.out HORD.out hq1 (Int.le_trans hq2 HTOP.out)
              generalize htl : tellP ⟨rp, rn, rg, rt, rs, rd⟩ at_ = tr at hot
              have HTL := Lib.hid htl
              clear htl
              obtain ⟨qp, qn, qg, qt, qs, qd⟩ := tr
              have HOT := Lib.hid hot
              clear hot
              go_wp2_with (go_at_call 13; fail)
              refine (tell_lit ⟨rp, rn, rg, rt, rs, rd⟩ ⟨qp, qn, qg, qt, qs, qd⟩ at_ HTL.out _).mono ?_
              rintro e w7 ⟨rfl, hb7⟩
              have HST7 := Lib.hid (HST6.out.below hb7)
              clear hb7 a0 a1 a2 a3 a4 a5 a6 a7 a8 c0 c1 c2 c3 c4 c5 cf
              obtain ⟨a0, a1, a2, a3, a4, a5, a6, a7, a8⟩ := HST7.out.act
              obtain ⟨c0, c1, c2, c3, c4, c5, cf⟩ := HST7.out.run
              dsimp only at c0 c1 c2 c3 c4 c5 cf
              have hne : ¬ b9 = w.heap.size := by have := HST7.out.lt0; omega
              unfold RunM.val
              generalize hdue : dueP A ⟨qp, qn, qg, qt, qs, qd⟩ = du
              have HDU1 := Lib.hid hdue
              have HNONE : Hid (du.2 = 0 → du = (1099511627776, 0)) := Lib.hid (by intro h; rw [← hdue] at h ⊢; exact due_none h)
              have HGE : Hid (du.2 ≠ 0 → last ≤ du.1) := Lib.hid (by intro h; rw [← hdue] at h ⊢; exact ord_ge HOT.out.1 h)
              clear hdue
              obtain ⟨t1, k1⟩ := du
              go_wp2_with (go_at_call 12; fail)
              refine (HDUE.out _ ⟨qp, qn, qg, qt, qs, qd⟩ t1 k1 (HST7.out.set qp qn qg qt qs qd).lo HDU1.out).mono ?_
              rintro e w8 ⟨rfl, hb8⟩
              have HST8 := Lib.hid ((HST7.out.set qp qn qg qt qs qd).below hb8)
              clear hb8 a0 a1 a2 a3 a4 a5 a6 a7 a8 c0 c1 c2 c3 c4 c5 cf
              by_cases hk1 : k1 = 0
              · subst hk1
                clear HGE HNONE
                go_wp2_with fail
                exact bodyPost_ret (v := .bool true) (by simp [results, Try.results3, go_sem]) rfl ⟨rfl, HST8.out.lo⟩
              · have hge1 : ¬ t1 < last := by have h2 : last ≤ t1 := HGE.out hk1; omega
                have hk1b : (k1 == 0) = false := by simp [hk1]
                have hge1b : decide (t1 < last) = false := by simp; omega
                clear HGE HNONE
                obtain ⟨a0, a1, a2, a3, a4, a5, a6, a7, a8⟩ := HST8.out.act
                obtain ⟨c0, c1, c2, c3, c4, c5, cf⟩ := HST8.out.run
                dsimp only at c0 c1 c2 c3 c4 c5 cf
                have hod := ord_do HM.out HOT.out.1 (by rw [HDU1.out]; exact hk1)
                rw [HDU1.out] at hod
                generalize hdo : doP A ⟨qp, qn, qg, qt, qs, qd⟩ = dd at hod
                have HDD := Lib.hid hdo
                clear hdo
                obtain ⟨⟨sp, sn, sg, st, ss, sd⟩, tx⟩ := dd
                have HOD := Lib.hid hod
                clear hod
                go_wp2_with (go_at_call 14; fail)
                refine (HDO.out _ ⟨qp, qn, qg, qt, qs, qd⟩ ⟨sp, sn, sg, st, ss, sd⟩ tx HST8.out.lo HDD.out).mono ?_
                rintro e w9 ⟨rfl, hb9⟩
                have HST9 := Lib.hid (HST8.out.below hb9)
                clear hb9 a0 a1 a2 a3 a4 a5 a6 a7 a8 c0 c1 c2 c3 c4 c5 cf
                obtain ⟨c0, c1, c2, c3, c4, c5, cf⟩ := HST9.out.run
                dsimp only at c0 c1 c2 c3 c4 c5 cf
                unfold RunM.val
                go_wp2_with fail
                go_roundw
                case rel => exact ⟨k + 1, t1, ⟨sp, sn, sg, st, ss, sd⟩, rfl, by go_num, HST9.out.set _ _ _ _ _ _, by have h2 : pend A ⟨sp, sn, sg, st, ss, sd⟩ + 1 ≤ pend A ⟨qp, qn, qg, qt, qs, qd⟩ := HOD.out.2; have h3 := HPK.out; have h4 := HOT.out.2; omega, HOD.out.1⟩
                case measure => simp [intOf]; omega
            · skip
              have hod := ord_do HM.out HORD.out (by rw [HDU.out]; exact hk0)
              rw [HDU.out] at hod
              generalize hdo : doP A ⟨rp, rn, rg, rt, rs, rd⟩ = dd at hod
              have HDD := Lib.hid hdo
              clear hdo
              obtain ⟨⟨sp, sn, sg, st, ss, sd⟩, tx⟩ := dd
              have HOD := Lib.hid hod
              clear hod
              go_wp2_with (go_at_call 14; fail)
              refine (HDO.out _ ⟨rp, rn, rg, rt, rs, rd⟩ ⟨sp, sn, sg, st, ss, sd⟩ tx HST6.out.lo HDD.out).mono ?_
              rintro e w8 ⟨rfl, hb8⟩
              have HST8 := Lib.hid (HST6.out.below hb8)
              clear hb8 a0 a1 a2 a3 a4 a5 a6 a7 a8 c0 c1 c2 c3 c4 c5 cf
              obtain ⟨c0, c1, c2, c3, c4, c5, cf⟩ := HST8.out.run
              dsimp only at c0 c1 c2 c3 c4 c5 cf
              unfold RunM.val
              go_wp2_with fail
              go_roundw
              case rel => exact ⟨k + 1, t0, ⟨sp, sn, sg, st, ss, sd⟩, rfl, by go_num, HST8.out.set _ _ _ _ _ _, by have h2 : pend A ⟨sp, sn, sg, st, ss, sd⟩ + 1 ≤ pend A ⟨rp, rn, rg, rt, rs, rd⟩ := HOD.out.2; have h3 := HPK.out; omega, HOD.out.1⟩
              case measure => simp [intOf]; omega
          · skip
            have hod := ord_do HM.out HORD.out (by rw [HDU.out]; exact hk0)
            rw [HDU.out] at hod
            generalize hdo : doP A ⟨rp, rn, rg, rt, rs, rd⟩ = dd at hod
            have HDD := Lib.hid hdo
            clear hdo
            obtain ⟨⟨sp, sn, sg, st, ss, sd⟩, tx⟩ := dd
            have HOD := Lib.hid hod
            clear hod
            go_wp2_with (go_at_call 14; fail)
            refine (HDO.out _ ⟨rp, rn, rg, rt, rs, rd⟩ ⟨sp, sn, sg, st, ss, sd⟩ tx HST6.out.lo HDD.out).mono ?_
            rintro e w8 ⟨rfl, hb8⟩
            have HST8 := Lib.hid (HST6.out.below hb8)
            clear hb8 a0 a1 a2 a3 a4 a5 a6 a7 a8 c0 c1 c2 c3 c4 c5 cf
            obtain ⟨c0, c1, c2, c3, c4, c5, cf⟩ := HST8.out.run
            dsimp only at c0 c1 c2 c3 c4 c5 cf
            unfold RunM.val
            go_wp2_with fail
            go_roundw
            case rel => exact ⟨k + 1, t0, ⟨sp, sn, sg, st, ss, sd⟩, rfl, by go_num, HST8.out.set _ _ _ _ _ _, by have h2 : pend A ⟨sp, sn, sg, st, ss, sd⟩ + 1 ≤ pend A ⟨rp, rn, rg, rt, rs, rd⟩ := HOD.out.2; have h3 := HPK.out; omega, HOD.out.1⟩
            case measure => simp [intOf]; omega
        · skip
          have hq' : ¬ (k : Int) = bits BinOp.and IntKind.i64 tell 7 := fun h => hq h.symm
          have hod := ord_do HM.out HORD.out (by rw [HDU.out]; exact hk0)
          rw [HDU.out] at hod
          generalize hdo : doP A ⟨rp, rn, rg, rt, rs, rd⟩ = dd at hod
          have HDD := Lib.hid hdo
          clear hdo
          obtain ⟨⟨sp, sn, sg, st, ss, sd⟩, tx⟩ := dd
          have HOD := Lib.hid hod
          clear hod
          go_wp2_with (go_at_call 14; fail)
          refine (HDO.out _ ⟨rp, rn, rg, rt, rs, rd⟩ ⟨sp, sn, sg, st, ss, sd⟩ tx HST6.out.lo HDD.out).mono ?_
          rintro e w8 ⟨rfl, hb8⟩
          have HST8 := Lib.hid (HST6.out.below hb8)
          clear hb8 a0 a1 a2 a3 a4 a5 a6 a7 a8 c0 c1 c2 c3 c4 c5 cf
          obtain ⟨c0, c1, c2, c3, c4, c5, cf⟩ := HST8.out.run
          dsimp only at c0 c1 c2 c3 c4 c5 cf
          unfold RunM.val
          go_wp2_with fail
          go_roundw
          case rel => exact ⟨k + 1, t0, ⟨sp, sn, sg, st, ss, sd⟩, rfl, by go_num, HST8.out.set _ _ _ _ _ _, by have h2 : pend A ⟨sp, sn, sg, st, ss, sd⟩ + 1 ≤ pend A ⟨rp, rn, rg, rt, rs, rd⟩ := HOD.out.2; have h3 := HPK.out; omega, HOD.out.1⟩
          case measure => simp [intOf]; omega
    · have hdn : du = (1099511627776, 0) := by
        rw [← HDU.out]
        exact due_ended (by have := HPK.out; omega)
      have hlti : ¬ (k : Int) < (N : Int) + 2 := by omega
      subst hdn
      clear HGE HNONE
      go_wp2_with (go_at_call 12; fail)
      refine (HDUE.out _ ⟨rp, rn, rg, rt, rs, rd⟩ _ _ HBW.out HDU.out).mono ?_
      rintro e w7 ⟨rfl, hb7⟩
      have HST7 := Lib.hid (HST.out.below hb7)
      clear hb7 a0 a1 a2 a3 a4 a5 a6 a7 a8 c0 c1 c2 c3 c4 c5 cf
      go_wp2_with fail
      exact bodyPost_ret (v := .bool true) (by simp [results, Try.results3, go_sem]) rfl ⟨rfl, HST7.out.lo⟩

end Go.Proofs.Ytohgnmpmledljaa
