/-
  Contract of matinsref7.Blend.
-/
import Derived.Test.YtcionpepgpfjdaaBlRFind
import Derived.Test.YtcionpepgpfjdaaBlSingle
import Derived.Test.YtcionpepgpfjdaaBlPlainR
namespace Go.Proofs.Ytcionpepgpfjdaa
open Go.ChangeShapes Go.WideShapes Go.ChangeAt Go.RowKit

theorem refP_len : ∀ l : List LineM, (refP l).length ≤ l.length
  | [] => Nat.le_refl _
  | x :: l => by
    have := refP_len l
    rw [refP, List.length_append]
    split <;> simp <;> omega

set_option maxRecDepth 100000 in
set_option maxHeartbeats 3000000 in
theorem rblend_any (A : Option Addr) (c : Nat) (ls : List (SlOf LineM)) (w : World) (hA : 0 < ls.length → ∃ b, A = some ⟨b, 0, none⟩ ∧ b < w.heap.size ∧ ∀ i x, ls[i]? = some x → w.cell? ⟨b, i, none⟩ = some x.val)
    (hin : ∀ x ∈ ls, RowsIn LineM.row 4 w w.heap.size x.a x.n x.l) (hs : sumN ls ≤ 90000000) (hk : ls.length ≤ 1000) :
    Calls Try.prog 11 #[.slice A ls.length c] w fun e w' => ∃ v', e = .returned v' ∧ w'.ownsRow w.heap.size 30 4 v' (refP (allOf ls)).length (flat LineM.row (refP (allOf ls))) ∧ Below w.heap.size w w' := by
  obtain ⟨i0, hi0, hz0, hs0, hb0⟩ := info_parts lineInfo
  have HI := Lib.hid hi0
  have HZ := Lib.hid hz0
  have HS := Lib.hid hs0
  have HB0 := Lib.hid hb0
  have hsumA := sum_len ls fun x hx => (hin x hx).len
  have HSUMA := Lib.hid hsumA
  have HA := Lib.hid hA
  have HIN := Lib.hid hin
  clear hi0 hz0 hs0 hb0 hA hin hsumA
  generalize hn : ls.length = n at *
  have HN := Lib.hid hn
  clear hn
  go_enter Try.func11, Try.ntmps11
  go_wp2_with fail
  go_loopw [3, 6, 16] (fun v3 v6 v16 wr => ∃ i : Nat, v16 = .int .i64 i ∧ i ≤ n ∧ Below w.heap.size w wr ∧ wr.ownsRow w.heap.size 30 4 v3 (sumN (ls.take i)) (flat LineM.row (allOf (ls.take i)))) (fun _ _ v16 _ => n - (intOf v16).toNat)
  case atStart => exact ⟨0, rfl, Nat.zero_le _, Below.refl _ _, ⟨by simp [sumN, allOf, flat], .inl ⟨rfl, rfl⟩⟩⟩
  case round =>
    obtain ⟨i, rfl, hi, hb, hown⟩ := hrel
    have HOWN := Lib.hid hown
    have HBQ := Lib.hid hb
    by_cases hlt : i < n
    · have hlti : (i : Int) < (n : Int) := by omega
      have hwi : IntKind.i64.wrap ((i : Int) + 1) = (i : Int) + 1 := by rw [IntKind.wrap_i64]; omega
      have hil : i < ls.length := by rw [HN.out]; exact hlt
      obtain ⟨b, rfl, hlb, hcell⟩ := HA.out (by rw [← HN.out]; omega)
      have hc := (hb.cell (p := ⟨b, i, none⟩) hlb).trans (hcell i ls[i] (List.getElem?_eq_getElem hil))
      have hlbr : b < wr.heap.size := Nat.lt_of_lt_of_le hlb hb.size
      unfold SlOf.val at hc
      have hst := sumN_take hil
      have hat := allOf_take hil
      have hsl := sumN_le ls (i + 1)
      have hrd := ((HIN.out _ (List.getElem_mem hil)).later hb hb.size).reads LineM.size (by omega)
      have hone := lines_one ls[i].l
      generalize ls[i].a = xa at hc hrd
      generalize ls[i].n = xn at hc hst hrd
      generalize ls[i].c = xc at hc
      generalize ls[i].l = xl at hat hrd hone
      have HRD := Lib.hid hrd
      have HONE := Lib.hid hone
      have HST := Lib.hid hst
      have HAT := Lib.hid hat
      have hsz : sumN (ls.take i) + xn ≤ 90000000 := by omega
      clear hrd hone hst hat hb hown hsl hcell
      go_wp2_with (at_builtin; refine wpList_append_any _ rfl (.tmp 20) (.tmp 21) 22 rfl w.heap.size 30 i0 (.agg #[.string ⟨#[]⟩, .string ⟨#[]⟩, .string ⟨#[]⟩, .int .i64 0]) 4 56 Try.underlying22 HI.out HZ.out HS.out HB0.out rfl (by omega) _ (sumN (ls.take i)) _ rfl HOWN.out wr.heap.size xa xn xc _ rfl HRD.out HONE.out (by simp only [maxLen]; omega) (by omega) HBQ.out.size ?_; intro v1 w6 hown6 hg6 hat6; have hb6 : Below w.heap.size w w6 := HBQ.out.grown hg6 HBQ.out.size (fun k hk => (HOWN.out.lt k hk).1); have H6a := Lib.hid hown6; have H6b := Lib.hid hb6; clear hown6 hg6 hat6 hb6)
      go_roundw
      case rel => exact ⟨i + 1, by go_num, by omega, H6b.out, by rw [HST.out, HAT.out, flat_append]; exact H6a.out⟩
      case measure => simp [intOf]; omega
    · have hlti : ¬ (i : Int) < (n : Int) := by omega
      have e : ls.take i = ls := List.take_of_length_le (by rw [HN.out]; omega)
      have h := HOWN.out
      rw [e, HSUMA.out] at h
      obtain ⟨a5, c5, rfl, hin5, -, hmc⟩ := rows_form LineM.size h
      have hmm : (allOf ls).length ≤ 90000000 := by rw [← HSUMA.out]; exact hs
      have HIN5 := Lib.hid hin5
      have hrl := refP_len (allOf ls)
      clear h e hown hb hin5 HA HIN HOWN HSUMA
      generalize hall : allOf ls = all at *
      have HALLS := Lib.hid hall
      clear hall
      generalize hm : all.length = m at *
      have HM := Lib.hid hm
      clear hm
      generalize hW5 : wr = w5 at *
      clear hW5
      go_wp2_with fail
      go_loopw [4, 7, 8, 9, 10, 11, 13, 26] (fun v4 v7 v8 v9 v10 v11 v13 v26 wq => ∃ (i : Nat) (out : List LineM), v26 = .int .i64 i ∧ i ≤ m ∧ out.length ≤ i ∧ Below w5.heap.size w5 wq ∧ wq.ownsRow w5.heap.size 30 4 v4 out.length (flat LineM.row out) ∧ out ++ refP (all.drop i) = refP all) (fun _ _ _ _ _ _ _ v26 _ => m - (intOf v26).toNat)
      case atStart => exact ⟨0, [], rfl, Nat.zero_le _, Nat.le_refl _, Below.refl _ _, ⟨by simp [flat], .inl ⟨rfl, rfl⟩⟩, by simp⟩
      case round =>
        obtain ⟨i, out, rfl, hi, hol, hbr, hown, hout⟩ := hrel
        have HBR := Lib.hid hbr
        have HOWN := Lib.hid hown
        have HOUT := Lib.hid hout
        clear hown hout
        by_cases hlt : i < m
        · skip
          have hlti : (i : Int) < (m : Int) := by omega
          have hwi : IntKind.i64.wrap ((i : Int) + 1) = (i : Int) + 1 := by rw [IntKind.wrap_i64]; omega
          have hil : i < all.length := by rw [HM.out]; exact hlt
          obtain ⟨bs, off, rfl, hbs, hcl⟩ := HIN5.out.at_ (by omega)
          have hcx := hcl i all[i] (List.getElem?_eq_getElem hil)
          have hrow : ∀ t v, (LineM.row all[i])[t]? = some v → wr.cell? ⟨bs, off + i * 4 + t, none⟩ = some v := fun t v hv => (hbr.cell (p := ⟨bs, off + i * 4 + t, none⟩) hbs).trans (hcx t v hv)
          have hdr : refP (all.drop i) = (if (!badB all[i] && (all.drop (i + 1)).all fun y => !killB all[i] y) = true then [all[i]] else []) ++ refP (all.drop (i + 1)) := by
            rw [List.drop_eq_getElem_cons hil, refP]
          generalize all[i] = x at hrow hdr
          have HDR := Lib.hid hdr
          clear hcx hcl hdr
          obtain ⟨xs, xk, xv, xa⟩ := x
          unfold LineM.row at hrow
          dsimp only at hrow
          have p0 := hrow 0 _ rfl
          have p1 := hrow 1 _ rfl
          have p2 := hrow 2 _ rfl
          have p3 := hrow 3 _ rfl
          simp only [Nat.add_zero] at p0
          clear hrow hbr
          go_upto_region 10 with fail
          generalize hW8 : World.alloc _ _ = w8
          have hr8 : w8.heap[wr.heap.size]? = some (.cells (LineM.row ⟨xs, xk, xv, xa⟩) 30 (0, 0)) := by rw [← hW8]; exact heap_alloc_new wr _
          have hb8 : Below w5.heap.size w5 w8 := by rw [← hW8]; exact HBR.out.alloc HBR.out.size _
          have hl8 : wr.heap.size < w8.heap.size := by rw [← hW8]; simp
          have hbw8 : Below wr.heap.size wr w8 := by rw [← hW8]; exact (Below.refl _ _).alloc (Nat.le_refl _) _
          have HX8 := Lib.hid (LineAt.of_row hr8)
          have HB8 := Lib.hid hb8
          have HL8 := Lib.hid hl8
          have HO8 := Lib.hid (owns_below HOWN.out hbw8)
          generalize wr.heap.size = b8 at *
          clear hW8 hr8 hb8 hbw8 p0 p1 p2 p3 HBR HOWN
          obtain ⟨x0, x1, x2, x3⟩ := HX8.out
          dsimp only at x0 x1 x2 x3
          go_wp2_with (go_at_call 15; fail)
          refine (rfind_any xs xk _).mono ?_
          rintro e w9 ⟨hret, hb9⟩
          obtain ⟨ks, kn, kf, Lb, kk, wa, wn, wc, is, rfl, hform⟩ := find_form hret
          have HFORM := Lib.hid hform
          have HX9 := Lib.hid (HX8.out.below hb9 HL8.out)
          have HB9 := Lib.hid (HB8.out.trans (hb9.mono HB8.out.size))
          have HL9 : Hid (b8 < w9.heap.size) := Lib.hid (Nat.lt_of_lt_of_le HL8.out hb9.size)
          have HO9 := Lib.hid (owns_below HO8.out hb9)
          clear hret hform hb9 x0 x1 x2 x3 HX8 HB8 HL8 HO8
          go_upto_region 11 with fail
          generalize hW10 : w9.alloc _ = w10
          have hr10 : w10.heap[w9.heap.size]? = some (.cells #[.string ks, .string kn, .int .i64 kf, .bool Lb, .int .i64 kk, .slice wa wn wc] 33 (0, 0)) := by rw [← hW10]; exact heap_alloc_new w9 _
          have hb910 : Below w9.heap.size w9 w10 := by rw [← hW10]; exact (Below.refl _ _).alloc (Nat.le_refl _) _
          have hl10 : w9.heap.size < w10.heap.size := by rw [← hW10]; simp
          have HX10 := Lib.hid (HX9.out.below hb910 HL9.out)
          have HB10 := Lib.hid (HB9.out.trans (hb910.mono HB9.out.size))
          have HO10 := Lib.hid (owns_below HO9.out hb910)
          have c3 : w10.cell? ⟨w9.heap.size, 3, none⟩ = some (.bool Lb) := by rw [cell_of_row w10 _ 3 _ _ _ hr10]; rfl
          have HC3 := Lib.hid c3
          have hl810 : b8 < w10.heap.size := Nat.lt_trans HL9.out hl10
          generalize w9.heap.size = b10 at *
          clear hW10 hr10 hb910 HX9 HB9 HL9 HO9
          have hx := HX10.out
          obtain ⟨x0, x1, x2, x3⟩ := hx
          dsimp only at x0 x1 x2 x3
          have he0 : (⟨#[]⟩ : ByteArray).toList = [] := by decide +kernel
          have HE0 := Lib.hid he0
          clear he0
          have hE : ∀ y : LineM, isE y = decide (y.v.toList = []) := fun y => by unfold isE eqS; rw [HE0.out]
          have HE := Lib.hid hE
          clear hE
          have hbx := (HFORM.out ⟨xs, xk, xv, xa⟩ rfl rfl).1
          rw [HE.out] at hbx
          have HBX := Lib.hid hbx
          clear hbx
          go_cut [11] from 41 to 50 (fun v wz => v = .bool (!badB ⟨xs, xk, xv, xa⟩) ∧ wz = w10)
          case first =>
            cases is
            · go_wp2_with fail
              go_meet
              exact ⟨by rw [HBX.out]; rfl, rfl⟩
            · cases Lb
              · go_wp2_with fail
                go_meet
                exact ⟨by rw [HBX.out]; rfl, rfl⟩
              · by_cases he : xv.toList = []
                · have he3 : (xv.toList == []) = true := by simp [he]
                  go_wp2_with fail
                  go_meet
                  exact ⟨by rw [HBX.out, decide_eq_true he]; rfl, rfl⟩
                · have he3 : (xv.toList == []) = false := by simp [he]
                  go_wp2_with fail
                  go_meet
                  exact ⟨by rw [HBX.out, decide_eq_false he]; rfl, rfl⟩
          obtain ⟨rfl, rfl⟩ := hcut
          clear HBX
          generalize (!badB ⟨xs, xk, xv, xa⟩) = kp at HDR ⊢
          have hsl1 : (i : Int) + 1 ≤ (m : Int) := by omega
          have hsl2 : (i : Int) + 1 ≤ (c5 : Int) := by omega
          have hsl3 : (m : Int) ≤ (c5 : Int) := by omega
          have hsl0 : (0 : Int) ≤ (i : Int) + 1 := by omega
          go_upto_region 12 with fail
          go_cut [54, 55, 56] from 51 to 56 (fun v54 v55 v56 wz => ∃ A C, v54 = .slice A (m - (i + 1)) C ∧ v55 = .int .i64 ((m - (i + 1) : Nat) : Int) ∧ v56 = .int .i64 0 ∧ wz = wc ∧ RowsIn LineM.row 4 wc wc.heap.size A (m - (i + 1)) (all.drop (i + 1)))
          case first =>
            have hr0 := HIN5.out.later HB10.out HB10.out.size
            have HD := Lib.hid (rows_drop hr0 (i + 1))
            have HEE := Lib.hid (fun (A : Option Addr) (h : m ≤ i + 1) => rows_end (w := wc) (B := wc.heap.size) (a := A) HM.out h)
            clear hr0
            obtain ⟨A', hA, hAr⟩ : ∃ A, (if c5 = i + 1 then some (⟨bs, off, none⟩ : Addr) else some ⟨bs, off + (i + 1) * 4, none⟩) = A ∧ RowsIn LineM.row 4 wc wc.heap.size A (m - (i + 1)) (all.drop (i + 1)) := by
              refine ⟨_, rfl, ?_⟩
              split
              · exact HEE.out _ (by omega)
              · exact HD.out
            have HAR := Lib.hid hAr
            clear hAr
            go_wp2_with fail
            go_meet
            exact ⟨_, _, rfl, by congr 1, rfl, rfl, HAR.out⟩
          obtain ⟨A2, C2, rfl, rfl, rfl, rfl, hrd⟩ := hcut
          have HRD := Lib.hid hrd
          clear hrd hsl0 hsl1 hsl2 hsl3
          have hri : m - (i + 1) ≤ m := Nat.sub_le _ _
          generalize hr : m - (i + 1) = r at *
          clear hr
          clear x0 x1 x2 x3 c3
          go_wp2_with fail
          go_loopw [11, 13, 56] (fun v11 v13 v56 wq => ∃ j : Nat, v56 = .int .i64 j ∧ j ≤ r ∧ v11 = .bool (kp && ((all.drop (i + 1)).take j).all fun y => !killB ⟨xs, xk, xv, xa⟩ y) ∧ Below wc.heap.size wc wq) (fun _ _ v56 _ => r - (intOf v56).toNat)
          case atStart => exact ⟨0, rfl, Nat.zero_le _, by simp, Below.refl _ _⟩
          case round =>
            obtain ⟨j, rfl, hj, rfl, hbq⟩ := hrel
            have HBQ2 := Lib.hid hbq
            have HXQ := Lib.hid (HX10.out.below hbq hl810)
            have hl8q : b8 < wr.heap.size := Nat.lt_of_lt_of_le hl810 hbq.size
            have hl10q : b10 < wr.heap.size := Nat.lt_of_lt_of_le hl10 hbq.size
            have HC3Q := Lib.hid ((hbq.cell (p := ⟨b10, 3, none⟩) hl10).trans HC3.out)
            have HOQ := Lib.hid (owns_below HO10.out hbq)
            have HBW := Lib.hid (HB10.out.trans (hbq.mono HB10.out.size))
            by_cases hltj : j < r
            · have hltji : (j : Int) < (r : Int) := by omega
              have hwj : IntKind.i64.wrap ((j : Int) + 1) = (j : Int) + 1 := by rw [IntKind.wrap_i64]; omega
              have hjl : j < (all.drop (i + 1)).length := by rw [HRD.out.len]; exact hltj
              obtain ⟨by_, oy, rfl, hby, hcy⟩ := HRD.out.at_ (by omega)
              have hcx := hcy j _ (List.getElem?_eq_getElem hjl)
              have hrow : ∀ t v, (LineM.row (all.drop (i + 1))[j])[t]? = some v → wr.cell? ⟨by_, oy + j * 4 + t, none⟩ = some v := fun t v hv => (hbq.cell (p := ⟨by_, oy + j * 4 + t, none⟩) hby).trans (hcx t v hv)
              have htk : (all.drop (i + 1)).take (j + 1) = (all.drop (i + 1)).take j ++ [(all.drop (i + 1))[j]] := (List.take_append_getElem hjl).symm
              have hnx : (kp && ((all.drop (i + 1)).take (j + 1)).all fun y => !killB ⟨xs, xk, xv, xa⟩ y) = ((kp && ((all.drop (i + 1)).take j).all fun y => !killB ⟨xs, xk, xv, xa⟩ y) && !killB ⟨xs, xk, xv, xa⟩ (all.drop (i + 1))[j]) := by
                rw [htk, List.all_append]
                simp [Bool.and_assoc]
              generalize (all.drop (i + 1))[j] = y at hrow hnx
              generalize (kp && ((all.drop (i + 1)).take j).all fun y => !killB ⟨xs, xk, xv, xa⟩ y) = kj at hnx ⊢
              have HNX := Lib.hid hnx
              clear hcx hcy htk hnx hbq
              obtain ⟨ys, yk, yv, ya⟩ := y
              unfold LineM.row at hrow
              dsimp only at hrow
              have p0 := hrow 0 _ rfl
              have p1 := hrow 1 _ rfl
              have p2 := hrow 2 _ rfl
              have p3 := hrow 3 _ rfl
              simp only [Nat.add_zero] at p0
              clear hrow
              go_upto_region 15 with fail
              generalize hW13 : World.alloc _ _ = w13
              have hr13 : w13.heap[wr.heap.size]? = some (.cells (LineM.row ⟨ys, yk, yv, ya⟩) 30 (0, 0)) := by rw [← hW13]; exact heap_alloc_new wr _
              have hb13 : Below wr.heap.size wr w13 := by rw [← hW13]; exact (Below.refl _ _).alloc (Nat.le_refl _) _
              have hl13 : wr.heap.size < w13.heap.size := by rw [← hW13]; simp
              have HY13 := Lib.hid (LineAt.of_row hr13)
              have HX13 := Lib.hid (HXQ.out.below hb13 hl8q)
              have c3 := (hb13.cell (p := ⟨b10, 3, none⟩) hl10q).trans HC3Q.out
              have HB13 := Lib.hid (HBQ2.out.trans (hb13.mono HBQ2.out.size))
              have hl8r : b8 < w13.heap.size := Nat.lt_trans hl8q hl13
              have hl10r : b10 < w13.heap.size := Nat.lt_trans hl10q hl13
              generalize wr.heap.size = b13 at *
              clear hW13 hr13 hb13 p0 p1 p2 p3
              obtain ⟨x0, x1, x2, x3⟩ := HX13.out
              obtain ⟨y0, y1, y2, y3⟩ := HY13.out
              dsimp only at x0 x1 x2 x3 y0 y1 y2 y3
              have hkill : killB ⟨xs, xk, xv, xa⟩ ⟨ys, yk, yv, ya⟩ = (decide (ys.toList = xs.toList) && decide (yk.toList = xk.toList) && (is && (!Lb || decide (yv.toList = [])))) := by
                unfold killB
                have hh : hitL xs xk ⟨ys, yk, yv, ya⟩ = (decide (ys.toList = xs.toList) && decide (yk.toList = xk.toList)) := rfl
                rw [hh]
                by_cases hit : (decide (ys.toList = xs.toList) && decide (yk.toList = xk.toList)) = true
                · obtain ⟨k1, k2⟩ := hitL_iff.1 (hh.trans hit)
                  have f1 := (HFORM.out ⟨ys, yk, yv, ya⟩ k1 k2).1
                  have f2 := (HFORM.out ⟨xs, xk, xv, xa⟩ rfl rfl).2
                  rw [HE.out] at f1
                  rw [f1, f2, hit]
                  cases is <;> cases Lb <;> simp
                · rw [Bool.not_eq_true] at hit
                  rw [hit]
                  rfl
              have HKILL := Lib.hid hkill
              clear hkill
              go_cut [84] from 60 to 84 (fun v wz => v = .bool (killB ⟨xs, xk, xv, xa⟩ ⟨ys, yk, yv, ya⟩) ∧ wz = w13)
              case first =>
                cases is
                · go_wp2_with fail
                  go_meet
                  exact ⟨by rw [HKILL.out]; simp, rfl⟩
                · by_cases e1 : ys.toList = xs.toList
                  · by_cases e2 : yk.toList = xk.toList
                    · cases Lb
                      · go_wp2_with fail
                        go_meet
                        exact ⟨by rw [HKILL.out, decide_eq_true e1, decide_eq_true e2]; rfl, rfl⟩
                      · by_cases he : yv.toList = []
                        · have he3 : (yv.toList == []) = true := by simp [he]
                          go_wp2_with fail
                          go_meet
                          exact ⟨by rw [HKILL.out, decide_eq_true e1, decide_eq_true e2, decide_eq_true he]; rfl, rfl⟩
                        · have he3 : (yv.toList == []) = false := by simp [he]
                          go_wp2_with fail
                          go_meet
                          exact ⟨by rw [HKILL.out, decide_eq_true e1, decide_eq_true e2, decide_eq_false he]; rfl, rfl⟩
                    · have e2b : (yk.toList == xk.toList) = false := by simp [e2]
                      have e2d : decide (yk.toList = xk.toList) = false := by simp [e2]
                      go_wp2_with fail
                      go_meet
                      exact ⟨by rw [HKILL.out, decide_eq_false e2]; simp, rfl⟩
                  · go_wp2_with fail
                    go_meet
                    exact ⟨by rw [HKILL.out, decide_eq_false e1]; simp, rfl⟩
              obtain ⟨rfl, rfl⟩ := hcut
              clear HKILL
              generalize killB ⟨xs, xk, xv, xa⟩ ⟨ys, yk, yv, ya⟩ = kl at HNX ⊢
              cases kl
              · go_wp2_with fail
                go_roundw
                case rel => exact ⟨j + 1, by go_num, by omega, by rw [HNX.out]; simp, HB13.out⟩
                case measure => simp [intOf]; omega
              · go_wp2_with fail
                go_roundw
                case rel => exact ⟨j + 1, by go_num, by omega, by rw [HNX.out]; simp, HB13.out⟩
                case measure => simp [intOf]; omega
            · have hltji : ¬ (j : Int) < (r : Int) := by omega
              have htk : (all.drop (i + 1)).take j = all.drop (i + 1) := List.take_of_length_le (by rw [HRD.out.len]; omega)
              rw [htk]
              clear htk hbq
              generalize (kp && (all.drop (i + 1)).all fun y => !killB ⟨xs, xk, xv, xa⟩ y) = kf2 at HDR ⊢
              obtain ⟨x0, x1, x2, x3⟩ := HXQ.out
              dsimp only at x0 x1 x2 x3
              have hou := HOUT.out
              rw [HDR.out] at hou
              have HOU := Lib.hid hou
              clear hou
              cases kf2
              · go_wp2_with fail
                go_roundw
                case rel => exact ⟨i + 1, out, by go_num, by omega, by omega, HBW.out, HOQ.out, by have h := HOU.out; simpa using h⟩
                case measure => simp [intOf]; omega
              · go_wp2_with (at_builtin; refine wpList_append_any _ rfl (.tmp 87) (.tmp 89) 22 rfl w5.heap.size 30 i0 (.agg #[.string ⟨#[]⟩, .string ⟨#[]⟩, .string ⟨#[]⟩, .int .i64 0]) 4 56 Try.underlying22 HI.out HZ.out HS.out HB0.out rfl (by omega) _ out.length _ rfl (owns_below HOQ.out ((Below.refl _ _).alloc (Nat.le_refl _) _)) (wr.heap.size + 1) (some ⟨wr.heap.size, 0, none⟩) 1 1 [.string xs, .string xk, .string xv, .int .i64 xa] rfl (cellsRow _ _ _ 4 rfl) (by simp [Value.oneCell']) (by simp only [maxLen]; omega) (by omega) (by have := HBW.out.size; simp; omega) ?_; intro v1 w6 hown6 hg6 hat6; have hb6 : Below w5.heap.size w5 w6 := (HBW.out.alloc HBW.out.size _).grown hg6 (by have := HBW.out.size; simp; omega) (fun k hk => (HOQ.out.lt k hk).1); have H6a := Lib.hid hown6; have H6b := Lib.hid hb6; clear hown6 hg6 hat6 hb6)
                go_roundw
                case rel => exact ⟨i + 1, out ++ [⟨xs, xk, xv, xa⟩], by go_num, by omega, by simp; omega, H6b.out, by rw [List.length_append, flat_append]; exact H6a.out, by have h := HOU.out; simpa using h⟩
                case measure => simp [intOf]; omega
        · have hlti : ¬ (i : Int) < (m : Int) := by omega
          have h := HOUT.out
          rw [List.drop_of_length_le (by rw [HM.out]; omega)] at h
          have h2 : out = refP all := by rw [← h]; simp [refP]
          subst h2
          clear h hbr
          go_wp2_with fail
          exact bodyPost_ret (v := u4) (by simp [results, Try.results11, go_sem]) rfl ⟨_, rfl, by rw [HALLS.out]; exact owns_base HOWN.out HBQ.out.size, HBQ.out.trans (HBR.out.mono HBQ.out.size)⟩

end Go.Proofs.Ytcionpepgpfjdaa
