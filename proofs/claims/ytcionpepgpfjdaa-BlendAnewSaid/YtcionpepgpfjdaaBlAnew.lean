/-
  The walk of BlendAnew.
-/
import Derived.Test.YtcionpepgpfjdaaBlSteps
import Derived.Test.YtcionpepgpfjdaaBlPlainA
namespace Go.Proofs.Ytcionpepgpfjdaa
open Go.ChangeShapes Go.WideShapes Go.ChangeAt Go.RowKit

theorem and_small (x : Int) : ∃ q : Nat, (bits BinOp.and IntKind.i64 x 65535).tmod 42 = (q : Int) ∧ q < 42 := by
  have h2 : (BitVec.ofInt 64 65535).toNat = 65535 := by decide
  have h1 : (BitVec.ofInt 64 x &&& BitVec.ofInt 64 65535).toNat ≤ 65535 := by
    rw [BitVec.toNat_and, h2]
    exact Nat.and_le_right
  have h3 : bits BinOp.and IntKind.i64 x 65535 = ((BitVec.ofInt 64 x &&& BitVec.ofInt 64 65535).toNat : Int) := by
    show IntKind.i64.wrap ((BitVec.ofInt 64 x &&& BitVec.ofInt 64 65535).toNat : Int) = _
    rw [IntKind.wrap_i64]
    omega
  rw [h3]
  refine ⟨(BitVec.ofInt 64 x &&& BitVec.ofInt 64 65535).toNat % 42, ?_, Nat.mod_lt _ (by decide)⟩
  rw [Int.tmod_eq_emod_of_nonneg (by omega)]
  rfl

set_option maxRecDepth 100000 in
set_option maxHeartbeats 3000000 in
theorem anew_any (a : Option Addr) (na ca : Nat) (la : List LineM) (at_ : Int) (w : World) (ha : RowsIn LineM.row 4 w w.heap.size a na la) (hna : na ≤ 2513169434843) :
    Calls Try.prog 7 #[.slice a na ca, .int .i64 at_] w fun e w' => e = .returned (.bool true) ∧ Below w.heap.size w w' := by
  obtain ⟨i0, hi0, hz0, hs0, hb0⟩ := info_parts lineInfo
  have HI := Lib.hid hi0
  have HZ := Lib.hid hz0
  have HS := Lib.hid hs0
  have HB0 := Lib.hid hb0
  have HA := Lib.hid ha
  clear ha hi0 hz0 hs0 hb0
  go_enter Try.func7, Try.ntmps7
  go_wp2_with (go_at_call 8; fail)
  refine (shown_true _).mono ?_
  rintro e w1 ⟨rfl, hb1⟩
  have HB1 := Lib.hid hb1
  clear hb1
  go_wp2_with (go_at_call 13; fail)
  refine (all_any _).mono ?_
  rintro e w2 ⟨v2, ks, rfl, hown2, hcore, hb2⟩
  obtain ⟨a2, c2, rfl, hin2, -, -⟩ := rows_form KeyM.size hown2
  have hlen : ks.length = 42 := by
    have h : (ks.map KeyM.core).length = 42 := by rw [hcore]; rfl
    rwa [List.length_map] at h
  rw [hlen] at hin2
  rw [hlen]
  obtain ⟨bk, ok, rfl, hbk, hck⟩ := hin2.at_ (by omega)
  have HCK := Lib.hid hck
  have HCORE := Lib.hid hcore
  have HLEN := Lib.hid hlen
  have HB2 := Lib.hid (HB1.out.trans (hb2.mono HB1.out.size))
  clear hown2 hcore hin2 hlen hck hb2
  obtain ⟨q, hq, hq42⟩ := and_small at_
  have hql : q < ks.length := by rw [HLEN.out]; exact hq42
  have hxm := HCK.out q ks[q] (List.getElem?_eq_getElem hql)
  have hmem : ks[q].core ∈ keysT := by rw [← HCORE.out]; exact List.mem_map.2 ⟨_, List.getElem_mem hql, rfl⟩
  obtain ⟨t, htf, htl⟩ := key_uniq hmem
  generalize ks[q] = x at hxm htf htl hmem
  obtain ⟨xs, xn, xf, xl, xk, xw, xm, xc⟩ := x
  unfold KeyM.row at hxm
  unfold KeyM.core at htf htl
  dsimp only at hxm htf htl
  have q0 := hxm 0 _ rfl
  have q1 := hxm 1 _ rfl
  have q2 := hxm 2 _ rfl
  have q3 := hxm 3 _ rfl
  have q4 := hxm 4 _ rfl
  have q5 := hxm 5 _ rfl
  simp only [Nat.add_zero] at q0
  have hqi : (q : Int) < 42 := by omega
  have hqi0 : (0 : Int) ≤ (q : Int) := by omega
  have HTF := Lib.hid htf
  have HTL := Lib.hid htl
  clear hxm htf htl hmem hql HCK HCORE HLEN
  cases xl
  · go_wp2_with fail
    exact bodyPost_ret (v := .bool true) (by simp [results, Try.results7, go_sem]) rfl ⟨rfl, HB2.out.alloc HB2.out.size _⟩
  go_wp2_with fail
  generalize hW3 : w2.alloc _ = w3
  have hr6 : w3.heap[w2.heap.size]? = some (.cells #[.string xs, .string xn, .int .i64 xf, .bool true, .int .i64 xk, .slice xw xm xc] 33 (0, 0)) := by rw [← hW3]; exact heap_alloc_new w2 _
  have hb3 : Below w.heap.size w w3 := by rw [← hW3]; exact HB2.out.alloc HB2.out.size _
  have hl6 : w2.heap.size < w3.heap.size := by rw [← hW3]; simp
  have HR6 := Lib.hid hr6
  have HB3 := Lib.hid hb3
  have HL6 := Lib.hid hl6
  have HLE : Hid (w.heap.size ≤ w2.heap.size) := Lib.hid HB2.out.size
  generalize w2.heap.size = b6 at *
  clear hW3 hr6 hb3 hl6 q0 q1 q2 q3 q4 q5 hq
  go_loopw [7, 9, 29] (fun v7 v9 v29 wr => ∃ j : Nat, v29 = .int .i64 j ∧ j ≤ na ∧ Below w3.heap.size w3 wr ∧ wr.ownsRow w3.heap.size 30 4 v7 ((la.take j).filter fun z => !hitL xs xn z).length (flat LineM.row ((la.take j).filter fun z => !hitL xs xn z))) (fun _ _ v29 _ => na - (intOf v29).toNat)
  case atStart => exact ⟨0, rfl, Nat.zero_le _, Below.refl _ _, ⟨by simp [flat], .inl ⟨rfl, by simp⟩⟩⟩
  case round =>
    obtain ⟨j, rfl, hj, hbr, hown⟩ := hrel
    have HBR := Lib.hid hbr
    have HOWN := Lib.hid hown
    have hr6 := (hbr.block b6 HL6.out).trans HR6.out
    have hl6 : b6 < wr.heap.size := Nat.lt_of_lt_of_le HL6.out hbr.size
    have s0 : wr.cell? ⟨b6, 0, none⟩ = some (.string xs) := by rw [cell_of_row wr _ 0 _ _ _ hr6]; rfl
    have s1 : wr.cell? ⟨b6, 1, none⟩ = some (.string xn) := by rw [cell_of_row wr _ 1 _ _ _ hr6]; rfl
    have hbw : Below w.heap.size w wr := HB3.out.trans (hbr.mono HB3.out.size)
    have HBW := Lib.hid hbw
    clear hbr hown hr6 hbw
    by_cases hlt : j < na
    · have hlti : (j : Int) < (na : Int) := by omega
      have hwj : IntKind.i64.wrap ((j : Int) + 1) = (j : Int) + 1 := by rw [IntKind.wrap_i64]; omega
      obtain ⟨bs, off, rfl, hbs, hcl⟩ := HA.out.at_ (by omega)
      have hjl : j < la.length := by rw [HA.out.len]; exact hlt
      have hcx := hcl j la[j] (List.getElem?_eq_getElem hjl)
      have hrow : ∀ t v, (LineM.row la[j])[t]? = some v → wr.cell? ⟨bs, off + j * 4 + t, none⟩ = some v := fun t v hv => (HBW.out.cell (p := ⟨bs, off + j * 4 + t, none⟩) hbs).trans (hcx t v hv)
      have htk : la.take (j + 1) = la.take j ++ [la[j]] := (List.take_append_getElem hjl).symm
      have hfl : ((la.take j).filter fun z => !hitL xs xn z).length ≤ 2513169434843 := Nat.le_trans (List.length_filter_le _ _) (by rw [List.length_take]; omega)
      generalize la[j] = y at hrow htk
      have HTK := Lib.hid htk
      have HFL := Lib.hid hfl
      clear hcx hcl htk hfl
      obtain ⟨ys, yk, yv, ya⟩ := y
      unfold LineM.row at hrow
      dsimp only at hrow
      have p0 := hrow 0 _ rfl
      have p1 := hrow 1 _ rfl
      have p2 := hrow 2 _ rfl
      have p3 := hrow 3 _ rfl
      simp only [Nat.add_zero] at p0
      clear hrow
      generalize hpre : (la.take j).filter (fun z => !hitL xs xn z) = pre at HOWN HFL
      have HPRE := Lib.hid hpre
      clear hpre
      go_upto_region 13 with fail
      generalize hWX : wr.alloc _ = wx
      have hr9 : wx.heap[wr.heap.size]? = some (.cells #[.string ys, .string yk, .string yv, .int .i64 ya] 30 (0, 0)) := by rw [← hWX]; exact heap_alloc_new wr _
      have hbx : Below wr.heap.size wr wx := by rw [← hWX]; exact (Below.refl _ _).alloc (Nat.le_refl _) _
      have hlx : wr.heap.size < wx.heap.size := by rw [← hWX]; simp
      have z0 : wx.cell? ⟨wr.heap.size, 0, none⟩ = some (.string ys) := by rw [cell_of_row wx _ 0 _ _ _ hr9]; rfl
      have z1 : wx.cell? ⟨wr.heap.size, 1, none⟩ = some (.string yk) := by rw [cell_of_row wx _ 1 _ _ _ hr9]; rfl
      have z2 : wx.cell? ⟨wr.heap.size, 2, none⟩ = some (.string yv) := by rw [cell_of_row wx _ 2 _ _ _ hr9]; rfl
      have z3 : wx.cell? ⟨wr.heap.size, 3, none⟩ = some (.int .i64 ya) := by rw [cell_of_row wx _ 3 _ _ _ hr9]; rfl
      rw [← hbx.cell (p := ⟨b6, 0, none⟩) hl6] at s0
      rw [← hbx.cell (p := ⟨b6, 1, none⟩) hl6] at s1
      have hl6x : b6 < wx.heap.size := Nat.lt_trans hl6 hlx
      have HBX := Lib.hid (HBR.out.trans (hbx.mono HBR.out.size))
      have HOX := Lib.hid (owns_below HOWN.out hbx)
      generalize wr.heap.size = b9 at *
      clear hWX hr9 hbx p0 p1 p2 p3 HOWN HBR HBW hl6
      have hfil : ∀ (bb : Bool), hitL xs xn ⟨ys, yk, yv, ya⟩ = bb → (la.take (j + 1)).filter (fun z => !hitL xs xn z) = if bb = true then pre else pre ++ [⟨ys, yk, yv, ya⟩] := by
        intro bb hbb
        rw [HTK.out, List.filter_append, HPRE.out]
        cases bb <;> simp [hbb]
      have HFIL := Lib.hid hfil
      clear hfil
      by_cases e1 : ys.toList = xs.toList
      · by_cases e2 : yk.toList = xn.toList
        · have hh : hitL xs xn ⟨ys, yk, yv, ya⟩ = true := by unfold hitL eqS; rw [decide_eq_true e1, decide_eq_true e2]; rfl
          have hf := HFIL.out true hh
          rw [if_pos rfl] at hf
          have HF := Lib.hid hf
          clear hf hh
          go_wp2_with fail
          go_roundw
          case rel => exact ⟨j + 1, by go_num, by omega, HBX.out, by rw [HF.out]; exact HOX.out⟩
          case measure => simp [intOf]; omega
        · have hh : hitL xs xn ⟨ys, yk, yv, ya⟩ = false := by unfold hitL eqS; rw [decide_eq_false e2, Bool.and_false]
          have e2b : (yk.toList == xn.toList) = false := by simp [e2]
          have e2d : decide (yk.toList = xn.toList) = false := by simp [e2]
          have hf := HFIL.out false hh
          rw [if_neg (by decide)] at hf
          have HF := Lib.hid hf
          clear hf hh
          go_wp2_with (at_builtin; refine wpList_append_any _ rfl (.tmp 45) (.tmp 47) 22 rfl w3.heap.size 30 i0 (.agg #[.string ⟨#[]⟩, .string ⟨#[]⟩, .string ⟨#[]⟩, .int .i64 0]) 4 56 Try.underlying22 HI.out HZ.out HS.out HB0.out rfl (by omega) _ _ _ rfl (owns_below HOX.out ((Below.refl _ _).alloc (Nat.le_refl _) _)) (wx.heap.size + 1) (some ⟨wx.heap.size, 0, none⟩) 1 1 [.string ys, .string yk, .string yv, .int .i64 ya] rfl (cellsRow _ _ _ 4 rfl) (by simp [Value.oneCell']) (by have := HFL.out; simp only [maxLen]; omega) (by have := HFL.out; omega) (by have := HBX.out.size; simp; omega) ?_; intro v1 w6 hown6 hg6 hat6; have hb6 : Below w3.heap.size w3 w6 := (HBX.out.alloc HBX.out.size _).grown hg6 (by have := HBX.out.size; simp; omega) (fun k hk => (HOX.out.lt k hk).1); have H6a := Lib.hid hown6; have H6b := Lib.hid hb6; clear hown6 hg6 hat6 hb6)
          go_roundw
          case rel => exact ⟨j + 1, by go_num, by omega, H6b.out, by rw [HF.out, List.length_append, flat_append]; exact H6a.out⟩
          case measure => simp [intOf]; omega
      · have hh : hitL xs xn ⟨ys, yk, yv, ya⟩ = false := by unfold hitL eqS; rw [decide_eq_false e1, Bool.false_and]
        have hf := HFIL.out false hh
        rw [if_neg (by decide)] at hf
        have HF := Lib.hid hf
        clear hf hh
        go_wp2_with (at_builtin; refine wpList_append_any _ rfl (.tmp 45) (.tmp 47) 22 rfl w3.heap.size 30 i0 (.agg #[.string ⟨#[]⟩, .string ⟨#[]⟩, .string ⟨#[]⟩, .int .i64 0]) 4 56 Try.underlying22 HI.out HZ.out HS.out HB0.out rfl (by omega) _ _ _ rfl (owns_below HOX.out ((Below.refl _ _).alloc (Nat.le_refl _) _)) (wx.heap.size + 1) (some ⟨wx.heap.size, 0, none⟩) 1 1 [.string ys, .string yk, .string yv, .int .i64 ya] rfl (cellsRow _ _ _ 4 rfl) (by simp [Value.oneCell']) (by have := HFL.out; simp only [maxLen]; omega) (by have := HFL.out; omega) (by have := HBX.out.size; simp; omega) ?_; intro v1 w6 hown6 hg6 hat6; have hb6 : Below w3.heap.size w3 w6 := (HBX.out.alloc HBX.out.size _).grown hg6 (by have := HBX.out.size; simp; omega) (fun k hk => (HOX.out.lt k hk).1); have H6a := Lib.hid hown6; have H6b := Lib.hid hb6; clear hown6 hg6 hat6 hb6)
        go_roundw
        case rel => exact ⟨j + 1, by go_num, by omega, H6b.out, by rw [HF.out, List.length_append, flat_append]; exact H6a.out⟩
        case measure => simp [intOf]; omega
    · have hlti : ¬ (j : Int) < (na : Int) := by omega
      have e : la.take j = la := List.take_of_length_le (by rw [HA.out.len]; omega)
      have ho := HOWN.out
      rw [e] at ho
      obtain ⟨a7, c7, rfl, hin7, -, -⟩ := rows_form LineM.size ho
      have hl7 : (la.filter fun z => !hitL xs xn z).length ≤ 2513169434843 := Nat.le_trans (List.length_filter_le _ _) (by rw [HA.out.len]; exact hna)
      obtain ⟨t', ht1, ht2⟩ : ∃ t', findT xs xn = some t' ∧ t'.2.2.2.1 = true := ⟨t, HTF.out, HTL.out⟩
      have hanew := blend_anew ht1 ht2 la
      have hbL := blendP_len (la.filter fun z => !hitL xs xn z)
      have HIN7 := Lib.hid hin7
      have HANEW := Lib.hid hanew
      clear ho hin7 e hanew
      generalize la.filter (fun z => !hitL xs xn z) = left at *
      generalize hml : left.length = ml at *
      have hbz : Below wr.heap.size wr (wr.alloc (.cells #[.string xs, .string xn, .string ⟨#[]⟩, .int .i64 0] 30)) := (Below.refl _ _).alloc (Nat.le_refl _) _
      have h8 := blend_at (wr.alloc (.cells #[.string xs, .string xn, .string ⟨#[]⟩, .int .i64 0] 30)) [⟨a, na, ca, la⟩, ⟨some ⟨wr.heap.size, 0, none⟩, 1, 1, [⟨xs, xn, ⟨#[]⟩, 0⟩]⟩] (by
        intro x hx
        simp only [List.mem_cons, List.not_mem_nil, or_false] at hx
        rcases hx with rfl | rfl
        · exact HA.out.later (HBW.out.trans (hbz.mono HBW.out.size)) (HBW.out.trans (hbz.mono HBW.out.size)).size
        · exact RowsIn.of_block (l := [⟨xs, xn, ⟨#[]⟩, 0⟩]) LineM.size (heap_alloc_new wr _) (by simp [flat, LineM.row]) (by simp)) (by simp only [sumN]; omega) (by simp)
      rw [show allOf [⟨a, na, ca, la⟩, (⟨some ⟨wr.heap.size, 0, none⟩, 1, 1, [⟨xs, xn, ⟨#[]⟩, 0⟩]⟩ : SlOf LineM)] = la ++ [⟨xs, xn, ⟨#[]⟩, 0⟩] by simp [allOf], HANEW.out] at h8
      rw [show (wr.alloc (.cells #[.string xs, .string xn, .string ⟨#[]⟩, .int .i64 0] 30)).heap.size = wr.heap.size + 1 by simp] at h8
      have hbz' : ∀ W, Below (wr.heap.size + 1) (wr.alloc (.cells #[.string xs, .string xn, .string ⟨#[]⟩, .int .i64 0] 30)) W → Below wr.heap.size wr W := fun W h => ((Below.refl _ _).alloc (Nat.le_refl _) _).trans (h.mono (Nat.le_succ _))
      have HBZ' := Lib.hid hbz'
      clear hbz'
      have H8 := Lib.hid h8
      have HBZ := Lib.hid hbz
      have HBL := Lib.hid hbL
      clear h8 hbz hbL
      go_wp2_with (go_at_call 10; fail)
      refine H8.out.mono ?_
      rintro e w8 ⟨a8, c8, rfl, hin8, hb8⟩
      have hbr8 : Below wr.heap.size wr w8 := HBZ'.out _ hb8
      have h9 := blend_at w8 [⟨a7, ml, c7, left⟩] (by
        intro x hx
        simp only [List.mem_cons, List.not_mem_nil, or_false] at hx
        subst hx
        exact HIN7.out.later hbr8 hbr8.size) (by simp only [sumN]; omega) (by simp)
      rw [show allOf [(⟨a7, ml, c7, left⟩ : SlOf LineM)] = left by simp [allOf]] at h9
      have H9 := Lib.hid h9
      have HIN8 := Lib.hid hin8
      have HB8 := Lib.hid (HBW.out.trans (hbr8.mono HBW.out.size))
      clear h9 hin8 hb8 hbr8 s0 s1
      generalize blendP left = L at *
      generalize hmm : L.length = m at *
      go_wp2_with (go_at_call 10; fail)
      refine H9.out.mono ?_
      rintro e w9 ⟨a9, c9, rfl, hin9, hb9⟩
      have HSA := Lib.hid (same_any a8 a9 m c8 c9 L w9 (HIN8.out.later hb9 hb9.size) hin9 (by have := HBL.out; omega))
      have HB9 := Lib.hid (HB8.out.trans (hb9.mono HB8.out.size))
      clear hin9 hb9
      go_wp2_with (go_at_call 9; refine HSA.out.mono ?_; rintro e w10 ⟨rfl, hb10⟩)
      exact bodyPost_ret (v := .bool true) (by simp [results, Try.results7, go_sem]) rfl ⟨rfl, HB9.out.trans (hb10.mono HB9.out.size)⟩

end Go.Proofs.Ytcionpepgpfjdaa
