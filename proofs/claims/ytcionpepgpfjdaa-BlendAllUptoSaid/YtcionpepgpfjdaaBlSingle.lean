/-
  The walk of BlendSingle.
-/
import Derived.Test.YtcionpepgpfjdaaBlOnce
import Derived.Test.YtcionpepgpfjdaaBlPlainA
namespace Go.Proofs.Ytcionpepgpfjdaa
open Go.ChangeShapes Go.WideShapes Go.ChangeAt Go.RowKit

/-- a line's four cells -/
structure LineAt (w : World) (b : Nat) (x : LineM) : Prop where
  c0 : w.cell? ⟨b, 0, none⟩ = some (.string x.s)
  c1 : w.cell? ⟨b, 1, none⟩ = some (.string x.k)
  c2 : w.cell? ⟨b, 2, none⟩ = some (.string x.v)
  c3 : w.cell? ⟨b, 3, none⟩ = some (.int .i64 x.a)

theorem LineAt.set {w : World} {b : Nat} {x : LineM} (h : LineAt w b x) (y : LineM) :
    LineAt ((((w.setCell ⟨b, 0, none⟩ (.string y.s)).setCell ⟨b, 1, none⟩ (.string y.k)).setCell ⟨b, 2, none⟩ (.string y.v)).setCell ⟨b, 3, none⟩ (.int .i64 y.a)) b y := by
  obtain ⟨c0, c1, c2, c3⟩ := h
  refine ⟨?_, ?_, ?_, ?_⟩
  all_goals go_simp

theorem LineAt.of_row {w : World} {b : Nat} {x : LineM} {ty : TypeId} (h : w.heap[b]? = some (.cells x.row ty (0, 0))) : LineAt w b x := by
  refine ⟨?_, ?_, ?_, ?_⟩
  all_goals (rw [cell_of_row w b _ _ ty (0, 0) h]; rfl)

theorem LineAt.below {w w' : World} {B b : Nat} {x : LineM} (h : LineAt w b x) (hb : Below B w w') (hB : b < B) : LineAt w' b x := by
  obtain ⟨c0, c1, c2, c3⟩ := h
  refine ⟨?_, ?_, ?_, ?_⟩
  all_goals (rw [hb.cell (p := ⟨b, _, none⟩) hB]; assumption)

theorem rows_drop {w : World} {B b off n : Nat} {l : List LineM} (h : RowsIn LineM.row 4 w B (some ⟨b, off, none⟩) n l) (k : Nat) : RowsIn LineM.row 4 w B (some ⟨b, off + k * 4, none⟩) (n - k) (l.drop k) := by
  refine ⟨by rw [List.length_drop, h.len], fun hn => ?_⟩
  obtain ⟨b', off', e, hlt, hc⟩ := h.at_ (by omega)
  injection e with e
  injection e with e1 e2
  subst e1 e2
  refine ⟨b, off + k * 4, rfl, hlt, fun i x hx j v hv => ?_⟩
  rw [List.getElem?_drop] at hx
  have := hc (k + i) x hx j v hv
  rw [show off + k * 4 + i * 4 = off + (k + i) * 4 by omega]
  exact this
theorem rows_end {w : World} {B n k : Nat} {a : Option Addr} {l : List LineM} (hl : l.length = n) (h : n ≤ k) : RowsIn LineM.row 4 w B a (n - k) (l.drop k) :=
  ⟨by rw [List.length_drop, hl], fun hn => absurd hn (by omega)⟩

/-- what keys.Find answers, in one form -/
theorem find_form {s k : ByteArray} {e : Ending} (h : FindRet s k e) : ∃ (ks kn : ByteArray) (kf : Int) (L : Bool) (kk : Int) (wa : Option Addr) (wn wc : Nat) (is : Bool),
    e = .returned (.tuple #[.agg #[.string ks, .string kn, .int .i64 kf, .bool L, .int .i64 kk, .slice wa wn wc], .bool is]) ∧
    ∀ x : LineM, x.s = s → x.k = k → badB x = (is && (L && isE x)) ∧ singleB x = (is && !L) := by
  unfold FindRet at h
  cases hf : findT s k with
  | none =>
    rw [hf] at h
    refine ⟨_, _, _, _, _, _, _, _, _, h, fun x h1 h2 => ?_⟩
    unfold badB singleB
    rw [h1, h2, hf]
    simp
  | some t =>
    rw [hf] at h
    obtain ⟨wa, wn, wc, h⟩ := h
    refine ⟨_, _, _, _, _, _, _, _, _, h, fun x h1 h2 => ?_⟩
    unfold badB singleB
    rw [h1, h2, hf]
    simp

theorem blend_at2 (W : World) (ls : List (SlOf LineM)) (hin : ∀ x ∈ ls, RowsIn LineM.row 4 W W.heap.size x.a x.n x.l) (hs : sumN ls ≤ 90000000) (hk : ls.length ≤ 1000) :
    Calls Try.prog 10 #[.slice (some ⟨W.heap.size, 0, none⟩) ls.length ls.length] (W.alloc (.cells (ls.map SlOf.val).toArray 22))
      fun e w' => ∃ a c, e = .returned (.slice a (blendP (allOf ls)).length c) ∧ RowsIn LineM.row 4 w' w'.heap.size a (blendP (allOf ls)).length (blendP (allOf ls)) ∧ (blendP (allOf ls)).length ≤ c ∧ Below W.heap.size W w' := by
  have hb : Below W.heap.size W (W.alloc (.cells (ls.map SlOf.val).toArray 22)) := (Below.refl _ _).alloc (Nat.le_refl _) _
  refine (blend_any (some ⟨W.heap.size, 0, none⟩) ls.length ls _ (ls_at (heap_alloc_new W _)) (fun x hx => (hin x hx).later hb hb.size) hs hk).mono ?_
  rintro e w' ⟨v, rfl, hown, hb'⟩
  obtain ⟨a, c, rfl, hr, -, hle⟩ := rows_form LineM.size hown
  exact ⟨a, c, rfl, hr, hle, hb.trans (hb'.mono hb.size)⟩

set_option maxRecDepth 100000 in
set_option maxHeartbeats 3000000 in
theorem single_any (a b : Option Addr) (na ca nb cb : Nat) (la lb : List LineM) (w : World) (ha : RowsIn LineM.row 4 w w.heap.size a na la) (hb : RowsIn LineM.row 4 w w.heap.size b nb lb)
    (hna : na ≤ 10000000) (hnb : nb ≤ 10000000) :
    Calls Try.prog 6 #[.slice a na ca, .slice b nb cb] w fun e w' => e = .returned (.bool true) ∧ Below w.heap.size w w' := by
  obtain ⟨i0, hi0, hz0, hs0, hb0⟩ := info_parts lineInfo
  have HI := Lib.hid hi0
  have HZ := Lib.hid hz0
  have HS := Lib.hid hs0
  have HB0 := Lib.hid hb0
  have HA := Lib.hid ha
  have HB := Lib.hid hb
  have H1A := Lib.hid (lines_one la)
  have H1B := Lib.hid (lines_one lb)
  clear ha hb hi0 hz0 hs0 hb0
  go_enter Try.func6, Try.ntmps6
  go_wp2_with (go_at_call 8; fail)
  refine (shown_true _).mono ?_
  rintro e w1 ⟨rfl, hb1⟩
  have HB1 := Lib.hid hb1
  clear hb1
  go_upto_region 4 with (first
    | (at_builtin; refine wpList_append_any _ rfl (.const (.slice none 0 0)) (.tmp 18) 22 rfl w.heap.size 30 i0 (.agg #[.string ⟨#[]⟩, .string ⟨#[]⟩, .string ⟨#[]⟩, .int .i64 0]) 4 56 Try.underlying22 HI.out HZ.out HS.out HB0.out rfl (by omega) (.slice none 0 0) 0 [] rfl ⟨by simp, .inl ⟨rfl, rfl⟩⟩ w1.heap.size a na ca _ rfl ((HA.out.later HB1.out HB1.out.size).reads LineM.size (by omega)) H1A.out (by simp only [maxLen]; omega) (by omega) HB1.out.size ?_; intro v4 w4 hown hg hat; have HO4 := Lib.hid hown; have HB4 := Lib.hid (HB1.out.grown hg HB1.out.size (by simp [Value.ownBlock])); clear hown hg hat)
    | (at_builtin; refine wpList_append_any _ rfl (.tmp 19) (.tmp 20) 22 rfl w.heap.size 30 i0 (.agg #[.string ⟨#[]⟩, .string ⟨#[]⟩, .string ⟨#[]⟩, .int .i64 0]) 4 56 Try.underlying22 HI.out HZ.out HS.out HB0.out rfl (by omega) v4 (0 + na) ([] ++ flat LineM.row la) rfl HO4.out w4.heap.size b nb cb _ rfl ((HB.out.later HB4.out HB4.out.size).reads LineM.size (by omega)) H1B.out (by simp only [maxLen]; omega) (by omega) HB4.out.size ?_; intro v5 w5 hown hg hat; obtain ⟨a5, c5, rfl⟩ := own_slice hown; have HO5 := Lib.hid hown; have HB5 := Lib.hid (HB4.out.grown hg HB4.out.size (fun k hk => (HO4.out.lt k hk).1)); clear hown hg hat))
  have hxs : [] ++ flat LineM.row la ++ flat LineM.row lb = flat LineM.row (la ++ lb) := by rw [List.nil_append, flat_append]
  have hll : (la ++ lb).length = na + nb := by rw [List.length_append, HA.out.len, HB.out.len]
  have ho := HO5.out
  rw [hxs, show 0 + na + nb = (la ++ lb).length by rw [hll]; omega] at ho
  obtain ⟨a6, c6, e6, hin5, -, -⟩ := rows_form LineM.size ho
  rw [hll] at e6 hin5
  injection e6 with e1 _ e3
  subst e1 e3
  have HIN5 := Lib.hid hin5
  have h1 := blend_at2 w5 [⟨a, na, ca, la⟩, ⟨b, nb, cb, lb⟩] (by
    intro x hx
    simp only [List.mem_cons, List.not_mem_nil, or_false] at hx
    rcases hx with rfl | rfl
    · exact HA.out.later HB5.out HB5.out.size
    · exact HB.out.later HB5.out HB5.out.size) (by simp only [sumN]; omega) (by simp)
  rw [show allOf [⟨a, na, ca, la⟩, (⟨b, nb, cb, lb⟩ : SlOf LineM)] = la ++ lb by simp [allOf]] at h1
  have H1 := Lib.hid h1
  have hl2 := blendP_len (la ++ lb)
  rw [hll] at hl2
  have hgood : ∀ x ∈ blendP (la ++ lb), badB x = false := (good_blend (la ++ lb)).1
  have hsing : ∀ (i j : Nat) (x y : LineM), (blendP (la ++ lb))[i]? = some x → (blendP (la ++ lb))[j]? = some y → i < j → singleB x = true → hitL x.s x.k y = false := fun i j x y hi hj hij hs => blend_single hi hj hij hs
  have hlast : ∀ x ∈ blendP (la ++ lb), singleB x = true → ∀ d, lastF x.s x.k (la ++ lb) d = x := fun x hx hs d => blend_last d hx hs
  have HGOOD := Lib.hid hgood
  have HSING := Lib.hid hsing
  have HLAST := Lib.hid hlast
  clear h1 hin5 ho hxs hgood hsing hlast HO4 HO5 HB4 HB1 HA HB H1A H1B
  generalize blendP (la ++ lb) = L at *
  generalize la ++ lb = all at *
  generalize hm : L.length = m at *
  generalize hN : na + nb = N at *
  have HM := Lib.hid hm
  have HLL := Lib.hid hll
  clear hm hll
  go_wp2_with (go_at_call 10; fail)
  refine H1.out.mono ?_
  rintro e w2 ⟨a2, c2, rfl, hin2, hmc, hb2⟩
  have HIN2 := Lib.hid hin2
  have HALL := Lib.hid (HIN5.out.later hb2 hb2.size)
  have HB2 := Lib.hid (HB5.out.trans (hb2.mono HB5.out.size))
  clear hin2 hb2 H1 HIN5 HB5
  go_wp2_with fail
  go_loopw [7, 8, 9, 10, 12, 13, 15, 28] (fun v7 v8 v9 v10 v12 v13 v15 v28 wr => ∃ i : Nat, v28 = .int .i64 i ∧ i ≤ m ∧ Below w2.heap.size w2 wr) (fun _ _ _ _ _ _ _ v28 _ => m - (intOf v28).toNat)
  case atStart => exact ⟨0, rfl, Nat.zero_le _, Below.refl _ _⟩
  case round =>
    obtain ⟨i, rfl, hi, hbr⟩ := hrel
    have HBR := Lib.hid hbr
    by_cases hlt : i < m
    · have hlti : (i : Int) < (m : Int) := by omega
      have hwi : IntKind.i64.wrap ((i : Int) + 1) = (i : Int) + 1 := by rw [IntKind.wrap_i64]; omega
      have hil : i < L.length := by rw [HM.out]; exact hlt
      obtain ⟨bs, off, rfl, hbs, hcl⟩ := HIN2.out.at_ (by omega)
      have hcx := hcl i L[i] (List.getElem?_eq_getElem hil)
      have hrow : ∀ t v, (LineM.row L[i])[t]? = some v → wr.cell? ⟨bs, off + i * 4 + t, none⟩ = some v := fun t v hv => (hbr.cell (p := ⟨bs, off + i * 4 + t, none⟩) hbs).trans (hcx t v hv)
      have hxi : L[i]? = some L[i] := List.getElem?_eq_getElem hil
      have hxm : L[i] ∈ L := List.getElem_mem hil
      have hbad := HGOOD.out _ hxm
      have hla := HLAST.out _ hxm
      have hsi := fun j y hy hij => HSING.out i j _ y hxi hy hij
      generalize L[i] = x at hrow hbad hla hsi
      have HBAD := Lib.hid hbad
      have HLA := Lib.hid hla
      have HSI := Lib.hid hsi
      clear hcx hcl hxi hxm hbad hla hsi hbr
      obtain ⟨xs, xk, xv, xa⟩ := x
      unfold LineM.row at hrow
      dsimp only at hrow
      have p0 := hrow 0 _ rfl
      have p1 := hrow 1 _ rfl
      have p2 := hrow 2 _ rfl
      have p3 := hrow 3 _ rfl
      simp only [Nat.add_zero] at p0
      clear hrow
      go_upto_region 8 with fail
      generalize hW8 : wr.alloc _ = w8
      have hr8 : w8.heap[wr.heap.size]? = some (.cells (LineM.row ⟨xs, xk, xv, xa⟩) 30 (0, 0)) := by rw [← hW8]; exact heap_alloc_new wr _
      have hb8 : Below w2.heap.size w2 w8 := by rw [← hW8]; exact HBR.out.alloc HBR.out.size _
      have hl8 : wr.heap.size < w8.heap.size := by rw [← hW8]; simp
      have HX8 := Lib.hid (LineAt.of_row hr8)
      have HB8 := Lib.hid hb8
      have HL8 := Lib.hid hl8
      have HLE8 : Hid (w2.heap.size ≤ wr.heap.size) := Lib.hid HBR.out.size
      generalize wr.heap.size = b8 at *
      clear hW8 hr8 hb8 p0 p1 p2 p3 HBR
      obtain ⟨x0, x1, x2, x3⟩ := HX8.out
      dsimp only at x0 x1 x2 x3
      go_wp2_with (go_at_call 12; fail)
      refine (find_any xs xk _).mono ?_
      rintro e w9 ⟨hret, hb9⟩
      obtain ⟨ks, kn, kf, Lb, kk, wa, wn, wc, is, rfl, hform⟩ := find_form hret
      obtain ⟨hf1, hf2⟩ := hform ⟨xs, xk, xv, xa⟩ rfl rfl
      have HF1 := Lib.hid hf1
      have HF2 := Lib.hid hf2
      have HX9 := Lib.hid (HX8.out.below hb9 HL8.out)
      have HB9 := Lib.hid (HB8.out.trans (hb9.mono HB8.out.size))
      have HL9 : Hid (b8 < w9.heap.size) := Lib.hid (Nat.lt_of_lt_of_le HL8.out hb9.size)
      clear hret hform hf1 hf2 hb9 x0 x1 x2 x3 HX8 HB8 HL8
      go_upto_region 9 with fail
      generalize hW10 : w9.alloc _ = w10
      have hr10 : w10.heap[w9.heap.size]? = some (.cells #[.string ks, .string kn, .int .i64 kf, .bool Lb, .int .i64 kk, .slice wa wn wc] 33 (0, 0)) := by rw [← hW10]; exact heap_alloc_new w9 _
      have hb910 : Below w9.heap.size w9 w10 := by rw [← hW10]; exact (Below.refl _ _).alloc (Nat.le_refl _) _
      have hl10 : w9.heap.size < w10.heap.size := by rw [← hW10]; simp
      have HX10 := Lib.hid (HX9.out.below hb910 HL9.out)
      have HB10 := Lib.hid (HB9.out.trans (hb910.mono HB9.out.size))
      have c3 : w10.cell? ⟨w9.heap.size, 3, none⟩ = some (.bool Lb) := by rw [cell_of_row w10 _ 3 _ _ _ hr10]; rfl
      have HC3 := Lib.hid c3
      have hl810 : b8 < w10.heap.size := Nat.lt_trans HL9.out hl10
      have HLE9 : Hid (w2.heap.size ≤ w9.heap.size) := Lib.hid HB9.out.size
      generalize w9.heap.size = b10 at *
      clear hW10 hr10 hb910 HX9 HB9 HL9
      cases is
      · go_wp2_with fail
        go_roundw
        case rel => exact ⟨i + 1, by go_num, by omega, HB10.out⟩
        case measure => simp [intOf]; omega
      have hx := HX10.out
      obtain ⟨x0, x1, x2, x3⟩ := hx
      dsimp only at x0 x1 x2 x3
      have hE : isE ⟨xs, xk, xv, xa⟩ = decide (xv.toList = (⟨#[]⟩ : ByteArray).toList) := rfl
      have he0 : (⟨#[]⟩ : ByteArray).toList = [] := by decide +kernel
      have hwi2 : IntKind.i64.wrap ((i : Int) + 1) = (i : Int) + 1 := hwi
      have hsl1 : (i : Int) + 1 ≤ (m : Int) := by omega
      have hsl2 : (i : Int) + 1 ≤ (c2 : Int) := by omega
      have hsl3 : (m : Int) ≤ (c2 : Int) := by omega
      have hsl0 : (0 : Int) ≤ (i : Int) + 1 := by omega
      have hgo : Lb = true ∧ ¬ xv.toList = [] ∨ Lb = false := by
        cases Lb
        · exact .inr rfl
        · refine .inl ⟨rfl, ?_⟩
          have h1 := HF1.out
          rw [HBAD.out, hE, he0] at h1
          intro h
          rw [decide_eq_true h] at h1
          exact absurd h1 (by decide)
      rcases hgo with ⟨rfl, he⟩ | rfl
      · have he3 : (xv.toList == []) = false := by simp [he]
        clear he0 hE
        go_upto_region 12 with fail
        go_cut [53, 54, 55] from 50 to 55 (fun v53 v54 v55 wz => ∃ A C, v53 = .slice A (m - (i + 1)) C ∧ v54 = .int .i64 ((m - (i + 1) : Nat) : Int) ∧ v55 = .int .i64 0 ∧ wz = w10 ∧ RowsIn LineM.row 4 w10 w10.heap.size A (m - (i + 1)) (L.drop (i + 1)))
        case first =>
          have hr0 := HIN2.out.later HB10.out HB10.out.size
          have HD := Lib.hid (rows_drop hr0 (i + 1))
          have HE := Lib.hid (fun (A : Option Addr) (h : m ≤ i + 1) => rows_end (w := w10) (B := w10.heap.size) (a := A) HM.out h)
          clear hr0
          obtain ⟨A, hA, hAr⟩ : ∃ A, (if c2 = i + 1 then some (⟨bs, off, none⟩ : Addr) else some ⟨bs, off + (i + 1) * 4, none⟩) = A ∧ RowsIn LineM.row 4 w10 w10.heap.size A (m - (i + 1)) (L.drop (i + 1)) := by
            refine ⟨_, rfl, ?_⟩
            split
            · exact HE.out _ (by omega)
            · exact HD.out
          have HAR := Lib.hid hAr
          clear hAr
          go_wp2_with fail
          go_meet
          exact ⟨_, _, rfl, by congr 1, rfl, rfl, HAR.out⟩
        obtain ⟨A, C, rfl, rfl, rfl, rfl, hrd⟩ := hcut
        have HRD := Lib.hid hrd
        clear hrd hsl0 hsl1 hsl2 hsl3 hwi2
        have hri : m - (i + 1) ≤ m := Nat.sub_le _ _
        generalize hr : m - (i + 1) = r at *
        clear hr
        clear x0 x1 x2 x3 c3
        go_wp2_with fail
        go_loopw [12, 55] (fun v12 v55 wq => ∃ j : Nat, v55 = .int .i64 j ∧ j ≤ r ∧ Below wc.heap.size wc wq) (fun _ v55 _ => r - (intOf v55).toNat)
        case atStart => exact ⟨0, rfl, Nat.zero_le _, Below.refl _ _⟩
        case round =>
          obtain ⟨j, rfl, hj, hbq⟩ := hrel
          have HBQ := Lib.hid hbq
          have HXQ := Lib.hid (HX10.out.below hbq hl810)
          have hl8q : b8 < wr.heap.size := Nat.lt_of_lt_of_le hl810 hbq.size
          have hl10q : b10 < wr.heap.size := Nat.lt_of_lt_of_le hl10 hbq.size
          have c3 := (hbq.cell (p := ⟨b10, 3, none⟩) hl10).trans HC3.out
          have HC3Q := Lib.hid c3
          by_cases hltj : j < r
          · have hltji : (j : Int) < (r : Int) := by omega
            have hwj : IntKind.i64.wrap ((j : Int) + 1) = (j : Int) + 1 := by rw [IntKind.wrap_i64]; omega
            have hjl : j < (L.drop (i + 1)).length := by rw [HRD.out.len]; exact hltj
            obtain ⟨by_, oy, rfl, hby, hcy⟩ := HRD.out.at_ (by omega)
            have hyj := List.getElem?_eq_getElem hjl
            have hcx := hcy j _ hyj
            have hrow : ∀ t v, (LineM.row (L.drop (i + 1))[j])[t]? = some v → wr.cell? ⟨by_, oy + j * 4 + t, none⟩ = some v := fun t v hv => (hbq.cell (p := ⟨by_, oy + j * 4 + t, none⟩) hby).trans (hcx t v hv)
            rw [List.getElem?_drop] at hyj
            generalize (L.drop (i + 1))[j] = y at hrow hyj
            clear hcx hcy hyj hbq
            obtain ⟨ys, yk, yv, ya⟩ := y
            unfold LineM.row at hrow
            dsimp only at hrow
            have p0 := hrow 0 _ rfl
            have p1 := hrow 1 _ rfl
            have p2 := hrow 2 _ rfl
            have p3 := hrow 3 _ rfl
            simp only [Nat.add_zero] at p0
            clear hrow
            go_wp2_with fail
            go_roundw
            case rel => exact ⟨j + 1, by go_num, by omega, HBQ.out.alloc HBQ.out.size _⟩
            case measure => simp [intOf]; omega
          · have hltji : ¬ (j : Int) < (r : Int) := by omega
            have HBW := Lib.hid (HB10.out.trans (hbq.mono HB10.out.size))
            clear hbq
            obtain ⟨x0, x1, x2, x3⟩ := HXQ.out
            dsimp only at x0 x1 x2 x3
            go_upto_region 19 with fail
            generalize hW13 : wr.alloc _ = w13
            have hr13 : w13.heap[wr.heap.size]? = some (.cells (LineM.row ⟨xs, xk, xv, xa⟩) 30 (0, 0)) := by rw [← hW13]; exact heap_alloc_new wr _
            have hb13 : Below wr.heap.size wr w13 := by rw [← hW13]; exact (Below.refl _ _).alloc (Nat.le_refl _) _
            have hl13 : wr.heap.size < w13.heap.size := by rw [← hW13]; simp
            have H13 := Lib.hid (LineAt.of_row hr13)
            have f13 : ∀ k, w13.frozen? ⟨wr.heap.size, k, none⟩ = false := fun k => frozen_of_row _ _ _ _ _ hr13
            have HF13 := Lib.hid f13
            have HX13 := Lib.hid (HXQ.out.below hb13 hl8q)
            have HC13 := Lib.hid ((hb13.cell (p := ⟨b10, 3, none⟩) hl10q).trans HC3Q.out)
            have HB13 := Lib.hid (HBW.out.trans (hb13.mono HBW.out.size))
            have HW2 : Hid (w2.heap.size ≤ wr.heap.size) := Lib.hid HBW.out.size
            generalize wr.heap.size = b13 at *
            clear hW13 hr13 hb13 f13 x0 x1 x2 x3 c3 HXQ HC3Q HBQ HBW
            go_wp2_with fail
            go_loopw [15, 80] (fun v15 v80 wq => ∃ j : Nat, v80 = .int .i64 j ∧ j ≤ N ∧ Below b13 w13 wq ∧ LineAt wq b13 (lastF xs xk (all.take j) ⟨xs, xk, xv, xa⟩) ∧ ∀ k, wq.frozen? ⟨b13, k, none⟩ = false) (fun _ v80 _ => N - (intOf v80).toNat)
            case atStart => exact ⟨0, rfl, Nat.zero_le _, Below.refl _ _, H13.out, HF13.out⟩
            case round =>
              obtain ⟨j, rfl, hj, hbq, hla, hfz⟩ := hrel
              have HBQ := Lib.hid hbq
              have HLQ := Lib.hid hla
              have HFQ := Lib.hid hfz
              have HXQ := Lib.hid (HX13.out.below hbq hl8q)
              have hl13q : b13 < wr.heap.size := Nat.lt_of_lt_of_le hl13 hbq.size
              have hl8r : b8 < wr.heap.size := Nat.lt_trans hl8q hl13q
              have hl10r : b10 < wr.heap.size := Nat.lt_trans hl10q hl13q
              have c3 := (hbq.cell (p := ⟨b10, 3, none⟩) hl10q).trans HC13.out
              have HBW : Hid (Below w2.heap.size w2 wr) := Lib.hid (HB13.out.trans (hbq.mono HW2.out))
              by_cases hltj : j < N
              · have hltji : (j : Int) < (N : Int) := by omega
                have hwj : IntKind.i64.wrap ((j : Int) + 1) = (j : Int) + 1 := by rw [IntKind.wrap_i64]; omega
                have hjl : j < all.length := by rw [HLL.out]; exact hltj
                obtain ⟨by_, oy, rfl, hby, hcy⟩ := HALL.out.at_ (by omega)
                have hcx := hcy j _ (List.getElem?_eq_getElem hjl)
                have hrow : ∀ t v, (LineM.row all[j])[t]? = some v → wr.cell? ⟨by_, oy + j * 4 + t, none⟩ = some v := fun t v hv => (HBW.out.cell (p := ⟨by_, oy + j * 4 + t, none⟩) hby).trans (hcx t v hv)
                have hlf := lastF_snoc xs xk (all.take j) all[j] ⟨xs, xk, xv, xa⟩
                rw [List.take_append_getElem hjl] at hlf
                generalize all[j] = y at hrow hlf
                have HLF := Lib.hid hlf
                clear hcx hcy hbq hla hfz hlf
                obtain ⟨ys, yk, yv, ya⟩ := y
                unfold LineM.row at hrow
                dsimp only at hrow
                have p0 := hrow 0 _ rfl
                have p1 := hrow 1 _ rfl
                have p2 := hrow 2 _ rfl
                have p3 := hrow 3 _ rfl
                simp only [Nat.add_zero] at p0
                clear hrow
                obtain ⟨x0, x1, x2, x3⟩ := HXQ.out
                dsimp only at x0 x1 x2 x3
                have hba : ∀ o, Below wr.heap.size wr (wr.alloc o) := fun o => (Below.refl _ _).alloc (Nat.le_refl _) _
                by_cases e1 : ys.toList = xs.toList
                · by_cases e2 : yk.toList = xk.toList
                  · have hh : hitL xs xk ⟨ys, yk, yv, ya⟩ = true := by unfold hitL eqS; rw [decide_eq_true e1, decide_eq_true e2]; rfl
                    have hlf := HLF.out
                    rw [if_pos hh] at hlf
                    have HLF2 := Lib.hid hlf
                    clear hlf hh
                    obtain ⟨d0, d1, d2, d3⟩ := HLQ.out
                    have f0 : ∀ k, wr.frozen? ⟨b13, k, none⟩ = false := HFQ.out
                    go_wp2_with fail
                    go_roundw
                    case rel =>
                      refine ⟨j + 1, by go_num, by omega, ?_, ?_, ?_⟩
                      · refine Below.alloc ?_ (by simp; omega) _
                        iterate 4 refine Below.setCell ?_ (by simp) _
                        exact HBQ.out
                      · rw [HLF2.out]
                        exact (HLQ.out.set ⟨ys, yk, yv, ya⟩).below ((Below.refl _ _).alloc (Nat.le_refl _) _) (by simpa using hl13q)
                      · intro k
                        refine (((Below.refl _ _).alloc (Nat.le_refl _) _).frozen (p := ⟨b13, k, none⟩) (by simpa using hl13q)).trans ?_
                        simp only [World.frozen?_setCell]
                        exact HFQ.out k
                    case measure => simp [intOf]; omega
                  · have e2b : (yk.toList == xk.toList) = false := by simp [e2]
                    have e2d : decide (yk.toList = xk.toList) = false := by simp [e2]
                    have hh : hitL xs xk ⟨ys, yk, yv, ya⟩ = false := by unfold hitL eqS; first | (rw [decide_eq_false e1, Bool.false_and]; done) | rw [decide_eq_false e2, Bool.and_false]
                    have hlf := HLF.out
                    rw [if_neg (by rw [hh]; decide)] at hlf
                    have HLF2 := Lib.hid hlf
                    clear hlf hh
                    go_wp2_with fail
                    go_roundw
                    case rel => exact ⟨j + 1, by go_num, by omega, HBQ.out.trans ((hba _).mono (Nat.le_of_lt hl13q)), by rw [HLF2.out]; exact HLQ.out.below (hba _) hl13q, fun k => ((hba _).frozen (p := ⟨b13, k, none⟩) hl13q).trans (HFQ.out k)⟩
                    case measure => simp [intOf]; omega
                · skip
                  have hh : hitL xs xk ⟨ys, yk, yv, ya⟩ = false := by unfold hitL eqS; first | (rw [decide_eq_false e1, Bool.false_and]; done) | rw [decide_eq_false e2, Bool.and_false]
                  have hlf := HLF.out
                  rw [if_neg (by rw [hh]; decide)] at hlf
                  have HLF2 := Lib.hid hlf
                  clear hlf hh
                  go_wp2_with fail
                  go_roundw
                  case rel => exact ⟨j + 1, by go_num, by omega, HBQ.out.trans ((hba _).mono (Nat.le_of_lt hl13q)), by rw [HLF2.out]; exact HLQ.out.below (hba _) hl13q, fun k => ((hba _).frozen (p := ⟨b13, k, none⟩) hl13q).trans (HFQ.out k)⟩
                  case measure => simp [intOf]; omega
              · have hltji : ¬ (j : Int) < (N : Int) := by omega
                have e : all.take j = all := List.take_of_length_le (by rw [HLL.out]; omega)
                obtain ⟨x0, x1, x2, x3⟩ := HXQ.out
                dsimp only at x0 x1 x2 x3
                clear hbq hla hfz e
                go_wp2_with fail
                go_roundw
                case rel => exact ⟨i + 1, by go_num, by omega, HBW.out⟩
                case measure => simp [intOf]; omega
      · skip
        clear he0 hE
        have hs1 : singleB ⟨xs, xk, xv, xa⟩ = true := by rw [HF2.out]; rfl
        have HSJ := Lib.hid (fun j y (hy : L[j]? = some y) hij => HSI.out j y hy hij hs1)
        have HLJ := Lib.hid (HLA.out hs1 ⟨xs, xk, xv, xa⟩)
        clear hs1
        go_upto_region 12 with fail
        go_cut [53, 54, 55] from 50 to 55 (fun v53 v54 v55 wz => ∃ A C, v53 = .slice A (m - (i + 1)) C ∧ v54 = .int .i64 ((m - (i + 1) : Nat) : Int) ∧ v55 = .int .i64 0 ∧ wz = w10 ∧ RowsIn LineM.row 4 w10 w10.heap.size A (m - (i + 1)) (L.drop (i + 1)))
        case first =>
          have hr0 := HIN2.out.later HB10.out HB10.out.size
          have HD := Lib.hid (rows_drop hr0 (i + 1))
          have HE := Lib.hid (fun (A : Option Addr) (h : m ≤ i + 1) => rows_end (w := w10) (B := w10.heap.size) (a := A) HM.out h)
          clear hr0
          obtain ⟨A, hA, hAr⟩ : ∃ A, (if c2 = i + 1 then some (⟨bs, off, none⟩ : Addr) else some ⟨bs, off + (i + 1) * 4, none⟩) = A ∧ RowsIn LineM.row 4 w10 w10.heap.size A (m - (i + 1)) (L.drop (i + 1)) := by
            refine ⟨_, rfl, ?_⟩
            split
            · exact HE.out _ (by omega)
            · exact HD.out
          have HAR := Lib.hid hAr
          clear hAr
          go_wp2_with fail
          go_meet
          exact ⟨_, _, rfl, by congr 1, rfl, rfl, HAR.out⟩
        obtain ⟨A, C, rfl, rfl, rfl, rfl, hrd⟩ := hcut
        have HRD := Lib.hid hrd
        clear hrd hsl0 hsl1 hsl2 hsl3 hwi2
        have hri : m - (i + 1) ≤ m := Nat.sub_le _ _
        generalize hr : m - (i + 1) = r at *
        clear hr
        clear x0 x1 x2 x3 c3
        go_wp2_with fail
        go_loopw [12, 55] (fun v12 v55 wq => ∃ j : Nat, v55 = .int .i64 j ∧ j ≤ r ∧ Below wc.heap.size wc wq) (fun _ v55 _ => r - (intOf v55).toNat)
        case atStart => exact ⟨0, rfl, Nat.zero_le _, Below.refl _ _⟩
        case round =>
          obtain ⟨j, rfl, hj, hbq⟩ := hrel
          have HBQ := Lib.hid hbq
          have HXQ := Lib.hid (HX10.out.below hbq hl810)
          have hl8q : b8 < wr.heap.size := Nat.lt_of_lt_of_le hl810 hbq.size
          have hl10q : b10 < wr.heap.size := Nat.lt_of_lt_of_le hl10 hbq.size
          have c3 := (hbq.cell (p := ⟨b10, 3, none⟩) hl10).trans HC3.out
          have HC3Q := Lib.hid c3
          by_cases hltj : j < r
          · have hltji : (j : Int) < (r : Int) := by omega
            have hwj : IntKind.i64.wrap ((j : Int) + 1) = (j : Int) + 1 := by rw [IntKind.wrap_i64]; omega
            have hjl : j < (L.drop (i + 1)).length := by rw [HRD.out.len]; exact hltj
            obtain ⟨by_, oy, rfl, hby, hcy⟩ := HRD.out.at_ (by omega)
            have hyj := List.getElem?_eq_getElem hjl
            have hcx := hcy j _ hyj
            have hrow : ∀ t v, (LineM.row (L.drop (i + 1))[j])[t]? = some v → wr.cell? ⟨by_, oy + j * 4 + t, none⟩ = some v := fun t v hv => (hbq.cell (p := ⟨by_, oy + j * 4 + t, none⟩) hby).trans (hcx t v hv)
            rw [List.getElem?_drop] at hyj
            have hnh := HSJ.out _ _ hyj (by omega)
            generalize (L.drop (i + 1))[j] = y at hrow hyj hnh
            clear hcx hcy hyj hbq
            obtain ⟨ys, yk, yv, ya⟩ := y
            unfold LineM.row at hrow
            dsimp only at hrow
            have p0 := hrow 0 _ rfl
            have p1 := hrow 1 _ rfl
            have p2 := hrow 2 _ rfl
            have p3 := hrow 3 _ rfl
            simp only [Nat.add_zero] at p0
            clear hrow
            obtain ⟨x0, x1, x2, x3⟩ := HXQ.out
            dsimp only at x0 x1 x2 x3
            by_cases e1 : xs.toList = ys.toList
            · have e2 : ¬ xk.toList = yk.toList := by
                intro h
                unfold hitL eqS at hnh
                rw [decide_eq_true e1.symm, decide_eq_true h.symm] at hnh
                exact absurd hnh (by decide)
              have e2b : (xk.toList == yk.toList) = false := by simp [e2]
              have e2d : decide (xk.toList = yk.toList) = false := by simp [e2]
              clear hnh
              go_wp2_with fail
              go_roundw
              case rel => exact ⟨j + 1, by go_num, by omega, HBQ.out.alloc HBQ.out.size _⟩
              case measure => simp [intOf]; omega
            · clear hnh
              go_wp2_with fail
              go_roundw
              case rel => exact ⟨j + 1, by go_num, by omega, HBQ.out.alloc HBQ.out.size _⟩
              case measure => simp [intOf]; omega
          · have hltji : ¬ (j : Int) < (r : Int) := by omega
            have HBW := Lib.hid (HB10.out.trans (hbq.mono HB10.out.size))
            clear hbq
            obtain ⟨x0, x1, x2, x3⟩ := HXQ.out
            dsimp only at x0 x1 x2 x3
            go_upto_region 19 with fail
            generalize hW13 : wr.alloc _ = w13
            have hr13 : w13.heap[wr.heap.size]? = some (.cells (LineM.row ⟨xs, xk, xv, xa⟩) 30 (0, 0)) := by rw [← hW13]; exact heap_alloc_new wr _
            have hb13 : Below wr.heap.size wr w13 := by rw [← hW13]; exact (Below.refl _ _).alloc (Nat.le_refl _) _
            have hl13 : wr.heap.size < w13.heap.size := by rw [← hW13]; simp
            have H13 := Lib.hid (LineAt.of_row hr13)
            have f13 : ∀ k, w13.frozen? ⟨wr.heap.size, k, none⟩ = false := fun k => frozen_of_row _ _ _ _ _ hr13
            have HF13 := Lib.hid f13
            have HX13 := Lib.hid (HXQ.out.below hb13 hl8q)
            have HC13 := Lib.hid ((hb13.cell (p := ⟨b10, 3, none⟩) hl10q).trans HC3Q.out)
            have HB13 := Lib.hid (HBW.out.trans (hb13.mono HBW.out.size))
            have HW2 : Hid (w2.heap.size ≤ wr.heap.size) := Lib.hid HBW.out.size
            generalize wr.heap.size = b13 at *
            clear hW13 hr13 hb13 f13 x0 x1 x2 x3 c3 HXQ HC3Q HBQ HBW
            go_wp2_with fail
            go_loopw [15, 80] (fun v15 v80 wq => ∃ j : Nat, v80 = .int .i64 j ∧ j ≤ N ∧ Below b13 w13 wq ∧ LineAt wq b13 (lastF xs xk (all.take j) ⟨xs, xk, xv, xa⟩) ∧ ∀ k, wq.frozen? ⟨b13, k, none⟩ = false) (fun _ v80 _ => N - (intOf v80).toNat)
            case atStart => exact ⟨0, rfl, Nat.zero_le _, Below.refl _ _, H13.out, HF13.out⟩
            case round =>
              obtain ⟨j, rfl, hj, hbq, hla, hfz⟩ := hrel
              have HBQ := Lib.hid hbq
              have HLQ := Lib.hid hla
              have HFQ := Lib.hid hfz
              have HXQ := Lib.hid (HX13.out.below hbq hl8q)
              have hl13q : b13 < wr.heap.size := Nat.lt_of_lt_of_le hl13 hbq.size
              have hl8r : b8 < wr.heap.size := Nat.lt_trans hl8q hl13q
              have hl10r : b10 < wr.heap.size := Nat.lt_trans hl10q hl13q
              have c3 := (hbq.cell (p := ⟨b10, 3, none⟩) hl10q).trans HC13.out
              have HBW : Hid (Below w2.heap.size w2 wr) := Lib.hid (HB13.out.trans (hbq.mono HW2.out))
              by_cases hltj : j < N
              · have hltji : (j : Int) < (N : Int) := by omega
                have hwj : IntKind.i64.wrap ((j : Int) + 1) = (j : Int) + 1 := by rw [IntKind.wrap_i64]; omega
                have hjl : j < all.length := by rw [HLL.out]; exact hltj
                obtain ⟨by_, oy, rfl, hby, hcy⟩ := HALL.out.at_ (by omega)
                have hcx := hcy j _ (List.getElem?_eq_getElem hjl)
                have hrow : ∀ t v, (LineM.row all[j])[t]? = some v → wr.cell? ⟨by_, oy + j * 4 + t, none⟩ = some v := fun t v hv => (HBW.out.cell (p := ⟨by_, oy + j * 4 + t, none⟩) hby).trans (hcx t v hv)
                have hlf := lastF_snoc xs xk (all.take j) all[j] ⟨xs, xk, xv, xa⟩
                rw [List.take_append_getElem hjl] at hlf
                generalize all[j] = y at hrow hlf
                have HLF := Lib.hid hlf
                clear hcx hcy hbq hla hfz hlf
                obtain ⟨ys, yk, yv, ya⟩ := y
                unfold LineM.row at hrow
                dsimp only at hrow
                have p0 := hrow 0 _ rfl
                have p1 := hrow 1 _ rfl
                have p2 := hrow 2 _ rfl
                have p3 := hrow 3 _ rfl
                simp only [Nat.add_zero] at p0
                clear hrow
                obtain ⟨x0, x1, x2, x3⟩ := HXQ.out
                dsimp only at x0 x1 x2 x3
                have hba : ∀ o, Below wr.heap.size wr (wr.alloc o) := fun o => (Below.refl _ _).alloc (Nat.le_refl _) _
                by_cases e1 : ys.toList = xs.toList
                · by_cases e2 : yk.toList = xk.toList
                  · have hh : hitL xs xk ⟨ys, yk, yv, ya⟩ = true := by unfold hitL eqS; rw [decide_eq_true e1, decide_eq_true e2]; rfl
                    have hlf := HLF.out
                    rw [if_pos hh] at hlf
                    have HLF2 := Lib.hid hlf
                    clear hlf hh
                    obtain ⟨d0, d1, d2, d3⟩ := HLQ.out
                    have f0 : ∀ k, wr.frozen? ⟨b13, k, none⟩ = false := HFQ.out
                    go_wp2_with fail
                    go_roundw
                    case rel =>
                      refine ⟨j + 1, by go_num, by omega, ?_, ?_, ?_⟩
                      · refine Below.alloc ?_ (by simp; omega) _
                        iterate 4 refine Below.setCell ?_ (by simp) _
                        exact HBQ.out
                      · rw [HLF2.out]
                        exact (HLQ.out.set ⟨ys, yk, yv, ya⟩).below ((Below.refl _ _).alloc (Nat.le_refl _) _) (by simpa using hl13q)
                      · intro k
                        refine (((Below.refl _ _).alloc (Nat.le_refl _) _).frozen (p := ⟨b13, k, none⟩) (by simpa using hl13q)).trans ?_
                        simp only [World.frozen?_setCell]
                        exact HFQ.out k
                    case measure => simp [intOf]; omega
                  · have e2b : (yk.toList == xk.toList) = false := by simp [e2]
                    have e2d : decide (yk.toList = xk.toList) = false := by simp [e2]
                    have hh : hitL xs xk ⟨ys, yk, yv, ya⟩ = false := by unfold hitL eqS; first | (rw [decide_eq_false e1, Bool.false_and]; done) | rw [decide_eq_false e2, Bool.and_false]
                    have hlf := HLF.out
                    rw [if_neg (by rw [hh]; decide)] at hlf
                    have HLF2 := Lib.hid hlf
                    clear hlf hh
                    go_wp2_with fail
                    go_roundw
                    case rel => exact ⟨j + 1, by go_num, by omega, HBQ.out.trans ((hba _).mono (Nat.le_of_lt hl13q)), by rw [HLF2.out]; exact HLQ.out.below (hba _) hl13q, fun k => ((hba _).frozen (p := ⟨b13, k, none⟩) hl13q).trans (HFQ.out k)⟩
                    case measure => simp [intOf]; omega
                · skip
                  have hh : hitL xs xk ⟨ys, yk, yv, ya⟩ = false := by unfold hitL eqS; first | (rw [decide_eq_false e1, Bool.false_and]; done) | rw [decide_eq_false e2, Bool.and_false]
                  have hlf := HLF.out
                  rw [if_neg (by rw [hh]; decide)] at hlf
                  have HLF2 := Lib.hid hlf
                  clear hlf hh
                  go_wp2_with fail
                  go_roundw
                  case rel => exact ⟨j + 1, by go_num, by omega, HBQ.out.trans ((hba _).mono (Nat.le_of_lt hl13q)), by rw [HLF2.out]; exact HLQ.out.below (hba _) hl13q, fun k => ((hba _).frozen (p := ⟨b13, k, none⟩) hl13q).trans (HFQ.out k)⟩
                  case measure => simp [intOf]; omega
              · have hltji : ¬ (j : Int) < (N : Int) := by omega
                have e : all.take j = all := List.take_of_length_le (by rw [HLL.out]; omega)
                obtain ⟨x0, x1, x2, x3⟩ := HXQ.out
                dsimp only at x0 x1 x2 x3
                have hl := HLQ.out
                rw [e, HLJ.out] at hl
                obtain ⟨d0, d1, d2, d3⟩ := hl
                dsimp only at d0 d1 d2 d3
                clear hbq hla hfz e
                go_wp2_with fail
                go_roundw
                case rel => exact ⟨i + 1, by go_num, by omega, HBW.out⟩
                case measure => simp [intOf]; omega
    · have hlti : ¬ (i : Int) < (m : Int) := by omega
      have hmN : (m : Int) ≤ (N : Int) := by omega
      go_wp2_with fail
      exact bodyPost_ret (v := .bool true) (by simp [results, Try.results6, go_sem]) rfl ⟨rfl, HB2.out.trans (HBR.out.mono HB2.out.size)⟩

end Go.Proofs.Ytcionpepgpfjdaa
