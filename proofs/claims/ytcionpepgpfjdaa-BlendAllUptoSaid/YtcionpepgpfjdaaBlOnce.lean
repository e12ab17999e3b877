/-
  The walk of BlendOnce.
-/
import Derived.Test.YtcionpepgpfjdaaBlSteps
namespace Go.Proofs.Ytcionpepgpfjdaa
open Go.ChangeShapes Go.WideShapes Go.ChangeAt Go.RowKit

theorem own_slice {w : World} {base : Nat} {e : TypeId} {size : Nat} {v : Value} {n : Nat} {xs : List Value} (h : w.ownsRow base e size v n xs) : ∃ a c, v = .slice a n c := by
  obtain ⟨-, ⟨rfl, rfl⟩ | ⟨g, cap, cur, rfl, -⟩⟩ := h
  · exact ⟨none, 0, rfl⟩
  · exact ⟨_, _, rfl⟩

set_option maxRecDepth 100000 in
set_option maxHeartbeats 3000000 in
theorem once_any (a b : Option Addr) (na ca nb cb : Nat) (la lb : List LineM) (w : World) (ha : RowsIn LineM.row 4 w w.heap.size a na la) (hb : RowsIn LineM.row 4 w w.heap.size b nb lb)
    (hna : na ≤ 10000000) (hnb : nb ≤ 10000000) :
    Calls Try.prog 4 #[.slice a na ca, .slice b nb cb] w fun e w' => e = .returned (.bool true) ∧ Below w.heap.size w w' := by
  obtain ⟨i0, hi0, hz0, hs0, hb0⟩ := info_parts lineInfo
  have HI := Lib.hid hi0
  have HZ := Lib.hid hz0
  have HS := Lib.hid hs0
  have HB0 := Lib.hid hb0
  have HA := Lib.hid ha
  have HB := Lib.hid hb
  clear ha hb hi0 hz0 hs0 hb0
  go_enter Try.func4, Try.ntmps4
  go_wp2_with (go_at_call 8; fail)
  refine (shown_true _).mono ?_
  rintro e w1 ⟨rfl, hb1⟩
  have HB1 := Lib.hid hb1
  have h1 := blend_at w1 [⟨a, na, ca, la⟩, ⟨b, nb, cb, lb⟩] (by
    intro x hx
    simp only [List.mem_cons, List.not_mem_nil, or_false] at hx
    rcases hx with rfl | rfl
    · exact HA.out.later hb1 hb1.size
    · exact HB.out.later hb1 hb1.size) (by simp only [sumN]; omega) (by simp)
  rw [show allOf [⟨a, na, ca, la⟩, (⟨b, nb, cb, lb⟩ : SlOf LineM)] = la ++ lb by simp [allOf]] at h1
  have H1 := Lib.hid h1
  clear h1 hb1
  have hl2 := blendP_len (la ++ lb)
  rw [List.length_append, HA.out.len, HB.out.len] at hl2
  have hon := blend_once (la ++ lb)
  generalize hL : blendP (la ++ lb) = L at H1 hl2 hon
  have HL := Lib.hid hL
  have HON := Lib.hid hon
  clear hL hon
  generalize hm : L.length = m at *
  have HM := Lib.hid hm
  clear hm
  go_wp2_with (go_at_call 10; fail)
  refine H1.out.mono ?_
  rintro e w2 ⟨a2, c2, rfl, hin2, hb2⟩
  have HB2 := Lib.hid (HB1.out.trans (hb2.mono HB1.out.size))
  have HIN2 := Lib.hid hin2
  have h2 := blend_at w2 [⟨a2, m, c2, L⟩] (by
    intro x hx
    simp only [List.mem_cons, List.not_mem_nil, or_false] at hx
    subst hx
    exact hin2) (by simp only [sumN]; omega) (by simp)
  rw [show allOf [(⟨a2, m, c2, L⟩ : SlOf LineM)] = L by simp [allOf], HON.out, HM.out] at h2
  have H2 := Lib.hid h2
  clear h2 hb2 hin2
  go_wp2_with (go_at_call 10; fail)
  refine H2.out.mono ?_
  rintro e w3 ⟨a3, c3, rfl, hin3, hb3⟩
  have HB3 := Lib.hid (HB2.out.trans (hb3.mono HB2.out.size))
  have HIN23 := Lib.hid (HIN2.out.later hb3 hb3.size)
  have HSA := Lib.hid (same_any a3 a2 m c3 c2 L w3 hin3 HIN23.out (by omega))
  clear hin3 hb3 H1 H2
  have HRA := Lib.hid ((HA.out.later HB3.out HB3.out.size).reads LineM.size (by omega))
  have H1A := Lib.hid (lines_one la)
  have H1B := Lib.hid (lines_one lb)
  go_wp2_with (first
    | (go_at_call 9; refine HSA.out.mono ?_; rintro e wx ⟨rfl, hbx⟩; have HBX := Lib.hid hbx; clear hbx)
    | (at_builtin; refine wpList_wanted (by go_simp) (fun K1 hK1 => ?_); refine wp_append_any _ (.const (.slice none 0 0)) (.tmp 18) 22 rfl w3.heap.size 30 i0 (.agg #[.string ⟨#[]⟩, .string ⟨#[]⟩, .string ⟨#[]⟩, .int .i64 0]) 4 56 Try.underlying22 HI.out HZ.out HS.out HB0.out rfl (by omega) (.slice none 0 0) 0 [] rfl ⟨by simp, .inl ⟨rfl, rfl⟩⟩ wx.heap.size a na ca _ rfl ((HA.out.later (HB3.out.trans (HBX.out.mono HB3.out.size)) (HB3.out.trans (HBX.out.mono HB3.out.size)).size).reads LineM.size (by omega)) H1A.out (by simp only [maxLen]; omega) (by omega) HBX.out.size ?_; intro v4 w4 hown hg hat; refine hK1 _ _ ?_; have HOw4 := Lib.hid hown; have HBw4 := Lib.hid (HBX.out.grown hg HBX.out.size (by first | (simp [Value.ownBlock]; done) | exact fun k hk => (HOw4.out.lt k hk).1)); clear hown hg hat)
    | (at_builtin; refine wpList_wanted (by go_simp) (fun K1 hK1 => ?_); refine wp_append_any _ (.tmp 19) (.tmp 20) 22 rfl w3.heap.size 30 i0 (.agg #[.string ⟨#[]⟩, .string ⟨#[]⟩, .string ⟨#[]⟩, .int .i64 0]) 4 56 Try.underlying22 HI.out HZ.out HS.out HB0.out rfl (by omega) v4 (0 + na) ([] ++ flat LineM.row la) rfl HOw4.out w4.heap.size b nb cb _ rfl ((HB.out.later (HB3.out.trans (HBw4.out.mono HB3.out.size)) (HB3.out.trans (HBw4.out.mono HB3.out.size)).size).reads LineM.size (by omega)) H1B.out (by simp only [maxLen]; omega) (by omega) HBw4.out.size ?_; intro v5 w5 hown hg hat; obtain ⟨a5, c5, rfl⟩ := own_slice hown; refine hK1 _ _ ?_; have HOw5 := Lib.hid hown; have HBw5 := Lib.hid (HBw4.out.grown hg HBw4.out.size (by first | (simp [Value.ownBlock]; done) | exact fun k hk => (HOw4.out.lt k hk).1)); clear hown hg hat)
    | (go_at_call 10; fail))
  have hxs : [] ++ flat LineM.row la ++ flat LineM.row lb = flat LineM.row (la ++ lb) := by rw [List.nil_append, flat_append]
  have hll : (la ++ lb).length = na + nb := by rw [List.length_append, HA.out.len, HB.out.len]
  have ho := HOw5.out
  rw [hxs, show 0 + na + nb = (la ++ lb).length by rw [hll]; omega] at ho
  obtain ⟨a6, c6, e6, hin5, -, -⟩ := rows_form LineM.size ho
  rw [hll] at e6 hin5
  injection e6 with e1 _ e3
  subst e1 e3
  have h5 := blend_at w5 [⟨a5, na + nb, c5, la ++ lb⟩] (by
    intro x hx
    simp only [List.mem_cons, List.not_mem_nil, or_false] at hx
    subst hx
    exact hin5) (by simp only [sumN]; omega) (by simp)
  rw [show allOf [(⟨a5, na + nb, c5, la ++ lb⟩ : SlOf LineM)] = la ++ lb by simp [allOf], HL.out, HM.out] at h5
  refine h5.mono ?_
  rintro e w6 ⟨a7, c7, rfl, hin6, hb6⟩
  have hb36 : Below w3.heap.size w3 w6 := HBw5.out.trans (hb6.mono HBw5.out.size)
  have HSB := Lib.hid (same_any a7 a2 m c7 c2 L w6 hin6 (HIN23.out.later hb36 hb36.size) (by omega))
  have HB6 := Lib.hid (HB3.out.trans (hb36.mono HB3.out.size))
  clear ho hin5 hin6 hb6 hb36 hxs hll
  go_wp2_with (go_at_call 9; refine HSB.out.mono ?_; rintro e w7 ⟨rfl, hb7⟩)
  exact bodyPost_ret (v := .bool true) (by simp [results, Try.results4, go_sem]) rfl ⟨rfl, HB6.out.trans (hb7.mono HB6.out.size)⟩

end Go.Proofs.Ytcionpepgpfjdaa
