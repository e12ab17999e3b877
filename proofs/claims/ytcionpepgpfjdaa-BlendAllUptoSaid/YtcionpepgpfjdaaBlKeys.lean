/-
  Contract of matinsref7.Keys: the same table.
-/
import Derived.Test.YtcionpepgpfjdaaBlRow
import Derived.Test.YtcionpepgpfjdaaBlFind
namespace Go.Proofs.Ytcionpepgpfjdaa
open Go.ChangeShapes Go.WideShapes Go.ChangeAt Go.RowKit

set_option maxRecDepth 100000 in
set_option maxHeartbeats 4000000 in
theorem rkeys_any (w : World) : Calls Try.prog 23 #[] w fun e w' => ∃ v ks, e = .returned v ∧ w'.ownsRow w.heap.size 33 6 v 42 (flat KeyM.row ks) ∧ ks.length = 42 ∧ ks.map KeyM.core = keysT ∧ Below w.heap.size w w' := by
  obtain ⟨i0, hi0, hz0, hs0, hb0⟩ := info_parts keyInfo
  have HI := Lib.hid hi0
  have HZ := Lib.hid hz0
  have HS := Lib.hid hs0
  have HY := Lib.hid hb0
  clear hi0 hz0 hs0 hb0
  have HO : Hid (w.ownsRow w.heap.size 33 6 (.slice none 0 0) 0 (flat KeyM.row [])) := Lib.hid ⟨by simp [flat], .inl ⟨rfl, rfl⟩⟩
  have HB := Lib.hid (Below.refl w.heap.size w)
  obtain ⟨K0, hK0⟩ : ∃ K : List KeyM, K = [] := ⟨[], rfl⟩
  rw [← hK0] at HO
  have HC : Hid (K0.map KeyM.core = keysT.take 0) := Lib.hid (by rw [hK0]; rfl)
  have HN : Hid (K0.length = 0) := Lib.hid (by rw [hK0]; rfl)
  clear hK0
  go_enter Try.func23, Try.ntmps23
  go_wp2_with (go_at_call 27; fail)
  refine (row_any ⟨#[85, 110, 105, 116]⟩ ⟨#[68, 101, 115, 99, 114, 105, 112, 116, 105, 111, 110]⟩ 1 false _ (by decide)).mono ?_
  rintro e x1 ⟨v, rfl, hown, hb⟩
  obtain ⟨a1, c1, rfl, hin, -, -⟩ := rows_form KeyM.size hown
  have hlen : (rowP ⟨#[85, 110, 105, 116]⟩ ⟨#[68, 101, 115, 99, 114, 105, 112, 116, 105, 111, 110]⟩ 1 false).length = 1 := by kernel_rfl
  have hco : keysT.take 0 ++ (rowP ⟨#[85, 110, 105, 116]⟩ ⟨#[68, 101, 115, 99, 114, 105, 112, 116, 105, 111, 110]⟩ 1 false).map KeyM.core = keysT.take 1 := by kernel_rfl
  rw [hlen] at hin ⊢
  generalize rowP ⟨#[85, 110, 105, 116]⟩ ⟨#[68, 101, 115, 99, 114, 105, 112, 116, 105, 111, 110]⟩ 1 false = R1 at hin hco hlen
  have HRD := Lib.hid (hin.reads KeyM.size (by omega))
  have HO2 := Lib.hid (owns_below HO.out hb)
  have HB2 := Lib.hid (HB.out.trans (hb.mono HB.out.size))
  have HC2 : Hid ((K0 ++ R1).map KeyM.core = keysT.take 1) := Lib.hid (by rw [List.map_append, HC.out]; exact hco)
  have HN2 : Hid ((K0 ++ R1).length = 1) := Lib.hid (by rw [List.length_append, HN.out, hlen])
  have H1 := Lib.hid (keys_one R1)
  clear hown hin hb hlen hco HO HB HC HN
  go_wp2_with (first
    | (at_builtin; refine wpList_append_any _ rfl (.tmp 2) (.tmp 3) 36 rfl w.heap.size 33 i0 (.agg #[.string ⟨#[]⟩, .string ⟨#[]⟩, .int .i64 0, .bool false, .int .i64 0, .slice none 0 0]) 6 80 Try.underlying36 HI.out HZ.out HS.out HY.out rfl (by omega) (.slice none 0 0) 0 _ rfl HO2.out x1.heap.size a1 1 c1 _ rfl HRD.out H1.out (by decide) (by decide) HB2.out.size ?_; intro v1 w1 hown hg hat; have HB := Lib.hid (HB2.out.grown hg HB2.out.size (fun k hk => (HO2.out.lt k hk).1)); have HO3 := Lib.hid hown; clear hown hg hat)
    | (go_at_call 27; fail)
    | (go_at_call 28; fail))
  have HO : Hid (w1.ownsRow w.heap.size 33 6 v1 1 (flat KeyM.row (K0 ++ R1))) := Lib.hid (by rw [flat_append]; exact HO3.out)
  have HC := HC2
  have HN := HN2
  clear HO2 HB2 HC2 HN2 HO3 HRD H1
  generalize K0 ++ R1 = K1 at HO HC HN
  go_wp2_with (go_at_call 27; fail)
  refine (row_any ⟨#[85, 110, 105, 116]⟩ ⟨#[68, 101, 102, 97, 117, 108, 116, 68, 101, 112, 101, 110, 100, 101, 110, 99, 105, 101, 115]⟩ 2 false _ (by decide)).mono ?_
  rintro e x2 ⟨v, rfl, hown, hb⟩
  obtain ⟨a2, c2, rfl, hin, -, -⟩ := rows_form KeyM.size hown
  have hlen : (rowP ⟨#[85, 110, 105, 116]⟩ ⟨#[68, 101, 102, 97, 117, 108, 116, 68, 101, 112, 101, 110, 100, 101, 110, 99, 105, 101, 115]⟩ 2 false).length = 1 := by kernel_rfl
  have hco : keysT.take 1 ++ (rowP ⟨#[85, 110, 105, 116]⟩ ⟨#[68, 101, 102, 97, 117, 108, 116, 68, 101, 112, 101, 110, 100, 101, 110, 99, 105, 101, 115]⟩ 2 false).map KeyM.core = keysT.take 2 := by kernel_rfl
  rw [hlen] at hin ⊢
  generalize rowP ⟨#[85, 110, 105, 116]⟩ ⟨#[68, 101, 102, 97, 117, 108, 116, 68, 101, 112, 101, 110, 100, 101, 110, 99, 105, 101, 115]⟩ 2 false = R2 at hin hco hlen
  have HRD := Lib.hid (hin.reads KeyM.size (by omega))
  have HO2 := Lib.hid (owns_below HO.out hb)
  have HB2 := Lib.hid (HB.out.trans (hb.mono HB.out.size))
  have HC2 : Hid ((K1 ++ R2).map KeyM.core = keysT.take 2) := Lib.hid (by rw [List.map_append, HC.out]; exact hco)
  have HN2 : Hid ((K1 ++ R2).length = 2) := Lib.hid (by rw [List.length_append, HN.out, hlen])
  have H1 := Lib.hid (keys_one R2)
  clear hown hin hb hlen hco HO HB HC HN
  go_wp2_with (first
    | (at_builtin; refine wpList_append_any _ rfl (.tmp 5) (.tmp 6) 36 rfl w.heap.size 33 i0 (.agg #[.string ⟨#[]⟩, .string ⟨#[]⟩, .int .i64 0, .bool false, .int .i64 0, .slice none 0 0]) 6 80 Try.underlying36 HI.out HZ.out HS.out HY.out rfl (by omega) v1 1 _ rfl HO2.out x2.heap.size a2 1 c2 _ rfl HRD.out H1.out (by decide) (by decide) HB2.out.size ?_; intro v2 w2 hown hg hat; have HB := Lib.hid (HB2.out.grown hg HB2.out.size (fun k hk => (HO2.out.lt k hk).1)); have HO3 := Lib.hid hown; clear hown hg hat)
    | (go_at_call 27; fail)
    | (go_at_call 28; fail))
  have HO : Hid (w2.ownsRow w.heap.size 33 6 v2 2 (flat KeyM.row (K1 ++ R2))) := Lib.hid (by rw [flat_append]; exact HO3.out)
  have HC := HC2
  have HN := HN2
  clear HO2 HB2 HC2 HN2 HO3 HRD H1
  generalize K1 ++ R2 = K2 at HO HC HN
  go_wp2_with (go_at_call 27; fail)
  refine (row_any ⟨#[85, 110, 105, 116]⟩ ⟨#[82, 101, 113, 117, 105, 114, 101, 115, 32, 87, 97, 110, 116, 115, 32, 82, 101, 113, 117, 105, 115, 105, 116, 101, 32, 66, 105, 110, 100, 115, 84, 111, 32, 80, 97, 114, 116, 79, 102, 32, 67, 111, 110, 102, 108, 105, 99, 116, 115, 32, 66, 101, 102, 111, 114, 101, 32, 65, 102, 116, 101, 114, 32, 79, 110, 70, 97, 105, 108, 117, 114, 101]⟩ 6 true _ (by decide)).mono ?_
  rintro e x3 ⟨v, rfl, hown, hb⟩
  obtain ⟨a3, c3, rfl, hin, -, -⟩ := rows_form KeyM.size hown
  have hlen : (rowP ⟨#[85, 110, 105, 116]⟩ ⟨#[82, 101, 113, 117, 105, 114, 101, 115, 32, 87, 97, 110, 116, 115, 32, 82, 101, 113, 117, 105, 115, 105, 116, 101, 32, 66, 105, 110, 100, 115, 84, 111, 32, 80, 97, 114, 116, 79, 102, 32, 67, 111, 110, 102, 108, 105, 99, 116, 115, 32, 66, 101, 102, 111, 114, 101, 32, 65, 102, 116, 101, 114, 32, 79, 110, 70, 97, 105, 108, 117, 114, 101]⟩ 6 true).length = 9 := by kernel_rfl
  have hco : keysT.take 2 ++ (rowP ⟨#[85, 110, 105, 116]⟩ ⟨#[82, 101, 113, 117, 105, 114, 101, 115, 32, 87, 97, 110, 116, 115, 32, 82, 101, 113, 117, 105, 115, 105, 116, 101, 32, 66, 105, 110, 100, 115, 84, 111, 32, 80, 97, 114, 116, 79, 102, 32, 67, 111, 110, 102, 108, 105, 99, 116, 115, 32, 66, 101, 102, 111, 114, 101, 32, 65, 102, 116, 101, 114, 32, 79, 110, 70, 97, 105, 108, 117, 114, 101]⟩ 6 true).map KeyM.core = keysT.take 11 := by kernel_rfl
  rw [hlen] at hin ⊢
  generalize rowP ⟨#[85, 110, 105, 116]⟩ ⟨#[82, 101, 113, 117, 105, 114, 101, 115, 32, 87, 97, 110, 116, 115, 32, 82, 101, 113, 117, 105, 115, 105, 116, 101, 32, 66, 105, 110, 100, 115, 84, 111, 32, 80, 97, 114, 116, 79, 102, 32, 67, 111, 110, 102, 108, 105, 99, 116, 115, 32, 66, 101, 102, 111, 114, 101, 32, 65, 102, 116, 101, 114, 32, 79, 110, 70, 97, 105, 108, 117, 114, 101]⟩ 6 true = R3 at hin hco hlen
  have HRD := Lib.hid (hin.reads KeyM.size (by omega))
  have HO2 := Lib.hid (owns_below HO.out hb)
  have HB2 := Lib.hid (HB.out.trans (hb.mono HB.out.size))
  have HC2 : Hid ((K2 ++ R3).map KeyM.core = keysT.take 11) := Lib.hid (by rw [List.map_append, HC.out]; exact hco)
  have HN2 : Hid ((K2 ++ R3).length = 11) := Lib.hid (by rw [List.length_append, HN.out, hlen])
  have H1 := Lib.hid (keys_one R3)
  clear hown hin hb hlen hco HO HB HC HN
  go_wp2_with (first
    | (at_builtin; refine wpList_append_any _ rfl (.tmp 8) (.tmp 9) 36 rfl w.heap.size 33 i0 (.agg #[.string ⟨#[]⟩, .string ⟨#[]⟩, .int .i64 0, .bool false, .int .i64 0, .slice none 0 0]) 6 80 Try.underlying36 HI.out HZ.out HS.out HY.out rfl (by omega) v2 2 _ rfl HO2.out x3.heap.size a3 9 c3 _ rfl HRD.out H1.out (by decide) (by decide) HB2.out.size ?_; intro v3 w3 hown hg hat; have HB := Lib.hid (HB2.out.grown hg HB2.out.size (fun k hk => (HO2.out.lt k hk).1)); have HO3 := Lib.hid hown; clear hown hg hat)
    | (go_at_call 27; fail)
    | (go_at_call 28; fail))
  have HO : Hid (w3.ownsRow w.heap.size 33 6 v3 11 (flat KeyM.row (K2 ++ R3))) := Lib.hid (by rw [flat_append]; exact HO3.out)
  have HC := HC2
  have HN := HN2
  clear HO2 HB2 HC2 HN2 HO3 HRD H1
  generalize K2 ++ R3 = K3 at HO HC HN
  go_wp2_with (go_at_call 27; fail)
  refine (row_any ⟨#[85, 110, 105, 116]⟩ ⟨#[83, 116, 97, 114, 116, 76, 105, 109, 105, 116, 73, 110, 116, 101, 114, 118, 97, 108, 83, 101, 99]⟩ 4 false _ (by decide)).mono ?_
  rintro e x4 ⟨v, rfl, hown, hb⟩
  obtain ⟨a4, c4, rfl, hin, -, -⟩ := rows_form KeyM.size hown
  have hlen : (rowP ⟨#[85, 110, 105, 116]⟩ ⟨#[83, 116, 97, 114, 116, 76, 105, 109, 105, 116, 73, 110, 116, 101, 114, 118, 97, 108, 83, 101, 99]⟩ 4 false).length = 1 := by kernel_rfl
  have hco : keysT.take 11 ++ (rowP ⟨#[85, 110, 105, 116]⟩ ⟨#[83, 116, 97, 114, 116, 76, 105, 109, 105, 116, 73, 110, 116, 101, 114, 118, 97, 108, 83, 101, 99]⟩ 4 false).map KeyM.core = keysT.take 12 := by kernel_rfl
  rw [hlen] at hin ⊢
  generalize rowP ⟨#[85, 110, 105, 116]⟩ ⟨#[83, 116, 97, 114, 116, 76, 105, 109, 105, 116, 73, 110, 116, 101, 114, 118, 97, 108, 83, 101, 99]⟩ 4 false = R4 at hin hco hlen
  have HRD := Lib.hid (hin.reads KeyM.size (by omega))
  have HO2 := Lib.hid (owns_below HO.out hb)
  have HB2 := Lib.hid (HB.out.trans (hb.mono HB.out.size))
  have HC2 : Hid ((K3 ++ R4).map KeyM.core = keysT.take 12) := Lib.hid (by rw [List.map_append, HC.out]; exact hco)
  have HN2 : Hid ((K3 ++ R4).length = 12) := Lib.hid (by rw [List.length_append, HN.out, hlen])
  have H1 := Lib.hid (keys_one R4)
  clear hown hin hb hlen hco HO HB HC HN
  go_wp2_with (first
    | (at_builtin; refine wpList_append_any _ rfl (.tmp 11) (.tmp 12) 36 rfl w.heap.size 33 i0 (.agg #[.string ⟨#[]⟩, .string ⟨#[]⟩, .int .i64 0, .bool false, .int .i64 0, .slice none 0 0]) 6 80 Try.underlying36 HI.out HZ.out HS.out HY.out rfl (by omega) v3 11 _ rfl HO2.out x4.heap.size a4 1 c4 _ rfl HRD.out H1.out (by decide) (by decide) HB2.out.size ?_; intro v4 w4 hown hg hat; have HB := Lib.hid (HB2.out.grown hg HB2.out.size (fun k hk => (HO2.out.lt k hk).1)); have HO3 := Lib.hid hown; clear hown hg hat)
    | (go_at_call 27; fail)
    | (go_at_call 28; fail))
  have HO : Hid (w4.ownsRow w.heap.size 33 6 v4 12 (flat KeyM.row (K3 ++ R4))) := Lib.hid (by rw [flat_append]; exact HO3.out)
  have HC := HC2
  have HN := HN2
  clear HO2 HB2 HC2 HN2 HO3 HRD H1
  generalize K3 ++ R4 = K4 at HO HC HN
  go_wp2_with (go_at_call 27; fail)
  refine (row_any ⟨#[85, 110, 105, 116]⟩ ⟨#[83, 116, 97, 114, 116, 76, 105, 109, 105, 116, 66, 117, 114, 115, 116]⟩ 3 false _ (by decide)).mono ?_
  rintro e x5 ⟨v, rfl, hown, hb⟩
  obtain ⟨a5, c5, rfl, hin, -, -⟩ := rows_form KeyM.size hown
  have hlen : (rowP ⟨#[85, 110, 105, 116]⟩ ⟨#[83, 116, 97, 114, 116, 76, 105, 109, 105, 116, 66, 117, 114, 115, 116]⟩ 3 false).length = 1 := by kernel_rfl
  have hco : keysT.take 12 ++ (rowP ⟨#[85, 110, 105, 116]⟩ ⟨#[83, 116, 97, 114, 116, 76, 105, 109, 105, 116, 66, 117, 114, 115, 116]⟩ 3 false).map KeyM.core = keysT.take 13 := by kernel_rfl
  rw [hlen] at hin ⊢
  generalize rowP ⟨#[85, 110, 105, 116]⟩ ⟨#[83, 116, 97, 114, 116, 76, 105, 109, 105, 116, 66, 117, 114, 115, 116]⟩ 3 false = R5 at hin hco hlen
  have HRD := Lib.hid (hin.reads KeyM.size (by omega))
  have HO2 := Lib.hid (owns_below HO.out hb)
  have HB2 := Lib.hid (HB.out.trans (hb.mono HB.out.size))
  have HC2 : Hid ((K4 ++ R5).map KeyM.core = keysT.take 13) := Lib.hid (by rw [List.map_append, HC.out]; exact hco)
  have HN2 : Hid ((K4 ++ R5).length = 13) := Lib.hid (by rw [List.length_append, HN.out, hlen])
  have H1 := Lib.hid (keys_one R5)
  clear hown hin hb hlen hco HO HB HC HN
  go_wp2_with (first
    | (at_builtin; refine wpList_append_any _ rfl (.tmp 14) (.tmp 15) 36 rfl w.heap.size 33 i0 (.agg #[.string ⟨#[]⟩, .string ⟨#[]⟩, .int .i64 0, .bool false, .int .i64 0, .slice none 0 0]) 6 80 Try.underlying36 HI.out HZ.out HS.out HY.out rfl (by omega) v4 12 _ rfl HO2.out x5.heap.size a5 1 c5 _ rfl HRD.out H1.out (by decide) (by decide) HB2.out.size ?_; intro v5 w5 hown hg hat; have HB := Lib.hid (HB2.out.grown hg HB2.out.size (fun k hk => (HO2.out.lt k hk).1)); have HO3 := Lib.hid hown; clear hown hg hat)
    | (go_at_call 27; fail)
    | (go_at_call 28; fail))
  have HO : Hid (w5.ownsRow w.heap.size 33 6 v5 13 (flat KeyM.row (K4 ++ R5))) := Lib.hid (by rw [flat_append]; exact HO3.out)
  have HC := HC2
  have HN := HN2
  clear HO2 HB2 HC2 HN2 HO3 HRD H1
  generalize K4 ++ R5 = K5 at HO HC HN
  go_wp2_with (go_at_call 28; fail)
  refine (worded_any ⟨#[83, 101, 114, 118, 105, 99, 101]⟩ ⟨#[84, 121, 112, 101]⟩ ⟨#[115, 105, 109, 112, 108, 101, 32, 111, 110, 101, 115, 104, 111, 116, 32, 110, 111, 116, 105, 102, 121]⟩ _ (by kernel_rfl) (by decide) (by decide)).mono ?_
  rintro e x6 ⟨v, wa, wn, wc, rfl, hown, hb⟩
  obtain ⟨a6, c6, rfl, hin, -, -⟩ := rows_form (l := [wordedP ⟨#[83, 101, 114, 118, 105, 99, 101]⟩ ⟨#[84, 121, 112, 101]⟩ wa wn wc]) KeyM.size hown
  have hlen : [wordedP ⟨#[83, 101, 114, 118, 105, 99, 101]⟩ ⟨#[84, 121, 112, 101]⟩ wa wn wc].length = 1 := rfl
  have hco : keysT.take 13 ++ [wordedP ⟨#[83, 101, 114, 118, 105, 99, 101]⟩ ⟨#[84, 121, 112, 101]⟩ wa wn wc].map KeyM.core = keysT.take 14 := by kernel_rfl
  rw [hlen] at hin ⊢
  generalize [wordedP ⟨#[83, 101, 114, 118, 105, 99, 101]⟩ ⟨#[84, 121, 112, 101]⟩ wa wn wc] = R6 at hin hco hlen
  have HRD := Lib.hid (hin.reads KeyM.size (by omega))
  have HO2 := Lib.hid (owns_below HO.out hb)
  have HB2 := Lib.hid (HB.out.trans (hb.mono HB.out.size))
  have HC2 : Hid ((K5 ++ R6).map KeyM.core = keysT.take 14) := Lib.hid (by rw [List.map_append, HC.out]; exact hco)
  have HN2 : Hid ((K5 ++ R6).length = 14) := Lib.hid (by rw [List.length_append, HN.out, hlen])
  have H1 := Lib.hid (keys_one R6)
  clear hown hin hb hlen hco HO HB HC HN
  go_wp2_with (first
    | (at_builtin; refine wpList_append_any _ rfl (.tmp 17) (.tmp 18) 36 rfl w.heap.size 33 i0 (.agg #[.string ⟨#[]⟩, .string ⟨#[]⟩, .int .i64 0, .bool false, .int .i64 0, .slice none 0 0]) 6 80 Try.underlying36 HI.out HZ.out HS.out HY.out rfl (by omega) v5 13 _ rfl HO2.out x6.heap.size a6 1 c6 _ rfl HRD.out H1.out (by decide) (by decide) HB2.out.size ?_; intro v6 w6 hown hg hat; have HB := Lib.hid (HB2.out.grown hg HB2.out.size (fun k hk => (HO2.out.lt k hk).1)); have HO3 := Lib.hid hown; clear hown hg hat)
    | (go_at_call 27; fail)
    | (go_at_call 28; fail))
  have HO : Hid (w6.ownsRow w.heap.size 33 6 v6 14 (flat KeyM.row (K5 ++ R6))) := Lib.hid (by rw [flat_append]; exact HO3.out)
  have HC := HC2
  have HN := HN2
  clear HO2 HB2 HC2 HN2 HO3 HRD H1
  generalize K5 ++ R6 = K6 at HO HC HN
  go_wp2_with (go_at_call 27; fail)
  refine (row_any ⟨#[83, 101, 114, 118, 105, 99, 101]⟩ ⟨#[69, 120, 101, 99, 83, 116, 97, 114, 116, 80, 114, 101, 32, 69, 120, 101, 99, 83, 116, 97, 114, 116, 32, 69, 120, 101, 99, 83, 116, 97, 114, 116, 80, 111, 115, 116, 32, 69, 120, 101, 99, 83, 116, 111, 112, 32, 69, 120, 101, 99, 82, 101, 108, 111, 97, 100]⟩ 7 true _ (by decide)).mono ?_
  rintro e x7 ⟨v, rfl, hown, hb⟩
  obtain ⟨a7, c7, rfl, hin, -, -⟩ := rows_form KeyM.size hown
  have hlen : (rowP ⟨#[83, 101, 114, 118, 105, 99, 101]⟩ ⟨#[69, 120, 101, 99, 83, 116, 97, 114, 116, 80, 114, 101, 32, 69, 120, 101, 99, 83, 116, 97, 114, 116, 32, 69, 120, 101, 99, 83, 116, 97, 114, 116, 80, 111, 115, 116, 32, 69, 120, 101, 99, 83, 116, 111, 112, 32, 69, 120, 101, 99, 82, 101, 108, 111, 97, 100]⟩ 7 true).length = 5 := by kernel_rfl
  have hco : keysT.take 14 ++ (rowP ⟨#[83, 101, 114, 118, 105, 99, 101]⟩ ⟨#[69, 120, 101, 99, 83, 116, 97, 114, 116, 80, 114, 101, 32, 69, 120, 101, 99, 83, 116, 97, 114, 116, 32, 69, 120, 101, 99, 83, 116, 97, 114, 116, 80, 111, 115, 116, 32, 69, 120, 101, 99, 83, 116, 111, 112, 32, 69, 120, 101, 99, 82, 101, 108, 111, 97, 100]⟩ 7 true).map KeyM.core = keysT.take 19 := by kernel_rfl
  rw [hlen] at hin ⊢
  generalize rowP ⟨#[83, 101, 114, 118, 105, 99, 101]⟩ ⟨#[69, 120, 101, 99, 83, 116, 97, 114, 116, 80, 114, 101, 32, 69, 120, 101, 99, 83, 116, 97, 114, 116, 32, 69, 120, 101, 99, 83, 116, 97, 114, 116, 80, 111, 115, 116, 32, 69, 120, 101, 99, 83, 116, 111, 112, 32, 69, 120, 101, 99, 82, 101, 108, 111, 97, 100]⟩ 7 true = R7 at hin hco hlen
  have HRD := Lib.hid (hin.reads KeyM.size (by omega))
  have HO2 := Lib.hid (owns_below HO.out hb)
  have HB2 := Lib.hid (HB.out.trans (hb.mono HB.out.size))
  have HC2 : Hid ((K6 ++ R7).map KeyM.core = keysT.take 19) := Lib.hid (by rw [List.map_append, HC.out]; exact hco)
  have HN2 : Hid ((K6 ++ R7).length = 19) := Lib.hid (by rw [List.length_append, HN.out, hlen])
  have H1 := Lib.hid (keys_one R7)
  clear hown hin hb hlen hco HO HB HC HN
  go_wp2_with (first
    | (at_builtin; refine wpList_append_any _ rfl (.tmp 20) (.tmp 21) 36 rfl w.heap.size 33 i0 (.agg #[.string ⟨#[]⟩, .string ⟨#[]⟩, .int .i64 0, .bool false, .int .i64 0, .slice none 0 0]) 6 80 Try.underlying36 HI.out HZ.out HS.out HY.out rfl (by omega) v6 14 _ rfl HO2.out x7.heap.size a7 5 c7 _ rfl HRD.out H1.out (by decide) (by decide) HB2.out.size ?_; intro v7 w7 hown hg hat; have HB := Lib.hid (HB2.out.grown hg HB2.out.size (fun k hk => (HO2.out.lt k hk).1)); have HO3 := Lib.hid hown; clear hown hg hat)
    | (go_at_call 27; fail)
    | (go_at_call 28; fail))
  have HO : Hid (w7.ownsRow w.heap.size 33 6 v7 19 (flat KeyM.row (K6 ++ R7))) := Lib.hid (by rw [flat_append]; exact HO3.out)
  have HC := HC2
  have HN := HN2
  clear HO2 HB2 HC2 HN2 HO3 HRD H1
  generalize K6 ++ R7 = K7 at HO HC HN
  go_wp2_with (go_at_call 27; fail)
  refine (row_any ⟨#[83, 101, 114, 118, 105, 99, 101]⟩ ⟨#[82, 101, 109, 97, 105, 110, 65, 102, 116, 101, 114, 69, 120, 105, 116]⟩ 2 false _ (by decide)).mono ?_
  rintro e x8 ⟨v, rfl, hown, hb⟩
  obtain ⟨a8, c8, rfl, hin, -, -⟩ := rows_form KeyM.size hown
  have hlen : (rowP ⟨#[83, 101, 114, 118, 105, 99, 101]⟩ ⟨#[82, 101, 109, 97, 105, 110, 65, 102, 116, 101, 114, 69, 120, 105, 116]⟩ 2 false).length = 1 := by kernel_rfl
  have hco : keysT.take 19 ++ (rowP ⟨#[83, 101, 114, 118, 105, 99, 101]⟩ ⟨#[82, 101, 109, 97, 105, 110, 65, 102, 116, 101, 114, 69, 120, 105, 116]⟩ 2 false).map KeyM.core = keysT.take 20 := by kernel_rfl
  rw [hlen] at hin ⊢
  generalize rowP ⟨#[83, 101, 114, 118, 105, 99, 101]⟩ ⟨#[82, 101, 109, 97, 105, 110, 65, 102, 116, 101, 114, 69, 120, 105, 116]⟩ 2 false = R8 at hin hco hlen
  have HRD := Lib.hid (hin.reads KeyM.size (by omega))
  have HO2 := Lib.hid (owns_below HO.out hb)
  have HB2 := Lib.hid (HB.out.trans (hb.mono HB.out.size))
  have HC2 : Hid ((K7 ++ R8).map KeyM.core = keysT.take 20) := Lib.hid (by rw [List.map_append, HC.out]; exact hco)
  have HN2 : Hid ((K7 ++ R8).length = 20) := Lib.hid (by rw [List.length_append, HN.out, hlen])
  have H1 := Lib.hid (keys_one R8)
  clear hown hin hb hlen hco HO HB HC HN
  go_wp2_with (first
    | (at_builtin; refine wpList_append_any _ rfl (.tmp 23) (.tmp 24) 36 rfl w.heap.size 33 i0 (.agg #[.string ⟨#[]⟩, .string ⟨#[]⟩, .int .i64 0, .bool false, .int .i64 0, .slice none 0 0]) 6 80 Try.underlying36 HI.out HZ.out HS.out HY.out rfl (by omega) v7 19 _ rfl HO2.out x8.heap.size a8 1 c8 _ rfl HRD.out H1.out (by decide) (by decide) HB2.out.size ?_; intro v8 w8 hown hg hat; have HB := Lib.hid (HB2.out.grown hg HB2.out.size (fun k hk => (HO2.out.lt k hk).1)); have HO3 := Lib.hid hown; clear hown hg hat)
    | (go_at_call 27; fail)
    | (go_at_call 28; fail))
  have HO : Hid (w8.ownsRow w.heap.size 33 6 v8 20 (flat KeyM.row (K7 ++ R8))) := Lib.hid (by rw [flat_append]; exact HO3.out)
  have HC := HC2
  have HN := HN2
  clear HO2 HB2 HC2 HN2 HO3 HRD H1
  generalize K7 ++ R8 = K8 at HO HC HN
  go_wp2_with (go_at_call 28; fail)
  refine (worded_any ⟨#[83, 101, 114, 118, 105, 99, 101]⟩ ⟨#[82, 101, 115, 116, 97, 114, 116]⟩ ⟨#[110, 111, 32, 111, 110, 45, 115, 117, 99, 99, 101, 115, 115, 32, 111, 110, 45, 102, 97, 105, 108, 117, 114, 101, 32, 111, 110, 45, 97, 98, 110, 111, 114, 109, 97, 108, 32, 97, 108, 119, 97, 121, 115]⟩ _ (by kernel_rfl) (by decide) (by decide)).mono ?_
  rintro e x9 ⟨v, wa, wn, wc, rfl, hown, hb⟩
  obtain ⟨a9, c9, rfl, hin, -, -⟩ := rows_form (l := [wordedP ⟨#[83, 101, 114, 118, 105, 99, 101]⟩ ⟨#[82, 101, 115, 116, 97, 114, 116]⟩ wa wn wc]) KeyM.size hown
  have hlen : [wordedP ⟨#[83, 101, 114, 118, 105, 99, 101]⟩ ⟨#[82, 101, 115, 116, 97, 114, 116]⟩ wa wn wc].length = 1 := rfl
  have hco : keysT.take 20 ++ [wordedP ⟨#[83, 101, 114, 118, 105, 99, 101]⟩ ⟨#[82, 101, 115, 116, 97, 114, 116]⟩ wa wn wc].map KeyM.core = keysT.take 21 := by kernel_rfl
  rw [hlen] at hin ⊢
  generalize [wordedP ⟨#[83, 101, 114, 118, 105, 99, 101]⟩ ⟨#[82, 101, 115, 116, 97, 114, 116]⟩ wa wn wc] = R9 at hin hco hlen
  have HRD := Lib.hid (hin.reads KeyM.size (by omega))
  have HO2 := Lib.hid (owns_below HO.out hb)
  have HB2 := Lib.hid (HB.out.trans (hb.mono HB.out.size))
  have HC2 : Hid ((K8 ++ R9).map KeyM.core = keysT.take 21) := Lib.hid (by rw [List.map_append, HC.out]; exact hco)
  have HN2 : Hid ((K8 ++ R9).length = 21) := Lib.hid (by rw [List.length_append, HN.out, hlen])
  have H1 := Lib.hid (keys_one R9)
  clear hown hin hb hlen hco HO HB HC HN
  go_wp2_with (first
    | (at_builtin; refine wpList_append_any _ rfl (.tmp 26) (.tmp 27) 36 rfl w.heap.size 33 i0 (.agg #[.string ⟨#[]⟩, .string ⟨#[]⟩, .int .i64 0, .bool false, .int .i64 0, .slice none 0 0]) 6 80 Try.underlying36 HI.out HZ.out HS.out HY.out rfl (by omega) v8 20 _ rfl HO2.out x9.heap.size a9 1 c9 _ rfl HRD.out H1.out (by decide) (by decide) HB2.out.size ?_; intro v9 w9 hown hg hat; have HB := Lib.hid (HB2.out.grown hg HB2.out.size (fun k hk => (HO2.out.lt k hk).1)); have HO3 := Lib.hid hown; clear hown hg hat)
    | (go_at_call 27; fail)
    | (go_at_call 28; fail))
  have HO : Hid (w9.ownsRow w.heap.size 33 6 v9 21 (flat KeyM.row (K8 ++ R9))) := Lib.hid (by rw [flat_append]; exact HO3.out)
  have HC := HC2
  have HN := HN2
  clear HO2 HB2 HC2 HN2 HO3 HRD H1
  generalize K8 ++ R9 = K9 at HO HC HN
  go_wp2_with (go_at_call 27; fail)
  refine (row_any ⟨#[83, 101, 114, 118, 105, 99, 101]⟩ ⟨#[82, 101, 115, 116, 97, 114, 116, 83, 101, 99, 32, 84, 105, 109, 101, 111, 117, 116, 83, 116, 97, 114, 116, 83, 101, 99, 32, 84, 105, 109, 101, 111, 117, 116, 83, 116, 111, 112, 83, 101, 99]⟩ 4 false _ (by decide)).mono ?_
  rintro e x10 ⟨v, rfl, hown, hb⟩
  obtain ⟨a10, c10, rfl, hin, -, -⟩ := rows_form KeyM.size hown
  have hlen : (rowP ⟨#[83, 101, 114, 118, 105, 99, 101]⟩ ⟨#[82, 101, 115, 116, 97, 114, 116, 83, 101, 99, 32, 84, 105, 109, 101, 111, 117, 116, 83, 116, 97, 114, 116, 83, 101, 99, 32, 84, 105, 109, 101, 111, 117, 116, 83, 116, 111, 112, 83, 101, 99]⟩ 4 false).length = 3 := by kernel_rfl
  have hco : keysT.take 21 ++ (rowP ⟨#[83, 101, 114, 118, 105, 99, 101]⟩ ⟨#[82, 101, 115, 116, 97, 114, 116, 83, 101, 99, 32, 84, 105, 109, 101, 111, 117, 116, 83, 116, 97, 114, 116, 83, 101, 99, 32, 84, 105, 109, 101, 111, 117, 116, 83, 116, 111, 112, 83, 101, 99]⟩ 4 false).map KeyM.core = keysT.take 24 := by kernel_rfl
  rw [hlen] at hin ⊢
  generalize rowP ⟨#[83, 101, 114, 118, 105, 99, 101]⟩ ⟨#[82, 101, 115, 116, 97, 114, 116, 83, 101, 99, 32, 84, 105, 109, 101, 111, 117, 116, 83, 116, 97, 114, 116, 83, 101, 99, 32, 84, 105, 109, 101, 111, 117, 116, 83, 116, 111, 112, 83, 101, 99]⟩ 4 false = R10 at hin hco hlen
  have HRD := Lib.hid (hin.reads KeyM.size (by omega))
  have HO2 := Lib.hid (owns_below HO.out hb)
  have HB2 := Lib.hid (HB.out.trans (hb.mono HB.out.size))
  have HC2 : Hid ((K9 ++ R10).map KeyM.core = keysT.take 24) := Lib.hid (by rw [List.map_append, HC.out]; exact hco)
  have HN2 : Hid ((K9 ++ R10).length = 24) := Lib.hid (by rw [List.length_append, HN.out, hlen])
  have H1 := Lib.hid (keys_one R10)
  clear hown hin hb hlen hco HO HB HC HN
  go_wp2_with (first
    | (at_builtin; refine wpList_append_any _ rfl (.tmp 29) (.tmp 30) 36 rfl w.heap.size 33 i0 (.agg #[.string ⟨#[]⟩, .string ⟨#[]⟩, .int .i64 0, .bool false, .int .i64 0, .slice none 0 0]) 6 80 Try.underlying36 HI.out HZ.out HS.out HY.out rfl (by omega) v9 21 _ rfl HO2.out x10.heap.size a10 3 c10 _ rfl HRD.out H1.out (by decide) (by decide) HB2.out.size ?_; intro v10 w10 hown hg hat; have HB := Lib.hid (HB2.out.grown hg HB2.out.size (fun k hk => (HO2.out.lt k hk).1)); have HO3 := Lib.hid hown; clear hown hg hat)
    | (go_at_call 27; fail)
    | (go_at_call 28; fail))
  have HO : Hid (w10.ownsRow w.heap.size 33 6 v10 24 (flat KeyM.row (K9 ++ R10))) := Lib.hid (by rw [flat_append]; exact HO3.out)
  have HC := HC2
  have HN := HN2
  clear HO2 HB2 HC2 HN2 HO3 HRD H1
  generalize K9 ++ R10 = K10 at HO HC HN
  go_wp2_with (go_at_call 27; fail)
  refine (row_any ⟨#[83, 101, 114, 118, 105, 99, 101]⟩ ⟨#[83, 117, 99, 99, 101, 115, 115, 69, 120, 105, 116, 83, 116, 97, 116, 117, 115]⟩ 11 true _ (by decide)).mono ?_
  rintro e x11 ⟨v, rfl, hown, hb⟩
  obtain ⟨a11, c11, rfl, hin, -, -⟩ := rows_form KeyM.size hown
  have hlen : (rowP ⟨#[83, 101, 114, 118, 105, 99, 101]⟩ ⟨#[83, 117, 99, 99, 101, 115, 115, 69, 120, 105, 116, 83, 116, 97, 116, 117, 115]⟩ 11 true).length = 1 := by kernel_rfl
  have hco : keysT.take 24 ++ (rowP ⟨#[83, 101, 114, 118, 105, 99, 101]⟩ ⟨#[83, 117, 99, 99, 101, 115, 115, 69, 120, 105, 116, 83, 116, 97, 116, 117, 115]⟩ 11 true).map KeyM.core = keysT.take 25 := by kernel_rfl
  rw [hlen] at hin ⊢
  generalize rowP ⟨#[83, 101, 114, 118, 105, 99, 101]⟩ ⟨#[83, 117, 99, 99, 101, 115, 115, 69, 120, 105, 116, 83, 116, 97, 116, 117, 115]⟩ 11 true = R11 at hin hco hlen
  have HRD := Lib.hid (hin.reads KeyM.size (by omega))
  have HO2 := Lib.hid (owns_below HO.out hb)
  have HB2 := Lib.hid (HB.out.trans (hb.mono HB.out.size))
  have HC2 : Hid ((K10 ++ R11).map KeyM.core = keysT.take 25) := Lib.hid (by rw [List.map_append, HC.out]; exact hco)
  have HN2 : Hid ((K10 ++ R11).length = 25) := Lib.hid (by rw [List.length_append, HN.out, hlen])
  have H1 := Lib.hid (keys_one R11)
  clear hown hin hb hlen hco HO HB HC HN
  go_wp2_with (first
    | (at_builtin; refine wpList_append_any _ rfl (.tmp 32) (.tmp 33) 36 rfl w.heap.size 33 i0 (.agg #[.string ⟨#[]⟩, .string ⟨#[]⟩, .int .i64 0, .bool false, .int .i64 0, .slice none 0 0]) 6 80 Try.underlying36 HI.out HZ.out HS.out HY.out rfl (by omega) v10 24 _ rfl HO2.out x11.heap.size a11 1 c11 _ rfl HRD.out H1.out (by decide) (by decide) HB2.out.size ?_; intro v11 w11 hown hg hat; have HB := Lib.hid (HB2.out.grown hg HB2.out.size (fun k hk => (HO2.out.lt k hk).1)); have HO3 := Lib.hid hown; clear hown hg hat)
    | (go_at_call 27; fail)
    | (go_at_call 28; fail))
  have HO : Hid (w11.ownsRow w.heap.size 33 6 v11 25 (flat KeyM.row (K10 ++ R11))) := Lib.hid (by rw [flat_append]; exact HO3.out)
  have HC := HC2
  have HN := HN2
  clear HO2 HB2 HC2 HN2 HO3 HRD H1
  generalize K10 ++ R11 = K11 at HO HC HN
  go_wp2_with (go_at_call 27; fail)
  refine (row_any ⟨#[83, 101, 114, 118, 105, 99, 101]⟩ ⟨#[69, 110, 118, 105, 114, 111, 110, 109, 101, 110, 116]⟩ 8 true _ (by decide)).mono ?_
  rintro e x12 ⟨v, rfl, hown, hb⟩
  obtain ⟨a12, c12, rfl, hin, -, -⟩ := rows_form KeyM.size hown
  have hlen : (rowP ⟨#[83, 101, 114, 118, 105, 99, 101]⟩ ⟨#[69, 110, 118, 105, 114, 111, 110, 109, 101, 110, 116]⟩ 8 true).length = 1 := by kernel_rfl
  have hco : keysT.take 25 ++ (rowP ⟨#[83, 101, 114, 118, 105, 99, 101]⟩ ⟨#[69, 110, 118, 105, 114, 111, 110, 109, 101, 110, 116]⟩ 8 true).map KeyM.core = keysT.take 26 := by kernel_rfl
  rw [hlen] at hin ⊢
  generalize rowP ⟨#[83, 101, 114, 118, 105, 99, 101]⟩ ⟨#[69, 110, 118, 105, 114, 111, 110, 109, 101, 110, 116]⟩ 8 true = R12 at hin hco hlen
  have HRD := Lib.hid (hin.reads KeyM.size (by omega))
  have HO2 := Lib.hid (owns_below HO.out hb)
  have HB2 := Lib.hid (HB.out.trans (hb.mono HB.out.size))
  have HC2 : Hid ((K11 ++ R12).map KeyM.core = keysT.take 26) := Lib.hid (by rw [List.map_append, HC.out]; exact hco)
  have HN2 : Hid ((K11 ++ R12).length = 26) := Lib.hid (by rw [List.length_append, HN.out, hlen])
  have H1 := Lib.hid (keys_one R12)
  clear hown hin hb hlen hco HO HB HC HN
  go_wp2_with (first
    | (at_builtin; refine wpList_append_any _ rfl (.tmp 35) (.tmp 36) 36 rfl w.heap.size 33 i0 (.agg #[.string ⟨#[]⟩, .string ⟨#[]⟩, .int .i64 0, .bool false, .int .i64 0, .slice none 0 0]) 6 80 Try.underlying36 HI.out HZ.out HS.out HY.out rfl (by omega) v11 25 _ rfl HO2.out x12.heap.size a12 1 c12 _ rfl HRD.out H1.out (by decide) (by decide) HB2.out.size ?_; intro v12 w12 hown hg hat; have HB := Lib.hid (HB2.out.grown hg HB2.out.size (fun k hk => (HO2.out.lt k hk).1)); have HO3 := Lib.hid hown; clear hown hg hat)
    | (go_at_call 27; fail)
    | (go_at_call 28; fail))
  have HO : Hid (w12.ownsRow w.heap.size 33 6 v12 26 (flat KeyM.row (K11 ++ R12))) := Lib.hid (by rw [flat_append]; exact HO3.out)
  have HC := HC2
  have HN := HN2
  clear HO2 HB2 HC2 HN2 HO3 HRD H1
  generalize K11 ++ R12 = K12 at HO HC HN
  go_wp2_with (go_at_call 27; fail)
  refine (row_any ⟨#[83, 101, 114, 118, 105, 99, 101]⟩ ⟨#[83, 111, 99, 107, 101, 116, 115]⟩ 6 true _ (by decide)).mono ?_
  rintro e x13 ⟨v, rfl, hown, hb⟩
  obtain ⟨a13, c13, rfl, hin, -, -⟩ := rows_form KeyM.size hown
  have hlen : (rowP ⟨#[83, 101, 114, 118, 105, 99, 101]⟩ ⟨#[83, 111, 99, 107, 101, 116, 115]⟩ 6 true).length = 1 := by kernel_rfl
  have hco : keysT.take 26 ++ (rowP ⟨#[83, 101, 114, 118, 105, 99, 101]⟩ ⟨#[83, 111, 99, 107, 101, 116, 115]⟩ 6 true).map KeyM.core = keysT.take 27 := by kernel_rfl
  rw [hlen] at hin ⊢
  generalize rowP ⟨#[83, 101, 114, 118, 105, 99, 101]⟩ ⟨#[83, 111, 99, 107, 101, 116, 115]⟩ 6 true = R13 at hin hco hlen
  have HRD := Lib.hid (hin.reads KeyM.size (by omega))
  have HO2 := Lib.hid (owns_below HO.out hb)
  have HB2 := Lib.hid (HB.out.trans (hb.mono HB.out.size))
  have HC2 : Hid ((K12 ++ R13).map KeyM.core = keysT.take 27) := Lib.hid (by rw [List.map_append, HC.out]; exact hco)
  have HN2 : Hid ((K12 ++ R13).length = 27) := Lib.hid (by rw [List.length_append, HN.out, hlen])
  have H1 := Lib.hid (keys_one R13)
  clear hown hin hb hlen hco HO HB HC HN
  go_wp2_with (first
    | (at_builtin; refine wpList_append_any _ rfl (.tmp 38) (.tmp 39) 36 rfl w.heap.size 33 i0 (.agg #[.string ⟨#[]⟩, .string ⟨#[]⟩, .int .i64 0, .bool false, .int .i64 0, .slice none 0 0]) 6 80 Try.underlying36 HI.out HZ.out HS.out HY.out rfl (by omega) v12 26 _ rfl HO2.out x13.heap.size a13 1 c13 _ rfl HRD.out H1.out (by decide) (by decide) HB2.out.size ?_; intro v13 w13 hown hg hat; have HB := Lib.hid (HB2.out.grown hg HB2.out.size (fun k hk => (HO2.out.lt k hk).1)); have HO3 := Lib.hid hown; clear hown hg hat)
    | (go_at_call 27; fail)
    | (go_at_call 28; fail))
  have HO : Hid (w13.ownsRow w.heap.size 33 6 v13 27 (flat KeyM.row (K12 ++ R13))) := Lib.hid (by rw [flat_append]; exact HO3.out)
  have HC := HC2
  have HN := HN2
  clear HO2 HB2 HC2 HN2 HO3 HRD H1
  generalize K12 ++ R13 = K13 at HO HC HN
  go_wp2_with (go_at_call 27; fail)
  refine (row_any ⟨#[83, 111, 99, 107, 101, 116]⟩ ⟨#[76, 105, 115, 116, 101, 110, 83, 116, 114, 101, 97, 109]⟩ 11 true _ (by decide)).mono ?_
  rintro e x14 ⟨v, rfl, hown, hb⟩
  obtain ⟨a14, c14, rfl, hin, -, -⟩ := rows_form KeyM.size hown
  have hlen : (rowP ⟨#[83, 111, 99, 107, 101, 116]⟩ ⟨#[76, 105, 115, 116, 101, 110, 83, 116, 114, 101, 97, 109]⟩ 11 true).length = 1 := by kernel_rfl
  have hco : keysT.take 27 ++ (rowP ⟨#[83, 111, 99, 107, 101, 116]⟩ ⟨#[76, 105, 115, 116, 101, 110, 83, 116, 114, 101, 97, 109]⟩ 11 true).map KeyM.core = keysT.take 28 := by kernel_rfl
  rw [hlen] at hin ⊢
  generalize rowP ⟨#[83, 111, 99, 107, 101, 116]⟩ ⟨#[76, 105, 115, 116, 101, 110, 83, 116, 114, 101, 97, 109]⟩ 11 true = R14 at hin hco hlen
  have HRD := Lib.hid (hin.reads KeyM.size (by omega))
  have HO2 := Lib.hid (owns_below HO.out hb)
  have HB2 := Lib.hid (HB.out.trans (hb.mono HB.out.size))
  have HC2 : Hid ((K13 ++ R14).map KeyM.core = keysT.take 28) := Lib.hid (by rw [List.map_append, HC.out]; exact hco)
  have HN2 : Hid ((K13 ++ R14).length = 28) := Lib.hid (by rw [List.length_append, HN.out, hlen])
  have H1 := Lib.hid (keys_one R14)
  clear hown hin hb hlen hco HO HB HC HN
  go_wp2_with (first
    | (at_builtin; refine wpList_append_any _ rfl (.tmp 41) (.tmp 42) 36 rfl w.heap.size 33 i0 (.agg #[.string ⟨#[]⟩, .string ⟨#[]⟩, .int .i64 0, .bool false, .int .i64 0, .slice none 0 0]) 6 80 Try.underlying36 HI.out HZ.out HS.out HY.out rfl (by omega) v13 27 _ rfl HO2.out x14.heap.size a14 1 c14 _ rfl HRD.out H1.out (by decide) (by decide) HB2.out.size ?_; intro v14 w14 hown hg hat; have HB := Lib.hid (HB2.out.grown hg HB2.out.size (fun k hk => (HO2.out.lt k hk).1)); have HO3 := Lib.hid hown; clear hown hg hat)
    | (go_at_call 27; fail)
    | (go_at_call 28; fail))
  have HO : Hid (w14.ownsRow w.heap.size 33 6 v14 28 (flat KeyM.row (K13 ++ R14))) := Lib.hid (by rw [flat_append]; exact HO3.out)
  have HC := HC2
  have HN := HN2
  clear HO2 HB2 HC2 HN2 HO3 HRD H1
  generalize K13 ++ R14 = K14 at HO HC HN
  go_wp2_with (go_at_call 27; fail)
  refine (row_any ⟨#[83, 111, 99, 107, 101, 116]⟩ ⟨#[66, 97, 99, 107, 108, 111, 103]⟩ 3 false _ (by decide)).mono ?_
  rintro e x15 ⟨v, rfl, hown, hb⟩
  obtain ⟨a15, c15, rfl, hin, -, -⟩ := rows_form KeyM.size hown
  have hlen : (rowP ⟨#[83, 111, 99, 107, 101, 116]⟩ ⟨#[66, 97, 99, 107, 108, 111, 103]⟩ 3 false).length = 1 := by kernel_rfl
  have hco : keysT.take 28 ++ (rowP ⟨#[83, 111, 99, 107, 101, 116]⟩ ⟨#[66, 97, 99, 107, 108, 111, 103]⟩ 3 false).map KeyM.core = keysT.take 29 := by kernel_rfl
  rw [hlen] at hin ⊢
  generalize rowP ⟨#[83, 111, 99, 107, 101, 116]⟩ ⟨#[66, 97, 99, 107, 108, 111, 103]⟩ 3 false = R15 at hin hco hlen
  have HRD := Lib.hid (hin.reads KeyM.size (by omega))
  have HO2 := Lib.hid (owns_below HO.out hb)
  have HB2 := Lib.hid (HB.out.trans (hb.mono HB.out.size))
  have HC2 : Hid ((K14 ++ R15).map KeyM.core = keysT.take 29) := Lib.hid (by rw [List.map_append, HC.out]; exact hco)
  have HN2 : Hid ((K14 ++ R15).length = 29) := Lib.hid (by rw [List.length_append, HN.out, hlen])
  have H1 := Lib.hid (keys_one R15)
  clear hown hin hb hlen hco HO HB HC HN
  go_wp2_with (first
    | (at_builtin; refine wpList_append_any _ rfl (.tmp 44) (.tmp 45) 36 rfl w.heap.size 33 i0 (.agg #[.string ⟨#[]⟩, .string ⟨#[]⟩, .int .i64 0, .bool false, .int .i64 0, .slice none 0 0]) 6 80 Try.underlying36 HI.out HZ.out HS.out HY.out rfl (by omega) v14 28 _ rfl HO2.out x15.heap.size a15 1 c15 _ rfl HRD.out H1.out (by decide) (by decide) HB2.out.size ?_; intro v15 w15 hown hg hat; have HB := Lib.hid (HB2.out.grown hg HB2.out.size (fun k hk => (HO2.out.lt k hk).1)); have HO3 := Lib.hid hown; clear hown hg hat)
    | (go_at_call 27; fail)
    | (go_at_call 28; fail))
  have HO : Hid (w15.ownsRow w.heap.size 33 6 v15 29 (flat KeyM.row (K14 ++ R15))) := Lib.hid (by rw [flat_append]; exact HO3.out)
  have HC := HC2
  have HN := HN2
  clear HO2 HB2 HC2 HN2 HO3 HRD H1
  generalize K14 ++ R15 = K15 at HO HC HN
  go_wp2_with (go_at_call 27; fail)
  refine (row_any ⟨#[83, 111, 99, 107, 101, 116]⟩ ⟨#[70, 105, 108, 101, 68, 101, 115, 99, 114, 105, 112, 116, 111, 114, 78, 97, 109, 101]⟩ 1 false _ (by decide)).mono ?_
  rintro e x16 ⟨v, rfl, hown, hb⟩
  obtain ⟨a16, c16, rfl, hin, -, -⟩ := rows_form KeyM.size hown
  have hlen : (rowP ⟨#[83, 111, 99, 107, 101, 116]⟩ ⟨#[70, 105, 108, 101, 68, 101, 115, 99, 114, 105, 112, 116, 111, 114, 78, 97, 109, 101]⟩ 1 false).length = 1 := by kernel_rfl
  have hco : keysT.take 29 ++ (rowP ⟨#[83, 111, 99, 107, 101, 116]⟩ ⟨#[70, 105, 108, 101, 68, 101, 115, 99, 114, 105, 112, 116, 111, 114, 78, 97, 109, 101]⟩ 1 false).map KeyM.core = keysT.take 30 := by kernel_rfl
  rw [hlen] at hin ⊢
  generalize rowP ⟨#[83, 111, 99, 107, 101, 116]⟩ ⟨#[70, 105, 108, 101, 68, 101, 115, 99, 114, 105, 112, 116, 111, 114, 78, 97, 109, 101]⟩ 1 false = R16 at hin hco hlen
  have HRD := Lib.hid (hin.reads KeyM.size (by omega))
  have HO2 := Lib.hid (owns_below HO.out hb)
  have HB2 := Lib.hid (HB.out.trans (hb.mono HB.out.size))
  have HC2 : Hid ((K15 ++ R16).map KeyM.core = keysT.take 30) := Lib.hid (by rw [List.map_append, HC.out]; exact hco)
  have HN2 : Hid ((K15 ++ R16).length = 30) := Lib.hid (by rw [List.length_append, HN.out, hlen])
  have H1 := Lib.hid (keys_one R16)
  clear hown hin hb hlen hco HO HB HC HN
  go_wp2_with (first
    | (at_builtin; refine wpList_append_any _ rfl (.tmp 47) (.tmp 48) 36 rfl w.heap.size 33 i0 (.agg #[.string ⟨#[]⟩, .string ⟨#[]⟩, .int .i64 0, .bool false, .int .i64 0, .slice none 0 0]) 6 80 Try.underlying36 HI.out HZ.out HS.out HY.out rfl (by omega) v15 29 _ rfl HO2.out x16.heap.size a16 1 c16 _ rfl HRD.out H1.out (by decide) (by decide) HB2.out.size ?_; intro v16 w16 hown hg hat; have HB := Lib.hid (HB2.out.grown hg HB2.out.size (fun k hk => (HO2.out.lt k hk).1)); have HO3 := Lib.hid hown; clear hown hg hat)
    | (go_at_call 27; fail)
    | (go_at_call 28; fail))
  have HO : Hid (w16.ownsRow w.heap.size 33 6 v16 30 (flat KeyM.row (K15 ++ R16))) := Lib.hid (by rw [flat_append]; exact HO3.out)
  have HC := HC2
  have HN := HN2
  clear HO2 HB2 HC2 HN2 HO3 HRD H1
  generalize K15 ++ R16 = K16 at HO HC HN
  go_wp2_with (go_at_call 27; fail)
  refine (row_any ⟨#[83, 111, 99, 107, 101, 116]⟩ ⟨#[83, 101, 114, 118, 105, 99, 101]⟩ 5 false _ (by decide)).mono ?_
  rintro e x17 ⟨v, rfl, hown, hb⟩
  obtain ⟨a17, c17, rfl, hin, -, -⟩ := rows_form KeyM.size hown
  have hlen : (rowP ⟨#[83, 111, 99, 107, 101, 116]⟩ ⟨#[83, 101, 114, 118, 105, 99, 101]⟩ 5 false).length = 1 := by kernel_rfl
  have hco : keysT.take 30 ++ (rowP ⟨#[83, 111, 99, 107, 101, 116]⟩ ⟨#[83, 101, 114, 118, 105, 99, 101]⟩ 5 false).map KeyM.core = keysT.take 31 := by kernel_rfl
  rw [hlen] at hin ⊢
  generalize rowP ⟨#[83, 111, 99, 107, 101, 116]⟩ ⟨#[83, 101, 114, 118, 105, 99, 101]⟩ 5 false = R17 at hin hco hlen
  have HRD := Lib.hid (hin.reads KeyM.size (by omega))
  have HO2 := Lib.hid (owns_below HO.out hb)
  have HB2 := Lib.hid (HB.out.trans (hb.mono HB.out.size))
  have HC2 : Hid ((K16 ++ R17).map KeyM.core = keysT.take 31) := Lib.hid (by rw [List.map_append, HC.out]; exact hco)
  have HN2 : Hid ((K16 ++ R17).length = 31) := Lib.hid (by rw [List.length_append, HN.out, hlen])
  have H1 := Lib.hid (keys_one R17)
  clear hown hin hb hlen hco HO HB HC HN
  go_wp2_with (first
    | (at_builtin; refine wpList_append_any _ rfl (.tmp 50) (.tmp 51) 36 rfl w.heap.size 33 i0 (.agg #[.string ⟨#[]⟩, .string ⟨#[]⟩, .int .i64 0, .bool false, .int .i64 0, .slice none 0 0]) 6 80 Try.underlying36 HI.out HZ.out HS.out HY.out rfl (by omega) v16 30 _ rfl HO2.out x17.heap.size a17 1 c17 _ rfl HRD.out H1.out (by decide) (by decide) HB2.out.size ?_; intro v17 w17 hown hg hat; have HB := Lib.hid (HB2.out.grown hg HB2.out.size (fun k hk => (HO2.out.lt k hk).1)); have HO3 := Lib.hid hown; clear hown hg hat)
    | (go_at_call 27; fail)
    | (go_at_call 28; fail))
  have HO : Hid (w17.ownsRow w.heap.size 33 6 v17 31 (flat KeyM.row (K16 ++ R17))) := Lib.hid (by rw [flat_append]; exact HO3.out)
  have HC := HC2
  have HN := HN2
  clear HO2 HB2 HC2 HN2 HO3 HRD H1
  generalize K16 ++ R17 = K17 at HO HC HN
  go_wp2_with (go_at_call 27; fail)
  refine (row_any ⟨#[84, 105, 109, 101, 114]⟩ ⟨#[79, 110, 66, 111, 111, 116, 83, 101, 99, 32, 79, 110, 65, 99, 116, 105, 118, 101, 83, 101, 99, 32, 79, 110, 85, 110, 105, 116, 73, 110, 97, 99, 116, 105, 118, 101, 83, 101, 99]⟩ 4 true _ (by decide)).mono ?_
  rintro e x18 ⟨v, rfl, hown, hb⟩
  obtain ⟨a18, c18, rfl, hin, -, -⟩ := rows_form KeyM.size hown
  have hlen : (rowP ⟨#[84, 105, 109, 101, 114]⟩ ⟨#[79, 110, 66, 111, 111, 116, 83, 101, 99, 32, 79, 110, 65, 99, 116, 105, 118, 101, 83, 101, 99, 32, 79, 110, 85, 110, 105, 116, 73, 110, 97, 99, 116, 105, 118, 101, 83, 101, 99]⟩ 4 true).length = 3 := by kernel_rfl
  have hco : keysT.take 31 ++ (rowP ⟨#[84, 105, 109, 101, 114]⟩ ⟨#[79, 110, 66, 111, 111, 116, 83, 101, 99, 32, 79, 110, 65, 99, 116, 105, 118, 101, 83, 101, 99, 32, 79, 110, 85, 110, 105, 116, 73, 110, 97, 99, 116, 105, 118, 101, 83, 101, 99]⟩ 4 true).map KeyM.core = keysT.take 34 := by kernel_rfl
  rw [hlen] at hin ⊢
  generalize rowP ⟨#[84, 105, 109, 101, 114]⟩ ⟨#[79, 110, 66, 111, 111, 116, 83, 101, 99, 32, 79, 110, 65, 99, 116, 105, 118, 101, 83, 101, 99, 32, 79, 110, 85, 110, 105, 116, 73, 110, 97, 99, 116, 105, 118, 101, 83, 101, 99]⟩ 4 true = R18 at hin hco hlen
  have HRD := Lib.hid (hin.reads KeyM.size (by omega))
  have HO2 := Lib.hid (owns_below HO.out hb)
  have HB2 := Lib.hid (HB.out.trans (hb.mono HB.out.size))
  have HC2 : Hid ((K17 ++ R18).map KeyM.core = keysT.take 34) := Lib.hid (by rw [List.map_append, HC.out]; exact hco)
  have HN2 : Hid ((K17 ++ R18).length = 34) := Lib.hid (by rw [List.length_append, HN.out, hlen])
  have H1 := Lib.hid (keys_one R18)
  clear hown hin hb hlen hco HO HB HC HN
  go_wp2_with (first
    | (at_builtin; refine wpList_append_any _ rfl (.tmp 53) (.tmp 54) 36 rfl w.heap.size 33 i0 (.agg #[.string ⟨#[]⟩, .string ⟨#[]⟩, .int .i64 0, .bool false, .int .i64 0, .slice none 0 0]) 6 80 Try.underlying36 HI.out HZ.out HS.out HY.out rfl (by omega) v17 31 _ rfl HO2.out x18.heap.size a18 3 c18 _ rfl HRD.out H1.out (by decide) (by decide) HB2.out.size ?_; intro v18 w18 hown hg hat; have HB := Lib.hid (HB2.out.grown hg HB2.out.size (fun k hk => (HO2.out.lt k hk).1)); have HO3 := Lib.hid hown; clear hown hg hat)
    | (go_at_call 27; fail)
    | (go_at_call 28; fail))
  have HO : Hid (w18.ownsRow w.heap.size 33 6 v18 34 (flat KeyM.row (K17 ++ R18))) := Lib.hid (by rw [flat_append]; exact HO3.out)
  have HC := HC2
  have HN := HN2
  clear HO2 HB2 HC2 HN2 HO3 HRD H1
  generalize K17 ++ R18 = K18 at HO HC HN
  go_wp2_with (go_at_call 27; fail)
  refine (row_any ⟨#[84, 105, 109, 101, 114]⟩ ⟨#[79, 110, 67, 97, 108, 101, 110, 100, 97, 114]⟩ 9 true _ (by decide)).mono ?_
  rintro e x19 ⟨v, rfl, hown, hb⟩
  obtain ⟨a19, c19, rfl, hin, -, -⟩ := rows_form KeyM.size hown
  have hlen : (rowP ⟨#[84, 105, 109, 101, 114]⟩ ⟨#[79, 110, 67, 97, 108, 101, 110, 100, 97, 114]⟩ 9 true).length = 1 := by kernel_rfl
  have hco : keysT.take 34 ++ (rowP ⟨#[84, 105, 109, 101, 114]⟩ ⟨#[79, 110, 67, 97, 108, 101, 110, 100, 97, 114]⟩ 9 true).map KeyM.core = keysT.take 35 := by kernel_rfl
  rw [hlen] at hin ⊢
  generalize rowP ⟨#[84, 105, 109, 101, 114]⟩ ⟨#[79, 110, 67, 97, 108, 101, 110, 100, 97, 114]⟩ 9 true = R19 at hin hco hlen
  have HRD := Lib.hid (hin.reads KeyM.size (by omega))
  have HO2 := Lib.hid (owns_below HO.out hb)
  have HB2 := Lib.hid (HB.out.trans (hb.mono HB.out.size))
  have HC2 : Hid ((K18 ++ R19).map KeyM.core = keysT.take 35) := Lib.hid (by rw [List.map_append, HC.out]; exact hco)
  have HN2 : Hid ((K18 ++ R19).length = 35) := Lib.hid (by rw [List.length_append, HN.out, hlen])
  have H1 := Lib.hid (keys_one R19)
  clear hown hin hb hlen hco HO HB HC HN
  go_wp2_with (first
    | (at_builtin; refine wpList_append_any _ rfl (.tmp 56) (.tmp 57) 36 rfl w.heap.size 33 i0 (.agg #[.string ⟨#[]⟩, .string ⟨#[]⟩, .int .i64 0, .bool false, .int .i64 0, .slice none 0 0]) 6 80 Try.underlying36 HI.out HZ.out HS.out HY.out rfl (by omega) v18 34 _ rfl HO2.out x19.heap.size a19 1 c19 _ rfl HRD.out H1.out (by decide) (by decide) HB2.out.size ?_; intro v19 w19 hown hg hat; have HB := Lib.hid (HB2.out.grown hg HB2.out.size (fun k hk => (HO2.out.lt k hk).1)); have HO3 := Lib.hid hown; clear hown hg hat)
    | (go_at_call 27; fail)
    | (go_at_call 28; fail))
  have HO : Hid (w19.ownsRow w.heap.size 33 6 v19 35 (flat KeyM.row (K18 ++ R19))) := Lib.hid (by rw [flat_append]; exact HO3.out)
  have HC := HC2
  have HN := HN2
  clear HO2 HB2 HC2 HN2 HO3 HRD H1
  generalize K18 ++ R19 = K19 at HO HC HN
  go_wp2_with (go_at_call 27; fail)
  refine (row_any ⟨#[84, 105, 109, 101, 114]⟩ ⟨#[80, 101, 114, 115, 105, 115, 116, 101, 110, 116]⟩ 2 false _ (by decide)).mono ?_
  rintro e x20 ⟨v, rfl, hown, hb⟩
  obtain ⟨a20, c20, rfl, hin, -, -⟩ := rows_form KeyM.size hown
  have hlen : (rowP ⟨#[84, 105, 109, 101, 114]⟩ ⟨#[80, 101, 114, 115, 105, 115, 116, 101, 110, 116]⟩ 2 false).length = 1 := by kernel_rfl
  have hco : keysT.take 35 ++ (rowP ⟨#[84, 105, 109, 101, 114]⟩ ⟨#[80, 101, 114, 115, 105, 115, 116, 101, 110, 116]⟩ 2 false).map KeyM.core = keysT.take 36 := by kernel_rfl
  rw [hlen] at hin ⊢
  generalize rowP ⟨#[84, 105, 109, 101, 114]⟩ ⟨#[80, 101, 114, 115, 105, 115, 116, 101, 110, 116]⟩ 2 false = R20 at hin hco hlen
  have HRD := Lib.hid (hin.reads KeyM.size (by omega))
  have HO2 := Lib.hid (owns_below HO.out hb)
  have HB2 := Lib.hid (HB.out.trans (hb.mono HB.out.size))
  have HC2 : Hid ((K19 ++ R20).map KeyM.core = keysT.take 36) := Lib.hid (by rw [List.map_append, HC.out]; exact hco)
  have HN2 : Hid ((K19 ++ R20).length = 36) := Lib.hid (by rw [List.length_append, HN.out, hlen])
  have H1 := Lib.hid (keys_one R20)
  clear hown hin hb hlen hco HO HB HC HN
  go_wp2_with (first
    | (at_builtin; refine wpList_append_any _ rfl (.tmp 59) (.tmp 60) 36 rfl w.heap.size 33 i0 (.agg #[.string ⟨#[]⟩, .string ⟨#[]⟩, .int .i64 0, .bool false, .int .i64 0, .slice none 0 0]) 6 80 Try.underlying36 HI.out HZ.out HS.out HY.out rfl (by omega) v19 35 _ rfl HO2.out x20.heap.size a20 1 c20 _ rfl HRD.out H1.out (by decide) (by decide) HB2.out.size ?_; intro v20 w20 hown hg hat; have HB := Lib.hid (HB2.out.grown hg HB2.out.size (fun k hk => (HO2.out.lt k hk).1)); have HO3 := Lib.hid hown; clear hown hg hat)
    | (go_at_call 27; fail)
    | (go_at_call 28; fail))
  have HO : Hid (w20.ownsRow w.heap.size 33 6 v20 36 (flat KeyM.row (K19 ++ R20))) := Lib.hid (by rw [flat_append]; exact HO3.out)
  have HC := HC2
  have HN := HN2
  clear HO2 HB2 HC2 HN2 HO3 HRD H1
  generalize K19 ++ R20 = K20 at HO HC HN
  go_wp2_with (go_at_call 27; fail)
  refine (row_any ⟨#[84, 105, 109, 101, 114]⟩ ⟨#[85, 110, 105, 116]⟩ 5 false _ (by decide)).mono ?_
  rintro e x21 ⟨v, rfl, hown, hb⟩
  obtain ⟨a21, c21, rfl, hin, -, -⟩ := rows_form KeyM.size hown
  have hlen : (rowP ⟨#[84, 105, 109, 101, 114]⟩ ⟨#[85, 110, 105, 116]⟩ 5 false).length = 1 := by kernel_rfl
  have hco : keysT.take 36 ++ (rowP ⟨#[84, 105, 109, 101, 114]⟩ ⟨#[85, 110, 105, 116]⟩ 5 false).map KeyM.core = keysT.take 37 := by kernel_rfl
  rw [hlen] at hin ⊢
  generalize rowP ⟨#[84, 105, 109, 101, 114]⟩ ⟨#[85, 110, 105, 116]⟩ 5 false = R21 at hin hco hlen
  have HRD := Lib.hid (hin.reads KeyM.size (by omega))
  have HO2 := Lib.hid (owns_below HO.out hb)
  have HB2 := Lib.hid (HB.out.trans (hb.mono HB.out.size))
  have HC2 : Hid ((K20 ++ R21).map KeyM.core = keysT.take 37) := Lib.hid (by rw [List.map_append, HC.out]; exact hco)
  have HN2 : Hid ((K20 ++ R21).length = 37) := Lib.hid (by rw [List.length_append, HN.out, hlen])
  have H1 := Lib.hid (keys_one R21)
  clear hown hin hb hlen hco HO HB HC HN
  go_wp2_with (first
    | (at_builtin; refine wpList_append_any _ rfl (.tmp 62) (.tmp 63) 36 rfl w.heap.size 33 i0 (.agg #[.string ⟨#[]⟩, .string ⟨#[]⟩, .int .i64 0, .bool false, .int .i64 0, .slice none 0 0]) 6 80 Try.underlying36 HI.out HZ.out HS.out HY.out rfl (by omega) v20 36 _ rfl HO2.out x21.heap.size a21 1 c21 _ rfl HRD.out H1.out (by decide) (by decide) HB2.out.size ?_; intro v21 w21 hown hg hat; have HB := Lib.hid (HB2.out.grown hg HB2.out.size (fun k hk => (HO2.out.lt k hk).1)); have HO3 := Lib.hid hown; clear hown hg hat)
    | (go_at_call 27; fail)
    | (go_at_call 28; fail))
  have HO : Hid (w21.ownsRow w.heap.size 33 6 v21 37 (flat KeyM.row (K20 ++ R21))) := Lib.hid (by rw [flat_append]; exact HO3.out)
  have HC := HC2
  have HN := HN2
  clear HO2 HB2 HC2 HN2 HO3 HRD H1
  generalize K20 ++ R21 = K21 at HO HC HN
  go_wp2_with (go_at_call 27; fail)
  refine (row_any ⟨#[73, 110, 115, 116, 97, 108, 108]⟩ ⟨#[87, 97, 110, 116, 101, 100, 66, 121, 32, 82, 101, 113, 117, 105, 114, 101, 100, 66, 121, 32, 65, 108, 105, 97, 115, 32, 65, 108, 115, 111]⟩ 6 true _ (by decide)).mono ?_
  rintro e x22 ⟨v, rfl, hown, hb⟩
  obtain ⟨a22, c22, rfl, hin, -, -⟩ := rows_form KeyM.size hown
  have hlen : (rowP ⟨#[73, 110, 115, 116, 97, 108, 108]⟩ ⟨#[87, 97, 110, 116, 101, 100, 66, 121, 32, 82, 101, 113, 117, 105, 114, 101, 100, 66, 121, 32, 65, 108, 105, 97, 115, 32, 65, 108, 115, 111]⟩ 6 true).length = 4 := by kernel_rfl
  have hco : keysT.take 37 ++ (rowP ⟨#[73, 110, 115, 116, 97, 108, 108]⟩ ⟨#[87, 97, 110, 116, 101, 100, 66, 121, 32, 82, 101, 113, 117, 105, 114, 101, 100, 66, 121, 32, 65, 108, 105, 97, 115, 32, 65, 108, 115, 111]⟩ 6 true).map KeyM.core = keysT.take 41 := by kernel_rfl
  rw [hlen] at hin ⊢
  generalize rowP ⟨#[73, 110, 115, 116, 97, 108, 108]⟩ ⟨#[87, 97, 110, 116, 101, 100, 66, 121, 32, 82, 101, 113, 117, 105, 114, 101, 100, 66, 121, 32, 65, 108, 105, 97, 115, 32, 65, 108, 115, 111]⟩ 6 true = R22 at hin hco hlen
  have HRD := Lib.hid (hin.reads KeyM.size (by omega))
  have HO2 := Lib.hid (owns_below HO.out hb)
  have HB2 := Lib.hid (HB.out.trans (hb.mono HB.out.size))
  have HC2 : Hid ((K21 ++ R22).map KeyM.core = keysT.take 41) := Lib.hid (by rw [List.map_append, HC.out]; exact hco)
  have HN2 : Hid ((K21 ++ R22).length = 41) := Lib.hid (by rw [List.length_append, HN.out, hlen])
  have H1 := Lib.hid (keys_one R22)
  clear hown hin hb hlen hco HO HB HC HN
  go_wp2_with (first
    | (at_builtin; refine wpList_append_any _ rfl (.tmp 65) (.tmp 66) 36 rfl w.heap.size 33 i0 (.agg #[.string ⟨#[]⟩, .string ⟨#[]⟩, .int .i64 0, .bool false, .int .i64 0, .slice none 0 0]) 6 80 Try.underlying36 HI.out HZ.out HS.out HY.out rfl (by omega) v21 37 _ rfl HO2.out x22.heap.size a22 4 c22 _ rfl HRD.out H1.out (by decide) (by decide) HB2.out.size ?_; intro v22 w22 hown hg hat; have HB := Lib.hid (HB2.out.grown hg HB2.out.size (fun k hk => (HO2.out.lt k hk).1)); have HO3 := Lib.hid hown; clear hown hg hat)
    | (go_at_call 27; fail)
    | (go_at_call 28; fail))
  have HO : Hid (w22.ownsRow w.heap.size 33 6 v22 41 (flat KeyM.row (K21 ++ R22))) := Lib.hid (by rw [flat_append]; exact HO3.out)
  have HC := HC2
  have HN := HN2
  clear HO2 HB2 HC2 HN2 HO3 HRD H1
  generalize K21 ++ R22 = K22 at HO HC HN
  go_wp2_with (go_at_call 27; fail)
  refine (row_any ⟨#[73, 110, 115, 116, 97, 108, 108]⟩ ⟨#[68, 101, 102, 97, 117, 108, 116, 73, 110, 115, 116, 97, 110, 99, 101]⟩ 1 false _ (by decide)).mono ?_
  rintro e x23 ⟨v, rfl, hown, hb⟩
  obtain ⟨a23, c23, rfl, hin, -, -⟩ := rows_form KeyM.size hown
  have hlen : (rowP ⟨#[73, 110, 115, 116, 97, 108, 108]⟩ ⟨#[68, 101, 102, 97, 117, 108, 116, 73, 110, 115, 116, 97, 110, 99, 101]⟩ 1 false).length = 1 := by kernel_rfl
  have hco : keysT.take 41 ++ (rowP ⟨#[73, 110, 115, 116, 97, 108, 108]⟩ ⟨#[68, 101, 102, 97, 117, 108, 116, 73, 110, 115, 116, 97, 110, 99, 101]⟩ 1 false).map KeyM.core = keysT.take 42 := by kernel_rfl
  rw [hlen] at hin ⊢
  generalize rowP ⟨#[73, 110, 115, 116, 97, 108, 108]⟩ ⟨#[68, 101, 102, 97, 117, 108, 116, 73, 110, 115, 116, 97, 110, 99, 101]⟩ 1 false = R23 at hin hco hlen
  have HRD := Lib.hid (hin.reads KeyM.size (by omega))
  have HO2 := Lib.hid (owns_below HO.out hb)
  have HB2 := Lib.hid (HB.out.trans (hb.mono HB.out.size))
  have HC2 : Hid ((K22 ++ R23).map KeyM.core = keysT.take 42) := Lib.hid (by rw [List.map_append, HC.out]; exact hco)
  have HN2 : Hid ((K22 ++ R23).length = 42) := Lib.hid (by rw [List.length_append, HN.out, hlen])
  have H1 := Lib.hid (keys_one R23)
  clear hown hin hb hlen hco HO HB HC HN
  go_wp2_with (first
    | (at_builtin; refine wpList_append_any _ rfl (.tmp 68) (.tmp 69) 36 rfl w.heap.size 33 i0 (.agg #[.string ⟨#[]⟩, .string ⟨#[]⟩, .int .i64 0, .bool false, .int .i64 0, .slice none 0 0]) 6 80 Try.underlying36 HI.out HZ.out HS.out HY.out rfl (by omega) v22 41 _ rfl HO2.out x23.heap.size a23 1 c23 _ rfl HRD.out H1.out (by decide) (by decide) HB2.out.size ?_; intro v23 w23 hown hg hat; have HB := Lib.hid (HB2.out.grown hg HB2.out.size (fun k hk => (HO2.out.lt k hk).1)); have HO3 := Lib.hid hown; clear hown hg hat)
    | (go_at_call 27; fail)
    | (go_at_call 28; fail))
  have HO : Hid (w23.ownsRow w.heap.size 33 6 v23 42 (flat KeyM.row (K22 ++ R23))) := Lib.hid (by rw [flat_append]; exact HO3.out)
  have HC := HC2
  have HN := HN2
  clear HO2 HB2 HC2 HN2 HO3 HRD H1
  generalize K22 ++ R23 = K23 at HO HC HN
  exact bodyPost_ret (v := v23) (by simp [results, Try.results23, go_sem]) rfl ⟨_, _, rfl, HO.out, HN.out, HC.out, HB.out⟩

end Go.Proofs.Ytcionpepgpfjdaa
