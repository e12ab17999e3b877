/-
  Contract of blend.over.
-/
import Derived.Test.YtcionpepgpfjdaaBlFind
import Derived.Test.YtcionpepgpfjdaaBlDel
namespace Go.Proofs.Ytcionpepgpfjdaa
open Go.ChangeShapes Go.WideShapes Go.ChangeAt Go.RowKit

theorem lineInfo : (Try.prog.info? 30).map (fun i => (i.zero, i.size, i.bytes)) = some (some (.agg #[.string ⟨#[]⟩, .string ⟨#[]⟩, .string ⟨#[]⟩, .int .i64 0]), 4, 56) := by kernel_rfl

def isE (x : LineM) : Bool := eqS x.v ⟨#[]⟩
def overP (out : List LineM) (x : LineM) : List LineM :=
  match findT x.s x.k with
  | none => out ++ [x]
  | some t => if t.2.2.2.1 = true then (if isE x = true then out.filter (fun y => !hitL x.s x.k y) else out ++ [x]) else out.filter (fun y => !hitL x.s x.k y) ++ [x]

set_option maxRecDepth 100000 in
set_option maxHeartbeats 3000000 in
theorem over_any (v : Value) (out : List LineM) (x : LineM) (base : Nat) (w : World) (hown : w.ownsRow base 30 4 v out.length (flat LineM.row out)) (hlen : out.length ≤ 2513169434915) (hbase : base ≤ w.heap.size) :
    Calls Try.prog 14 #[v, .agg x.row] w fun e w' => ∃ v', e = .returned v' ∧ w'.ownsRow base 30 4 v' (overP out x).length (flat LineM.row (overP out x)) ∧ Below base w w' := by
  have hmf : ∀ (fn : Fn) (first cap : Array Value) (w : World), (Instr.makeFunc fn first cap).run Try.prog w = .ok (.func fn first cap) w := fun _ _ _ _ => rfl
  obtain ⟨i0, hi0, hz0, hs0, hb0⟩ := info_parts lineInfo
  have HI := Lib.hid hi0
  have HZ := Lib.hid hz0
  have HS := Lib.hid hs0
  have HB := Lib.hid hb0
  have HOWN := Lib.hid hown
  have HBASE := Lib.hid hbase
  have HLEN := Lib.hid hlen
  obtain ⟨a, c, rfl, -, -, -⟩ := rows_form LineM.size hown
  have hlt : ∀ k, (Value.slice a out.length c).ownBlock = some k → k < w.heap.size := fun k hk => (hown.lt k hk).2
  have HLT := Lib.hid hlt
  clear hi0 hz0 hs0 hb0 hown hbase hlen hlt
  obtain ⟨xs, xk, xv, xa⟩ := x
  unfold LineM.row
  dsimp only
  go_enter Try.func14, Try.ntmps14
  go_wp2_with (go_at_call 12; fail)
  refine (find_any xs xk _).mono ?_
  rintro e w1 ⟨hret, hb1⟩
  have hr3 := (hb1.block w.heap.size (by simp)).trans (heap_alloc_new w _)
  have hb01 : Below w.heap.size w w1 := ((Below.refl w.heap.size w).alloc (Nat.le_refl _) _).trans (hb1.mono (by simp))
  have hl1 : w.heap.size < w1.heap.size := by have := hb1.size; simp at this; omega
  have HR3 := Lib.hid hr3
  have HB1 := Lib.hid (hb01.mono HBASE.out)
  have HB01 := Lib.hid hb01
  have HO1 := Lib.hid (owns_below HOWN.out hb01)
  have x0 : w1.cell? ⟨w.heap.size, 0, none⟩ = some (.string xs) := by rw [cell_of_row w1 _ 0 _ _ _ hr3]; rfl
  have x1 : w1.cell? ⟨w.heap.size, 1, none⟩ = some (.string xk) := by rw [cell_of_row w1 _ 1 _ _ _ hr3]; rfl
  have x2 : w1.cell? ⟨w.heap.size, 2, none⟩ = some (.string xv) := by rw [cell_of_row w1 _ 2 _ _ _ hr3]; rfl
  have x3 : w1.cell? ⟨w.heap.size, 3, none⟩ = some (.int .i64 xa) := by rw [cell_of_row w1 _ 3 _ _ _ hr3]; rfl
  clear hr3 hb01 hb1
  have hres : ∃ (ks kn : ByteArray) (kf : Int) (L : Bool) (kk : Int) (wa : Option Addr) (wn wc : Nat) (is : Bool), e = .returned (.tuple #[.agg #[.string ks, .string kn, .int .i64 kf, .bool L, .int .i64 kk, .slice wa wn wc], .bool is]) ∧
      overP out ⟨xs, xk, xv, xa⟩ = (if is = true then (if L = true then (if isE ⟨xs, xk, xv, xa⟩ = true then out.filter (fun y => !hitL xs xk y) else out ++ [⟨xs, xk, xv, xa⟩]) else out.filter (fun y => !hitL xs xk y) ++ [⟨xs, xk, xv, xa⟩]) else out ++ [⟨xs, xk, xv, xa⟩]) := by
    unfold FindRet at hret
    unfold overP
    dsimp only
    cases hf : findT xs xk with
    | none =>
      rw [hf] at hret
      exact ⟨_, _, _, _, _, _, _, _, _, hret, by simp⟩
    | some t =>
      rw [hf] at hret
      obtain ⟨wa, wn, wc, h⟩ := hret
      exact ⟨_, _, _, _, _, _, _, _, _, h, by simp⟩
  obtain ⟨ks, kn, kf, L, kk, wa, wn, wc, is, rfl, hov⟩ := hres
  have HOVV := Lib.hid hov
  clear hov hret
  go_upto_region 2 with fail
  generalize hW2 : w1.alloc _ = w2
  have hr5 : w2.heap[w1.heap.size]? = some (.cells #[.string ks, .string kn, .int .i64 kf, .bool L, .int .i64 kk, .slice wa wn wc] 33 (0, 0)) := by rw [← hW2]; exact heap_alloc_new w1 _
  have hbw2 : Below w1.heap.size w1 w2 := by rw [← hW2]; exact (Below.refl _ _).alloc (Nat.le_refl _) _
  have hl5 : w1.heap.size < w2.heap.size := by rw [← hW2]; simp
  have hl2 : w.heap.size < w2.heap.size := Nat.lt_trans hl1 hl5
  have HR5 := Lib.hid hr5
  have HR2 := Lib.hid ((hbw2.block _ hl1).trans HR3.out)
  have HO2 := Lib.hid (owns_below HO1.out hbw2)
  have HB2 : Hid (Below base w w2) := Lib.hid (HB1.out.trans (hbw2.mono (Nat.le_trans HBASE.out HB1.out.size)))
  have HLT2 : Hid (∀ k, (Value.slice a out.length c).ownBlock = some k → k < w1.heap.size) := Lib.hid fun k hk => Nat.lt_trans (HLT.out k hk) hl1
  rw [← hbw2.cell (p := ⟨w.heap.size, 0, none⟩) hl1] at x0
  rw [← hbw2.cell (p := ⟨w.heap.size, 1, none⟩) hl1] at x1
  rw [← hbw2.cell (p := ⟨w.heap.size, 2, none⟩) hl1] at x2
  rw [← hbw2.cell (p := ⟨w.heap.size, 3, none⟩) hl1] at x3
  have c3 : w2.cell? ⟨w1.heap.size, 3, none⟩ = some (.bool L) := by rw [cell_of_row w2 _ 3 _ _ _ hr5]; rfl
  have hdel : Calls Try.prog 21 #[.slice a out.length c, .func (.func 22) #[] #[.pointer (some ⟨w.heap.size, 0, none⟩)]] w2 _ :=
    del_any (hitL xs xk) #[.pointer (some ⟨w.heap.size, 0, none⟩)] base (.slice a out.length c) out w2 HO2.out (by have := HLEN.out; omega) fun W y hW => by
      have hrW := (hW.block w.heap.size hl2 (by intro e; exact absurd (HLT.out _ e.symm) (Nat.lt_irrefl _))).trans HR2.out
      exact idxlclo_any y xs xk w.heap.size W (by rw [cell_of_row W _ 0 _ _ _ hrW]; rfl) (by rw [cell_of_row W _ 1 _ _ _ hrW]; rfl)
  have HDEL := Lib.hid hdel
  generalize w1.heap.size = b5 at *
  clear hW2 hr5 hbw2 hl1 HR3 HB01 HO1 HB1 hdel
  have hE : isE ⟨xs, xk, xv, xa⟩ = decide (xv.toList = (⟨#[]⟩ : ByteArray).toList) := rfl
  cases is
  · have hov := HOVV.out
    rw [if_neg (by decide)] at hov
    have HOV := Lib.hid hov
    clear hov hE HDEL
    go_wp2_with (at_builtin; refine wpList_append_any _ rfl (.tmp 40) (.tmp 42) 22 rfl base 30 i0 (.agg #[.string ⟨#[]⟩, .string ⟨#[]⟩, .string ⟨#[]⟩, .int .i64 0]) 4 56 Try.underlying22 HI.out HZ.out HS.out HB.out rfl (by omega) _ _ _ rfl (owns_below HO2.out ((Below.refl _ _).alloc (Nat.le_refl _) _)) (w2.heap.size + 1) (some ⟨w2.heap.size, 0, none⟩) 1 1 [.string xs, .string xk, .string xv, .int .i64 xa] rfl (cellsRow _ _ _ 4 rfl) (by simp [Value.oneCell']) (by have := HLEN.out; simp only [maxLen]; omega) (by have := HLEN.out; omega) (by have := HB2.out.size; have := HBASE.out; simp; omega) ?_; intro v1 w6 hown6 hg6 hat6; have hb6 : Below base w w6 := (HB2.out.alloc (by have := HB2.out.size; have := HBASE.out; omega) _).grown hg6 (by have := HB2.out.size; have := HBASE.out; simp; omega) (fun k hk => (HO2.out.lt k hk).1); have H6a := Lib.hid hown6; have H6b := Lib.hid hb6; clear hown6 hg6 hat6 hb6)
    exact bodyPost_ret (v := v1) (by simp [results, Try.results14, go_sem]) rfl ⟨v1, rfl, by rw [HOV.out, List.length_append, flat_append]; exact H6a.out, H6b.out⟩
  cases L
  · have hov := HOVV.out
    rw [if_pos rfl, if_neg (by decide)] at hov
    have HOV := Lib.hid hov
    clear hov hE
    clear x0 x1 x2 x3
    go_wp2_with (go_at_call 21; fail)
    refine HDEL.out.mono ?_
    rintro e w4 ⟨v4, rfl, hown4, hg4, hat4⟩
    have hr4 := (hg4.block w.heap.size hl2 (by intro e; exact absurd (HLT.out _ e.symm) (Nat.lt_irrefl _))).trans HR2.out
    have HO4 := Lib.hid hown4
    have HB4 : Hid (Below base w w4) := Lib.hid (HB2.out.grown hg4 (Nat.le_trans HBASE.out HB2.out.size) (fun k hk => (HO2.out.lt k hk).1))
    have hl4 : w.heap.size < w4.heap.size := Nat.lt_of_lt_of_le hl2 hg4.size
    have x0 : w4.cell? ⟨w.heap.size, 0, none⟩ = some (.string xs) := by rw [cell_of_row w4 _ 0 _ _ _ hr4]; rfl
    have x1 : w4.cell? ⟨w.heap.size, 1, none⟩ = some (.string xk) := by rw [cell_of_row w4 _ 1 _ _ _ hr4]; rfl
    have x2 : w4.cell? ⟨w.heap.size, 2, none⟩ = some (.string xv) := by rw [cell_of_row w4 _ 2 _ _ _ hr4]; rfl
    have x3 : w4.cell? ⟨w.heap.size, 3, none⟩ = some (.int .i64 xa) := by rw [cell_of_row w4 _ 3 _ _ _ hr4]; rfl
    have c3 : w4.cell? ⟨b5, 3, none⟩ = some (.bool false) := by rw [cell_of_row w4 _ 3 _ _ _ ((hg4.block b5 hl5 (by intro e; exact absurd (HLT2.out _ e.symm) (Nat.lt_irrefl _))).trans HR5.out)]; rfl
    have hl54 : b5 < w4.heap.size := Nat.lt_of_lt_of_le hl5 hg4.size
    have hnm4 : (out.filter fun y => !hitL xs xk y).length ≤ 2513169434915 := Nat.le_trans (List.length_filter_le _ _) HLEN.out
    have HNM4 := Lib.hid hnm4
    clear hr4 hown4 hg4 hat4 hnm4
    clear HDEL
    go_wp2_with (at_builtin; refine wpList_append_any _ rfl (.tmp 40) (.tmp 42) 22 rfl base 30 i0 (.agg #[.string ⟨#[]⟩, .string ⟨#[]⟩, .string ⟨#[]⟩, .int .i64 0]) 4 56 Try.underlying22 HI.out HZ.out HS.out HB.out rfl (by omega) _ _ _ rfl (owns_below HO4.out ((Below.refl _ _).alloc (Nat.le_refl _) _)) (w4.heap.size + 1) (some ⟨w4.heap.size, 0, none⟩) 1 1 [.string xs, .string xk, .string xv, .int .i64 xa] rfl (cellsRow _ _ _ 4 rfl) (by simp [Value.oneCell']) (by have := HNM4.out; simp only [maxLen]; omega) (by have := HNM4.out; omega) (by have := HB4.out.size; have := HBASE.out; simp; omega) ?_; intro v1 w6 hown6 hg6 hat6; have hb6 : Below base w w6 := (HB4.out.alloc (by have := HB4.out.size; have := HBASE.out; omega) _).grown hg6 (by have := HB4.out.size; have := HBASE.out; simp; omega) (fun k hk => (HO4.out.lt k hk).1); have H6a := Lib.hid hown6; have H6b := Lib.hid hb6; clear hown6 hg6 hat6 hb6)
    exact bodyPost_ret (v := v1) (by simp [results, Try.results14, go_sem]) rfl ⟨v1, rfl, by rw [HOV.out, List.length_append, flat_append]; exact H6a.out, H6b.out⟩
  by_cases he : xv.toList = (⟨#[]⟩ : ByteArray).toList
  · have hov := HOVV.out
    rw [if_pos rfl, if_pos rfl, if_pos (by rw [hE]; exact decide_eq_true he)] at hov
    have HOV := Lib.hid hov
    clear hov hE
    go_wp2_with (go_at_call 21; fail)
    refine HDEL.out.mono ?_
    rintro e w4 ⟨v4, rfl, hown4, hg4, hat4⟩
    have hr4 := (hg4.block w.heap.size hl2 (by intro e; exact absurd (HLT.out _ e.symm) (Nat.lt_irrefl _))).trans HR2.out
    have HO4 := Lib.hid hown4
    have HB4 : Hid (Below base w w4) := Lib.hid (HB2.out.grown hg4 (Nat.le_trans HBASE.out HB2.out.size) (fun k hk => (HO2.out.lt k hk).1))
    have hl4 : w.heap.size < w4.heap.size := Nat.lt_of_lt_of_le hl2 hg4.size
    have x0 : w4.cell? ⟨w.heap.size, 0, none⟩ = some (.string xs) := by rw [cell_of_row w4 _ 0 _ _ _ hr4]; rfl
    have x1 : w4.cell? ⟨w.heap.size, 1, none⟩ = some (.string xk) := by rw [cell_of_row w4 _ 1 _ _ _ hr4]; rfl
    have x2 : w4.cell? ⟨w.heap.size, 2, none⟩ = some (.string xv) := by rw [cell_of_row w4 _ 2 _ _ _ hr4]; rfl
    have x3 : w4.cell? ⟨w.heap.size, 3, none⟩ = some (.int .i64 xa) := by rw [cell_of_row w4 _ 3 _ _ _ hr4]; rfl
    have c3 : w4.cell? ⟨b5, 3, none⟩ = some (.bool true) := by rw [cell_of_row w4 _ 3 _ _ _ ((hg4.block b5 hl5 (by intro e; exact absurd (HLT2.out _ e.symm) (Nat.lt_irrefl _))).trans HR5.out)]; rfl
    have hl54 : b5 < w4.heap.size := Nat.lt_of_lt_of_le hl5 hg4.size
    have hnm4 : (out.filter fun y => !hitL xs xk y).length ≤ 2513169434915 := Nat.le_trans (List.length_filter_le _ _) HLEN.out
    have HNM4 := Lib.hid hnm4
    clear hr4 hown4 hg4 hat4 hnm4
    go_wp2_with fail
    exact bodyPost_ret (v := v4) (by simp [results, Try.results14, go_sem]) rfl ⟨v4, rfl, by rw [HOV.out]; exact HO4.out, HB4.out⟩
  · have hov := HOVV.out
    rw [if_pos rfl, if_pos rfl, if_neg (by rw [hE, decide_eq_false he]; decide)] at hov
    have HOV := Lib.hid hov
    clear hov hE HDEL
    have he0 : (⟨#[]⟩ : ByteArray).toList = [] := by decide +kernel
    have he2 : ¬ xv.toList = [] := by rw [← he0]; exact he
    have he3 : (xv.toList == []) = false := by simp [he2]
    clear he0
    go_wp2_with (at_builtin; refine wpList_append_any _ rfl (.tmp 40) (.tmp 42) 22 rfl base 30 i0 (.agg #[.string ⟨#[]⟩, .string ⟨#[]⟩, .string ⟨#[]⟩, .int .i64 0]) 4 56 Try.underlying22 HI.out HZ.out HS.out HB.out rfl (by omega) _ _ _ rfl (owns_below HO2.out ((Below.refl _ _).alloc (Nat.le_refl _) _)) (w2.heap.size + 1) (some ⟨w2.heap.size, 0, none⟩) 1 1 [.string xs, .string xk, .string xv, .int .i64 xa] rfl (cellsRow _ _ _ 4 rfl) (by simp [Value.oneCell']) (by have := HLEN.out; simp only [maxLen]; omega) (by have := HLEN.out; omega) (by have := HB2.out.size; have := HBASE.out; simp; omega) ?_; intro v1 w6 hown6 hg6 hat6; have hb6 : Below base w w6 := (HB2.out.alloc (by have := HB2.out.size; have := HBASE.out; omega) _).grown hg6 (by have := HB2.out.size; have := HBASE.out; simp; omega) (fun k hk => (HO2.out.lt k hk).1); have H6a := Lib.hid hown6; have H6b := Lib.hid hb6; clear hown6 hg6 hat6 hb6)
    exact bodyPost_ret (v := v1) (by simp [results, Try.results14, go_sem]) rfl ⟨v1, rfl, by rw [HOV.out, List.length_append, flat_append]; exact H6a.out, H6b.out⟩

end Go.Proofs.Ytcionpepgpfjdaa
