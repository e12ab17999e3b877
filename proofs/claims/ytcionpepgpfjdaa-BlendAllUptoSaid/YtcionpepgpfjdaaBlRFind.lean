/-
  Contract of matinsref7.Find.
-/
import Derived.Test.YtcionpepgpfjdaaBlKeys
namespace Go.Proofs.Ytcionpepgpfjdaa
open Go.ChangeShapes Go.WideShapes Go.ChangeAt Go.RowKit

theorem KeyAt.below {w w' : World} {B b : Nat} {s n : ByteArray} {f : Int} {l : Bool} {k : Int} {wa : Option Addr} {wn wc : Nat} (h : KeyAt w b s n f l k wa wn wc) (hb : Below B w w') (hB : b < B) : KeyAt w' b s n f l k wa wn wc := by
  obtain ⟨c0, c1, c2, c3, c4, c5⟩ := h
  refine ⟨?_, ?_, ?_, ?_, ?_, ?_⟩
  all_goals (rw [hb.cell (p := ⟨b, _, none⟩) hB]; assumption)

set_option maxRecDepth 100000 in
set_option maxHeartbeats 2000000 in
theorem rfind_any (s k : ByteArray) (w : World) : Calls Try.prog 15 #[.string s, .string k] w fun e w' => FindRet s k e ∧ Below w.heap.size w w' := by
  go_enter Try.func15, Try.ntmps15
  go_wp2_with (go_at_call 23; fail)
  refine (rkeys_any _).mono ?_
  rintro e w1 ⟨v, ks, rfl, hown, hlen, hcore, hb1⟩
  have hr4 := (hb1.block w.heap.size (by simp)).trans (heap_alloc_new w _)
  have hl1 : w.heap.size < w1.heap.size := by have := hb1.size; simp at this; omega
  have HB1 := Lib.hid (((Below.refl w.heap.size w).alloc (Nat.le_refl _) _).trans (hb1.mono (by simp)))
  rw [← hlen] at hown
  obtain ⟨a, c, rfl, hin, -, -⟩ := rows_form KeyM.size hown
  rw [hlen] at hin ⊢
  have HR4 := Lib.hid hr4
  have HIN := Lib.hid hin
  have HLEN := Lib.hid hlen
  have hfn : findT s k = (ks.find? (hitK s k)).map KeyM.core := by
    unfold findT
    rw [← hcore, List.find?_map]
    rfl
  have HFN := Lib.hid hfn
  clear hr4 hin hlen hfn hcore hown hb1
  go_wp2_with fail
  go_loopw [7, 10] (fun v7 v10 wr => ∃ i : Nat, v10 = .int .i64 i ∧ i ≤ 42 ∧ Below w1.heap.size w1 wr ∧ (ks.take i).find? (hitK s k) = none) (fun _ v10 _ => 42 - (intOf v10).toNat)
  case atStart => exact ⟨0, rfl, Nat.zero_le _, Below.refl _ _, by simp⟩
  case round =>
    obtain ⟨i, rfl, hi, hbr, hno⟩ := hrel
    have HBR := Lib.hid hbr
    have HNO := Lib.hid hno
    have hr4 := (hbr.block w.heap.size hl1).trans HR4.out
    have hl4 : w.heap.size < wr.heap.size := Nat.lt_of_lt_of_le hl1 hbr.size
    have HA4 := Lib.hid (KeyAt.of_row hr4)
    have f4 : ∀ j, wr.frozen? ⟨w.heap.size, j, none⟩ = false := fun j => frozen_of_row _ _ _ _ _ hr4
    have HBW := Lib.hid (HB1.out.trans (hbr.mono HB1.out.size))
    clear hno hr4
    by_cases hlt : i < 42
    · have hlti : (i : Int) < 42 := by omega
      have hwi : IntKind.i64.wrap ((i : Int) + 1) = (i : Int) + 1 := by rw [IntKind.wrap_i64]; omega
      have hil : i < ks.length := by rw [HLEN.out]; exact hlt
      obtain ⟨bs, off, rfl, hbs, hcl⟩ := HIN.out.at_ (by omega)
      have hrow : ∀ t v, (KeyM.row ks[i])[t]? = some v → wr.cell? ⟨bs, off + i * 6 + t, none⟩ = some v := fun t v hv => (hbr.cell (p := ⟨bs, off + i * 6 + t, none⟩) hbs).trans (hcl i ks[i] (List.getElem?_eq_getElem hil) t v hv)
      have htk : ks.take (i + 1) = ks.take i ++ [ks[i]] := (List.take_append_getElem hil).symm
      have hall : ks = ks.take i ++ ks[i] :: ks.drop (i + 1) := by rw [← List.drop_eq_getElem_cons hil, List.take_append_drop]
      have hfi : hitK s k ks[i] = true → findT s k = some ks[i].core := by
        intro h
        have e : (ks.take i ++ ks[i] :: ks.drop (i + 1)).find? (hitK s k) = some ks[i] := by
          rw [List.find?_append, HNO.out, List.find?_cons_of_pos h]
          rfl
        rw [← hall] at e
        rw [HFN.out, e]
        rfl
      have hst : hitK s k ks[i] = false → (ks.take (i + 1)).find? (hitK s k) = none := by
        intro h
        rw [htk, List.find?_append, HNO.out]
        simp [h]
      generalize ks[i] = x at hrow hfi hst
      have HFI := Lib.hid hfi
      have HST := Lib.hid hst
      clear hcl htk hall hfi hst hbr
      obtain ⟨xs, xn, xf, xl, xk, xa, xc, xd⟩ := x
      unfold KeyM.row at hrow
      dsimp only at hrow
      have q0 := hrow 0 _ rfl
      have q1 := hrow 1 _ rfl
      have q2 := hrow 2 _ rfl
      have q3 := hrow 3 _ rfl
      have q4 := hrow 4 _ rfl
      have q5 := hrow 5 _ rfl
      simp only [Nat.add_zero] at q0
      clear hrow
      by_cases e1 : xs.toList = s.toList
      · by_cases e2 : xn.toList = k.toList
        · have hh : hitK s k ⟨xs, xn, xf, xl, xk, xa, xc, xd⟩ = true := by unfold hitK eqS; rw [decide_eq_true e1, decide_eq_true e2]; rfl
          have HF := Lib.hid (HFI.out hh)
          clear hh
          obtain ⟨d0, d1, d2, d3, d4, d5⟩ := HA4.out
          go_wp2_with fail
          refine bodyPost_ret (v := .tuple #[.agg #[.string xs, .string xn, .int .i64 xf, .bool xl, .int .i64 xk, .slice xa xc xd], .bool true]) (key_results _ rfl _ w.heap.size _ _ _ _ _ _ _ _ true _ (KeyAt.below (KeyAt.set HA4.out xs xn xf xl xk xa xc xd) ((Below.refl _ _).alloc (Nat.le_refl _) _) (by simpa using hl4)) rfl rfl) rfl ⟨?_, ?_⟩
          · unfold FindRet
            rw [HF.out]
            exact ⟨xa, xc, xd, rfl⟩
          · refine Below.alloc ?_ (by simpa using HBW.out.size) _
            iterate 6 refine Below.setCell ?_ (by simp) _
            exact HBW.out
        · have hh : hitK s k ⟨xs, xn, xf, xl, xk, xa, xc, xd⟩ = false := by unfold hitK eqS; rw [decide_eq_false e2, Bool.and_false]
          have e2b : (xn.toList == k.toList) = false := by simp [e2]
          have e2d : decide (xn.toList = k.toList) = false := by simp [e2]
          have HS2 := Lib.hid (HST.out hh)
          clear hh
          go_wp2_with fail
          go_roundw
          case rel => exact ⟨i + 1, by go_num, by omega, HBR.out.alloc HBR.out.size _, HS2.out⟩
          case measure => simp [intOf]; omega
      · have hh : hitK s k ⟨xs, xn, xf, xl, xk, xa, xc, xd⟩ = false := by unfold hitK eqS; rw [decide_eq_false e1, Bool.false_and]
        have HS2 := Lib.hid (HST.out hh)
        clear hh
        go_wp2_with fail
        go_roundw
        case rel => exact ⟨i + 1, by go_num, by omega, HBR.out.alloc HBR.out.size _, HS2.out⟩
        case measure => simp [intOf]; omega
    · have hlti : ¬ (i : Int) < 42 := by omega
      have hf : findT s k = none := by
        have h := HNO.out
        rw [List.take_of_length_le (by rw [HLEN.out]; omega)] at h
        rw [HFN.out, h]
        rfl
      have HF := Lib.hid hf
      clear hf hbr
      obtain ⟨d0, d1, d2, d3, d4, d5⟩ := HA4.out
      go_wp2_with fail
      refine bodyPost_ret (v := .tuple #[keyZero, .bool false]) (key_results _ rfl _ w.heap.size _ _ _ _ _ _ _ _ false _ (KeyAt.set HA4.out _ _ _ _ _ _ _ _) rfl rfl) rfl ⟨?_, ?_⟩
      · unfold FindRet
        rw [HF.out]
      · iterate 6 refine Below.setCell ?_ (by simp) _
        exact HBW.out

end Go.Proofs.Ytcionpepgpfjdaa
