/-
  Contract of blend.All.
-/
import Derived.Test.YtcionpepgpfjdaaBlOver
namespace Go.Proofs.Ytcionpepgpfjdaa
open Go.ChangeShapes Go.WideShapes Go.ChangeAt Go.RowKit

def blendP (l : List LineM) : List LineM := l.foldl overP []
theorem blendP_snoc (l : List LineM) (x : LineM) : blendP (l ++ [x]) = overP (blendP l) x := by simp [blendP]

theorem overP_len (out : List LineM) (x : LineM) : (overP out x).length ≤ out.length + 1 := by
  have hf : (out.filter fun y => !hitL x.s x.k y).length ≤ out.length := List.length_filter_le _ _
  unfold overP
  cases findT x.s x.k with
  | none => simp
  | some t =>
    dsimp only
    split
    · split
      · omega
      · simp
    · rw [List.length_append]
      simp
      exact hf

theorem blendP_len (l : List LineM) : (blendP l).length ≤ l.length := by
  have h : ∀ (k : List LineM) (o : List LineM), (k.foldl overP o).length ≤ o.length + k.length := by
    intro k
    induction k with
    | nil => intro o; simp
    | cons x xs ih =>
      intro o
      have := ih (overP o x)
      have := overP_len o x
      simp
      omega
  simpa [blendP] using h l []

set_option maxRecDepth 100000 in
set_option maxHeartbeats 3000000 in
theorem blend_any (A : Option Addr) (c : Nat) (ls : List (SlOf LineM)) (w : World) (hA : 0 < ls.length → ∃ b, A = some ⟨b, 0, none⟩ ∧ b < w.heap.size ∧ ∀ i x, ls[i]? = some x → w.cell? ⟨b, i, none⟩ = some x.val)
    (hin : ∀ x ∈ ls, RowsIn LineM.row 4 w w.heap.size x.a x.n x.l) (hs : sumN ls ≤ 2513169434914) (hk : ls.length ≤ 1000) :
    Calls Try.prog 10 #[.slice A ls.length c] w fun e w' => ∃ v', e = .returned v' ∧ w'.ownsRow w.heap.size 30 4 v' (blendP (allOf ls)).length (flat LineM.row (blendP (allOf ls))) ∧ Below w.heap.size w w' := by
  have hsum : ∀ i, sumN (ls.take i) = (allOf (ls.take i)).length := fun i => sum_len _ fun x hx => (hin x (List.mem_of_mem_take hx)).len
  have HSUM := Lib.hid hsum
  have HA := Lib.hid hA
  have HIN := Lib.hid hin
  have HSM := Lib.hid hs
  clear hA hin hs hsum
  generalize hn : ls.length = n at *
  have HN := Lib.hid hn
  clear hn
  go_enter Try.func10, Try.ntmps10
  go_wp2_with fail
  go_loopw [3, 5, 10] (fun v3 v5 v10 wr => ∃ i : Nat, v10 = .int .i64 i ∧ i ≤ n ∧ Below w.heap.size w wr ∧ wr.ownsRow w.heap.size 30 4 v3 (blendP (allOf (ls.take i))).length (flat LineM.row (blendP (allOf (ls.take i))))) (fun _ _ v10 _ => n - (intOf v10).toNat)
  case atStart => exact ⟨0, rfl, Nat.zero_le _, Below.refl _ _, ⟨by simp [allOf, blendP, flat], .inl ⟨rfl, by simp [allOf, blendP]⟩⟩⟩
  case round =>
    obtain ⟨i, rfl, hi, hb, hown⟩ := hrel
    have HOWN := Lib.hid hown
    have HB := Lib.hid hb
    clear hown
    by_cases hlt : i < n
    · have hlti : (i : Int) < (n : Int) := by omega
      have hwi : IntKind.i64.wrap ((i : Int) + 1) = (i : Int) + 1 := by rw [IntKind.wrap_i64]; omega
      have hil : i < ls.length := by rw [HN.out]; exact hlt
      obtain ⟨b, rfl, hlb, hcell⟩ := HA.out (by rw [← HN.out]; omega)
      have hc := (hb.cell (p := ⟨b, i, none⟩) hlb).trans (hcell i ls[i] (List.getElem?_eq_getElem hil))
      have hlbr : b < wr.heap.size := Nat.lt_of_lt_of_le hlb hb.size
      have hxin := HIN.out ls[i] (List.getElem_mem hil)
      have hat := allOf_take hil
      have hst := sumN_take hil
      have hsl := sumN_le ls (i + 1)
      have hs1 := HSUM.out i
      unfold SlOf.val at hc
      generalize ls[i].a = xa at hc hxin
      generalize ls[i].n = xn at hc hxin hst
      generalize ls[i].c = xc at hc
      generalize ls[i].l = xl at hxin hat
      have HXIN := Lib.hid hxin
      have HAT := Lib.hid hat
      have HXL := Lib.hid hxin.len
      have hxn : xn ≤ 2513169434914 := by have := HSM.out; omega
      have hlen0 : (allOf (ls.take i)).length + xn ≤ 2513169434914 := by have := HSM.out; omega
      have HL0 := Lib.hid hlen0
      clear hcell hxin hat hst hsl hs1 hb hlen0
      generalize allOf (ls.take i) = pre at HOWN HAT HL0
      go_wp2_with fail
      go_loopw [3, 7, 16] (fun v3 v7 v16 wq => ∃ j : Nat, v16 = .int .i64 j ∧ j ≤ xn ∧ Below w.heap.size w wq ∧ wq.ownsRow w.heap.size 30 4 v3 (blendP (pre ++ xl.take j)).length (flat LineM.row (blendP (pre ++ xl.take j)))) (fun _ _ v16 _ => xn - (intOf v16).toNat)
      case atStart => exact ⟨0, rfl, Nat.zero_le _, HB.out, by simpa using HOWN.out⟩
      case round =>
        obtain ⟨j, rfl, hj, hbq, hownq⟩ := hrel
        have HBQ := Lib.hid hbq
        have HOQ := Lib.hid hownq
        clear hownq
        by_cases hlt2 : j < xn
        · have hltj : (j : Int) < (xn : Int) := by omega
          have hwj : IntKind.i64.wrap ((j : Int) + 1) = (j : Int) + 1 := by rw [IntKind.wrap_i64]; omega
          have hjl : j < xl.length := by rw [HXL.out]; exact hlt2
          obtain ⟨bs, off, rfl, hbs, hcl⟩ := HXIN.out.at_ (by omega)
          have hcx := hcl j xl[j] (List.getElem?_eq_getElem hjl)
          have hrow : ∀ t v, (LineM.row xl[j])[t]? = some v → wr.cell? ⟨bs, off + j * 4 + t, none⟩ = some v := fun t v hv => (hbq.cell (p := ⟨bs, off + j * 4 + t, none⟩) hbs).trans (hcx t v hv)
          have htk : xl.take (j + 1) = xl.take j ++ [xl[j]] := (List.take_append_getElem hjl).symm
          have hbl := blendP_len (pre ++ xl.take j)
          rw [List.length_append, List.length_take] at hbl
          have hbl2 : (blendP (pre ++ xl.take j)).length ≤ 2513169434915 := by have := HL0.out; omega
          generalize xl[j] = x at hrow htk
          have HOVER : Hid (∀ o, Calls Try.prog 14 #[u3, .agg x.row] (wr.alloc o) fun e w' => ∃ v', e = .returned v' ∧ w'.ownsRow w.heap.size 30 4 v' (overP (blendP (pre ++ xl.take j)) x).length (flat LineM.row (overP (blendP (pre ++ xl.take j)) x)) ∧ Below w.heap.size (wr.alloc o) w') :=
            Lib.hid fun o => over_any u3 _ x w.heap.size _ (owns_below HOQ.out ((Below.refl _ _).alloc (Nat.le_refl _) _)) hbl2 (by have := HBQ.out.size; simp; omega)
          have HTK := Lib.hid htk
          clear hcx hcl htk hbl hbl2 hbq
          obtain ⟨xs, xk, xv, xq⟩ := x
          unfold LineM.row at hrow HOVER
          dsimp only at hrow
          have q0 := hrow 0 _ rfl
          have q1 := hrow 1 _ rfl
          have q2 := hrow 2 _ rfl
          have q3 := hrow 3 _ rfl
          simp only [Nat.add_zero] at q0
          clear hrow
          go_wp2_with (go_at_call 14; fail)
          refine (HOVER.out _).mono ?_
          rintro e w2 ⟨v', rfl, hown2, hb2⟩
          have HO2 := Lib.hid hown2
          have HB2 := Lib.hid ((HBQ.out.alloc HBQ.out.size _).trans hb2)
          clear hown2 hb2 q0 q1 q2 q3
          go_wp2_with fail
          go_roundw
          case rel => exact ⟨j + 1, by go_num, by omega, HB2.out, by rw [HTK.out, ← List.append_assoc, blendP_snoc]; exact HO2.out⟩
          case measure => simp [intOf]; omega
        · have hltj : ¬ (j : Int) < (xn : Int) := by omega
          have e : xl.take j = xl := List.take_of_length_le (by rw [HXL.out]; omega)
          have h := HOQ.out
          rw [e, ← HAT.out] at h
          have HO := Lib.hid h
          clear h hbq
          go_wp2_with fail
          go_roundw
          case rel => exact ⟨i + 1, by go_num, by omega, HBQ.out, HO.out⟩
          case measure => simp [intOf]; omega
    · have hlti : ¬ (i : Int) < (n : Int) := by omega
      have e : ls.take i = ls := List.take_of_length_le (by rw [HN.out]; omega)
      have h := HOWN.out
      rw [e] at h
      have HO := Lib.hid h
      clear h hb
      go_wp2_with fail
      exact bodyPost_ret (v := u3) (by simp [results, Try.results10, go_sem]) rfl ⟨_, rfl, HO.out, HB.out⟩

end Go.Proofs.Ytcionpepgpfjdaa
