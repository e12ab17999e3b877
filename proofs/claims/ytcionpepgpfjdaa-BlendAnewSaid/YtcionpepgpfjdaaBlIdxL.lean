/-
  Contracts of matins/blend.over$1 and of slices.IndexFunc with it.
-/
import Derived.Test.YtcionpepgpfjdaaBlBase
namespace Go.Proofs.Ytcionpepgpfjdaa
open Go.ChangeShapes Go.WideShapes Go.ChangeAt Go.RowKit

def hitL (s k : ByteArray) (x : LineM) : Bool := eqS x.s s && eqS x.k k

set_option maxRecDepth 100000 in
set_option maxHeartbeats 2000000 in
theorem idxlclo_any (x : LineM) (s k : ByteArray) (b : Nat) (w : World) (h0 : w.cell? ⟨b, 0, none⟩ = some (.string s)) (h1 : w.cell? ⟨b, 1, none⟩ = some (.string k)) :
    Calls Try.prog 22 #[.agg x.row, .pointer (some ⟨b, 0, none⟩)] w fun e w' => e = .returned (.bool (hitL s k x)) ∧ Below w.heap.size w w' := by
  obtain ⟨xs, xk, xv, xa⟩ := x
  unfold LineM.row
  dsimp only
  have hcl : ∀ A : Obj, True := fun _ => trivial
  have hlt2 : b < w.heap.size := cell_lt h0
  clear hcl
  by_cases e1 : xs.toList = s.toList
  · by_cases e2 : xk.toList = k.toList
    · have e : hitL s k ⟨xs, xk, xv, xa⟩ = true := by simp [hitL, eqS, e1, e2]
      rw [e]; clear e
      go_enter Try.func22, Try.ntmps22
      go_wp2_with fail
      exact bodyPost_ret (v := .bool true) (by simp [results, Try.results22, go_sem]) rfl ⟨rfl, (Below.refl _ _).alloc (Nat.le_refl _) _⟩
    · have e : hitL s k ⟨xs, xk, xv, xa⟩ = false := by unfold hitL eqS; rw [decide_eq_false e2, Bool.and_false]
      rw [e]; clear e
      go_enter Try.func22, Try.ntmps22
      go_wp2_with fail
      exact bodyPost_ret (v := .bool false) (by simp [results, Try.results22, go_sem, e2]) rfl ⟨rfl, (Below.refl _ _).alloc (Nat.le_refl _) _⟩
  · have e : hitL s k ⟨xs, xk, xv, xa⟩ = false := by unfold hitL eqS; rw [decide_eq_false e1, Bool.false_and]
    rw [e]; clear e
    go_enter Try.func22, Try.ntmps22
    go_wp2_with fail
    exact bodyPost_ret (v := .bool false) (by simp [results, Try.results22, go_sem]) rfl ⟨rfl, (Below.refl _ _).alloc (Nat.le_refl _) _⟩

set_option maxRecDepth 100000 in
set_option maxHeartbeats 2000000 in
theorem idxl_any (p : LineM → Bool) (cap : Array Value) (l : List LineM) (a : Option Addr) (n c : Nat) (w : World) (hl : RowsIn LineM.row 4 w w.heap.size a n l) (hbig : n ≤ 9223372036854775807)
    (hp : ∀ W x, Below w.heap.size w W → Calls Try.prog 22 (#[.agg (LineM.row x)] ++ cap) W fun e w' => e = .returned (.bool (p x)) ∧ Below W.heap.size W w') :
    Calls Try.prog 26 #[.slice a n c, .func (.func 22) #[] cap] w fun e w' => e = .returned (.int .i64 (idxI p l)) ∧ Below w.heap.size w w' := by
  have HL := Lib.hid hl
  have HP := Lib.hid hp
  have HLEN := Lib.hid hl.len
  clear hl hp
  go_enter Try.func26, Try.ntmps26
  go_wp2_with fail
  go_loopw [5, 8] (fun v5 v8 wr => ∃ i : Nat, v8 = .int .i64 i ∧ i ≤ n ∧ Below w.heap.size w wr ∧ ∀ (j : Nat) (x : LineM), j < i → l[j]? = some x → p x = false) (fun _ v8 _ => n - (intOf v8).toNat)
  case atStart => exact ⟨0, rfl, Nat.zero_le _, Below.refl _ _, fun j x h => absurd h (Nat.not_lt_zero _)⟩
  case round =>
    obtain ⟨i, rfl, hi, hb, hno⟩ := hrel
    have HB := Lib.hid hb
    have HNO := Lib.hid hno
    clear hno
    by_cases hlt : i < n
    · have hlti : (i : Int) < (n : Int) := by omega
      have hwi : IntKind.i64.wrap ((i : Int) + 1) = (i : Int) + 1 := by rw [IntKind.wrap_i64]; omega
      obtain ⟨bs, off, rfl, hbs, hcl⟩ := HL.out.at_ (by omega)
      have hil : i < l.length := by rw [HLEN.out]; exact hlt
      have hcell := hcl i l[i] (List.getElem?_eq_getElem hil)
      have hx : l[i]? = some l[i] := List.getElem?_eq_getElem hil
      generalize l[i] = x at hcell hx
      have HX := Lib.hid hx
      have HCL := Lib.hid (HP.out wr x hb)
      have hrow : ∀ j v, x.row[j]? = some v → wr.cell? ⟨bs, off + i * 4 + j, none⟩ = some v := fun j v hv => (hb.cell (p := ⟨bs, off + i * 4 + j, none⟩) hbs).trans (hcell j v hv)
      clear hcell hcl hb hx
      generalize hpx : p x = px at HCL
      have HPX := Lib.hid hpx
      clear hpx
      obtain ⟨xs, xk, xv, xa⟩ := x
      unfold LineM.row at HCL hrow
      dsimp only at HCL hrow
      have q0 := hrow 0 _ rfl
      have q1 := hrow 1 _ rfl
      have q2 := hrow 2 _ rfl
      have q3 := hrow 3 _ rfl
      simp only [Nat.add_zero] at q0
      clear hrow
      go_wp2_with (go_at_call 22; fail)
      refine HCL.out.mono ?_
      rintro e w1 ⟨rfl, hb1⟩
      have HB1 := Lib.hid (HB.out.trans (hb1.mono HB.out.size))
      clear hb1 q0 q1 q2 q3
      cases px
      · go_wp2_with fail
        go_roundw
        case rel =>
          refine ⟨i + 1, by go_num, by omega, HB1.out, fun j y hj hy => ?_⟩
          by_cases e : j = i
          · subst e
            rw [HX.out] at hy
            injection hy with hy
            rw [← hy]
            exact HPX.out
          · exact HNO.out j y (by omega) hy
        case measure => simp [intOf]; omega
      · go_wp2_with fail
        exact bodyPost_ret (v := .int .i64 i) (by simp [results, Try.results26, go_sem]) rfl ⟨by rw [idx_hit HX.out HPX.out HNO.out], HB1.out⟩
    · have hlti : ¬ (i : Int) < (n : Int) := by omega
      go_wp2_with fail
      refine bodyPost_ret (v := .int .i64 (-1)) (by simp [results, Try.results26, go_sem]) rfl ⟨?_, HB.out⟩
      rw [idx_miss fun j x hx => HNO.out j x (by have := (List.getElem?_eq_some_iff.1 hx).1; have := HLEN.out; omega) hx]

end Go.Proofs.Ytcionpepgpfjdaa
