/-
  Contracts of matins/keys.Find$1 and of slices.IndexFunc with it.
-/
import Derived.Test.YtcionpepgpfjdaaBlBase
namespace Go.Proofs.Ytcionpepgpfjdaa
open Go.ChangeShapes Go.WideShapes Go.ChangeAt Go.RowKit

def hitK (s k : ByteArray) (x : KeyM) : Bool := eqS x.s s && eqS x.n k

set_option maxRecDepth 100000 in
set_option maxHeartbeats 2000000 in
theorem idxkclo_any (x : KeyM) (s k : ByteArray) (b2 b3 : Nat) (w : World) (h2 : w.cell? ⟨b2, 0, none⟩ = some (.string s)) (h3 : w.cell? ⟨b3, 0, none⟩ = some (.string k)) :
    Calls Try.prog 17 #[.agg x.row, .pointer (some ⟨b2, 0, none⟩), .pointer (some ⟨b3, 0, none⟩)] w fun e w' => e = .returned (.bool (hitK s k x)) ∧ Below w.heap.size w w' := by
  obtain ⟨xs, xn, xf, xl, xk, xa, xc, xd⟩ := x
  unfold KeyM.row
  dsimp only
  have hcl : ∀ A : Obj, (w.alloc A).cell? ⟨b2, 0, none⟩ = some (.string s) ∧ (w.alloc A).cell? ⟨b3, 0, none⟩ = some (.string k) := fun A => ⟨by rw [World.cell?_alloc_lt w A _ (cell_lt h2)]; exact h2, by rw [World.cell?_alloc_lt w A _ (cell_lt h3)]; exact h3⟩
  have hlt2 : b2 < w.heap.size := cell_lt h2
  have hlt3 : b3 < w.heap.size := cell_lt h3
  clear hcl
  by_cases e1 : xs.toList = s.toList
  · by_cases e2 : xn.toList = k.toList
    · have e : hitK s k ⟨xs, xn, xf, xl, xk, xa, xc, xd⟩ = true := by simp [hitK, eqS, e1, e2]
      rw [e]; clear e
      go_enter Try.func17, Try.ntmps17
      go_wp2_with fail
      exact bodyPost_ret (v := .bool true) (by simp [results, Try.results17, go_sem]) rfl ⟨rfl, (Below.refl _ _).alloc (Nat.le_refl _) _⟩
    · have e : hitK s k ⟨xs, xn, xf, xl, xk, xa, xc, xd⟩ = false := by unfold hitK eqS; rw [decide_eq_false e2, Bool.and_false]
      rw [e]; clear e
      go_enter Try.func17, Try.ntmps17
      go_wp2_with fail
      exact bodyPost_ret (v := .bool false) (by simp [results, Try.results17, go_sem, e2]) rfl ⟨rfl, (Below.refl _ _).alloc (Nat.le_refl _) _⟩
  · have e : hitK s k ⟨xs, xn, xf, xl, xk, xa, xc, xd⟩ = false := by unfold hitK eqS; rw [decide_eq_false e1, Bool.false_and]
    rw [e]; clear e
    go_enter Try.func17, Try.ntmps17
    go_wp2_with fail
    exact bodyPost_ret (v := .bool false) (by simp [results, Try.results17, go_sem]) rfl ⟨rfl, (Below.refl _ _).alloc (Nat.le_refl _) _⟩

set_option maxRecDepth 100000 in
set_option maxHeartbeats 2000000 in
theorem idxk_any (p : KeyM → Bool) (cap : Array Value) (l : List KeyM) (a : Option Addr) (n c : Nat) (w : World) (hl : RowsIn KeyM.row 6 w w.heap.size a n l) (hbig : n ≤ 9223372036854775807)
    (hp : ∀ W x, Below w.heap.size w W → Calls Try.prog 17 (#[.agg (KeyM.row x)] ++ cap) W fun e w' => e = .returned (.bool (p x)) ∧ Below W.heap.size W w') :
    Calls Try.prog 16 #[.slice a n c, .func (.func 17) #[] cap] w fun e w' => e = .returned (.int .i64 (idxI p l)) ∧ Below w.heap.size w w' := by
  have HL := Lib.hid hl
  have HP := Lib.hid hp
  have HLEN := Lib.hid hl.len
  clear hl hp
  go_enter Try.func16, Try.ntmps16
  go_wp2_with fail
  go_loopw [5, 8] (fun v5 v8 wr => ∃ i : Nat, v8 = .int .i64 i ∧ i ≤ n ∧ Below w.heap.size w wr ∧ ∀ (j : Nat) (x : KeyM), j < i → l[j]? = some x → p x = false) (fun _ v8 _ => n - (intOf v8).toNat)
  case atStart => exact ⟨0, rfl, Nat.zero_le _, Below.refl _ _, fun j x h => absurd h (Nat.not_lt_zero _)⟩
  case round =>
    obtain ⟨i, rfl, hi, hb, hno⟩ := hrel
    have HB := Lib.hid hb
    have HNO := Lib.hid hno
    clear hno
    by_cases hlt : i < n
    · have hlti : (i : Int) < (n : Int) := by omega
      have hwi : IntKind.i64.wrap ((i : Int) + 1) = (i : Int) + 1 := by rw [IntKind.wrap_i64]; omega
      obtain ⟨bs, off, rfl, hbs, hcl⟩ := HL.out.at_ (by omega)
      have hil : i < l.length := by rw [HLEN.out]; exact hlt
      have hcell := hcl i l[i] (List.getElem?_eq_getElem hil)
      have hx : l[i]? = some l[i] := List.getElem?_eq_getElem hil
      generalize l[i] = x at hcell hx
      have HX := Lib.hid hx
      have HCL := Lib.hid (HP.out wr x hb)
      have hrow : ∀ j v, x.row[j]? = some v → wr.cell? ⟨bs, off + i * 6 + j, none⟩ = some v := fun j v hv => (hb.cell (p := ⟨bs, off + i * 6 + j, none⟩) hbs).trans (hcell j v hv)
      clear hcell hcl hb hx
      generalize hpx : p x = px at HCL
      have HPX := Lib.hid hpx
      clear hpx
      obtain ⟨xs, xn, xf, xl, xk, xa, xc, xd⟩ := x
      unfold KeyM.row at HCL hrow
      dsimp only at HCL hrow
      have q0 := hrow 0 _ rfl
      have q1 := hrow 1 _ rfl
      have q2 := hrow 2 _ rfl
      have q3 := hrow 3 _ rfl
      have q4 := hrow 4 _ rfl
      have q5 := hrow 5 _ rfl
      simp only [Nat.add_zero] at q0
      clear hrow
      go_wp2_with (go_at_call 17; fail)
      refine HCL.out.mono ?_
      rintro e w1 ⟨rfl, hb1⟩
      have HB1 := Lib.hid (HB.out.trans (hb1.mono HB.out.size))
      clear hb1 q0 q1 q2 q3 q4 q5
      cases px
      · go_wp2_with fail
        go_roundw
        case rel =>
          refine ⟨i + 1, by go_num, by omega, HB1.out, fun j y hj hy => ?_⟩
          by_cases e : j = i
          · subst e
            rw [HX.out] at hy
            injection hy with hy
            rw [← hy]
            exact HPX.out
          · exact HNO.out j y (by omega) hy
        case measure => simp [intOf]; omega
      · go_wp2_with fail
        exact bodyPost_ret (v := .int .i64 i) (by simp [results, Try.results16, go_sem]) rfl ⟨by rw [idx_hit HX.out HPX.out HNO.out], HB1.out⟩
    · have hlti : ¬ (i : Int) < (n : Int) := by omega
      go_wp2_with fail
      refine bodyPost_ret (v := .int .i64 (-1)) (by simp [results, Try.results16, go_sem]) rfl ⟨?_, HB.out⟩
      rw [idx_miss fun j x hx => HNO.out j x (by have := (List.getElem?_eq_some_iff.1 hx).1; have := HLEN.out; omega) hx]

end Go.Proofs.Ytcionpepgpfjdaa
