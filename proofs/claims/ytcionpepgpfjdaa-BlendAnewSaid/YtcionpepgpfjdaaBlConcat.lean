/-
  Contracts of slices.Grow (of the nil slice) and slices.Concat of keys.
-/
import Derived.Test.YtcionpepgpfjdaaBlBase
import Derived.Lib.AppendZeros
namespace Go.Proofs.Ytcionpepgpfjdaa
open Go.ChangeShapes Go.WideShapes Go.ChangeAt Go.RowKit

theorem keyInfo' : (Try.prog.info? 33).map (fun i => (i.zero, i.size, i.bytes)) = some (some (.agg #[.string ⟨#[]⟩, .string ⟨#[]⟩, .int .i64 0, .bool false, .int .i64 0, .slice none 0 0]), 6, 80) := by kernel_rfl

structure SlOf (α : Type) where
  a : Option Addr
  n : Nat
  c : Nat
  l : List α
def SlOf.val {α : Type} (x : SlOf α) : Value := .slice x.a x.n x.c
def sumN {α : Type} : List (SlOf α) → Nat
  | [] => 0
  | x :: xs => x.n + sumN xs
def allOf {α : Type} : List (SlOf α) → List α
  | [] => []
  | x :: xs => x.l ++ allOf xs
theorem sumN_append {α : Type} : ∀ ls ks : List (SlOf α), sumN (ls ++ ks) = sumN ls + sumN ks
  | [], ks => by simp [sumN]
  | x :: xs, ks => by
    rw [List.cons_append, sumN, sumN, sumN_append xs ks]
    omega
theorem allOf_append {α : Type} : ∀ ls ks : List (SlOf α), allOf (ls ++ ks) = allOf ls ++ allOf ks
  | [], ks => by simp [allOf]
  | x :: xs, ks => by
    rw [List.cons_append, allOf, allOf, allOf_append xs ks, List.append_assoc]
theorem sumN_take {α : Type} {ls : List (SlOf α)} {i : Nat} (h : i < ls.length) : sumN (ls.take (i + 1)) = sumN (ls.take i) + ls[i].n := by
  rw [← List.take_append_getElem h, sumN_append]
  simp [sumN]
theorem sumN_le {α : Type} (ls : List (SlOf α)) (i : Nat) : sumN (ls.take i) ≤ sumN ls := by
  have e : sumN (ls.take i ++ ls.drop i) = sumN ls := by rw [List.take_append_drop]
  rw [sumN_append] at e
  omega
theorem allOf_take {α : Type} {ls : List (SlOf α)} {i : Nat} (h : i < ls.length) : allOf (ls.take (i + 1)) = allOf (ls.take i) ++ ls[i].l := by
  rw [← List.take_append_getElem h, allOf_append]
  simp [allOf]

theorem wpList_append_run {P : Program} {w : World} {ops : Array Oper} {rest : List Oper} {o : Oper} {a : Act} {Q : Exit → Act → World → Prop} (hgd : o.guard = none) (s x : Operand) (t t2 : TypeId)
    (ho : o.op = .call { callee := .builtin .append, args := #[s, x], argTypes := #[t, t2] }) {v u v' : Value} {w' : World} (hs : a.eval s = v) (hx : a.eval x = u)
    (hrun : (Builtin.append_ #[t, t2] o.type #[v, u]).run P w = .ok v' w') (h : wpList P ops Q rest (a.put o.dst v') w') : wpList P ops Q (o :: rest) a w := by
  refine wpList_plain hgd fun _ hK => ?_
  unfold Oper.wp execOp
  simp only [ho, resolve, invoke, builtin, Sem.run_bind, Sem.run_pure, Result.andThen_ok, List.map_toArray, List.map_cons, List.map_nil, hs, hx, hrun]
  exact hK _ _ h

set_option maxRecDepth 100000 in
set_option maxHeartbeats 2000000 in
theorem grow_nil (n : Nat) (w : World) (h0 : 0 < n) (hn : n ≤ 1000) :
    Calls Try.prog 25 #[.slice none 0 0, .int .i64 n] w fun e w' => ∃ c, e = .returned (.slice (some ⟨w.heap.size, 0, none⟩) 0 c) ∧ w'.ownsRow w.heap.size 33 6 (.slice (some ⟨w.heap.size, 0, none⟩) 0 c) 0 [] ∧ Below w.heap.size w w' := by
  obtain ⟨i0, hi0, hz0, hs0, hb0⟩ := info_parts keyInfo'
  have hgr : ∀ ty, (Builtin.append_ #[36, 3] ty #[.slice none 0 0, .int .i64 n]).run Try.prog w = .ok (.slice (some ⟨w.heap.size, 0, none⟩) n (grownCap w n 0 33)) (w.drew.alloc (.cells (Builtin.zeroCells (Value.cells (.agg #[.string ⟨#[]⟩, .string ⟨#[]⟩, .int .i64 0, .bool false, .int .i64 0, .slice none 0 0])) n ++ Builtin.zeroCells (Value.cells (.agg #[.string ⟨#[]⟩, .string ⟨#[]⟩, .int .i64 0, .bool false, .int .i64 0, .slice none 0 0])) (grownCap w n 0 33 - n)) 33)) :=
    fun ty => Lib.run_append_nil_zeros w 36 3 ty 33 i0 _ .i64 .i64 Try.underlying36 Try.underlying3 hi0 hz0 n h0 (by rw [hs0]; omega) (by omega) (by rw [hb0]; omega)
  have hsz : ∀ k, (Builtin.zeroCells (Value.cells (.agg #[.string ⟨#[]⟩, .string ⟨#[]⟩, .int .i64 0, .bool false, .int .i64 0, .slice none 0 0])) k).size = k * 6 := fun k => by simp [Builtin.zeroCells, Value.cells]
  have hge := grownCap_ge w n 0 33
  have hle := grownCap_le_maxLen w n 0 33 (by simp only [maxLen]; omega)
  have hrow : ((Builtin.zeroCells (Value.cells (.agg #[.string ⟨#[]⟩, .string ⟨#[]⟩, .int .i64 0, .bool false, .int .i64 0, .slice none 0 0])) n ++ Builtin.zeroCells (Value.cells (.agg #[.string ⟨#[]⟩, .string ⟨#[]⟩, .int .i64 0, .bool false, .int .i64 0, .slice none 0 0])) (grownCap w n 0 33 - n))).size = grownCap w n 0 33 * 6 := by
    rw [Array.size_append, hsz, hsz]
    omega
  generalize (Builtin.zeroCells (Value.cells (.agg #[.string ⟨#[]⟩, .string ⟨#[]⟩, .int .i64 0, .bool false, .int .i64 0, .slice none 0 0])) n ++ Builtin.zeroCells (Value.cells (.agg #[.string ⟨#[]⟩, .string ⟨#[]⟩, .int .i64 0, .bool false, .int .i64 0, .slice none 0 0])) (grownCap w n 0 33 - n)) = cur at hgr hrow
  generalize grownCap w n 0 33 = cp at hgr hrow hge hle
  have HROW := Lib.hid hrow
  have HLE := Lib.hid hle
  have HGR := Lib.hid hgr
  clear hgr hsz hi0 hz0 hs0 hb0 hrow hle
  have h1 : ¬ ((n : Int) < 0) := by omega
  have hwn : IntKind.i64.wrap ((n : Int) - 0) = n := by rw [IntKind.wrap_i64]; omega
  have hwn2 : IntKind.i64.wrap (n : Int) = n := by rw [IntKind.wrap_i64]; omega
  have h2 : (0 : Int) < (n : Int) := by omega
  have hcpi : (0 : Int) ≤ (cp : Int) := by omega
  go_enter Try.func25, Try.ntmps25
  go_wp2_with (at_builtin; refine wpList_append_run rfl (.tmp 20) (.tmp 21) 36 3 rfl rfl rfl (HGR.out _) ?_)
  refine bodyPost_ret (v := .slice (some ⟨w.heap.size, 0, none⟩) 0 cp) (by simp [results, Try.results25, go_sem]) rfl ⟨cp, rfl, ⟨by simp, .inr ⟨w.heap.size, cp, cur, rfl, Nat.le_refl _, heap_alloc_new w.drew _, by omega, HLE.out, HROW.out, by simp⟩⟩, (Below.refl w.heap.size w).drew.alloc (Nat.le_refl _) _⟩

set_option maxRecDepth 100000 in
set_option maxHeartbeats 2000000 in
theorem concat_any (bl : Nat) (ls : List (SlOf KeyM)) (w : World) (hrow : w.heap[bl]? = some (.cells (ls.map SlOf.val).toArray 36 (0, 0))) (hin : ∀ x ∈ ls, RowsIn KeyM.row 6 w w.heap.size x.a x.n x.l)
    (h0 : 0 < sumN ls) (hs : sumN ls ≤ 1000) (hk : ls.length ≤ 1000) :
    Calls Try.prog 20 #[.slice (some ⟨bl, 0, none⟩) ls.length ls.length] w fun e w' => ∃ v', e = .returned v' ∧ w'.ownsRow w.heap.size 33 6 v' (sumN ls) (flat KeyM.row (allOf ls)) ∧ Below w.heap.size w w' := by
  obtain ⟨i0, hi0, hz0, hs0, hb0⟩ := info_parts keyInfo'
  have HI := Lib.hid hi0
  have HZ := Lib.hid hz0
  have HS := Lib.hid hs0
  have HB := Lib.hid hb0
  have HROW := Lib.hid hrow
  have HIN := Lib.hid hin
  have hlb : bl < w.heap.size := (Array.getElem?_eq_some_iff.1 hrow).1
  clear hi0 hz0 hs0 hb0 hrow hin
  generalize hn : ls.length = n at *
  have HN := Lib.hid hn
  clear hn
  go_enter Try.func20, Try.ntmps20
  go_wp2_with fail
  go_loopw [3, 5, 11] (fun v3 v5 v11 wr => ∃ i : Nat, v11 = .int .i64 i ∧ v3 = .int .i64 (sumN (ls.take i)) ∧ i ≤ n ∧ Below w.heap.size w wr) (fun _ _ v11 _ => n - (intOf v11).toNat)
  case atStart => exact ⟨0, rfl, rfl, Nat.zero_le _, Below.refl _ _⟩
  case round =>
    obtain ⟨i, rfl, rfl, hi, hb⟩ := hrel
    by_cases hlt : i < n
    · have hlti : (i : Int) < (n : Int) := by omega
      have hwi : IntKind.i64.wrap ((i : Int) + 1) = (i : Int) + 1 := by rw [IntKind.wrap_i64]; omega
      have hil : i < ls.length := by rw [HN.out]; exact hlt
      have hc : wr.cell? ⟨bl, i, none⟩ = some (.slice ls[i].a ls[i].n ls[i].c) := by
        rw [cell_of_row wr _ i _ _ _ ((hb.block bl hlb).trans HROW.out)]
        simp [hil, SlOf.val]
      have hst := sumN_take hil
      have hsl := sumN_le ls (i + 1)
      generalize ls[i].a = xa at hc
      generalize ls[i].n = xn at hc hst
      generalize ls[i].c = xc at hc
      generalize hS : sumN (ls.take i) = S at hst ⊢
      generalize hS1 : sumN (ls.take (i + 1)) = S1 at hst hsl
      have HS1 := Lib.hid hS1
      have hlbr : bl < wr.heap.size := Nat.lt_of_lt_of_le hlb hb.size
      have HBR := Lib.hid hb
      clear hS hS1 hb
      have hws : IntKind.i64.wrap ((S : Int) + (xn : Int)) = (S1 : Int) := by rw [IntKind.wrap_i64]; omega
      have hnn : ¬ (S1 : Int) < 0 := by omega
      go_wp2_with fail
      go_roundw
      case rel => exact ⟨i + 1, by go_num, by rw [HS1.out]; congr 1; omega, by omega, HBR.out⟩
      case measure => simp [intOf]; omega
    · have hlti : ¬ (i : Int) < (n : Int) := by omega
      have e : ls.take i = ls := List.take_of_length_le (by rw [HN.out]; omega)
      rw [e]
      have HG := Lib.hid (grow_nil (sumN ls) wr h0 hs)
      have HBR := Lib.hid hb
      clear e hb
      go_wp2_with (go_at_call 25; fail)
      refine HG.out.mono ?_
      rintro e w2 ⟨c0, rfl, hown2, hb2⟩
      have HO2 := Lib.hid (owns_base hown2 HBR.out.size)
      have HB2 := Lib.hid (HBR.out.trans (hb2.mono HBR.out.size))
      clear hown2 hb2
      go_wp2_with fail
      go_loopw [6, 8, 27] (fun v6 v8 v27 wq => ∃ i : Nat, v27 = .int .i64 i ∧ i ≤ n ∧ Below w.heap.size w wq ∧ wq.ownsRow w.heap.size 33 6 v6 (sumN (ls.take i)) (flat KeyM.row (allOf (ls.take i)))) (fun _ _ v27 _ => n - (intOf v27).toNat)
      case atStart => exact ⟨0, rfl, Nat.zero_le _, HB2.out, by simpa [sumN, allOf, flat] using HO2.out⟩
      case round =>
        obtain ⟨k, rfl, hk', hb, hown⟩ := hrel
        have HOWN := Lib.hid hown
        have HBQ := Lib.hid hb
        by_cases hlt : k < n
        · have hltk : (k : Int) < (n : Int) := by omega
          have hwk : IntKind.i64.wrap ((k : Int) + 1) = (k : Int) + 1 := by rw [IntKind.wrap_i64]; omega
          have hkl : k < ls.length := by rw [HN.out]; exact hlt
          have hc : wr.cell? ⟨bl, k, none⟩ = some (.slice ls[k].a ls[k].n ls[k].c) := by
            rw [cell_of_row wr _ k _ _ _ ((hb.block bl hlb).trans HROW.out)]
            simp [hkl, SlOf.val]
          have hst := sumN_take hkl
          have hat := allOf_take hkl
          have hsl := sumN_le ls (k + 1)
          have hrd := ((HIN.out _ (List.getElem_mem hkl)).later hb hb.size).reads KeyM.size (by omega)
          have hone := keys_one ls[k].l
          generalize ls[k].a = xa at hc hrd
          generalize ls[k].n = xn at hc hst hrd
          generalize ls[k].c = xc at hc
          generalize ls[k].l = xl at hat hrd hone
          have HRD := Lib.hid hrd
          have HONE := Lib.hid hone
          have HST := Lib.hid hst
          have HAT := Lib.hid hat
          have hsz : sumN (ls.take k) + xn ≤ 1000 := by omega
          have hlbr : bl < wr.heap.size := Nat.lt_of_lt_of_le hlb hb.size
          clear hrd hone hst hat hb hown hsl
          go_wp2_with (at_builtin; refine wpList_append_any _ rfl (.tmp 31) (.tmp 32) 36 rfl w.heap.size 33 i0 (.agg #[.string ⟨#[]⟩, .string ⟨#[]⟩, .int .i64 0, .bool false, .int .i64 0, .slice none 0 0]) 6 80 Try.underlying36 HI.out HZ.out HS.out HB.out rfl (by omega) _ (sumN (ls.take k)) _ rfl HOWN.out wr.heap.size xa xn xc _ rfl HRD.out HONE.out (by simp only [maxLen]; omega) (by omega) HBQ.out.size ?_; intro v1 w6 hown6 hg6 hat6; have hb6 : Below w.heap.size w w6 := HBQ.out.grown hg6 HBQ.out.size (fun k hk => (HOWN.out.lt k hk).1); have H6a := Lib.hid hown6; have H6b := Lib.hid hb6; clear hown6 hg6 hat6 hb6)
          go_roundw
          case rel => exact ⟨k + 1, by go_num, by omega, H6b.out, by rw [HST.out, HAT.out, flat_append]; exact H6a.out⟩
          case measure => simp [intOf]; omega
        · have hltk : ¬ (k : Int) < (n : Int) := by omega
          have e : ls.take k = ls := List.take_of_length_le (by rw [HN.out]; omega)
          have h := HOWN.out
          rw [e] at h
          have HO := Lib.hid h
          clear h hown
          go_wp2_with fail
          exact bodyPost_ret (v := u6) (by simp [results, Try.results20, go_sem]) rfl ⟨_, rfl, HO.out, HBQ.out⟩

end Go.Proofs.Ytcionpepgpfjdaa
