/-
  Contract of slices.DeleteFunc of lines that the caller owns.
-/
import Derived.Test.YtcionpepgpfjdaaBlIdxL
import Derived.OneCell
import Derived.Lib.SliceRun
namespace Go.Proofs.Ytcionpepgpfjdaa
open Go.ChangeShapes Go.WideShapes Go.ChangeAt Go.RowKit

theorem lineZero (w : World) : (zeroValue 30).run Try.prog w = .ok (.agg #[.string ⟨#[]⟩, .string ⟨#[]⟩, .string ⟨#[]⟩, .int .i64 0]) w := by kernel_rfl

theorem run_clear_lines (w : World) (b o n c : Nat) (hn : 0 < n)
    (hc : ∀ j, j < n * 4 → (w.cell? ⟨b, o + j, none⟩).isSome = true) (hf : ∀ j, j < n * 4 → w.frozen? ⟨b, o + j, none⟩ = false) :
    ∃ zs : List Value, ∀ ty, (Builtin.clear_ #[22] ty #[.slice (some ⟨b, o, none⟩) n c]).run Try.prog w = .ok (.tuple #[]) (w.setCells b o zs) := by
  have hzs : Value.cells (.agg #[.string ⟨#[]⟩, .string ⟨#[]⟩, .string ⟨#[]⟩, .int .i64 0]) = #[.string ⟨#[]⟩, .string ⟨#[]⟩, .string ⟨#[]⟩, .int .i64 0] := rfl
  have hlen : (Builtin.zeroCells #[.string ⟨#[]⟩, .string ⟨#[]⟩, .string ⟨#[]⟩, .int .i64 0] n).toList.length = n * 4 := by simp [Builtin.zeroCells]
  have h1 : ∀ v ∈ (Builtin.zeroCells #[.string ⟨#[]⟩, .string ⟨#[]⟩, .string ⟨#[]⟩, .int .i64 0] n).toList, v.oneCell' = true := by
    intro v hv
    simp only [Builtin.zeroCells, Array.toList_map, List.mem_map] at hv
    obtain ⟨k, -, rfl⟩ := hv
    have hk : k % 4 = 0 ∨ k % 4 = 1 ∨ k % 4 = 2 ∨ k % 4 = 3 := by omega
    rcases hk with h | h | h | h <;> simp [h, Value.oneCell']
  refine ⟨(Builtin.zeroCells #[.string ⟨#[]⟩, .string ⟨#[]⟩, .string ⟨#[]⟩, .int .i64 0] n).toList, fun ty => ?_⟩
  have hst := run_storeCells_cells (P := Try.prog) b o (Builtin.zeroCells #[.string ⟨#[]⟩, .string ⟨#[]⟩, .string ⟨#[]⟩, .int .i64 0] n).toList 0 w (by rw [hlen]; simpa using hc) (by rw [hlen]; simpa using hf) h1
  simp only [Nat.add_zero] at hst
  obtain ⟨m, rfl⟩ : ∃ m, n = m + 1 := ⟨n - 1, by omega⟩
  simp [Builtin.clear_, run_underlying Try.underlying22, hzs, hst]

theorem row_setCells {g : Nat} {e : TypeId} : ∀ (vs : List Value) (o : Nat) (w : World) (cur : Array Value), w.heap[g]? = some (.cells cur e (0, 0)) →
    ∃ cur', (w.setCells g o vs).heap[g]? = some (.cells cur' e (0, 0)) ∧ cur'.size = cur.size ∧ ∀ q, q ≤ o → cur'.toList.take q = cur.toList.take q
  | [], o, w, cur, h => ⟨cur, h, rfl, fun _ _ => rfl⟩
  | v :: vs, o, w, cur, h => by
    obtain ⟨c', h1, h2, h3⟩ := row_setCells vs (o + 1) (w.setCell ⟨g, o, none⟩ v) _ (heap_setCell_same w g o cur e v h)
    refine ⟨c', h1, by simpa using h2, fun q hq => ?_⟩
    rw [h3 q (by omega)]
    simp [List.take_set_of_le hq]

theorem grown_setCells {w : World} (g : Nat) : ∀ (vs : List Value) (o : Nat) (W : World), w.grownBy W (some g) → w.grownBy (W.setCells g o vs) (some g)
  | [], _, _, h => h
  | v :: vs, o, W, h => grown_setCells g vs (o + 1) _ ⟨h.os, h.tape, h.output, by simpa using h.size, fun k hk hne => by
      rw [heap_setCell_other _ _ _ _ (by intro e; exact hne (by rw [e]))]
      exact h.block k hk hne⟩

theorem own_put {w : World} {base : Nat} {e : TypeId} {size g n cap i : Nat} {xs : List Value} (h : w.ownsRow base e size (.slice (some ⟨g, 0, none⟩) n cap) n xs) (x : Value) :
    (w.setCell ⟨g, i, none⟩ x).ownsRow base e size (.slice (some ⟨g, 0, none⟩) n cap) n (xs.set i x) := by
  obtain ⟨h1, ⟨h2, -⟩ | ⟨g', cap', cur, hv, hg, hr, hn, hm, hc, ht⟩⟩ := h
  · cases h2
  · injection hv with e1 _ e3
    injection e1 with e1
    injection e1 with e1
    subst e1 e3
    refine ⟨by rw [List.length_set]; exact h1, .inr ⟨g, cap, _, rfl, hg, heap_setCell_same w g i cur e x hr, hn, hm, by simpa using hc, ?_⟩⟩
    rw [← ht]
    simp [List.take_set]

theorem flat_put : ∀ (l : List LineM) (i : Nat) (x : LineM), i < l.length → ((((flat LineM.row l).set (i * 4) (.string x.s)).set (i * 4 + 1) (.string x.k)).set (i * 4 + 2) (.string x.v)).set (i * 4 + 3) (.int .i64 x.a) = flat LineM.row (l.set i x)
  | [], i, x, h => by simp at h
  | y :: ys, 0, x, _ => by simp [flat, LineM.row]
  | y :: ys, i + 1, x, h => by
    have ih := flat_put ys i x (by simpa using h)
    have e : ∀ (j : Nat) (v : Value) (zs : List Value), (y.row.toList ++ zs).set ((i + 1) * 4 + j) v = y.row.toList ++ zs.set (i * 4 + j) v := by
      intro j v zs
      rw [List.set_append_right _ _ (by simp [LineM.row]; omega)]
      congr 2
      simp [LineM.row]
      omega
    have e0 := fun v zs => e 0 v zs
    simp only [Nat.add_zero] at e0
    rw [List.set_cons_succ, flat_cons, flat_cons, e0, e 1, e 2, e 3, ih]

/-- out of an owned row: its cells, its frozen ones -/
theorem own_row {w : World} {base : Nat} {e : TypeId} {size g n cap : Nat} {xs : List Value} (h : w.ownsRow base e size (.slice (some ⟨g, 0, none⟩) n cap) n xs) :
    ∃ cur, w.heap[g]? = some (.cells cur e (0, 0)) ∧ n ≤ cap ∧ cap ≤ maxLen ∧ cur.size = cap * size ∧ cur.toList.take (n * size) = xs ∧ base ≤ g ∧ g < w.heap.size := by
  obtain ⟨-, ⟨h2, -⟩ | ⟨g', cap', cur, hv, hg, hr, hn, hm, hc, ht⟩⟩ := h
  · cases h2
  · injection hv with e1 _ e3
    injection e1 with e1
    injection e1 with e1
    subst e1 e3
    exact ⟨cur, hr, hn, hm, hc, ht, hg, (Array.getElem?_eq_some_iff.1 hr).1⟩

theorem filter_none {p : LineM → Bool} {l : List LineM} (h : idxI p l = -1) : l.filter (fun x => !p x) = l := by
  rw [List.filter_eq_self]
  intro x hx
  unfold idxI at h
  cases hf : l.findIdx? p with
  | some i => rw [hf] at h; simp at h
  | none =>
    rw [List.findIdx?_eq_none_iff] at hf
    rw [hf x hx]
    rfl

theorem idx_form (p : LineM → Bool) (l : List LineM) : idxI p l = -1 ∨ ∃ i : Nat, idxI p l = i ∧ i < l.length ∧ (l.take (i + 1)).filter (fun x => !p x) = l.take i := by
  unfold idxI
  cases hf : l.findIdx? p with
  | none => exact .inl rfl
  | some i =>
    refine .inr ⟨i, rfl, ?_⟩
    rw [List.findIdx?_eq_some_iff_getElem] at hf
    obtain ⟨hlt, hp, hno⟩ := hf
    refine ⟨hlt, ?_⟩
    rw [← List.take_append_getElem hlt, List.filter_append]
    have e1 : (l.take i).filter (fun x => !p x) = l.take i := by
      rw [List.filter_eq_self]
      intro x hx
      obtain ⟨j, hj, e⟩ := List.getElem_of_mem hx
      have hj' : j < i := by simp at hj; omega
      have := hno j hj'
      rw [List.getElem_take] at e
      rw [e] at this
      simpa using this
    rw [e1]
    simp [hp]

theorem flat_take {α : Type} {row : α → Array Value} {m : Nat} (hm : ∀ x, (row x).size = m) : ∀ (l : List α) (q : Nat), (flat row l).take (q * m) = flat row (l.take q)
  | [], q => by simp [flat]
  | x :: xs, 0 => by simp [flat]
  | x :: xs, q + 1 => by
    rw [List.take_succ_cons, flat_cons, flat_cons, ← flat_take hm xs q]
    rw [List.take_append]
    congr 1
    · rw [List.take_of_length_le]
      simp [hm, Nat.add_mul]
    · congr 1
      simp [hm, Nat.add_mul]

theorem filter_next {p : LineM → Bool} {l : List LineM} {j : Nat} {x : LineM} (h : l[j]? = some x) : (l.take (j + 1)).filter (fun x => !p x) = (l.take j).filter (fun x => !p x) ++ if p x = true then [] else [x] := by
  obtain ⟨hj, e⟩ := List.getElem?_eq_some_iff.1 h
  rw [← List.take_append_getElem hj, List.filter_append, e]
  congr 1
  cases hp : p x <;> simp [hp]

set_option maxRecDepth 100000 in
set_option maxHeartbeats 3000000 in
theorem del_any (p : LineM → Bool) (cap : Array Value) (base : Nat) (v : Value) (l : List LineM) (w : World) (hown : w.ownsRow base 30 4 v l.length (flat LineM.row l)) (hbig : l.length ≤ 4000000000000)
    (hp : ∀ W x, w.grownBy W v.ownBlock → Calls Try.prog 22 (#[.agg (LineM.row x)] ++ cap) W fun e w' => e = .returned (.bool (p x)) ∧ Below W.heap.size W w') :
    Calls Try.prog 21 #[v, .func (.func 22) #[] cap] w
      fun e w' => ∃ v', e = .returned v' ∧ w'.ownsRow base 30 4 v' (l.filter fun x => !p x).length (flat LineM.row (l.filter fun x => !p x)) ∧ w.grownBy w' v.ownBlock ∧ v'.ownBlock = v.ownBlock := by
  obtain ⟨a, c, rfl, hin, hnil, hlc⟩ := rows_form LineM.size hown
  have hidx : Calls Try.prog 26 #[.slice a l.length c, .func (.func 22) #[] cap] w fun e w' => e = .returned (.int .i64 (idxI p l)) ∧ Below w.heap.size w w' :=
    idxl_any p cap l a l.length c w hin (by omega) fun W x hW => hp W x ⟨hW.os, hW.tape, hW.output, hW.size, fun k hk _ => hW.block k hk⟩
  have HIDX := Lib.hid hidx
  have HOWN := Lib.hid hown
  have HP := Lib.hid hp
  clear hidx hown hp hin
  have hform := idx_form p l
  have HNONE : Hid (idxI p l = -1 → l.filter (fun x => !p x) = l) := Lib.hid filter_none
  generalize idxI p l = ii at HIDX hform HNONE
  go_enter Try.func21, Try.ntmps21
  rcases hform with rfl | ⟨i, rfl, hil, hti⟩
  · go_wp2_with (go_at_call 26; refine HIDX.out.mono ?_; rintro e w1 ⟨rfl, hb1⟩)
    refine bodyPost_ret (v := .slice a l.length c) (by simp [results, Try.results21, go_sem]) rfl ⟨_, rfl, ?_, ⟨hb1.os, hb1.tape, hb1.output, hb1.size, fun k hk _ => hb1.block k hk⟩, rfl⟩
    rw [HNONE.out trivial]
    exact owns_below HOWN.out hb1
  · obtain ⟨g, cap', e, -, -⟩ := HOWN.out.form (by omega)
    injection e with e1 _ e3
    subst e1 e3
    clear hnil HNONE
    have hne1 : ¬ (i : Int) = -1 := by omega
    have hne1b : ((i : Int) == -1) = false := by simp
    have hwi0 : IntKind.i64.wrap ((i : Int) + 1) = (i : Int) + 1 := by rw [IntKind.wrap_i64]; omega
    go_wp2_with (go_at_call 26; refine HIDX.out.mono ?_; rintro e w1 ⟨rfl, hb1⟩; have HB1 := Lib.hid hb1; clear hb1)
    generalize hn : l.length = n at *
    have HLN := Lib.hid hn
    clear hn
    have HTI := Lib.hid hti
    clear hti
    go_loopw [5, 6, 7] (fun v5 v6 v7 wr => ∃ (q j : Nat) (l' : List LineM), v5 = .int .i64 q ∧ v6 = .int .i64 j ∧ q < j ∧ j ≤ n ∧ l'.length = n ∧ l'.take q = (l.take j).filter (fun x => !p x) ∧ l'.drop j = l.drop j ∧
      wr.ownsRow base 30 4 (.slice (some ⟨g, 0, none⟩) n c) n (flat LineM.row l') ∧ w.grownBy wr (some g)) (fun _ v6 _ _ => n - (intOf v6).toNat)
    case atStart => exact ⟨i, i + 1, l, rfl, rfl, by omega, by omega, HLN.out, HTI.out.symm, rfl, owns_below HOWN.out HB1.out, ⟨HB1.out.os, HB1.out.tape, HB1.out.output, HB1.out.size, fun k hk _ => HB1.out.block k hk⟩⟩
    case round =>
      obtain ⟨q, j, l', rfl, rfl, hqj, hjn, hl', htk, hdr, hor, hgr⟩ := hrel
      have HL' := Lib.hid hl'
      have HTK := Lib.hid htk
      have HDR := Lib.hid hdr
      have HOR := Lib.hid hor
      have HGR := Lib.hid hgr
      obtain ⟨cur, hrow, hnc, hcm, hcs, htake, hbg, hglt⟩ := own_row hor
      have HROW := Lib.hid hrow
      have HTAKE := Lib.hid htake
      have hfz : ∀ k, wr.frozen? ⟨g, k, none⟩ = false := fun k => frozen_of_row _ _ _ _ _ hrow
      have hcell : ∀ (k t : Nat) (y : LineM) (u : Value), l'[k]? = some y → y.row[t]? = some u → wr.cell? ⟨g, k * 4 + t, none⟩ = some u := by
        intro k t y u hy hu
        have h := HOR.out.cells (g := g) rfl _ _ (flat_get LineM.size l' k t y u hy hu)
        rw [add_plain, Nat.zero_add] at h
        exact h
      have HCELL := Lib.hid hcell
      have HFZ := Lib.hid hfz
      clear hl' htk hdr hor hgr hrow hcell hfz htake
      by_cases hlt : j < n
      · have hlti : (j : Int) < (n : Int) := by omega
        have hwj : IntKind.i64.wrap ((j : Int) + 1) = (j : Int) + 1 := by rw [IntKind.wrap_i64]; omega
        have hwq : IntKind.i64.wrap ((q : Int) + 1) = (q : Int) + 1 := by rw [IntKind.wrap_i64]; omega
        have hqn : (q : Int) < (n : Int) := by omega
        have hjl : j < l.length := by rw [HLN.out]; exact hlt
        have hxl : l[j]? = some l[j] := List.getElem?_eq_getElem hjl
        have hxl' : l'[j]? = some l[j] := by
          have e : (l'.drop j)[0]? = (l.drop j)[0]? := by rw [HDR.out]
          rw [List.getElem?_drop, List.getElem?_drop, Nat.add_zero, hxl] at e
          exact e
        have hcx := fun t u hu => HCELL.out j t _ u hxl' hu
        have hfn := filter_next (p := p) hxl
        generalize l[j] = x at hxl hxl' hcx hfn
        have hql : q < l'.length := by rw [HL'.out]; omega
        have hyl : l'[q]? = some l'[q] := List.getElem?_eq_getElem hql
        have hcy := fun t u hu => HCELL.out q t _ u hyl hu
        generalize l'[q] = y at hyl hcy
        have HFN := Lib.hid hfn
        have hgw : w.grownBy (wr.alloc (.cells x.row 30)) (some g) := ⟨HGR.out.os, HGR.out.tape, HGR.out.output, by have := HGR.out.size; simp; omega, fun k hk hne => (Below.heap_alloc _ _ _ (by have := HGR.out.size; omega)).trans (HGR.out.block k hk hne)⟩
        have HCALL := Lib.hid (HP.out _ x hgw)
        have HGW := Lib.hid hgw
        generalize hpx : p x = px at HCALL HFN
        clear hfn hxl hxl' hyl hgw hpx
        have HX : Hid (x.row = x.row) := Lib.hid rfl
        obtain ⟨xs, xk, xv, xa⟩ := x
        obtain ⟨ys, yk, yv, ya⟩ := y
        unfold LineM.row at hcx hcy HCALL HGW
        dsimp only at hcx hcy HCALL HGW
        have x0 := hcx 0 _ rfl
        have x1 := hcx 1 _ rfl
        have x2 := hcx 2 _ rfl
        have x3 := hcx 3 _ rfl
        have y0 := hcy 0 _ rfl
        have y1 := hcy 1 _ rfl
        have y2 := hcy 2 _ rfl
        have y3 := hcy 3 _ rfl
        simp only [Nat.add_zero] at x0 y0
        clear hcx hcy HX
        go_wp2_with (go_at_call 22; fail)
        refine HCALL.out.mono ?_
        rintro e w2 ⟨rfl, hb2⟩
        have hb2' : Below wr.heap.size wr w2 := ((Below.refl wr.heap.size wr).alloc (Nat.le_refl _) _).trans (hb2.mono (by simp))
        have HB2 := Lib.hid hb2'
        have hr7 := (hb2.block wr.heap.size (by simp)).trans (heap_alloc_new wr _)
        have HG2 : Hid (w.grownBy w2 (some g)) := Lib.hid ⟨hb2.os.trans HGW.out.os, hb2.tape.trans HGW.out.tape, hb2.output.trans HGW.out.output, Nat.le_trans HGW.out.size hb2.size, fun k hk hne => (hb2.block k (Nat.lt_of_lt_of_le hk HGW.out.size)).trans (HGW.out.block k hk hne)⟩
        rw [← hb2'.cell (p := ⟨g, q * 4, none⟩) hglt] at y0
        rw [← hb2'.cell (p := ⟨g, q * 4 + 1, none⟩) hglt] at y1
        rw [← hb2'.cell (p := ⟨g, q * 4 + 2, none⟩) hglt] at y2
        rw [← hb2'.cell (p := ⟨g, q * 4 + 3, none⟩) hglt] at y3
        have z0 : w2.cell? ⟨wr.heap.size, 0, none⟩ = some (.string xs) := by rw [cell_of_row w2 _ 0 _ _ _ hr7]; rfl
        have z1 : w2.cell? ⟨wr.heap.size, 1, none⟩ = some (.string xk) := by rw [cell_of_row w2 _ 1 _ _ _ hr7]; rfl
        have z2 : w2.cell? ⟨wr.heap.size, 2, none⟩ = some (.string xv) := by rw [cell_of_row w2 _ 2 _ _ _ hr7]; rfl
        have z3 : w2.cell? ⟨wr.heap.size, 3, none⟩ = some (.int .i64 xa) := by rw [cell_of_row w2 _ 3 _ _ _ hr7]; rfl
        have fz : ∀ k, w2.frozen? ⟨g, k, none⟩ = false := fun k => (hb2'.frozen (p := ⟨g, k, none⟩) hglt).trans (HFZ.out k)
        clear hb2 hb2' hr7 x0 x1 x2 x3
        cases px
        · go_wp2_with fail
          go_roundw
          case rel =>
            have ho := own_put (own_put (own_put (own_put (owns_below HOR.out HB2.out) (i := q * 4) (.string xs)) (i := q * 4 + 1) (.string xk)) (i := q * 4 + 2) (.string xv)) (i := q * 4 + 3) (.int .i64 xa)
            rw [flat_put l' q ⟨xs, xk, xv, xa⟩ (by rw [HL'.out]; omega)] at ho
            refine ⟨q + 1, j + 1, l'.set q ⟨xs, xk, xv, xa⟩, by go_num, by go_num, by omega, by omega, by rw [List.length_set]; exact HL'.out, ?_, ?_, ho, ?_⟩
            · rw [HFN.out, ← HTK.out]
              rw [← List.take_append_getElem (show q < (l'.set q ⟨xs, xk, xv, xa⟩).length by rw [List.length_set, HL'.out]; omega)]
              simp
              exact List.take_set_of_le (Nat.le_refl _)
            · rw [List.drop_set_of_lt (by omega)]
              have e : (l'.drop j).drop 1 = (l.drop j).drop 1 := by rw [HDR.out]
              rw [List.drop_drop, List.drop_drop] at e
              exact e
            · refine ⟨HG2.out.os, HG2.out.tape, HG2.out.output, by simpa using HG2.out.size, fun k hk hne => ?_⟩
              have hkg : k ≠ g := fun e => hne (by rw [e])
              rw [heap_setCell_other _ _ _ _ hkg, heap_setCell_other _ _ _ _ hkg, heap_setCell_other _ _ _ _ hkg, heap_setCell_other _ _ _ _ hkg]
              exact HG2.out.block k hk hne
          case measure => simp [intOf]; omega
        · go_wp2_with fail
          go_roundw
          case rel =>
            refine ⟨q, j + 1, l', rfl, by go_num, by omega, by omega, HL'.out, ?_, ?_, owns_below HOR.out HB2.out, HG2.out⟩
            · rw [HFN.out, ← HTK.out]
              simp
            · have e : (l'.drop j).drop 1 = (l.drop j).drop 1 := by rw [HDR.out]
              rw [List.drop_drop, List.drop_drop] at e
              exact e
          case measure => simp [intOf]; omega
      · have hlti : ¬ (j : Int) < (n : Int) := by omega
        obtain rfl : j = n := by omega
        obtain ⟨zs, hcl⟩ := run_clear_lines wr g (q * 4) (j - q) (c - q) (by omega)
          (fun t ht => by
            rw [cell_of_row _ _ _ _ _ _ HROW.out]
            have : q * 4 + t < cur.size := by rw [hcs]; omega
            simp [this])
          (fun t _ => HFZ.out _)
        have hqj' : (q : Int) < (j : Int) := by omega
        have hqc : (q : Int) < (c : Int) := by omega
        have hqle : (q : Int) ≤ (j : Int) := by omega
        have hqce : (q : Int) ≤ (c : Int) := by omega
        have hjc : (j : Int) ≤ (c : Int) := by omega
        have HCS := Lib.hid hcs
        have HCM := Lib.hid hcm
        clear hcs hcm
        go_wp2_with fail
        refine bodyPost_ret (v := .slice (some ⟨g, 0, none⟩) q c) (by simp [results, Try.results21, go_sem]) rfl ⟨_, rfl, ?_, grown_setCells g zs _ _ HGR.out, rfl⟩
        have e : l.filter (fun x => !p x) = l'.take q := by rw [HTK.out, List.take_of_length_le (by rw [HLN.out]; exact Nat.le_refl _)]
        have hlq : (l'.take q).length = q := by rw [List.length_take, HL'.out]; omega
        obtain ⟨cur', h1, h2, h3⟩ := row_setCells zs (q * 4) wr cur HROW.out
        rw [e]
        refine ⟨flat_length LineM.size _, .inr ⟨g, c, cur', by rw [hlq], hbg, h1, by rw [hlq]; omega, HCM.out, by rw [h2, HCS.out], ?_⟩⟩
        rw [hlq, h3 (q * 4) (Nat.le_refl _), ← flat_take LineM.size, ← HTAKE.out, List.take_take]
        congr 1
        omega

end Go.Proofs.Ytcionpepgpfjdaa
