/-
  The contract of run.Due: what comes next, and when; old memory is as it was.
-/
import Derived.Test.YtohgnmpmledljaaRunFns
import Derived.StillTailTactics
import Derived.RegionTactic
namespace Go.Proofs.Ytohgnmpmledljaa
open Go.ChangeShapes Go.WideShapes Go.ChangeAt Go.RowKit

theorem setCell_self {w : World} {b o : Nat} {v : Value} (h : w.cell? ⟨b, o, none⟩ = some v) : w.setCell ⟨b, o, none⟩ v = w := by
  unfold World.setCell
  have e : (w.heap.modify b fun
      | .cells c elem frozen => .cells (c.setIfInBounds o v) elem frozen
      | o => o) = w.heap := by
    apply Array.ext_getElem?
    intro i
    rw [Array.getElem?_modify]
    by_cases hi : b = i
    · subst hi
      rw [if_pos rfl]
      unfold World.cell? at h
      cases hb : w.heap[b]? with
      | none => rfl
      | some x =>
        cases x with
        | cells c t fr =>
          simp [hb] at h
          have : c.setIfInBounds o v = c := by
            apply Array.ext_getElem?
            intro j
            rw [Array.getElem?_setIfInBounds]
            by_cases hj : o = j
            · subst hj
              rw [if_pos rfl, h]
              have := (Array.getElem?_eq_some_iff.1 h).1
              rw [if_pos this]
            · rw [if_neg hj]
          simp [this]
        | _ => rfl
    · rw [if_neg hi]
  exact congrArg (fun h => ({ w with heap := h } : World)) e

theorem still_tail {P : Program} {id : Nat} {Q : Exit → Act → World → Prop} {a : Act} {w : World} {l : List Oper} (n : Nat) (hm : P.follows .mixedOrders = true) (hB : Region.lexTailB .any l.toArray n = true)
    (h : wpStill P l.toArray w.drew (fun a' => wpList P l.toArray Q (l.drop n) a' w.drew) (l.take n) a) : (Code.region id l.toArray true).wp P Q a w :=
  wp_region_still_tail n hm hB h

theorem soon_any (t k a b : Int) (g g' : Nat) (w : World) (h1 : w.cell? ⟨g, 0, none⟩ = some (.int .i64 a)) (h2 : w.cell? ⟨g', 0, none⟩ = some (.int .i64 b))
    (f1 : w.frozen? ⟨g, 0, none⟩ = false) (f2 : w.frozen? ⟨g', 0, none⟩ = false) (hne : g ≠ g') :
    Calls Try.prog 27 #[.int .i64 t, .int .i64 k, .pointer (some ⟨g, 0, none⟩), .pointer (some ⟨g', 0, none⟩)] w
      fun e w' => e = .returned (.tuple #[]) ∧ (w.setCell ⟨g, 0, none⟩ (.int .i64 (soonB (a, b) t k).1)).setCell ⟨g', 0, none⟩ (.int .i64 (soonB (a, b) t k).2) = w' := by
  by_cases h : t < a
  · have e : soonB (a, b) t k = (t, k) := by unfold soonB; rw [if_pos h]
    rw [e]; clear e
    go_enter Try.func27, Try.ntmps27
    go_wp2
    go_end0
    exact ⟨rfl, rfl⟩
  · have e : soonB (a, b) t k = (a, b) := by unfold soonB; rw [if_neg h]
    rw [e, setCell_self h1, setCell_self h2]; clear e
    go_enter Try.func27, Try.ntmps27
    go_wp2
    go_end0
    exact ⟨rfl, rfl⟩

/-- The texts of an act: where they lie. -/
structure SaysIn (w : World) (B : Nat) (cs : Array Value) (l : List (Int × ByteArray)) : Prop where
  at_ : ∃ (a : Option Addr) (c : Nat), cs[8]? = some (.slice a l.length c) ∧ (0 < l.length → ∃ b off, a = some ⟨b, off, none⟩ ∧ b < B ∧
    ∀ j, j < l.length → w.cell? ⟨b, off + j * 2, none⟩ = some (.int .i64 (l.getD j (0, ByteArray.empty)).1) ∧ w.cell? ⟨b, off + j * 2 + 1, none⟩ = some (.string (l.getD j (0, ByteArray.empty)).2))
  small : l.length ≤ 9223372036854775807

theorem two_cells (w1 : World) {g g' : Nat} (x y x' y' : Value) {v : Value} (c5 : w1.cell? ⟨g', 0, none⟩ = some v) (hne : g ≠ g') :
    ((((w1.setCell ⟨g, 0, none⟩ x).setCell ⟨g', 0, none⟩ y).setCell ⟨g, 0, none⟩ x').setCell ⟨g', 0, none⟩ y').cell? ⟨g', 0, none⟩ = some y' := by
  have ne : (⟨g, 0, none⟩ : Addr) ≠ ⟨g', 0, none⟩ := fun e => hne (by injection e)
  have e1 : (w1.setCell ⟨g, 0, none⟩ x).cell? ⟨g', 0, none⟩ = some v := by rw [World.cell?_setCell_other _ _ _ _ ne]; exact c5
  have e2 : ((w1.setCell ⟨g, 0, none⟩ x).setCell ⟨g', 0, none⟩ y).cell? ⟨g', 0, none⟩ = some y := World.cell?_setCell_same _ _ _ e1
  have e3 : (((w1.setCell ⟨g, 0, none⟩ x).setCell ⟨g', 0, none⟩ y).setCell ⟨g, 0, none⟩ x').cell? ⟨g', 0, none⟩ = some y := by rw [World.cell?_setCell_other _ _ _ _ ne]; exact e2
  exact World.cell?_setCell_same _ _ _ e3

theorem sizeAct : (Try.prog.info? 24).map (·.size) = some 9 := by kernel_rfl

theorem rowDeep (w : World) (cs : Array Value) (t : TypeId) (A1 A2 A3 : Obj) : ((((w.alloc (.cells cs t)).alloc A1).alloc A2).alloc A3).heap[w.heap.size]? = some (.cells cs t (0, 0)) := by
  rw [Below.heap_alloc _ _ _ (by simp; omega), Below.heap_alloc _ _ _ (by simp; omega), Below.heap_alloc _ _ _ (by simp)]
  exact heap_alloc_new w _

set_option maxRecDepth 100000 in
set_option maxHeartbeats 4000000 in
theorem due_any (cs : Array Value) (A : ActM) (hc : ActCells cs A) (r : RunM) (w : World) (hs : SaysIn w w.heap.size cs A.says) :
    Calls Try.prog 12 #[.agg cs, r.val] w fun e w' => e = .returned (.tuple #[.int .i64 (dueP A r).1, .int .i64 (dueP A r).2]) ∧ Below w.heap.size w w' := by
  obtain ⟨p, n, b, td, sd, rd⟩ := r
  have k6 : cs[6]? = some (.int .i64 A.ready) := hc.ready
  have HC := Lib.hid hc
  have HSZ := Lib.hid hc.size
  clear hc
  obtain ⟨⟨sa, sc, k8, hsa⟩, hsm⟩ := hs
  have HROW := rowDeep w cs 24
  have HROW' := Lib.hid HROW
  clear HROW
  by_cases h1 : p ≤ 0
  · have e : dueP A ⟨p, n, b, td, sd, rd⟩ = (1099511627776, 0) := by simp [dueP, h1]
    rw [e]; clear e
    unfold RunM.val
    go_enter Try.func12, Try.ntmps12
    go_wp2_with fail
    exact bodyPost_ret (v := .tuple #[.int .i64 1099511627776, .int .i64 0]) (by simp [results, Try.results12, go_sem]) rfl ⟨rfl, ((((Below.refl _ _).alloc (Nat.le_refl _) _).alloc (by simp) _).alloc (by simp; omega) _).alloc (by simp; omega) _⟩
  · have hmf : ∀ (fn : Fn) (first cap : Array Value) (w : World), (Instr.makeFunc fn first cap).run Try.prog w = .ok (.func fn first cap) w := fun _ _ _ _ => rfl
    have hdue : ∀ q : Int × Int, dueReady A ⟨p, n, b, td, sd, rd⟩ = q → dueP A ⟨p, n, b, td, sd, rd⟩ = soonB q (endsP A ⟨p, n, b, td, sd, rd⟩).1 3 := by
      intro q hq
      unfold dueP
      rw [if_neg h1, hq]
    have HDUE := Lib.hid hdue
    clear hdue
    by_cases s0 : 0 ≤ sd
    · by_cases s1 : sd < A.says.length
      · obtain ⟨j, rfl⟩ := Int.eq_ofNat_of_zero_le s0
        have hj : j < A.says.length := by omega
        obtain ⟨bs, off, rfl, hbs, hcell⟩ := hsa (by omega)
        obtain ⟨q1, q2⟩ := hcell j hj
        have q3 : ∀ A0 A1 A2 A3 : Obj, ((((w.alloc A0).alloc A1).alloc A2).alloc A3).cell? ⟨bs, off + j * 2, none⟩ = some (.int .i64 (A.says.getD j (0, ByteArray.empty)).1) := by
          intro A0 A1 A2 A3
          have hb := ((((Below.refl w.heap.size w).alloc (Nat.le_refl _) A0).alloc (by simp) A1).alloc (by simp; omega) A2).alloc (by simp; omega) A3
          rw [hb.cell (p := ⟨bs, off + j * 2, none⟩) hbs, q1]
        clear hcell hsa q2 q1
        generalize hft : (A.says.getD j (0, ByteArray.empty)).1 = ft at q3
        cases rd
        · have hsays : dueSays A ⟨p, n, b, td, (j : Int), false⟩ = soonB (1099511627776, 0) (sumI b ft) 1 := by
            unfold dueSays
            rw [if_pos ⟨s0, s1⟩]
            simp only [Int.toNat_natCast, hft]
          have HSAYS := Lib.hid hsays
          clear hft hsays
          unfold RunM.val
          go_enter Try.func12, Try.ntmps12
          go_wp2_with fail
          refine still_tail 11 (by kernel_rfl) (by kernel_rfl) ?_
          simp only [List.take_succ_cons, List.take_zero, List.drop_succ_cons, List.drop_zero]
          iterate 10 still_step
          still_call ((sum_any _ _ _).mono fun _ _ ⟨h, k⟩ => ⟨h, k.symm⟩)
          refine wpStill_nil ?_
          clear q3
          go_wp2_with fail
          refine (soon_any _ _ 1099511627776 0 _ _ _ (by go_simp) (by go_simp) (by go_simp) (by go_simp) (by omega)).mono ?_
          rintro e w' ⟨rfl, rfl⟩
          have H1 := HSAYS.out
          generalize soonB (1099511627776, 0) (sumI b ft) 1 = p1 at H1
          clear HSAYS
          have HSAYS := Lib.hid H1
          clear H1
          obtain ⟨u, v⟩ := p1
          go_wp2_with (first | (go_at_call 28; refine (sum_any _ _ _).mono ?_; rintro e w' ⟨rfl, rfl⟩) | (go_at_call 27; fail))
          refine (soon_any _ _ u v _ _ _ (by go_simp) (by go_simp) (by go_simp) (by go_simp) (by omega)).mono ?_
          rintro e w' ⟨rfl, rfl⟩
          have H2 : dueReady A ⟨p, n, b, td, (j : Int), false⟩ = soonB (u, v) (sumI b A.ready) 2 := by unfold dueReady; rw [if_neg (by simp), HSAYS.out]
          generalize soonB (u, v) (sumI b A.ready) 2 = p2 at H2
          have HREADY := Lib.hid H2
          clear H2 HSAYS
          obtain ⟨u2, v2⟩ := p2
          go_wp2_with (first | (refine wpList_load_row rfl 24 _ rfl w.heap.size rfl 24 cs (0, 0) _ (HROW'.out _ _ _) Try.underlying24 rfl (by rw [HSZ.out]; exact sizeAct) ?_) | (go_at_call 15; fail))
          refine (ends_any cs A HC.out ⟨p, n, b, td, (j : Int), false⟩ _).mono ?_
          rintro e w1 ⟨rfl, hb1⟩
          have c4 : w1.cell? ⟨w.heap.size + 1 + 1, 0, none⟩ = some (.int .i64 u2) := by rw [hb1.cell (p := ⟨w.heap.size + 1 + 1, 0, none⟩) (by simp; try omega)]; go_simp
          have c5 : w1.cell? ⟨w.heap.size + 1 + 1 + 1, 0, none⟩ = some (.int .i64 v2) := by rw [hb1.cell (p := ⟨w.heap.size + 1 + 1 + 1, 0, none⟩) (by simp; try omega)]; go_simp
          have f4 : w1.frozen? ⟨w.heap.size + 1 + 1, 0, none⟩ = false := by rw [hb1.frozen (p := ⟨w.heap.size + 1 + 1, 0, none⟩) (by simp; try omega)]; go_simp
          have f5 : w1.frozen? ⟨w.heap.size + 1 + 1 + 1, 0, none⟩ = false := by rw [hb1.frozen (p := ⟨w.heap.size + 1 + 1 + 1, 0, none⟩) (by simp; try omega)]; go_simp
          have hb : Below w.heap.size w w1 := ((((((Below.refl _ _).alloc (Nat.le_refl _) _).alloc (by simp) _).alloc (by simp; omega) _).alloc (by simp; omega) _).drew).trans (hb1.mono (by simp; omega))
          clear hb1
          go_wp2_with (go_at_call 27; fail)
          refine (soon_any _ _ u2 v2 _ _ _ c4 c5 f4 f5 (by omega)).mono ?_
          rintro e w' ⟨rfl, rfl⟩
          have hsz := hb.size
          have hE := HDUE.out (u2, v2) HREADY.out
          have HE : Hid (dueP A ⟨p, n, b, td, (j : Int), false⟩ = soonB (u2, v2) (endsP A ⟨p, n, b, td, (j : Int), false⟩).1 3) := hE
          clear hE
          generalize hq : soonB (u2, v2) (endsP A ⟨p, n, b, td, (j : Int), false⟩).1 3 = q
          rw [hq] at HE
          clear hq HREADY HDUE
          obtain ⟨qa, qb⟩ := q
          have t5 : ∀ x y x' y' : Value, ((((w1.setCell ⟨w.heap.size + 1 + 1, 0, none⟩ x).setCell ⟨w.heap.size + 1 + 1 + 1, 0, none⟩ y).setCell ⟨w.heap.size + 1 + 1, 0, none⟩ x').setCell ⟨w.heap.size + 1 + 1 + 1, 0, none⟩ y').cell? ⟨w.heap.size + 1 + 1 + 1, 0, none⟩ = some y' := fun x y x' y' => two_cells w1 x y x' y' c5 (by omega)
          go_wp2_with fail
          go_region
          all_goals go_wp2_with fail
          all_goals exact bodyPost_ret (v := .tuple #[.int .i64 qa, .int .i64 qb]) (by simp [results, Try.results12, go_sem, c4, t5]) rfl ⟨by rw [HE.out], (by repeat (first | exact hb | apply Below.setCell _ (by simp; omega) | apply Below.drew))⟩
        · have hsays : dueSays A ⟨p, n, b, td, (j : Int), true⟩ = soonB (1099511627776, 0) (sumI b ft) 1 := by
            unfold dueSays
            rw [if_pos ⟨s0, s1⟩]
            simp only [Int.toNat_natCast, hft]
          have HSAYS := Lib.hid hsays
          clear hft hsays
          unfold RunM.val
          go_enter Try.func12, Try.ntmps12
          go_wp2_with fail
          refine still_tail 11 (by kernel_rfl) (by kernel_rfl) ?_
          simp only [List.take_succ_cons, List.take_zero, List.drop_succ_cons, List.drop_zero]
          iterate 10 still_step
          still_call ((sum_any _ _ _).mono fun _ _ ⟨h, k⟩ => ⟨h, k.symm⟩)
          refine wpStill_nil ?_
          clear q3
          go_wp2_with fail
          refine (soon_any _ _ 1099511627776 0 _ _ _ (by go_simp) (by go_simp) (by go_simp) (by go_simp) (by omega)).mono ?_
          rintro e w' ⟨rfl, rfl⟩
          have H1 := HSAYS.out
          generalize soonB (1099511627776, 0) (sumI b ft) 1 = p1 at H1
          clear HSAYS
          have HSAYS := Lib.hid H1
          clear H1
          obtain ⟨u, v⟩ := p1
          have HREADY : Hid (dueReady A ⟨p, n, b, td, (j : Int), true⟩ = (u, v)) := by show dueReady _ _ = _; unfold dueReady; rw [if_pos rfl]; exact HSAYS.out
          clear HSAYS
          go_wp2_with (first | (refine wpList_load_row rfl 24 _ rfl w.heap.size rfl 24 cs (0, 0) _ (HROW'.out _ _ _) Try.underlying24 rfl (by rw [HSZ.out]; exact sizeAct) ?_) | (go_at_call 15; fail))
          refine (ends_any cs A HC.out ⟨p, n, b, td, (j : Int), true⟩ _).mono ?_
          rintro e w1 ⟨rfl, hb1⟩
          have c4 : w1.cell? ⟨w.heap.size + 1 + 1, 0, none⟩ = some (.int .i64 u) := by rw [hb1.cell (p := ⟨w.heap.size + 1 + 1, 0, none⟩) (by simp; try omega)]; go_simp
          have c5 : w1.cell? ⟨w.heap.size + 1 + 1 + 1, 0, none⟩ = some (.int .i64 v) := by rw [hb1.cell (p := ⟨w.heap.size + 1 + 1 + 1, 0, none⟩) (by simp; try omega)]; go_simp
          have f4 : w1.frozen? ⟨w.heap.size + 1 + 1, 0, none⟩ = false := by rw [hb1.frozen (p := ⟨w.heap.size + 1 + 1, 0, none⟩) (by simp; try omega)]; go_simp
          have f5 : w1.frozen? ⟨w.heap.size + 1 + 1 + 1, 0, none⟩ = false := by rw [hb1.frozen (p := ⟨w.heap.size + 1 + 1 + 1, 0, none⟩) (by simp; try omega)]; go_simp
          have hb : Below w.heap.size w w1 := ((((((Below.refl _ _).alloc (Nat.le_refl _) _).alloc (by simp) _).alloc (by simp; omega) _).alloc (by simp; omega) _).drew).trans (hb1.mono (by simp; omega))
          clear hb1
          go_wp2_with (go_at_call 27; fail)
          refine (soon_any _ _ u v _ _ _ c4 c5 f4 f5 (by omega)).mono ?_
          rintro e w' ⟨rfl, rfl⟩
          have hsz := hb.size
          have hE := HDUE.out (u, v) HREADY.out
          have HE : Hid (dueP A ⟨p, n, b, td, (j : Int), true⟩ = soonB (u, v) (endsP A ⟨p, n, b, td, (j : Int), true⟩).1 3) := hE
          clear hE
          generalize hq : soonB (u, v) (endsP A ⟨p, n, b, td, (j : Int), true⟩).1 3 = q
          rw [hq] at HE
          clear hq HREADY HDUE
          obtain ⟨qa, qb⟩ := q
          have t5 : ∀ x y x' y' : Value, ((((w1.setCell ⟨w.heap.size + 1 + 1, 0, none⟩ x).setCell ⟨w.heap.size + 1 + 1 + 1, 0, none⟩ y).setCell ⟨w.heap.size + 1 + 1, 0, none⟩ x').setCell ⟨w.heap.size + 1 + 1 + 1, 0, none⟩ y').cell? ⟨w.heap.size + 1 + 1 + 1, 0, none⟩ = some y' := fun x y x' y' => two_cells w1 x y x' y' c5 (by omega)
          go_wp2_with fail
          go_region
          all_goals go_wp2_with fail
          all_goals exact bodyPost_ret (v := .tuple #[.int .i64 qa, .int .i64 qb]) (by simp [results, Try.results12, go_sem, c4, t5]) rfl ⟨by rw [HE.out], (by repeat (first | exact hb | apply Below.setCell _ (by simp; omega) | apply Below.drew))⟩
      · have s1' : decide (sd < (A.says.length : Int)) = false := by simp; omega
        clear hsa
        cases rd
        · have hsays : dueSays A ⟨p, n, b, td, sd, false⟩ = (1099511627776, 0) := by
            unfold dueSays
            rw [if_neg (by rintro ⟨_, h⟩; exact s1 h)]
          have HSAYS := Lib.hid hsays
          clear hsays
          unfold RunM.val
          go_enter Try.func12, Try.ntmps12
          go_wp2_with (first | (go_at_call 28; refine (sum_any _ _ _).mono ?_; rintro e w' ⟨rfl, rfl⟩) | (go_at_call 27; fail))
          refine (soon_any _ _ 1099511627776 0 _ _ _ (by go_simp) (by go_simp) (by go_simp) (by go_simp) (by omega)).mono ?_
          rintro e w' ⟨rfl, rfl⟩
          have H2 : dueReady A ⟨p, n, b, td, sd, false⟩ = soonB (1099511627776, 0) (sumI b A.ready) 2 := by unfold dueReady; rw [if_neg (by simp), HSAYS.out]
          generalize soonB (1099511627776, 0) (sumI b A.ready) 2 = p2 at H2
          have HREADY := Lib.hid H2
          clear H2 HSAYS
          obtain ⟨u2, v2⟩ := p2
          go_wp2_with (first | (refine wpList_load_row rfl 24 _ rfl w.heap.size rfl 24 cs (0, 0) _ (HROW'.out _ _ _) Try.underlying24 rfl (by rw [HSZ.out]; exact sizeAct) ?_) | (go_at_call 15; fail))
          refine (ends_any cs A HC.out ⟨p, n, b, td, sd, false⟩ _).mono ?_
          rintro e w1 ⟨rfl, hb1⟩
          have c4 : w1.cell? ⟨w.heap.size + 1 + 1, 0, none⟩ = some (.int .i64 u2) := by rw [hb1.cell (p := ⟨w.heap.size + 1 + 1, 0, none⟩) (by simp; try omega)]; go_simp
          have c5 : w1.cell? ⟨w.heap.size + 1 + 1 + 1, 0, none⟩ = some (.int .i64 v2) := by rw [hb1.cell (p := ⟨w.heap.size + 1 + 1 + 1, 0, none⟩) (by simp; try omega)]; go_simp
          have f4 : w1.frozen? ⟨w.heap.size + 1 + 1, 0, none⟩ = false := by rw [hb1.frozen (p := ⟨w.heap.size + 1 + 1, 0, none⟩) (by simp; try omega)]; go_simp
          have f5 : w1.frozen? ⟨w.heap.size + 1 + 1 + 1, 0, none⟩ = false := by rw [hb1.frozen (p := ⟨w.heap.size + 1 + 1 + 1, 0, none⟩) (by simp; try omega)]; go_simp
          have hb : Below w.heap.size w w1 := (((((Below.refl _ _).alloc (Nat.le_refl _) _).alloc (by simp) _).alloc (by simp; omega) _).alloc (by simp; omega) _).trans (hb1.mono (by simp; omega))
          clear hb1
          go_wp2_with (go_at_call 27; fail)
          refine (soon_any _ _ u2 v2 _ _ _ c4 c5 f4 f5 (by omega)).mono ?_
          rintro e w' ⟨rfl, rfl⟩
          have hsz := hb.size
          have hE := HDUE.out (u2, v2) HREADY.out
          have HE : Hid (dueP A ⟨p, n, b, td, sd, false⟩ = soonB (u2, v2) (endsP A ⟨p, n, b, td, sd, false⟩).1 3) := hE
          clear hE
          generalize hq : soonB (u2, v2) (endsP A ⟨p, n, b, td, sd, false⟩).1 3 = q
          rw [hq] at HE
          clear hq HREADY HDUE
          obtain ⟨qa, qb⟩ := q
          have t5 : ∀ x y x' y' : Value, ((((w1.setCell ⟨w.heap.size + 1 + 1, 0, none⟩ x).setCell ⟨w.heap.size + 1 + 1 + 1, 0, none⟩ y).setCell ⟨w.heap.size + 1 + 1, 0, none⟩ x').setCell ⟨w.heap.size + 1 + 1 + 1, 0, none⟩ y').cell? ⟨w.heap.size + 1 + 1 + 1, 0, none⟩ = some y' := fun x y x' y' => two_cells w1 x y x' y' c5 (by omega)
          go_wp2_with fail
          go_region
          all_goals go_wp2_with fail
          all_goals exact bodyPost_ret (v := .tuple #[.int .i64 qa, .int .i64 qb]) (by simp [results, Try.results12, go_sem, c4, t5]) rfl ⟨by rw [HE.out], (by repeat (first | exact hb | apply Below.setCell _ (by simp; omega) | apply Below.drew))⟩
        · have hsays : dueSays A ⟨p, n, b, td, sd, true⟩ = (1099511627776, 0) := by
            unfold dueSays
            rw [if_neg (by rintro ⟨_, h⟩; exact s1 h)]
          have HSAYS := Lib.hid hsays
          clear hsays
          unfold RunM.val
          go_enter Try.func12, Try.ntmps12
          have HREADY : Hid (dueReady A ⟨p, n, b, td, sd, true⟩ = (1099511627776, 0)) := by show dueReady _ _ = _; unfold dueReady; rw [if_pos rfl]; exact HSAYS.out
          clear HSAYS
          go_wp2_with (first | (refine wpList_load_row rfl 24 _ rfl w.heap.size rfl 24 cs (0, 0) _ (HROW'.out _ _ _) Try.underlying24 rfl (by rw [HSZ.out]; exact sizeAct) ?_) | (go_at_call 15; fail))
          refine (ends_any cs A HC.out ⟨p, n, b, td, sd, true⟩ _).mono ?_
          rintro e w1 ⟨rfl, hb1⟩
          have c4 : w1.cell? ⟨w.heap.size + 1 + 1, 0, none⟩ = some (.int .i64 1099511627776) := by rw [hb1.cell (p := ⟨w.heap.size + 1 + 1, 0, none⟩) (by simp; try omega)]; go_simp
          have c5 : w1.cell? ⟨w.heap.size + 1 + 1 + 1, 0, none⟩ = some (.int .i64 0) := by rw [hb1.cell (p := ⟨w.heap.size + 1 + 1 + 1, 0, none⟩) (by simp; try omega)]; go_simp
          have f4 : w1.frozen? ⟨w.heap.size + 1 + 1, 0, none⟩ = false := by rw [hb1.frozen (p := ⟨w.heap.size + 1 + 1, 0, none⟩) (by simp; try omega)]; go_simp
          have f5 : w1.frozen? ⟨w.heap.size + 1 + 1 + 1, 0, none⟩ = false := by rw [hb1.frozen (p := ⟨w.heap.size + 1 + 1 + 1, 0, none⟩) (by simp; try omega)]; go_simp
          have hb : Below w.heap.size w w1 := (((((Below.refl _ _).alloc (Nat.le_refl _) _).alloc (by simp) _).alloc (by simp; omega) _).alloc (by simp; omega) _).trans (hb1.mono (by simp; omega))
          clear hb1
          go_wp2_with (go_at_call 27; fail)
          refine (soon_any _ _ 1099511627776 0 _ _ _ c4 c5 f4 f5 (by omega)).mono ?_
          rintro e w' ⟨rfl, rfl⟩
          have hsz := hb.size
          have hE := HDUE.out (1099511627776, 0) HREADY.out
          have HE : Hid (dueP A ⟨p, n, b, td, sd, true⟩ = soonB (1099511627776, 0) (endsP A ⟨p, n, b, td, sd, true⟩).1 3) := hE
          clear hE
          generalize hq : soonB (1099511627776, 0) (endsP A ⟨p, n, b, td, sd, true⟩).1 3 = q
          rw [hq] at HE
          clear hq HREADY HDUE
          obtain ⟨qa, qb⟩ := q
          have t5 : ∀ x y x' y' : Value, ((((w1.setCell ⟨w.heap.size + 1 + 1, 0, none⟩ x).setCell ⟨w.heap.size + 1 + 1 + 1, 0, none⟩ y).setCell ⟨w.heap.size + 1 + 1, 0, none⟩ x').setCell ⟨w.heap.size + 1 + 1 + 1, 0, none⟩ y').cell? ⟨w.heap.size + 1 + 1 + 1, 0, none⟩ = some y' := fun x y x' y' => two_cells w1 x y x' y' c5 (by omega)
          go_wp2_with fail
          go_region
          all_goals go_wp2_with fail
          all_goals exact bodyPost_ret (v := .tuple #[.int .i64 qa, .int .i64 qb]) (by simp [results, Try.results12, go_sem, c4, t5]) rfl ⟨by rw [HE.out], (by repeat (first | exact hb | apply Below.setCell _ (by simp; omega) | apply Below.drew))⟩
    · have s0' : decide (0 ≤ sd) = false := by simp; omega
      clear hsa
      cases rd
      · have hsays : dueSays A ⟨p, n, b, td, sd, false⟩ = (1099511627776, 0) := by
          unfold dueSays
          rw [if_neg (by rintro ⟨h, _⟩; exact s0 h)]
        have HSAYS := Lib.hid hsays
        clear hsays
        unfold RunM.val
        go_enter Try.func12, Try.ntmps12
        go_wp2_with (first | (go_at_call 28; refine (sum_any _ _ _).mono ?_; rintro e w' ⟨rfl, rfl⟩) | (go_at_call 27; fail))
        refine (soon_any _ _ 1099511627776 0 _ _ _ (by go_simp) (by go_simp) (by go_simp) (by go_simp) (by omega)).mono ?_
        rintro e w' ⟨rfl, rfl⟩
        have H2 : dueReady A ⟨p, n, b, td, sd, false⟩ = soonB (1099511627776, 0) (sumI b A.ready) 2 := by unfold dueReady; rw [if_neg (by simp), HSAYS.out]
        generalize soonB (1099511627776, 0) (sumI b A.ready) 2 = p2 at H2
        have HREADY := Lib.hid H2
        clear H2 HSAYS
        obtain ⟨u2, v2⟩ := p2
        go_wp2_with (first | (refine wpList_load_row rfl 24 _ rfl w.heap.size rfl 24 cs (0, 0) _ (HROW'.out _ _ _) Try.underlying24 rfl (by rw [HSZ.out]; exact sizeAct) ?_) | (go_at_call 15; fail))
        refine (ends_any cs A HC.out ⟨p, n, b, td, sd, false⟩ _).mono ?_
        rintro e w1 ⟨rfl, hb1⟩
        have c4 : w1.cell? ⟨w.heap.size + 1 + 1, 0, none⟩ = some (.int .i64 u2) := by rw [hb1.cell (p := ⟨w.heap.size + 1 + 1, 0, none⟩) (by simp; try omega)]; go_simp
        have c5 : w1.cell? ⟨w.heap.size + 1 + 1 + 1, 0, none⟩ = some (.int .i64 v2) := by rw [hb1.cell (p := ⟨w.heap.size + 1 + 1 + 1, 0, none⟩) (by simp; try omega)]; go_simp
        have f4 : w1.frozen? ⟨w.heap.size + 1 + 1, 0, none⟩ = false := by rw [hb1.frozen (p := ⟨w.heap.size + 1 + 1, 0, none⟩) (by simp; try omega)]; go_simp
        have f5 : w1.frozen? ⟨w.heap.size + 1 + 1 + 1, 0, none⟩ = false := by rw [hb1.frozen (p := ⟨w.heap.size + 1 + 1 + 1, 0, none⟩) (by simp; try omega)]; go_simp
        have hb : Below w.heap.size w w1 := (((((Below.refl _ _).alloc (Nat.le_refl _) _).alloc (by simp) _).alloc (by simp; omega) _).alloc (by simp; omega) _).trans (hb1.mono (by simp; omega))
        clear hb1
        go_wp2_with (go_at_call 27; fail)
        refine (soon_any _ _ u2 v2 _ _ _ c4 c5 f4 f5 (by omega)).mono ?_
        rintro e w' ⟨rfl, rfl⟩
        have hsz := hb.size
        have hE := HDUE.out (u2, v2) HREADY.out
        have HE : Hid (dueP A ⟨p, n, b, td, sd, false⟩ = soonB (u2, v2) (endsP A ⟨p, n, b, td, sd, false⟩).1 3) := hE
        clear hE
        generalize hq : soonB (u2, v2) (endsP A ⟨p, n, b, td, sd, false⟩).1 3 = q
        rw [hq] at HE
        clear hq HREADY HDUE
        obtain ⟨qa, qb⟩ := q
        have t5 : ∀ x y x' y' : Value, ((((w1.setCell ⟨w.heap.size + 1 + 1, 0, none⟩ x).setCell ⟨w.heap.size + 1 + 1 + 1, 0, none⟩ y).setCell ⟨w.heap.size + 1 + 1, 0, none⟩ x').setCell ⟨w.heap.size + 1 + 1 + 1, 0, none⟩ y').cell? ⟨w.heap.size + 1 + 1 + 1, 0, none⟩ = some y' := fun x y x' y' => two_cells w1 x y x' y' c5 (by omega)
        go_wp2_with fail
        go_region
        all_goals go_wp2_with fail
        all_goals exact bodyPost_ret (v := .tuple #[.int .i64 qa, .int .i64 qb]) (by simp [results, Try.results12, go_sem, c4, t5]) rfl ⟨by rw [HE.out], (by repeat (first | exact hb | apply Below.setCell _ (by simp; omega) | apply Below.drew))⟩
      · have hsays : dueSays A ⟨p, n, b, td, sd, true⟩ = (1099511627776, 0) := by
          unfold dueSays
          rw [if_neg (by rintro ⟨h, _⟩; exact s0 h)]
        have HSAYS := Lib.hid hsays
        clear hsays
        unfold RunM.val
        go_enter Try.func12, Try.ntmps12
        have HREADY : Hid (dueReady A ⟨p, n, b, td, sd, true⟩ = (1099511627776, 0)) := by show dueReady _ _ = _; unfold dueReady; rw [if_pos rfl]; exact HSAYS.out
        clear HSAYS
        go_wp2_with (first | (refine wpList_load_row rfl 24 _ rfl w.heap.size rfl 24 cs (0, 0) _ (HROW'.out _ _ _) Try.underlying24 rfl (by rw [HSZ.out]; exact sizeAct) ?_) | (go_at_call 15; fail))
        refine (ends_any cs A HC.out ⟨p, n, b, td, sd, true⟩ _).mono ?_
        rintro e w1 ⟨rfl, hb1⟩
        have c4 : w1.cell? ⟨w.heap.size + 1 + 1, 0, none⟩ = some (.int .i64 1099511627776) := by rw [hb1.cell (p := ⟨w.heap.size + 1 + 1, 0, none⟩) (by simp; try omega)]; go_simp
        have c5 : w1.cell? ⟨w.heap.size + 1 + 1 + 1, 0, none⟩ = some (.int .i64 0) := by rw [hb1.cell (p := ⟨w.heap.size + 1 + 1 + 1, 0, none⟩) (by simp; try omega)]; go_simp
        have f4 : w1.frozen? ⟨w.heap.size + 1 + 1, 0, none⟩ = false := by rw [hb1.frozen (p := ⟨w.heap.size + 1 + 1, 0, none⟩) (by simp; try omega)]; go_simp
        have f5 : w1.frozen? ⟨w.heap.size + 1 + 1 + 1, 0, none⟩ = false := by rw [hb1.frozen (p := ⟨w.heap.size + 1 + 1 + 1, 0, none⟩) (by simp; try omega)]; go_simp
        have hb : Below w.heap.size w w1 := (((((Below.refl _ _).alloc (Nat.le_refl _) _).alloc (by simp) _).alloc (by simp; omega) _).alloc (by simp; omega) _).trans (hb1.mono (by simp; omega))
        clear hb1
        go_wp2_with (go_at_call 27; fail)
        refine (soon_any _ _ 1099511627776 0 _ _ _ c4 c5 f4 f5 (by omega)).mono ?_
        rintro e w' ⟨rfl, rfl⟩
        have hsz := hb.size
        have hE := HDUE.out (1099511627776, 0) HREADY.out
        have HE : Hid (dueP A ⟨p, n, b, td, sd, true⟩ = soonB (1099511627776, 0) (endsP A ⟨p, n, b, td, sd, true⟩).1 3) := hE
        clear hE
        generalize hq : soonB (1099511627776, 0) (endsP A ⟨p, n, b, td, sd, true⟩).1 3 = q
        rw [hq] at HE
        clear hq HREADY HDUE
        obtain ⟨qa, qb⟩ := q
        have t5 : ∀ x y x' y' : Value, ((((w1.setCell ⟨w.heap.size + 1 + 1, 0, none⟩ x).setCell ⟨w.heap.size + 1 + 1 + 1, 0, none⟩ y).setCell ⟨w.heap.size + 1 + 1, 0, none⟩ x').setCell ⟨w.heap.size + 1 + 1 + 1, 0, none⟩ y').cell? ⟨w.heap.size + 1 + 1 + 1, 0, none⟩ = some y' := fun x y x' y' => two_cells w1 x y x' y' c5 (by omega)
        go_wp2_with fail
        go_region
        all_goals go_wp2_with fail
        all_goals exact bodyPost_ret (v := .tuple #[.int .i64 qa, .int .i64 qb]) (by simp [results, Try.results12, go_sem, c4, t5]) rfl ⟨by rw [HE.out], (by repeat (first | exact hb | apply Below.setCell _ (by simp; omega) | apply Below.drew))⟩

end Go.Proofs.Ytohgnmpmledljaa
