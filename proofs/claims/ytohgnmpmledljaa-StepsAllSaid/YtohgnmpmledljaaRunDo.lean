/-
  The contract of run.Do: what the command is behind what comes next; old memory is as it was.
-/
import Derived.Test.YtohgnmpmledljaaRunDue
namespace Go.Proofs.Ytohgnmpmledljaa
open Go.ChangeShapes Go.WideShapes Go.ChangeAt Go.RowKit

theorem soonB_two (p : Int × Int) (t k : Int) : (soonB p t k = p ∧ ¬ t < p.1) ∨ (soonB p t k = (t, k) ∧ t < p.1) := by
  unfold soonB; split
  · right; exact ⟨rfl, by assumption⟩
  · left; exact ⟨rfl, by assumption⟩

theorem dueSays_what (A : ActM) (r : RunM) : (dueSays A r).2 = 0 ∨ (0 ≤ r.said ∧ r.said < A.says.length ∧ (dueSays A r).2 = 1) := by
  unfold dueSays
  split
  · rename_i h
    rcases soonB_two (1099511627776, 0) (sumI r.begun (A.says.getD r.said.toNat (0, ByteArray.empty)).1) 1 with ⟨h1, _⟩ | ⟨h1, _⟩
    · left; rw [h1]
    · right; rw [h1]; exact ⟨h.1, h.2, rfl⟩
  · left; rfl

theorem dueReady_what (A : ActM) (r : RunM) : (dueReady A r).2 = 0 ∨ (0 ≤ r.said ∧ r.said < A.says.length ∧ (dueReady A r).2 = 1) ∨ (dueReady A r).2 = 2 := by
  unfold dueReady
  have h := dueSays_what A r
  split
  · rcases h with h | h
    · left; exact h
    · right; left; exact h
  · rcases soonB_two (dueSays A r) (sumI r.begun A.ready) 2 with ⟨h1, _⟩ | ⟨h1, _⟩
    · rw [h1]
      rcases h with h | h
      · left; exact h
      · right; left; exact h
    · right; right; rw [h1]

theorem due_what3 (A : ActM) (r : RunM) : (dueP A r).2 = 0 ∨ (0 < r.part ∧ 0 ≤ r.said ∧ r.said < A.says.length ∧ (dueP A r).2 = 1) ∨ (dueP A r).2 = 2 ∨ (dueP A r).2 = 3 := by
  unfold dueP
  split
  · left; rfl
  · have h := dueReady_what A r
    rcases soonB_two (dueReady A r) (endsP A r).1 3 with ⟨h1, _⟩ | ⟨h1, _⟩
    · rw [h1]
      rcases h with h | ⟨h2, h3, h4⟩ | h
      · left; exact h
      · right; left; exact ⟨by omega, h2, h3, h4⟩
      · right; right; left; exact h
    · right; right; right; rw [h1]

theorem due_what (A : ActM) (r : RunM) : (dueP A r).2 = 0 ∨ (dueP A r).2 = 1 ∨ (dueP A r).2 = 2 ∨ (dueP A r).2 = 3 := by
  rcases due_what3 A r with h | ⟨_, _, _, h⟩ | h | h
  · exact .inl h
  · exact .inr (.inl h)
  · exact .inr (.inr (.inl h))
  · exact .inr (.inr (.inr h))

/-- what is due is a text only where there is one -/
theorem due_one {A : ActM} {r : RunM} (h : (dueP A r).2 = 1) : 0 < r.part ∧ 0 ≤ r.said ∧ r.said < A.says.length := by
  rcases due_what3 A r with h1 | ⟨h1, h2, h3, _⟩ | h1 | h1
  · omega
  · exact ⟨h1, h2, h3⟩
  · omega
  · omega

theorem SaysIn.later {w w' : World} {B B' : Nat} {cs : Array Value} {l : List (Int × ByteArray)} (h : SaysIn w B cs l) (hb : Below B w w') (hB : B ≤ B') : SaysIn w' B' cs l := by
  obtain ⟨⟨a, c, k, hl⟩, hs⟩ := h
  refine ⟨⟨a, c, k, fun h0 => ?_⟩, hs⟩
  obtain ⟨b, off, e, hb', hc⟩ := hl h0
  refine ⟨b, off, e, Nat.lt_of_lt_of_le hb' hB, fun j hj => ?_⟩
  rw [hb.cell (p := ⟨b, off + j * 2, none⟩) hb', hb.cell (p := ⟨b, off + j * 2 + 1, none⟩) hb']
  exact hc j hj

def runRow (r : RunM) : Array Value := #[.int .i64 r.part, .int .i64 r.num, .int .i64 r.begun, .int .i64 r.told, .int .i64 r.said, .bool r.ready]

structure RunAt (w : World) (b : Nat) (p n g t s : Int) (rd : Bool) : Prop where
  c0 : w.cell? ⟨b, 0, none⟩ = some (.int .i64 p)
  c1 : w.cell? ⟨b, 1, none⟩ = some (.int .i64 n)
  c2 : w.cell? ⟨b, 2, none⟩ = some (.int .i64 g)
  c3 : w.cell? ⟨b, 3, none⟩ = some (.int .i64 t)
  c4 : w.cell? ⟨b, 4, none⟩ = some (.int .i64 s)
  c5 : w.cell? ⟨b, 5, none⟩ = some (.bool rd)
  f : ∀ i, w.frozen? ⟨b, i, none⟩ = false

theorem RunAt.of_row {w : World} {b : Nat} {p n g t s : Int} {rd : Bool} (h : w.heap[b]? = some (.cells #[.int .i64 p, .int .i64 n, .int .i64 g, .int .i64 t, .int .i64 s, .bool rd] 28 (0, 0))) : RunAt w b p n g t s rd := by
  refine ⟨?_, ?_, ?_, ?_, ?_, ?_, fun i => ?_⟩
  all_goals first
    | (rw [cell_of_row w b _ _ 28 (0, 0) h]; rfl)
    | simp [World.frozen?, h]

theorem RunAt.set {w : World} {b : Nat} {p n g t s : Int} {rd : Bool} (h : RunAt w b p n g t s rd) (p' n' g' t' s' : Int) (rd' : Bool) :
    RunAt ((((((w.setCell ⟨b, 0, none⟩ (.int .i64 p')).setCell ⟨b, 1, none⟩ (.int .i64 n')).setCell ⟨b, 2, none⟩ (.int .i64 g')).setCell ⟨b, 3, none⟩ (.int .i64 t')).setCell ⟨b, 4, none⟩ (.int .i64 s')).setCell ⟨b, 5, none⟩ (.bool rd')) b p' n' g' t' s' rd' := by
  obtain ⟨c0, c1, c2, c3, c4, c5, f⟩ := h
  refine ⟨?_, ?_, ?_, ?_, ?_, ?_, fun i => ?_⟩
  all_goals go_simp

theorem RunAt.other {w : World} {b : Nat} {p n g t s : Int} {rd : Bool} (h : RunAt w b p n g t s rd) (b' i : Nat) (v : Value) (hne : b ≠ b') : RunAt (w.setCell ⟨b', i, none⟩ v) b p n g t s rd := by
  obtain ⟨c0, c1, c2, c3, c4, c5, f⟩ := h
  have ne : ∀ j, (⟨b', i, none⟩ : Addr) ≠ ⟨b, j, none⟩ := fun j e => hne (by injection e with e; exact e.symm)
  refine ⟨?_, ?_, ?_, ?_, ?_, ?_, fun k => ?_⟩
  all_goals first
    | (rw [World.cell?_setCell_other _ _ _ _ (ne _)]; assumption)
    | go_simp

theorem RunAt.drew {w : World} {b : Nat} {p n g t s : Int} {rd : Bool} (h : RunAt w b p n g t s rd) : RunAt w.drew b p n g t s rd := ⟨h.c0, h.c1, h.c2, h.c3, h.c4, h.c5, h.f⟩

theorem do_results (W : World) (b : Nat) (p n g t s : Int) (rd : Bool) (x : ByteArray) (tm : Array Value) (h : RunAt W b p n g t s rd) (h4 : tm[4]? = some (.pointer (some ⟨b, 0, none⟩))) (h5 : tm[5]? = some (.string x)) :
    (results Try.f14 tm).run Try.prog W = .ok (.tuple #[.agg #[.int .i64 p, .int .i64 n, .int .i64 g, .int .i64 t, .int .i64 s, .bool rd], .string x]) W := by
  obtain ⟨c0, c1, c2, c3, c4, c5, f⟩ := h
  simp [results, Try.results14, go_sem, h4, h5, c0, c1, c2, c3, c4, c5]

set_option maxRecDepth 100000 in
set_option maxHeartbeats 4000000 in
theorem do_any (cs : Array Value) (A : ActM) (hc : ActCells cs A) (r : RunM) (w : World) (hs : SaysIn w w.heap.size cs A.says) :
    Calls Try.prog 14 #[.agg cs, r.val] w fun e w' => e = .returned (.tuple #[(doP A r).1.val, .string (doP A r).2]) ∧ Below w.heap.size w w' := by
  have HC := Lib.hid hc
  have HSZ := Lib.hid hc.size
  have HS := Lib.hid hs
  clear hc hs
  have hrow : ∀ A1 A2 : Obj, (((w.alloc (.cells cs 24)).alloc A1).alloc A2).heap[w.heap.size]? = some (.cells cs 24 (0, 0)) := by
    intro A1 A2
    rw [Below.heap_alloc _ _ _ (by simp; omega), Below.heap_alloc _ _ _ (by simp)]
    exact heap_alloc_new w _
  have HROW := Lib.hid hrow
  clear hrow
  have hsays : ∀ A0 A1 A2 : Obj, SaysIn (((w.alloc A0).alloc A1).alloc A2) (((w.alloc A0).alloc A1).alloc A2).heap.size cs A.says := fun A0 A1 A2 =>
    HS.out.later ((((Below.refl _ _).alloc (Nat.le_refl _) _).alloc (by simp) _).alloc (by simp; omega) _) (by simp; omega)
  have HSAYS := Lib.hid hsays
  clear hsays
  have H1 : Hid ((dueP A r).2 = 1 → 0 < r.part ∧ 0 ≤ r.said ∧ r.said < A.says.length) 
    := Lib.hid due_one
  have HW := due_what A r
  have HD : Hid (doP A r = if (dueP A r).2 = 1 then ({ r with said := r.said + 1 }, (A.says.getD r.said.toNat (0, ByteArray.empty)).2)
    else if (dueP A r).2 = 2 then ({ r with ready := true }, ByteArray.empty)
    else if (dueP A r).2 = 3 then (zeroP, ByteArray.empty)
    else (r, ByteArray.empty)) := Lib.hid rfl
  obtain ⟨p, n, b, td, sd, rd⟩ := r
  generalize hdd : dueP A ⟨p, n, b, td, sd, rd⟩ = dd at H1 HW HD
  have HDD := Lib.hid hdd
  clear hdd
  obtain ⟨dt, dk⟩ := dd
  simp only at HW
  unfold RunM.val
  have HDUE : Hid (∀ W, SaysIn W W.heap.size cs A.says → Calls Try.prog 12 #[.agg cs, .agg #[.int .i64 p, .int .i64 n, .int .i64 b, .int .i64 td, .int .i64 sd, .bool rd]] W fun e w' => e = .returned (.tuple #[.int .i64 dt, .int .i64 dk]) ∧ Below W.heap.size W w') := by
    refine Lib.hid (fun W hW => ?_)
    have h := due_any cs A HC.out ⟨p, n, b, td, sd, rd⟩ W hW
    rw [HDD.out] at h
    exact h
  clear HDD
  rcases HW with rfl | rfl | rfl | rfl
  · have hdo : doP A ⟨p, n, b, td, sd, rd⟩ = (⟨p, n, b, td, sd, rd⟩, ByteArray.empty) := by rw [HD.out]; simp
    rw [hdo]
    clear hdo HD H1
    go_enter Try.func14, Try.ntmps14
    go_wp2_with (first | (refine wpList_load_row rfl 24 _ rfl w.heap.size rfl 24 cs (0, 0) _ (HROW.out _ _) Try.underlying24 rfl (by rw [HSZ.out]; exact sizeAct) ?_) | (go_at_call 12; fail))
    refine (HDUE.out _ (HSAYS.out _ _ _)).mono ?_
    rintro e w1 ⟨rfl, hb1⟩
    obtain ⟨c0, c1, c2, c3, c4, c5, fr⟩ : RunAt w1 (w.heap.size + 1) p n b td sd rd := RunAt.of_row (by rw [hb1.block _ (by simp), Below.heap_alloc _ _ _ (by simp)]; simpa using heap_alloc_new (w.alloc _) _)
    have RD : RunAt w1 (w.heap.size + 1 + 1) 0 0 0 0 0 false := RunAt.of_row (by rw [hb1.block _ (by simp)]; simpa using heap_alloc_new ((w.alloc _).alloc _) _)
    obtain ⟨d0, d1, d2, d3, d4, d5, fd⟩ := RD
    have hb : Below w.heap.size w w1 := (((((Below.refl _ _).alloc (Nat.le_refl _) _).alloc (by simp) _).alloc (by simp; omega) _)).trans (hb1.mono (by simp; omega))
    clear hb1
    go_wp2_with fail
    refine bodyPost_ret (v := .tuple #[.agg #[.int .i64 p, .int .i64 n, .int .i64 b, .int .i64 td, .int .i64 sd, .bool rd], .string ByteArray.empty]) (do_results _ (w.heap.size + 1 + 1) _ _ _ _ _ _ _ _ (RunAt.set ⟨d0, d1, d2, d3, d4, d5, fd⟩ _ _ _ _ _ _) rfl rfl) rfl ⟨rfl, ?_⟩
    iterate 6 refine Below.setCell ?_ (by simp; omega) _
    try refine Below.setCell ?_ (by simp) _
    exact hb
  · obtain ⟨g1, g2, g3⟩ := H1 rfl
    obtain ⟨j, rfl⟩ := Int.eq_ofNat_of_zero_le g2
    have hdo : doP A ⟨p, n, b, td, (j : Int), rd⟩ = (⟨p, n, b, td, (j : Int) + 1, rd⟩, (A.says.getD j (0, ByteArray.empty)).2) := by rw [HD.out]; simp
    rw [hdo]
    clear hdo HD H1
    go_enter Try.func14, Try.ntmps14
    go_wp2_with (first | (refine wpList_load_row rfl 24 _ rfl w.heap.size rfl 24 cs (0, 0) _ (HROW.out _ _) Try.underlying24 rfl (by rw [HSZ.out]; exact sizeAct) ?_) | (go_at_call 12; fail))
    refine (HDUE.out _ (HSAYS.out _ _ _)).mono ?_
    rintro e w1 ⟨rfl, hb1⟩
    obtain ⟨c0, c1, c2, c3, c4, c5, fr⟩ : RunAt w1 (w.heap.size + 1) p n b td (j : Int) rd := RunAt.of_row (by rw [hb1.block _ (by simp), Below.heap_alloc _ _ _ (by simp)]; simpa using heap_alloc_new (w.alloc _) _)
    have RD : RunAt w1 (w.heap.size + 1 + 1) 0 0 0 0 0 false := RunAt.of_row (by rw [hb1.block _ (by simp)]; simpa using heap_alloc_new ((w.alloc _).alloc _) _)
    obtain ⟨d0, d1, d2, d3, d4, d5, fd⟩ := RD
    have hb : Below w.heap.size w w1 := (((((Below.refl _ _).alloc (Nat.le_refl _) _).alloc (by simp) _).alloc (by simp; omega) _)).trans (hb1.mono (by simp; omega))
    obtain ⟨⟨sa, sc, k8, hsa⟩, hsm⟩ := HS.out
    obtain ⟨bs, off, rfl, hbs, hcell⟩ := hsa (by omega)
    have q3 := (hcell j (by omega)).2
    rw [← hb.cell (p := ⟨bs, off + j * 2 + 1, none⟩) hbs] at q3
    have hrw : w1.heap[w.heap.size]? = some (.cells cs 24 (0, 0)) := by rw [hb1.block _ (by simp; omega)]; exact HROW.out _ _
    have e8 : w1.cell? ⟨w.heap.size, 8, none⟩ = some (.slice (some ⟨bs, off, none⟩) A.says.length sc) := by rw [cell_of_row w1 _ 8 cs 24 (0, 0) hrw]; exact k8
    generalize htx : (A.says.getD j (0, ByteArray.empty)).2 = txt at q3
    have HTX := Lib.hid htx
    clear htx
    have q4 : ∀ v, (w1.setCell ⟨w.heap.size + 1, 4, none⟩ v).cell? ⟨bs, off + j * 2 + 1, none⟩ = some (.string txt) := by
      intro v
      rw [World.cell?_setCell_other _ _ _ _ (fun e => by injection e with e; omega)]
      exact q3
    have hwr : IntKind.i64.wrap (j : Int) = (j : Int) := by rw [IntKind.wrap_i64]; omega
    have hwr1 : IntKind.i64.wrap ((j : Int) + 1) = (j : Int) + 1 := by rw [IntKind.wrap_i64]; omega
    have hlt : (j : Int) < (A.says.length : Int) := g3
    clear hb1 hsa hcell hrw
    go_wp2_with fail
    clear HC HSZ HS HROW HSAYS HDUE
    go_region
    all_goals go_wp2_with fail
    refine bodyPost_ret (v := .tuple #[.agg #[.int .i64 p, .int .i64 n, .int .i64 b, .int .i64 td, .int .i64 ((j : Int) + 1), .bool rd], .string txt]) (do_results _ (w.heap.size + 1 + 1) _ _ _ _ _ _ _ _ (RunAt.drew (RunAt.set (RunAt.other ⟨d0, d1, d2, d3, d4, d5, fd⟩ (w.heap.size + 1) 4 _ (by omega)) _ _ _ _ _ _)) rfl rfl) rfl ⟨by rw [HTX.out], ?_⟩
    refine Below.drew ?_
    iterate 6 refine Below.setCell ?_ (by simp; omega) _
    refine Below.setCell ?_ (by simp) _
    exact hb
  · have hdo : doP A ⟨p, n, b, td, sd, rd⟩ = (⟨p, n, b, td, sd, true⟩, ByteArray.empty) := by rw [HD.out]; simp
    rw [hdo]
    clear hdo HD H1
    go_enter Try.func14, Try.ntmps14
    go_wp2_with (first | (refine wpList_load_row rfl 24 _ rfl w.heap.size rfl 24 cs (0, 0) _ (HROW.out _ _) Try.underlying24 rfl (by rw [HSZ.out]; exact sizeAct) ?_) | (go_at_call 12; fail))
    refine (HDUE.out _ (HSAYS.out _ _ _)).mono ?_
    rintro e w1 ⟨rfl, hb1⟩
    obtain ⟨c0, c1, c2, c3, c4, c5, fr⟩ : RunAt w1 (w.heap.size + 1) p n b td sd rd := RunAt.of_row (by rw [hb1.block _ (by simp), Below.heap_alloc _ _ _ (by simp)]; simpa using heap_alloc_new (w.alloc _) _)
    have RD : RunAt w1 (w.heap.size + 1 + 1) 0 0 0 0 0 false := RunAt.of_row (by rw [hb1.block _ (by simp)]; simpa using heap_alloc_new ((w.alloc _).alloc _) _)
    obtain ⟨d0, d1, d2, d3, d4, d5, fd⟩ := RD
    have hb : Below w.heap.size w w1 := (((((Below.refl _ _).alloc (Nat.le_refl _) _).alloc (by simp) _).alloc (by simp; omega) _)).trans (hb1.mono (by simp; omega))
    clear hb1
    go_wp2_with fail
    refine bodyPost_ret (v := .tuple #[.agg #[.int .i64 p, .int .i64 n, .int .i64 b, .int .i64 td, .int .i64 sd, .bool true], .string ByteArray.empty]) (do_results _ (w.heap.size + 1 + 1) _ _ _ _ _ _ _ _ (RunAt.set (RunAt.other ⟨d0, d1, d2, d3, d4, d5, fd⟩ (w.heap.size + 1) 5 _ (by omega)) _ _ _ _ _ _) rfl rfl) rfl ⟨rfl, ?_⟩
    iterate 6 refine Below.setCell ?_ (by simp; omega) _
    try refine Below.setCell ?_ (by simp) _
    exact hb
  · have hdo : doP A ⟨p, n, b, td, sd, rd⟩ = (zeroP, ByteArray.empty) := by rw [HD.out]; simp
    rw [hdo]
    unfold zeroP
    clear hdo HD H1
    go_enter Try.func14, Try.ntmps14
    go_wp2_with (first | (refine wpList_load_row rfl 24 _ rfl w.heap.size rfl 24 cs (0, 0) _ (HROW.out _ _) Try.underlying24 rfl (by rw [HSZ.out]; exact sizeAct) ?_) | (go_at_call 12; fail))
    refine (HDUE.out _ (HSAYS.out _ _ _)).mono ?_
    rintro e w1 ⟨rfl, hb1⟩
    obtain ⟨c0, c1, c2, c3, c4, c5, fr⟩ : RunAt w1 (w.heap.size + 1) p n b td sd rd := RunAt.of_row (by rw [hb1.block _ (by simp), Below.heap_alloc _ _ _ (by simp)]; simpa using heap_alloc_new (w.alloc _) _)
    have RD : RunAt w1 (w.heap.size + 1 + 1) 0 0 0 0 0 false := RunAt.of_row (by rw [hb1.block _ (by simp)]; simpa using heap_alloc_new ((w.alloc _).alloc _) _)
    obtain ⟨d0, d1, d2, d3, d4, d5, fd⟩ := RD
    have hb : Below w.heap.size w w1 := (((((Below.refl _ _).alloc (Nat.le_refl _) _).alloc (by simp) _).alloc (by simp; omega) _)).trans (hb1.mono (by simp; omega))
    clear hb1
    go_wp2_with fail
    refine bodyPost_ret (v := .tuple #[.agg #[.int .i64 0, .int .i64 0, .int .i64 0, .int .i64 0, .int .i64 0, .bool false], .string ByteArray.empty]) (do_results _ (w.heap.size + 1 + 1) _ _ _ _ _ _ _ _ (RunAt.set ⟨d0, d1, d2, d3, d4, d5, fd⟩ _ _ _ _ _ _) rfl rfl) rfl ⟨rfl, ?_⟩
    iterate 6 refine Below.setCell ?_ (by simp; omega) _
    try refine Below.setCell ?_ (by simp) _
    exact hb

end Go.Proofs.Ytohgnmpmledljaa
