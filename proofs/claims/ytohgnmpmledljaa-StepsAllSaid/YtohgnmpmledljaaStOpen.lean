/-
  A world, a unit, commands that came in.
-/
import Derived.Test.YtohgnmpmledljaaStMayW
import Derived.Test.YtohgnmpmledljaaStCourse
import Derived.Test.YtohgnmpmledljaaFrame
import Derived.Test.YtohgnmpmledljaaAppend
import Derived.Deep.SlicePairs
namespace Go.Proofs.Ytohgnmpmledljaa
open Go.ChangeShapes Go.WideShapes Go.ChangeAt Go.RowKit

section
variable {H : Type} {enc : TypeId × Value → H} {w : World} {base b0 : Nat} {spare : Nat → Bool} {held : Bool} {r : Reach}

/-- texts in memory, from the slice's one cell -/
theorem says_of {m : Nat} {c : Value} {x : DataW H × List MemPlace} (h : DataW.trod enc Try.prog w base spare held m 22 [c] = some x) :
    ∃ (sa : Option Addr) (sc : Nat) (l : List (Int × ByteArray)), c = .slice sa l.length sc ∧ (sa = none → l.length = 0 ∧ sc = 0) ∧ (∀ j, (l.getD j (0, ByteArray.empty)).2.size ≤ 9223372036854775807) ∧
      ∀ cs : Array Value, cs[8]? = some c → SaysIn w w.heap.size cs l := by
  rcases Go.Deep.open_slice_pairs Try.underlying22 Try.underlying37 (by kernel_rfl) rfl rfl (by kernel_rfl) (by kernel_rfl) h with ⟨hq, -⟩ | ⟨a, len, cap, m', n', V0, V1, D0, D1, P0, P1, hq, hba, hl, hm, hmm, -, hx⟩
  · injection hq with hq
    subst hq
    refine ⟨none, 0, [], rfl, fun _ => ⟨rfl, rfl⟩, fun j => by simp [ByteArray.empty, ByteArray.emptyWithCapacity, ByteArray.size]; exact Nat.zero_le _, fun cs hc => ⟨⟨none, 0, hc, fun h => absurd h (Nat.lt_irrefl _)⟩, by simp⟩⟩
  · injection hq with hq
    subst hq
    have hlm : len ≤ m' := by rw [hmm]; split <;> omega
    have hel : ∀ i, i < len → ∃ (x : Int) (s : ByteArray), V0 i = .int .i64 x ∧ V1 i = .string s ∧ s.size ≤ 9223372036854775807 := by
      intro i hi
      obtain ⟨-, -, g0, g1⟩ := hx i (by omega)
      obtain ⟨x, hx0, -, -⟩ := DataW.trod_int Try.underlying3 g0
      obtain ⟨s, hs0, -, hsb⟩ := DataW.trod_string Try.underlying9 g1
      injection hx0 with hx0
      injection hs0 with hs0
      exact ⟨x, s, hx0, hs0, Nat.le_trans hsb (by decide)⟩
    have hget : ∀ j, j < len → ((List.range len).map fun i => (intOf (V0 i), strOf (V1 i))).getD j (0, ByteArray.empty) = (intOf (V0 j), strOf (V1 j)) := by
      intro j hj
      simp [List.getD, hj]
    refine ⟨some a, cap, (List.range len).map fun i => (intOf (V0 i), strOf (V1 i)), by simp, fun h => by simp at h, fun j => ?_, fun cs hc => ⟨⟨some a, cap, by simpa using hc, fun h => ?_⟩, ?_⟩⟩
    · by_cases hj : j < len
      · obtain ⟨x, s, hv0, hv1, hs⟩ := hel j hj
        rw [hget j hj, hv1]
        exact hs
      · have : ((List.range len).map fun i => (intOf (V0 i), strOf (V1 i))).getD j (0, ByteArray.empty) = (0, ByteArray.empty) := by simp [List.getD, hj]
        rw [this]
        simp [ByteArray.empty, ByteArray.emptyWithCapacity, ByteArray.size]; exact Nat.zero_le _
    · simp at h
      have hc := (hx 0 (by omega)).1
      have hspot : a.spot = none := by simpa [Addr.add] using World.cell?_spot hc
      have hlt := cell_lt hc
      obtain ⟨b, off, sp⟩ := a
      simp at hspot
      subst hspot
      refine ⟨b, off, rfl, by simpa [Addr.add] using hlt, fun j hj => ?_⟩
      have hj' : j < len := by simpa using hj
      obtain ⟨x, s, hv0, hv1, -⟩ := hel j hj'
      have g := hx j (by omega)
      rw [hget j hj', hv0, hv1]
      rw [hv0, hv1] at g
      exact ⟨by simpa [add_plain, intOf, strOf] using g.1, by simpa [add_plain, Nat.add_assoc, intOf, strOf] using g.2.1⟩
    · simp
      exact Nat.le_trans (Nat.le_trans hl hm) (by decide)

theorem field_one {α : Type} (l : List α) (i : Nat) (x : α) (h : l[i]? = some x) : (l.drop i).take 1 = [x] := by
  obtain ⟨hi, e⟩ := List.getElem?_eq_some_iff.1 h
  rw [List.drop_eq_getElem_cons hi, e]
  rfl

/-- an act, from its nine cells -/
theorem act_of {m : Nat} {cs : List Value} {x : DataW H × List MemPlace} (hlen : cs.length = 9) (h : DataW.trod enc Try.prog w base spare held m 24 cs = some x) :
    ∃ r : ActR, cs = r.row.toList ∧ SaysIn w w.heap.size r.row r.A.says ∧ (r.sa = none → r.A.says.length = 0 ∧ r.sc = 0) ∧ r.u.size ≤ 9223372036854775807 ∧ ∀ j, (r.A.says.getD j (0, ByteArray.empty)).2.size ≤ 9223372036854775807 := by
  obtain ⟨xs, n, -, -, -, hxl, hf⟩ := DataW.trod_struct Try.underlying24 h
  match cs, hlen with
  | [q0, q1, q2, q3, q4, q5, q6, q7, q8], _ =>
    have f0 := hf 0 _ rfl
    have f1 := hf 1 _ rfl
    have f2 := hf 2 _ rfl
    have f3 := hf 3 _ rfl
    have f4 := hf 4 _ rfl
    have f5 := hf 5 _ rfl
    have f6 := hf 6 _ rfl
    have f7 := hf 7 _ rfl
    have f8 := hf 8 _ rfl
    have hget : ∀ i, i < 9 → ∃ y, xs[i]? = some y := fun i hi => ⟨_, List.getElem?_eq_getElem (by rw [hxl]; exact hi)⟩
    obtain ⟨y0, e0⟩ := hget 0 (by omega)
    obtain ⟨y1, e1⟩ := hget 1 (by omega)
    obtain ⟨y2, e2⟩ := hget 2 (by omega)
    obtain ⟨y3, e3⟩ := hget 3 (by omega)
    obtain ⟨y4, e4⟩ := hget 4 (by omega)
    obtain ⟨y5, e5⟩ := hget 5 (by omega)
    obtain ⟨y6, e6⟩ := hget 6 (by omega)
    obtain ⟨y7, e7⟩ := hget 7 (by omega)
    obtain ⟨y8, e8⟩ := hget 8 (by omega)
    rw [e0] at f0
    rw [e1] at f1
    rw [e2] at f2
    rw [e3] at f3
    rw [e4] at f4
    rw [e5] at f5
    rw [e6] at f6
    rw [e7] at f7
    rw [e8] at f8
    have g0 : DataW.trod enc Try.prog w base spare held n 9 [q0] = some y0 := f0
    have g1 : DataW.trod enc Try.prog w base spare held n 3 [q1] = some y1 := f1
    have g2 : DataW.trod enc Try.prog w base spare held n 3 [q2] = some y2 := f2
    have g3 : DataW.trod enc Try.prog w base spare held n 3 [q3] = some y3 := f3
    have g4 : DataW.trod enc Try.prog w base spare held n 3 [q4] = some y4 := f4
    have g5 : DataW.trod enc Try.prog w base spare held n 3 [q5] = some y5 := f5
    have g6 : DataW.trod enc Try.prog w base spare held n 3 [q6] = some y6 := f6
    have g7 : DataW.trod enc Try.prog w base spare held n 3 [q7] = some y7 := f7
    have g8 : DataW.trod enc Try.prog w base spare held n 22 [q8] = some y8 := f8
    obtain ⟨u, hu, -, hus⟩ := DataW.trod_string Try.underlying9 g0
    obtain ⟨i1, h1, -, -⟩ := DataW.trod_int Try.underlying3 g1
    obtain ⟨i2, h2, -, -⟩ := DataW.trod_int Try.underlying3 g2
    obtain ⟨i3, h3, -, -⟩ := DataW.trod_int Try.underlying3 g3
    obtain ⟨i4, h4, -, -⟩ := DataW.trod_int Try.underlying3 g4
    obtain ⟨i5, h5, -, -⟩ := DataW.trod_int Try.underlying3 g5
    obtain ⟨i6, h6, -, -⟩ := DataW.trod_int Try.underlying3 g6
    obtain ⟨i7, h7, -, -⟩ := DataW.trod_int Try.underlying3 g7
    obtain ⟨sa, sc, l, h8, hnil, htx, hsays⟩ := says_of g8
    injection hu with hu
    injection h1 with h1
    injection h2 with h2
    injection h3 with h3
    injection h4 with h4
    injection h5 with h5
    injection h6 with h6
    injection h7 with h7
    subst hu h1 h2 h3 h4 h5 h6 h7 h8
    exact ⟨⟨u, i1, i2, i3, ⟨i4, i5, i6, i7, l⟩, sa, sc⟩, rfl, hsays _ rfl, hnil, Nat.le_trans hus (by decide), htx⟩

instance : Inhabited ActR := ⟨⟨ByteArray.empty, 0, 0, 0, ⟨0, 0, 0, 0, []⟩, none, 0⟩⟩

theorem acts_of {m : Nat} {c : Value} {x : DataW H × List MemPlace} (h : DataW.trod enc Try.prog w base spare held m 40 [c] = some x) :
    ∃ (aa : Option Addr) (na ca : Nat) (l : List ActR), c = .slice aa na ca ∧ ActsIn w w.heap.size aa na l ∧ na ≤ ca ∧ ca ≤ 9223372036854775807 ∧
      ∀ r : ActR, r ∈ l → r.u.size ≤ 9223372036854775807 ∧ ∀ j, (r.A.says.getD j (0, ByteArray.empty)).2.size ≤ 9223372036854775807 := by
  have hc9 : Try.prog.cellsOf 24 = 9 := by kernel_rfl
  rcases Go.Deep.open_slice Try.underlying40 h with ⟨hq, -⟩ | ⟨a, len, cap, m', n', D, Pl, hq, hba, hl, hm, hmm, -, hx⟩
  · injection hq with hq
    subst hq
    exact ⟨none, 0, 0, [], rfl, ⟨rfl, fun h => absurd h (Nat.lt_irrefl _)⟩, Nat.le_refl _, by decide, fun r hr => by simp at hr⟩
  · injection hq with hq
    subst hq
    have hlm : len ≤ m' := by rw [hmm]; split <;> omega
    have each : ∀ i, i < len → ∃ r : ActR, (∀ j v, r.row[j]? = some v → w.cell? (a.add (i * 9 + j)) = some v) ∧ SaysIn w w.heap.size r.row r.A.says ∧ (r.sa = none → r.A.says.length = 0 ∧ r.sc = 0) ∧ r.u.size ≤ 9223372036854775807 ∧ ∀ j, (r.A.says.getD j (0, ByteArray.empty)).2.size ≤ 9223372036854775807 := by
      intro i hi
      obtain ⟨cs', h1, h2⟩ := hx i (by omega)
      rw [hc9] at h1
      obtain ⟨-, hlen, hcell⟩ := World.cells?_some h1
      obtain ⟨r, hr, h3, h4, h5, h6⟩ := act_of hlen h2
      refine ⟨r, fun j v hv => ?_, h3, h4, h5, h6⟩
      have hj : j < 9 := by have := (Array.getElem?_eq_some_iff.1 hv).1; simpa [ActR.row, actRow] using this
      have := hcell j hj
      rw [add_of_add] at this
      rw [this, hr]
      simpa using hv
    obtain ⟨f, hf⟩ := Go.Deep.choose_lt each
    have hspot : 0 < len → a.spot = none ∧ a.block < w.heap.size := fun h0 => by
      have hc := (hf 0 h0).1 0 _ rfl
      have h1 : a.spot = none := by simpa [Addr.add] using World.cell?_spot hc
      have h2 := cell_lt hc
      exact ⟨h1, by simpa [Addr.add] using h2⟩
    refine ⟨some a, len, cap, (List.range len).map f, rfl, ⟨by simp, fun h0 => ?_⟩, hl, Nat.le_trans hm (by decide), fun r hr => ?_⟩
    · obtain ⟨h1, h2⟩ := hspot h0
      obtain ⟨b, off, sp⟩ := a
      simp at h1 h2
      subst h1
      refine ⟨b, off, rfl, h2, fun i r hr => ?_⟩
      have hi : i < len := by have := (List.getElem?_eq_some_iff.1 hr).1; simpa using this
      have hri : r = f i := by
        rw [List.getElem?_map, List.getElem?_range hi] at hr
        simpa using hr.symm
      subst hri
      obtain ⟨g1, g2, g3, -, -⟩ := hf i hi
      refine ⟨fun j v hv => ?_, g2, g3⟩
      have := g1 j v hv
      rw [add_plain] at this
      rw [← this]
      congr 2
      omega
    · obtain ⟨i, hi, rfl⟩ := List.mem_map.1 hr
      have := hf i (by simpa using hi)
      exact ⟨this.2.2.2.1, this.2.2.2.2⟩

set_option maxRecDepth 100000 in
theorem calls_of {m : Nat} {c : Value} {x : DataW H × List MemPlace} (h : DataW.trod enc Try.prog w base spare held m 41 [c] = some x) :
    ∃ (aa : Option Addr) (na ca : Nat), c = .slice aa na ca ∧ CallsIn w w.heap.size aa na ∧ na ≤ 9223372036854775807 := by
  have hc3 : Try.prog.cellsOf 75 = 3 := by kernel_rfl
  rcases Go.Deep.open_slice Try.underlying41 h with ⟨hq, -⟩ | ⟨a, len, cap, m', n', D, Pl, hq, hba, hl, hm, hmm, -, hx⟩
  · injection hq with hq
    subst hq
    exact ⟨none, 0, 0, rfl, ⟨fun h => absurd h (Nat.lt_irrefl _)⟩, Nat.zero_le _⟩
  · injection hq with hq
    subst hq
    have hlm : len ≤ m' := by rw [hmm]; split <;> omega
    have each : ∀ i, i < len → ∃ (x : Int) (y : Int) (z : Int), w.cell? (a.add (i * 3)) = some (.int .i64 x) ∧ w.cell? (a.add (i * 3 + 1)) = some (.int .i64 y) ∧ w.cell? (a.add (i * 3 + 2)) = some (.int .i64 z) := by
      intro i hi
      obtain ⟨cs', h1, h2⟩ := hx i (by omega)
      rw [hc3] at h1
      obtain ⟨-, hlen, hcell⟩ := World.cells?_some h1
      obtain ⟨xs, n, -, -, -, hxl, hf⟩ := DataW.trod_struct Try.underlying75 h2
      match cs', hlen with
      | [q0, q1, q2], _ =>
      have f0 := hf 0 _ rfl
      have f1 := hf 1 _ rfl
      have f2 := hf 2 _ rfl
      have hget : ∀ i, i < 3 → ∃ y, xs[i]? = some y := fun i hi => ⟨_, List.getElem?_eq_getElem (by rw [hxl]; exact hi)⟩
      obtain ⟨y0, k0⟩ := hget 0 (by omega)
      obtain ⟨y1, k1⟩ := hget 1 (by omega)
      obtain ⟨y2, k2⟩ := hget 2 (by omega)
      rw [k0] at f0
      rw [k1] at f1
      rw [k2] at f2
      have g0 : DataW.trod enc Try.prog w base spare held n 3 [q0] = some y0 := f0
      have g1 : DataW.trod enc Try.prog w base spare held n 3 [q1] = some y1 := f1
      have g2 : DataW.trod enc Try.prog w base spare held n 3 [q2] = some y2 := f2
      obtain ⟨x, e0, -, -⟩ := DataW.trod_int Try.underlying3 g0
      obtain ⟨y, e1, -, -⟩ := DataW.trod_int Try.underlying3 g1
      obtain ⟨z, e2, -, -⟩ := DataW.trod_int Try.underlying3 g2
      injection e0 with e0
      injection e1 with e1
      injection e2 with e2
      have c0 := hcell 0 (by omega)
      have c1 := hcell 1 (by omega)
      have c2 := hcell 2 (by omega)
      rw [add_of_add] at c0 c1 c2
      refine ⟨x, y, z, ?_, ?_, ?_⟩
      · rw [← e0]; exact c0
      · rw [← e1]; exact c1
      · rw [← e2]; exact c2
    refine ⟨some a, len, cap, rfl, ⟨fun h0 => ?_⟩, Nat.le_trans (Nat.le_trans hl hm) (show maxLen ≤ 9223372036854775807 by decide)⟩
    obtain ⟨x0, y0, z0, c0, -⟩ := each 0 h0
    have h1 : a.spot = none := by simpa [Addr.add] using World.cell?_spot c0
    have h2 : a.block < w.heap.size := by simpa [Addr.add] using cell_lt c0
    obtain ⟨b, off, sp⟩ := a
    simp at h1 h2
    subst h1
    refine ⟨b, off, rfl, h2, fun i hi => ?_⟩
    obtain ⟨x, y, z, c0, c1, c2⟩ := each i hi
    rw [add_plain] at c0 c1 c2
    exact ⟨x, y, z, c0, by rw [Nat.add_assoc]; exact c1, by rw [Nat.add_assoc]; exact c2⟩

set_option maxRecDepth 100000 in
theorem asks_of {m : Nat} {c : Value} {x : DataW H × List MemPlace} (h : DataW.trod enc Try.prog w base spare held m 42 [c] = some x) :
    ∃ (aa : Option Addr) (na ca : Nat), c = .slice aa na ca ∧ AsksIn w w.heap.size aa na ∧ na ≤ 9223372036854775807 := by
  have hc3 : Try.prog.cellsOf 77 = 3 := by kernel_rfl
  rcases Go.Deep.open_slice Try.underlying42 h with ⟨hq, -⟩ | ⟨a, len, cap, m', n', D, Pl, hq, hba, hl, hm, hmm, -, hx⟩
  · injection hq with hq
    subst hq
    exact ⟨none, 0, 0, rfl, ⟨fun h => absurd h (Nat.lt_irrefl _)⟩, Nat.zero_le _⟩
  · injection hq with hq
    subst hq
    have hlm : len ≤ m' := by rw [hmm]; split <;> omega
    have each : ∀ i, i < len → ∃ (x : Int) (y : ByteArray) (z : Int), w.cell? (a.add (i * 3)) = some (.int .i64 x) ∧ w.cell? (a.add (i * 3 + 1)) = some (.string y) ∧ w.cell? (a.add (i * 3 + 2)) = some (.int .i64 z) ∧ y.size ≤ 9223372036854775807 := by
      intro i hi
      obtain ⟨cs', h1, h2⟩ := hx i (by omega)
      rw [hc3] at h1
      obtain ⟨-, hlen, hcell⟩ := World.cells?_some h1
      obtain ⟨xs, n, -, -, -, hxl, hf⟩ := DataW.trod_struct Try.underlying77 h2
      match cs', hlen with
      | [q0, q1, q2], _ =>
      have f0 := hf 0 _ rfl
      have f1 := hf 1 _ rfl
      have f2 := hf 2 _ rfl
      have hget : ∀ i, i < 3 → ∃ y, xs[i]? = some y := fun i hi => ⟨_, List.getElem?_eq_getElem (by rw [hxl]; exact hi)⟩
      obtain ⟨y0, k0⟩ := hget 0 (by omega)
      obtain ⟨y1, k1⟩ := hget 1 (by omega)
      obtain ⟨y2, k2⟩ := hget 2 (by omega)
      rw [k0] at f0
      rw [k1] at f1
      rw [k2] at f2
      have g0 : DataW.trod enc Try.prog w base spare held n 3 [q0] = some y0 := f0
      have g1 : DataW.trod enc Try.prog w base spare held n 9 [q1] = some y1 := f1
      have g2 : DataW.trod enc Try.prog w base spare held n 3 [q2] = some y2 := f2
      obtain ⟨x, e0, -, -⟩ := DataW.trod_int Try.underlying3 g0
      obtain ⟨y, e1, -, hb1⟩ := DataW.trod_string Try.underlying9 g1
      obtain ⟨z, e2, -, -⟩ := DataW.trod_int Try.underlying3 g2
      injection e0 with e0
      injection e1 with e1
      injection e2 with e2
      have c0 := hcell 0 (by omega)
      have c1 := hcell 1 (by omega)
      have c2 := hcell 2 (by omega)
      rw [add_of_add] at c0 c1 c2
      refine ⟨x, y, z, ?_, ?_, ?_, Nat.le_trans hb1 (by decide)⟩
      · rw [← e0]; exact c0
      · rw [← e1]; exact c1
      · rw [← e2]; exact c2
    refine ⟨some a, len, cap, rfl, ⟨fun h0 => ?_⟩, Nat.le_trans (Nat.le_trans hl hm) (show maxLen ≤ 9223372036854775807 by decide)⟩
    obtain ⟨x0, y0, z0, c0, -⟩ := each 0 h0
    have h1 : a.spot = none := by simpa [Addr.add] using World.cell?_spot c0
    have h2 : a.block < w.heap.size := by simpa [Addr.add] using cell_lt c0
    obtain ⟨b, off, sp⟩ := a
    simp at h1 h2
    subst h1
    refine ⟨b, off, rfl, h2, fun i hi => ?_⟩
    obtain ⟨x, y, z, c0, c1, c2, h3⟩ := each i hi
    rw [add_plain] at c0 c1 c2
    exact ⟨x, y, z, c0, by rw [Nat.add_assoc]; exact c1, by rw [Nat.add_assoc]; exact c2, h3⟩

theorem execs_of {m : Nat} {c : Value} {x : DataW H × List MemPlace} (h : DataW.trod enc Try.prog w base spare held m 46 [c] = some x) :
    ∃ (la : Option Addr) (ln lc : Nat) (ds : List (Bool × Option Addr × Nat × Nat)), c = .slice la ln lc ∧ ExecsIn w w.heap.size la ln ds ∧ ln ≤ 9223372036854775807 := by
  rcases Go.Deep.open_slice_pairs Try.underlying46 Try.underlying53 (by kernel_rfl) rfl rfl (by kernel_rfl) (by kernel_rfl) h with ⟨hq, -⟩ | ⟨a, len, cap, m', n', V0, V1, D0, D1, P0, P1, hq, hba, hl, hm, hmm, -, hx⟩
  · injection hq with hq
    subst hq
    exact ⟨none, 0, 0, [], rfl, ⟨rfl, fun h => absurd h (Nat.lt_irrefl _)⟩, Nat.zero_le _⟩
  · injection hq with hq
    subst hq
    have hlm : len ≤ m' := by rw [hmm]; split <;> omega
    have each : ∀ i, i < len → ∃ d : Bool × Option Addr × Nat × Nat, w.cell? (a.add (i * 2)) = some (.bool d.1) ∧ w.cell? (a.add (i * 2 + 1)) = some (.slice d.2.1 d.2.2.1 d.2.2.2) := by
      intro i hi
      obtain ⟨c0, c1, g0, g1⟩ := hx i (by omega)
      obtain ⟨b, e0, -⟩ := DataW.trod_bool Try.underlying4 g0
      injection e0 with e0
      rcases Go.Deep.open_slice Try.underlying49 g1 with ⟨e1, -⟩ | ⟨a1, l1, k1, -, -, -, -, e1, -⟩
      · injection e1 with e1
        exact ⟨(b, none, 0, 0), by rw [← e0]; exact c0, by rw [← e1]; exact c1⟩
      · injection e1 with e1
        exact ⟨(b, some a1, l1, k1), by rw [← e0]; exact c0, by rw [← e1]; exact c1⟩
    obtain ⟨f, hf⟩ := Go.Deep.choose_lt each
    refine ⟨some a, len, cap, (List.range len).map f, rfl, ⟨by simp, fun h0 => ?_⟩, Nat.le_trans (Nat.le_trans hl hm) (by decide)⟩
    have c0 := (hf 0 h0).1
    have h1 : a.spot = none := by simpa [Addr.add] using World.cell?_spot c0
    have h2 : a.block < w.heap.size := by simpa [Addr.add] using cell_lt c0
    obtain ⟨b, off, sp⟩ := a
    simp at h1 h2
    subst h1
    refine ⟨b, off, rfl, h2, fun i d hd => ?_⟩
    have hi : i < len := by have := (List.getElem?_eq_some_iff.1 hd).1; simpa using this
    have hri : d = f i := by
      rw [List.getElem?_map, List.getElem?_range hi] at hd
      simpa using hd.symm
    subst hri
    obtain ⟨g1, g2⟩ := hf i hi
    rw [add_plain] at g1 g2
    exact ⟨g1, by rw [Nat.add_assoc]; exact g2⟩

theorem worldTypes : Try.prog.cellTypes Try.prog.depth 44 = some [40, 41, 42] := by kernel_rfl

set_option maxRecDepth 100000 in
theorem open_world {v : Value} {d : DataW H} {ps : List MemPlace} (hv : Value.okWide Try.prog w r b0 44 v) (hd : DataW.Trod enc Try.prog w base spare held 44 v d ps) :
    ∃ (aa : Option Addr) (na ca : Nat) (ab : Option Addr) (nb cb : Nat) (ak : Option Addr) (nk ck : Nat) (l : List ActR), v = .agg #[.slice aa na ca, .slice ab nb cb, .slice ak nk ck] ∧ WorldIn w aa na ca ab nb ak nk l := by
  obtain ⟨cs, rfl, hsz, -⟩ := okWide_cells Try.underlying44 worldTypes (by kernel_rfl) hv
  obtain ⟨fuel, hd⟩ := hd
  obtain ⟨xs, n, -, -, -, hxl, hf⟩ := DataW.trod_struct Try.underlying44 hd
  obtain ⟨q⟩ := cs
  match q, hsz with
  | [q0, q1, q2], _ =>
    have f0 := hf 0 _ rfl
    have f1 := hf 1 _ rfl
    have f2 := hf 2 _ rfl
    have hget : ∀ i, i < 3 → ∃ y, xs[i]? = some y := fun i hi => ⟨_, List.getElem?_eq_getElem (by rw [hxl]; exact hi)⟩
    obtain ⟨y0, k0⟩ := hget 0 (by omega)
    obtain ⟨y1, k1⟩ := hget 1 (by omega)
    obtain ⟨y2, k2⟩ := hget 2 (by omega)
    rw [k0] at f0
    rw [k1] at f1
    rw [k2] at f2
    have g0 : DataW.trod enc Try.prog w base spare held n 40 [q0] = some y0 := f0
    have g1 : DataW.trod enc Try.prog w base spare held n 41 [q1] = some y1 := f1
    have g2 : DataW.trod enc Try.prog w base spare held n 42 [q2] = some y2 := f2
    obtain ⟨aa, na, ca, l, rfl, hacts, hcap, hca, hsizes⟩ := acts_of g0
    obtain ⟨ab, nb, cb, rfl, hcalls, hnb⟩ := calls_of g1
    obtain ⟨ak, nk, ck, rfl, hasks, hnk⟩ := asks_of g2
    exact ⟨aa, na, ca, ab, nb, cb, ak, nk, ck, l, rfl, hacts, hcap, hsizes, hcalls, hasks, Nat.le_trans hcap hca, hca, hnb, hnk⟩

theorem open_execs {v : Value} {d : DataW H} {ps : List MemPlace} (hv : Value.okWide Try.prog w r b0 46 v) (hd : DataW.Trod enc Try.prog w base spare held 46 v d ps) :
    ∃ (la : Option Addr) (ln lc : Nat) (ds : List (Bool × Option Addr × Nat × Nat)), v = .slice la ln lc ∧ ExecsIn w w.heap.size la ln ds ∧ ln ≤ 9223372036854775807 := by
  obtain ⟨a0, len, cap, rfl⟩ := okWide_slice Try.underlying46 hv
  obtain ⟨fuel, hd⟩ := hd
  have h : DataW.trod enc Try.prog w base spare held fuel 46 [.slice a0 len cap] = some (d, ps) := by simpa [Value.cells] using hd
  obtain ⟨la, ln, lc, ds, e, h1, h2⟩ := execs_of h
  exact ⟨la, ln, lc, ds, e, h1, h2⟩

end

end Go.Proofs.Ytohgnmpmledljaa
