/-
  Lists of lines that came in.
-/
import Derived.Test.YtcionpepgpfjdaaBlBase
import Derived.Deep.SlicePairs
namespace Go.Proofs.Ytcionpepgpfjdaa
open Go.ChangeShapes Go.WideShapes Go.ChangeAt Go.RowKit

section
variable {H : Type} {enc : TypeId × Value → H} {w : World} {base b0 : Nat} {spare : Nat → Bool} {held : Bool} {r : Reach}

theorem bulk_pos : ∀ d : DataW H, 1 ≤ Rows.uptoBulk d
  | .lit l => by cases l <;> simp [Rows.uptoBulk]
  | .nil => by simp [Rows.uptoBulk]
  | .ptr d => by simp [Rows.uptoBulk]
  | .slice e s => by simp [Rows.uptoBulk]
  | .agg p => by simp [Rows.uptoBulk]
  | .iface t d => by simp [Rows.uptoBulk]
  | .map e => by simp [Rows.uptoBulk]
  | .held h => by simp [Rows.uptoBulk]

theorem bulk_mem {d : DataW H} : ∀ {l : List (DataW H)}, d ∈ l → Rows.uptoBulk d ≤ Rows.uptoBulkAll l
  | [], h => by simp at h
  | x :: xs, h => by
    rw [Rows.uptoBulkAll]
    rcases List.mem_cons.1 h with rfl | h
    · omega
    · have := bulk_mem h
      omega

theorem bulk_len : ∀ l : List (DataW H), l.length ≤ Rows.uptoBulkAll l
  | [] => by simp
  | x :: xs => by
    rw [Rows.uptoBulkAll]
    have := bulk_len xs
    have := bulk_pos x
    simp
    omega

theorem line_of {m : Nat} {cs : List Value} {x : DataW H × List MemPlace} (hlen : cs.length = 4) (h : DataW.trod enc Try.prog w base spare held m 30 cs = some x) : ∃ r : LineM, cs = r.row.toList := by
  obtain ⟨xs, n, -, -, -, hxl, hf⟩ := DataW.trod_struct Try.underlying30 h
  match cs, hlen with
  | [q0, q1, q2, q3], _ =>
    have f0 := hf 0 _ rfl
    have f1 := hf 1 _ rfl
    have f2 := hf 2 _ rfl
    have f3 := hf 3 _ rfl
    have hget : ∀ i, i < 4 → ∃ y, xs[i]? = some y := fun i hi => ⟨_, List.getElem?_eq_getElem (by rw [hxl]; exact hi)⟩
    obtain ⟨y0, e0⟩ := hget 0 (by omega)
    obtain ⟨y1, e1⟩ := hget 1 (by omega)
    obtain ⟨y2, e2⟩ := hget 2 (by omega)
    obtain ⟨y3, e3⟩ := hget 3 (by omega)
    rw [e0] at f0
    rw [e1] at f1
    rw [e2] at f2
    rw [e3] at f3
    have g0 : DataW.trod enc Try.prog w base spare held n 9 [q0] = some y0 := f0
    have g1 : DataW.trod enc Try.prog w base spare held n 9 [q1] = some y1 := f1
    have g2 : DataW.trod enc Try.prog w base spare held n 9 [q2] = some y2 := f2
    have g3 : DataW.trod enc Try.prog w base spare held n 3 [q3] = some y3 := f3
    obtain ⟨s, hs, -, -⟩ := DataW.trod_string Try.underlying9 g0
    obtain ⟨k, hk, -, -⟩ := DataW.trod_string Try.underlying9 g1
    obtain ⟨v, hv, -, -⟩ := DataW.trod_string Try.underlying9 g2
    obtain ⟨i, hi, -, -⟩ := DataW.trod_int Try.underlying3 g3
    injection hs with hs
    injection hk with hk
    injection hv with hv
    injection hi with hi
    subst hs hk hv hi
    exact ⟨⟨s, k, v, i⟩, rfl⟩

instance : Inhabited LineM := ⟨⟨ByteArray.empty, ByteArray.empty, ByteArray.empty, 0⟩⟩

theorem lines_of {m : Nat} {c : Value} {x : DataW H × List MemPlace} (h : DataW.trod enc Try.prog w base spare held m 22 [c] = some x) :
    ∃ (a : Option Addr) (n cap : Nat) (l : List LineM), c = .slice a n cap ∧ RowsIn LineM.row 4 w w.heap.size a n l ∧ n ≤ Rows.uptoBulk x.1 := by
  have hc4 : Try.prog.cellsOf 30 = 4 := by kernel_rfl
  rcases Go.Deep.open_slice Try.underlying22 h with ⟨hq, -⟩ | ⟨a, len, cap, m', n', D, Pl, hq, hba, hl, hm, hmm, hxe, hx⟩
  · injection hq with hq
    subst hq
    exact ⟨none, 0, 0, [], rfl, ⟨rfl, fun h => absurd h (Nat.lt_irrefl _)⟩, Nat.zero_le _⟩
  · injection hq with hq
    subst hq
    have hlm : len ≤ m' := by rw [hmm]; split <;> omega
    have each : ∀ i, i < len → ∃ r : LineM, ∀ j v, r.row[j]? = some v → w.cell? (a.add (i * 4 + j)) = some v := by
      intro i hi
      obtain ⟨cs', h1, h2⟩ := hx i (by omega)
      rw [hc4] at h1
      obtain ⟨-, hlen, hcell⟩ := World.cells?_some h1
      obtain ⟨r, hr⟩ := line_of hlen h2
      refine ⟨r, fun j v hv => ?_⟩
      have hj : j < 4 := by have := (Array.getElem?_eq_some_iff.1 hv).1; simpa [LineM.row] using this
      have := hcell j hj
      rw [add_of_add] at this
      rw [this, hr]
      simpa using hv
    obtain ⟨f, hf⟩ := Go.Deep.choose_lt each
    have hspot : 0 < len → a.spot = none ∧ a.block < w.heap.size := fun h0 => by
      have hc := hf 0 h0 0 _ rfl
      have h1 : a.spot = none := by simpa [Addr.add] using World.cell?_spot hc
      have h2 := cell_lt hc
      exact ⟨h1, by simpa [Addr.add] using h2⟩
    refine ⟨some a, len, cap, (List.range len).map f, rfl, ⟨by simp, fun h0 => ?_⟩, ?_⟩
    · obtain ⟨h1, h2⟩ := hspot h0
      obtain ⟨b, off, sp⟩ := a
      simp at h1 h2
      subst h1
      refine ⟨b, off, rfl, h2, fun i r hr => ?_⟩
      have hi : i < len := by have := (List.getElem?_eq_some_iff.1 hr).1; simpa using this
      have hri : r = f i := by
        rw [List.getElem?_map, List.getElem?_range hi] at hr
        simpa using hr.symm
      subst hri
      intro j v hv
      have := hf i hi j v hv
      rw [add_plain] at this
      rw [Nat.add_assoc]
      exact this
    · rw [hxe]
      have := bulk_len ((List.range len).map D)
      rw [List.length_map, List.length_range] at this
      simp only [Rows.uptoBulk]
      omega

theorem open_lines {v : Value} {d : DataW H} {ps : List MemPlace} (hv : Value.okWide Try.prog w r b0 22 v) (hd : DataW.Trod enc Try.prog w base spare held 22 v d ps) (hk : Rows.uptoBulk d ≤ 1048576) :
    ∃ (a : Option Addr) (n c : Nat) (l : List LineM), v = .slice a n c ∧ RowsIn LineM.row 4 w w.heap.size a n l ∧ n ≤ 1048576 := by
  obtain ⟨a0, len, cap, rfl⟩ := okWide_slice Try.underlying22 hv
  obtain ⟨fuel, hd⟩ := hd
  have h : DataW.trod enc Try.prog w base spare held fuel 22 [.slice a0 len cap] = some (d, ps) := by simpa [Value.cells] using hd
  obtain ⟨a, n, c, l, e, h1, h2⟩ := lines_of h
  exact ⟨a, n, c, l, e, h1, Nat.le_trans h2 hk⟩

end

end Go.Proofs.Ytcionpepgpfjdaa
