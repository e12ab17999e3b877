/-
  How long an act's texts can be where what came in is of small bulk.
-/
import Derived.Test.YtohgnmpmledljaaStOpen
namespace Go.Proofs.Ytohgnmpmledljaa
open Go.ChangeShapes Go.WideShapes Go.ChangeAt Go.RowKit

section
variable {H : Type} {enc : TypeId × Value → H} {w : World} {base b0 : Nat} {spare : Nat → Bool} {held : Bool} {r : Reach}

theorem bulk_pos : ∀ d : DataW H, 1 ≤ Rows.uptoBulk d
  | .lit l => by cases l <;> simp [Rows.uptoBulk]
  | .nil => by simp [Rows.uptoBulk]
  | .ptr d => by simp [Rows.uptoBulk]
  | .slice e s => by simp [Rows.uptoBulk]
  | .agg p => by simp [Rows.uptoBulk]
  | .iface t d => by simp [Rows.uptoBulk]
  | .map e => by simp [Rows.uptoBulk]
  | .held h => by simp [Rows.uptoBulk]

theorem bulk_mem {d : DataW H} : ∀ {l : List (DataW H)}, d ∈ l → Rows.uptoBulk d ≤ Rows.uptoBulkAll l
  | [], h => by simp at h
  | x :: xs, h => by
    rw [Rows.uptoBulkAll]
    rcases List.mem_cons.1 h with rfl | h
    · omega
    · have := bulk_mem h
      omega

theorem bulk_len : ∀ l : List (DataW H), l.length ≤ Rows.uptoBulkAll l
  | [] => by simp
  | x :: xs => by
    rw [Rows.uptoBulkAll]
    have := bulk_len xs
    have := bulk_pos x
    simp
    omega

theorem bulk_says {m : Nat} {c : Value} {x : DataW H × List MemPlace} {sa : Option Addr} {n sc : Nat} (h : DataW.trod enc Try.prog w base spare held m 22 [c] = some x) (hc : c = .slice sa n sc) : n ≤ Rows.uptoBulk x.1 := by
  rcases Go.Deep.open_slice Try.underlying22 h with ⟨hq, rfl⟩ | ⟨a, len, cap, m', n', D, Pl, hq, hba, hl, hm, hmm, rfl, hx⟩
  · injection hq with hq
    rw [hc] at hq
    injection hq with _ h2 _
    subst h2
    exact Nat.zero_le _
  · injection hq with hq
    rw [hc] at hq
    injection hq with _ h2 _
    subst h2
    have := bulk_len ((List.range n).map D)
    rw [List.length_map, List.length_range] at this
    simp only [Rows.uptoBulk]
    omega

theorem bulk_act {m : Nat} {cs : List Value} {x : DataW H × List MemPlace} {sa : Option Addr} {n sc : Nat} (h : DataW.trod enc Try.prog w base spare held m 24 cs = some x) (hc : cs[8]? = some (.slice sa n sc)) (hlen : cs.length = 9) : n ≤ Rows.uptoBulk x.1 := by
  obtain ⟨xs, k, -, rfl, -, hxl, hf⟩ := DataW.trod_struct Try.underlying24 h
  match cs, hlen with
  | [q0, q1, q2, q3, q4, q5, q6, q7, q8], _ =>
    have f8 := hf 8 _ rfl
    obtain ⟨y8, e8⟩ : ∃ y, xs[8]? = some y := ⟨_, List.getElem?_eq_getElem (by rw [hxl]; decide)⟩
    rw [e8] at f8
    have g8 : DataW.trod enc Try.prog w base spare held k 22 [q8] = some y8 := f8
    have h1 := bulk_says g8 (by simpa using hc)
    have h2 : y8.1 ∈ xs.map (·.1) := List.mem_map.2 ⟨y8, List.mem_of_getElem? e8, rfl⟩
    have h3 := bulk_mem h2
    simp only [Rows.uptoBulk]
    omega

theorem bulk_acts {m : Nat} {c : Value} {x : DataW H × List MemPlace} {b off na ca : Nat} (h : DataW.trod enc Try.prog w base spare held m 40 [c] = some x) (hc : c = .slice (some ⟨b, off, none⟩) na ca)
    (i : Nat) (hi : i < na) (sa : Option Addr) (n sc : Nat) (hs : w.cell? ⟨b, off + i * 9 + 8, none⟩ = some (.slice sa n sc)) : n ≤ Rows.uptoBulk x.1 := by
  have hc9 : Try.prog.cellsOf 24 = 9 := by kernel_rfl
  rcases Go.Deep.open_slice Try.underlying40 h with ⟨hq, -⟩ | ⟨a, len, cap, m', n', D, Pl, hq, hba, hl, hm, hmm, rfl, hx⟩
  · injection hq with hq
    rw [hc] at hq
    cases hq
  · injection hq with hq
    rw [hc] at hq
    injection hq with h1 h2 _
    injection h1 with h1
    subst h1 h2
    have hlm : na ≤ m' := by rw [hmm]; split <;> omega
    obtain ⟨cs', h1, h2⟩ := hx i (by omega)
    rw [hc9] at h1
    obtain ⟨-, hlen, hcell⟩ := World.cells?_some h1
    have c8 := hcell 8 (by omega)
    rw [add_of_add, add_plain, ← Nat.add_assoc] at c8
    have h8 : cs'[8]? = some (.slice sa n sc) := by
      rw [hs] at c8
      simpa using c8.symm
    have h3 := bulk_act h2 h8 hlen
    have h4 : D i ∈ (List.range na).map D := List.mem_map.2 ⟨i, List.mem_range.2 hi, rfl⟩
    have h5 := bulk_mem h4
    simp only [Rows.uptoBulk]
    simp only at h3
    omega

theorem bulk_world {v : Value} {d : DataW H} {ps : List MemPlace} {aa : Option Addr} {na ca : Nat} {x1 x2 : Value} {l : List ActR} (hd : DataW.Trod enc Try.prog w base spare held 44 v d ps)
    (hv : v = .agg #[.slice aa na ca, x1, x2]) (hl : ActsIn w w.heap.size aa na l) (hk : Rows.uptoBulk d ≤ 1048576) : Light l := by
  intro r hr
  obtain ⟨i, hi, rfl⟩ := List.getElem_of_mem hr
  have hin : i < na := by rw [← hl.len]; exact hi
  obtain ⟨b, off, rfl, hb, hc⟩ := hl.at_ (by omega)
  obtain ⟨hcell, -, -⟩ := hc i _ (List.getElem?_eq_getElem hi)
  have c8 := hcell 8 _ rfl
  obtain ⟨fuel, hd⟩ := hd
  subst hv
  obtain ⟨xs, k, -, hx, -, hxl, hf⟩ := DataW.trod_struct Try.underlying44 hd
  injection hx with hx
  subst hx
  have f0 := hf 0 _ rfl
  obtain ⟨y0, e0⟩ : ∃ y, xs[0]? = some y := ⟨_, List.getElem?_eq_getElem (by rw [hxl]; decide)⟩
  rw [e0] at f0
  have g0 : DataW.trod enc Try.prog w base spare held k 40 [.slice (some ⟨b, off, none⟩) na ca] = some y0 := by
    rw [← f0]
    simp [Value.cells]
    rfl
  have h3 := bulk_acts g0 rfl i hin _ _ _ c8
  have h4 : y0.1 ∈ xs.map (·.1) := List.mem_map.2 ⟨y0, List.mem_of_getElem? e0, rfl⟩
  have h5 := bulk_mem h4
  simp only [Rows.uptoBulk] at hk
  omega

end

end Go.Proofs.Ytohgnmpmledljaa
