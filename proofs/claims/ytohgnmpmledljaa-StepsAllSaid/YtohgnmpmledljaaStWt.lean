/-
  How long an act's texts can be: by the form's own bound on what came in.
-/
import Derived.Test.YtohgnmpmledljaaStOpen
import Derived.SizedLaws
namespace Go.Proofs.Ytohgnmpmledljaa
open Go.ChangeShapes Go.WideShapes Go.ChangeAt Go.RowKit

section
variable {H : Type} {enc : TypeId × Value → H} {w : World} {base b0 : Nat} {spare : Nat → Bool} {held : Bool} {r : Reach}

theorem wt_all {P : Program} {e : TypeId} {d : DataW H} : ∀ {l : List (DataW H)}, d ∈ l → ∀ n ∈ d.weights P e, n ∈ DataW.weightsAll P e l
  | [], h, n, hn => by simp at h
  | x :: xs, h, n, hn => by
    rw [DataW.weightsAll, List.mem_append]
    rcases List.mem_cons.1 h with rfl | h
    · exact .inl hn
    · exact .inr (wt_all h n hn)

theorem wt_says {m B : Nat} {c : Value} {x : DataW H × List MemPlace} {sa : Option Addr} {n sc : Nat} (h : DataW.trod enc Try.prog w base spare held m 22 [c] = some x) (hc : c = .slice sa n sc)
    (hB : ∀ q ∈ x.1.weights Try.prog 22, q ≤ B) : n * 24 ≤ B := by
  have hby : Try.prog.bytesOf 37 = 24 := by kernel_rfl
  rcases Go.Deep.open_slice Try.underlying22 h with ⟨hq, rfl⟩ | ⟨a, len, cap, m', n', D, Pl, hq, hba, hl, hm, hmm, rfl, hx⟩
  · injection hq with hq
    rw [hc] at hq
    injection hq with _ h2 _
    subst h2
    omega
  · injection hq with hq
    rw [hc] at hq
    injection hq with _ h2 _
    subst h2
    have h1 := hB ((n + (m' - n)) * 24) (by
      simp only [DataW.weights, Try.underlying22, hby, List.length_map, List.length_range]
      exact List.mem_cons_self ..)
    have : n * 24 ≤ (n + (m' - n)) * 24 := Nat.mul_le_mul_right _ (Nat.le_add_right _ _)
    omega

theorem wt_act {m B : Nat} {cs : List Value} {x : DataW H × List MemPlace} {sa : Option Addr} {n sc : Nat} (h : DataW.trod enc Try.prog w base spare held m 24 cs = some x) (hc : cs[8]? = some (.slice sa n sc)) (hlen : cs.length = 9)
    (hB : ∀ q ∈ x.1.weights Try.prog 24, q ≤ B) : n * 24 ≤ B := by
  obtain ⟨xs, k, -, rfl, -, hxl, hf⟩ := DataW.trod_struct Try.underlying24 h
  match cs, hlen with
  | [q0, q1, q2, q3, q4, q5, q6, q7, q8], _ =>
    have f8 := hf 8 _ rfl
    obtain ⟨y8, e8⟩ : ∃ y, xs[8]? = some y := ⟨_, List.getElem?_eq_getElem (by rw [hxl]; decide)⟩
    rw [e8] at f8
    have g8 : DataW.trod enc Try.prog w base spare held k 22 [q8] = some y8 := f8
    refine wt_says g8 (by simpa using hc) fun q hq => hB q ?_
    simp only [DataW.weights, Try.underlying24]
    exact DataW.weights_mem_each (j := 8) (t := 22) (d := y8.1) rfl (by rw [List.getElem?_map, e8]; rfl) q hq

theorem wt_acts {m B : Nat} {c : Value} {x : DataW H × List MemPlace} {b off na ca : Nat} (h : DataW.trod enc Try.prog w base spare held m 40 [c] = some x) (hc : c = .slice (some ⟨b, off, none⟩) na ca)
    (hB : ∀ q ∈ x.1.weights Try.prog 40, q ≤ B) (i : Nat) (hi : i < na) (sa : Option Addr) (n sc : Nat) (hs : w.cell? ⟨b, off + i * 9 + 8, none⟩ = some (.slice sa n sc)) : n * 24 ≤ B := by
  have hc9 : Try.prog.cellsOf 24 = 9 := by kernel_rfl
  rcases Go.Deep.open_slice Try.underlying40 h with ⟨hq, -⟩ | ⟨a, len, cap, m', n', D, Pl, hq, hba, hl, hm, hmm, rfl, hx⟩
  · injection hq with hq
    rw [hc] at hq
    cases hq
  · injection hq with hq
    rw [hc] at hq
    injection hq with h1 h2 _
    injection h1 with h1
    subst h1 h2
    have hlm : na ≤ m' := by rw [hmm]; split <;> omega
    obtain ⟨cs', h1, h2⟩ := hx i (by omega)
    rw [hc9] at h1
    obtain ⟨-, hlen, hcell⟩ := World.cells?_some h1
    have c8 := hcell 8 (by omega)
    rw [add_of_add, add_plain, ← Nat.add_assoc] at c8
    have h8 : cs'[8]? = some (.slice sa n sc) := by
      rw [hs] at c8
      simpa using c8.symm
    refine wt_act h2 h8 hlen fun q hq => hB q ?_
    simp only [DataW.weights, Try.underlying40]
    refine List.mem_cons_of_mem _ (List.mem_append_left _ ?_)
    exact wt_all (List.mem_map.2 ⟨i, List.mem_range.2 hi, rfl⟩) q hq

theorem wt_world {B : Nat} {v : Value} {d : DataW H} {ps : List MemPlace} {aa : Option Addr} {na ca : Nat} {x1 x2 : Value} {l : List ActR} (hd : DataW.Trod enc Try.prog w base spare held 44 v d ps)
    (hv : v = .agg #[.slice aa na ca, x1, x2]) (hl : ActsIn w w.heap.size aa na l) (hB : ∀ q ∈ d.weights Try.prog 44, q ≤ B) (hB2 : B ≤ 140737488355328) : Light l := by
  intro r hr
  obtain ⟨i, hi, rfl⟩ := List.getElem_of_mem hr
  have hin : i < na := by rw [← hl.len]; exact hi
  obtain ⟨b, off, rfl, hb, hc⟩ := hl.at_ (by omega)
  obtain ⟨hcell, -, -⟩ := hc i _ (List.getElem?_eq_getElem hi)
  have c8 := hcell 8 _ rfl
  obtain ⟨fuel, hd⟩ := hd
  subst hv
  obtain ⟨xs, k, -, hx, -, hxl, hf⟩ := DataW.trod_struct Try.underlying44 hd
  injection hx with hx
  subst hx
  have f0 := hf 0 _ rfl
  obtain ⟨y0, e0⟩ : ∃ y, xs[0]? = some y := ⟨_, List.getElem?_eq_getElem (by rw [hxl]; decide)⟩
  rw [e0] at f0
  have g0 : DataW.trod enc Try.prog w base spare held k 40 [.slice (some ⟨b, off, none⟩) na ca] = some y0 := by
    rw [← f0]
    simp [Value.cells]
    rfl
  refine Nat.le_trans (wt_acts g0 rfl (fun q hq => hB q ?_) i hin _ _ _ c8) hB2
  simp only [DataW.weights, Try.underlying44]
  exact DataW.weights_mem_each (j := 0) (t := 40) (d := y0.1) rfl (by rw [List.getElem?_map, e0]; rfl) q hq

end

end Go.Proofs.Ytohgnmpmledljaa
