/-
  Contracts of slices.Index and slices.Contains at []int: what they compute at every slice of ints that can be read; the world is as it was.
-/
import Derived.Test.YtohgnmpmledljaaRows
import Derived.WalkKit
import Derived.ProofKit
import Derived.OpenShut
import Derived.Lib.Slices
import Derived.Lib.Hide
namespace Go.Proofs.Ytohgnmpmledljaa
open Go.ChangeShapes Go.WideShapes Go.ChangeAt Go.RowKit

/-- The slice at address a, of length n, holds the numbers zs, in blocks below B. -/
structure IntsIn (w : World) (B : Nat) (a : Option Addr) (n : Nat) (zs : List Int) : Prop where
  len : zs.length = n
  at_ : 0 < n → ∃ b off, a = some ⟨b, off, none⟩ ∧ b < B ∧ ∀ j, j < n → w.cell? ⟨b, off + j, none⟩ = some (.int .i64 (zs.getD j 0))

theorem IntsIn.below {w w' : World} {B : Nat} {a : Option Addr} {n : Nat} {zs : List Int} (h : IntsIn w B a n zs) (hb : Below B w w') : IntsIn w' B a n zs :=
  ⟨h.len, fun hn => by
    obtain ⟨b, off, ha, hlt, hc⟩ := h.at_ hn
    exact ⟨b, off, ha, hlt, fun j hj => (hb.cell (p := ⟨b, off + j, none⟩) hlt).trans (hc j hj)⟩⟩

/-- A slice of ints that came in. -/
theorem open_intsIn {H : Type} {enc : TypeId × Value → H} {W : World} {base : Nat} {v : Value} {d : DataW H} {p : List MemPlace}
    (hv : Value.okWide Try.prog W .any base 47 v) (h : DataW.Trod enc Try.prog W 0 (fun _ => true) true 47 v d p) :
    ∃ (a : Option Addr) (n c : Nat) (zs : List Int), v = .slice a n c ∧ IntsIn W W.heap.size a n zs ∧ n ≤ 9223372036854775807 ∧ ∀ z ∈ zs, (Lit.int .i64 z).wf = true := by
  obtain ⟨a0, len, cap, rfl⟩ := okWide_slice Try.underlying47 hv
  obtain ⟨fuel, hf⟩ := h
  rcases open_ints Try.underlying47 Try.underlying3 (show Try.prog.cellsOf 3 = 1 by kernel_rfl) hf with ⟨hcs, _⟩ | ⟨a, len', cap', zs, hcs, _, hl, hm, hz, _, hcell, hwf⟩
  · have e : Value.slice a0 len cap = .slice none 0 0 := by simpa [Value.cells] using hcs
    injection e with e1 e2 e3
    subst e1 e2 e3
    exact ⟨none, 0, 0, [], rfl, ⟨rfl, fun h => absurd h (Nat.lt_irrefl 0)⟩, by omega, fun z hz => by simp at hz⟩
  · have e : Value.slice a0 len cap = .slice (some a) len' cap' := by simpa [Value.cells] using hcs
    injection e with e1 e2 e3
    subst e1 e2 e3
    simp only [ite_true] at hz
    unfold maxLen at hm
    refine ⟨some a, len, cap, zs.take len, rfl, ⟨by simp; omega, fun hpos => ?_⟩, by omega, fun z hz => hwf z (List.mem_of_mem_take hz)⟩
    obtain ⟨b, off, rfl, hc⟩ := ints_at hcell (by omega)
    have h0 := hc 0 (by omega)
    have hlt : b < W.heap.size := block_lt_of_cell h0
    refine ⟨b, off, rfl, hlt, fun j hj => ?_⟩
    rw [hc j (by omega)]
    simp [hj]

set_option maxHeartbeats 1000000 in
theorem index_any (a : Option Addr) (B n c : Nat) (zs : List Int) (x : Int) (w : World) (hz : IntsIn w B a n zs) (hbig : n ≤ 9223372036854775807) :
    Calls Try.prog 41 #[.slice a n c, .int .i64 x] w fun e w' => e = .returned (.int .i64 (Lib.idxOf zs x)) ∧ w = w' := by
  rcases Nat.eq_zero_or_pos n with h0 | h0
  · subst h0
    obtain rfl : zs = [] := List.eq_nil_of_length_eq_zero hz.len
    clear hz hbig
    go_enter Try.func41, Try.ntmps41
    go_wp2
    go_loop [5, 8] (fun _ i => i = .int .i64 0) (fun _ _ => 0)
    case atStart => rfl
    case round =>
      subst hrel
      go_wp2
      go_ret
      exact ⟨rfl, rfl⟩
  · obtain ⟨b, off, rfl, _, hc⟩ := hz.at_ h0
    have hlen := hz.len
    have hz' : n ≤ zs.length := by omega
    have HT : Hid (zs.take n = zs) := List.take_of_length_le (by omega)
    clear hz hlen
    rw [← HT.out]
    go_enter Try.func41, Try.ntmps41
    go_wp2
    go_loop [5, 8] (fun _ i => ∃ k : Nat, k ≤ n ∧ i = .int .i64 k ∧ ∀ j, j < k → zs.getD j 0 ≠ x) (fun _ i => n - (intOf i).toNat)
    case atStart => exact ⟨0, Nat.zero_le _, rfl, fun j hj => absurd hj (Nat.not_lt_zero _)⟩
    case round =>
      obtain ⟨k, hk, rfl, hne⟩ := hrel
      have hcell : k < n → w.cell? ⟨b, off + k, none⟩ = some (.int .i64 (zs.getD k 0)) := fun h => hc k h
      go_wp2
      · have hlt : k < n := by assumption
        have heq : (x == zs[k]?.getD 0) = true := by assumption
        go_ret
        refine ⟨?_, rfl⟩
        rw [Lib.idxOf_hit zs n k x hlt hz' (by simp only [List.getD]; exact (beq_iff_eq.1 heq).symm) hne]
        rfl
      · have hlt : k < n := by assumption
        have hneq : (x == zs[k]?.getD 0) = false := by assumption
        go_round
        case rel =>
          refine ⟨k + 1, by omega, by go_num, fun j hj => ?_⟩
          by_cases e : j = k
          · subst e
            intro he
            simp only [List.getD] at he
            rw [he] at hneq
            simp at hneq
          · exact hne j (by omega)
        case measure => simp [intOf]; omega
      · have hge : ¬ k < n := by omega
        have : k = n := by omega
        subst this
        go_ret
        refine ⟨?_, rfl⟩
        rw [Lib.idxOf_miss zs k x hne]
        rfl

theorem contains_any (a : Option Addr) (B n c : Nat) (zs : List Int) (x : Int) (w : World) (hz : IntsIn w B a n zs) (hbig : n ≤ 9223372036854775807) :
    Calls Try.prog 31 #[.slice a n c, .int .i64 x] w fun e w' => e = .returned (.bool (zs.contains x)) ∧ w = w' := by
  have hb : zs.contains x = decide (0 ≤ Lib.idxOf zs x) := by
    rw [Bool.eq_iff_iff, decide_eq_true_eq, Lib.idxOf_nonneg_iff]
  rw [hb]
  have H := Lib.hid hb
  clear hb
  go_enter Try.func31, Try.ntmps31
  go_wp2_with (go_at_call 41; refine (index_any a B n c zs x _ hz hbig).mono ?_; rintro e w' ⟨rfl, rfl⟩)
  go_ret
  exact ⟨rfl, rfl⟩

end Go.Proofs.Ytohgnmpmledljaa
