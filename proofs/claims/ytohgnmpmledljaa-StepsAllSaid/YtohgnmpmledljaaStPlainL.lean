/-
  The plain law of StepsLater.
-/
import Derived.Test.YtohgnmpmledljaaStPlainR
namespace Go.Proofs.Ytohgnmpmledljaa
open Go.RowKit

def LaterOk (over : Int) : List MarkM → List MarkM → Prop
  | [], _ => True
  | _ :: _, [] => False
  | x :: xs, y :: ys => x.num = y.num ∧ x.begun = y.begun ∧ ((x.ended = y.ended ∧ x.code = y.code) ∨ (xs = [] ∧ x.ended = over ∧ x.code = 256 ∧ x.ended ≤ y.ended)) ∧ LaterOk over xs ys

theorem later_len {over : Int} : ∀ {xs ys : List MarkM}, LaterOk over xs ys → xs.length ≤ ys.length
  | [], _, _ => Nat.zero_le _
  | _ :: _, [], h => h.elim
  | _ :: xs, _ :: ys, h => by
    have := later_len h.2.2.2
    simp
    exact this

theorem later_ok (does : Nat → ActM) (good : Nat → Int → Bool) (part over later : Int) (hl : over ≤ later) : ∀ (n i : Nat) (at_ : Int),
    LaterOk over (courseGo does good part over n i at_).1 (courseGo does good part later n i at_).1 ∧ ((courseGo does good part over n i at_).2 = true → courseGo does good part later n i at_ = courseGo does good part over n i at_)
  | 0, i, a => ⟨trivial, fun _ => rfl⟩
  | n + 1, i, a => by
    have ih := later_ok does good part over later hl n (i + 1) (endsP (does i) (beginP part i a)).1
    unfold courseGo
    generalize endsP (does i) (beginP part i a) = E at *
    by_cases h1 : E.1 = 1099511627776 ∨ over < E.1
    · rw [if_pos h1]
      refine ⟨?_, fun h => by simp at h⟩
      by_cases h2 : E.1 = 1099511627776 ∨ later < E.1
      · rw [if_pos h2]
        exact ⟨rfl, rfl, .inr ⟨rfl, rfl, rfl, hl⟩, trivial⟩
      · rw [if_neg h2]
        have h3 : over ≤ E.1 := by omega
        by_cases hg : good i E.2 = true
        · rw [if_pos hg]
          exact ⟨rfl, rfl, .inr ⟨rfl, rfl, rfl, h3⟩, trivial⟩
        · rw [if_neg hg]
          exact ⟨rfl, rfl, .inr ⟨rfl, rfl, rfl, h3⟩, trivial⟩
    · rw [if_neg h1]
      have h2 : ¬ (E.1 = 1099511627776 ∨ later < E.1) := by omega
      rw [if_neg h2]
      by_cases hg : good i E.2 = true
      · rw [if_pos hg, if_pos hg]
        refine ⟨⟨rfl, rfl, .inl ⟨rfl, rfl⟩, ih.1⟩, fun h => ?_⟩
        dsimp only at h
        rw [ih.2 h]
      · rw [if_neg hg, if_neg hg]
        exact ⟨⟨rfl, rfl, .inl ⟨rfl, rfl⟩, trivial⟩, fun h => by simp at h⟩

end Go.Proofs.Ytohgnmpmledljaa
