/-
  The plain laws of StepsRow and StepsLater.
-/
import Derived.Test.YtohgnmpmledljaaStPlain
namespace Go.Proofs.Ytohgnmpmledljaa
open Go.RowKit

theorem sum_ge2 (a b : Int) (h0 : 0 ≤ a) (h1 : a ≤ 6311433600) : a ≤ sumI a b := by
  unfold sumI heldI
  repeat' split
  all_goals omega

theorem sum_fin (a b : Int) (h : sumI a b ≠ 1099511627776) : 0 ≤ sumI a b ∧ sumI a b ≤ 6311433600 := by
  unfold sumI heldI at *
  repeat' split at h
  all_goals (repeat' split)
  all_goals omega

/-- a command that has just begun: it ends no earlier, and at a time, or never -/
theorem ends_begin (A : ActM) (part i at_ : Int) (h0 : 0 ≤ at_) (h1 : at_ ≤ 6311433600) (h : (endsP A (beginP part i at_)).1 ≠ 1099511627776) :
    at_ ≤ (endsP A (beginP part i at_)).1 ∧ (endsP A (beginP part i at_)).1 ≤ 6311433600 := by
  by_cases hp : (beginP part i at_).part ≤ 0
  · exfalso
    apply h
    unfold endsP
    rw [if_pos hp]
  · rw [ends_own A (beginP part i at_) hp (by simp [beginP])] at h ⊢
    exact ⟨sum_ge2 _ _ h0 h1, (sum_fin _ _ h).2⟩

def lateP (over e : Int) : Prop := over < e ∨ e = 1099511627776

def RowOk (does : Nat → ActM) (good : Nat → Int → Bool) (part over : Int) (ok : Bool) : List MarkM → Nat → Int → Prop
  | [], _, _ => True
  | m :: ms, i, at_ =>
    m.num = i ∧ m.begun = at_ ∧ at_ ≤ m.ended ∧ m.ended ≤ over ∧
    (lateP over (endsP (does i) (beginP part i at_)).1 → m.code = 256 ∧ ms = [] ∧ ok = false) ∧
    (¬ lateP over (endsP (does i) (beginP part i at_)).1 → m.ended = (endsP (does i) (beginP part i at_)).1 ∧ m.code = (endsP (does i) (beginP part i at_)).2 ∧
      (good i (endsP (does i) (beginP part i at_)).2 = true ↔ (ms ≠ [] ∨ ok = true))) ∧
    RowOk does good part over ok ms (i + 1) m.ended

theorem course_empty (does : Nat → ActM) (good : Nat → Int → Bool) (part over : Int) : ∀ (n i : Nat) (at_ : Int), (courseGo does good part over n i at_).1 = [] → (courseGo does good part over n i at_).2 = true ∧ n = 0
  | 0, i, a, _ => ⟨rfl, rfl⟩
  | n + 1, i, a, h => by
    unfold courseGo at h
    split at h
    · simp at h
    · split at h <;> simp at h

theorem course_full (does : Nat → ActM) (good : Nat → Int → Bool) (part over : Int) : ∀ (n i : Nat) (at_ : Int), (courseGo does good part over n i at_).2 = true → (courseGo does good part over n i at_).1.length = n
  | 0, i, a, _ => rfl
  | n + 1, i, a, h => by
    unfold courseGo at h ⊢
    split at h
    · simp at h
    · next h1 =>
      rw [if_neg h1]
      split at h
      · next h2 =>
        rw [if_pos h2]
        simp
        exact course_full does good part over n (i + 1) _ h
      · simp at h

theorem row_ok (does : Nat → ActM) (good : Nat → Int → Bool) (part over : Int) : ∀ (n i : Nat) (at_ : Int), 0 ≤ at_ → at_ ≤ 6311433600 → at_ ≤ over →
    RowOk does good part over (courseGo does good part over n i at_).2 (courseGo does good part over n i at_).1 i at_
  | 0, i, a, _, _, _ => trivial
  | n + 1, i, a, h0, h1, h2 => by
    have hb := ends_begin (does i) part i a h0 h1
    have ih := row_ok does good part over n (i + 1) (endsP (does i) (beginP part i a)).1
    have hem := course_empty does good part over n (i + 1) (endsP (does i) (beginP part i a)).1
    unfold courseGo
    generalize hE : endsP (does i) (beginP part i a) = E at *
    by_cases hl : E.1 = 1099511627776 ∨ over < E.1
    · rw [if_pos hl]
      refine ⟨rfl, rfl, h2, Int.le_refl _, fun _ => ⟨rfl, rfl, rfl⟩, fun h => absurd ?_ h, trivial⟩
      rw [hE]
      unfold lateP
      omega
    · rw [if_neg hl]
      have hne : E.1 ≠ 1099511627776 := fun h => hl (.inl h)
      obtain ⟨g0, g1⟩ := hb hne
      have hno : ¬ lateP over E.1 := by unfold lateP; omega
      by_cases hg : good i E.2 = true
      · rw [if_pos hg]
        refine ⟨rfl, rfl, g0, by dsimp only; omega, fun h => ?_, fun _ => ?_, ?_⟩
        · rw [hE] at h
          exact absurd h hno
        · rw [hE]
          refine ⟨rfl, rfl, ⟨fun _ => ?_, fun _ => hg⟩⟩
          dsimp only
          by_cases he : (courseGo does good part over n (i + 1) E.1).1 = []
          · exact .inr (hem he).1
          · exact .inl he
        · exact ih (by omega) g1 (by omega)
      · rw [if_neg hg]
        refine ⟨rfl, rfl, g0, by dsimp only; omega, fun h => ?_, fun _ => ?_, trivial⟩
        · rw [hE] at h
          exact absurd h hno
        · rw [hE]
          refine ⟨rfl, rfl, ⟨fun h => absurd h hg, fun h => ?_⟩⟩
          simp at h

end Go.Proofs.Ytohgnmpmledljaa
