/-
  The course of commands, one behind the other, in plain mathematics.
-/
import Derived.Test.YtohgnmpmledljaaRunPlain
namespace Go.Proofs.Ytohgnmpmledljaa
open Go.RowKit

structure MarkM where
  num : Int
  begun : Int
  ended : Int
  code : Int

/-- from command i on, at a time -/
def courseGo (does : Nat → ActM) (good : Nat → Int → Bool) (part over : Int) : Nat → Nat → Int → List MarkM × Bool
  | 0, _, _ => ([], true)
  | n + 1, i, at_ =>
    if (endsP (does i) (beginP part i at_)).1 = 1099511627776 ∨ over < (endsP (does i) (beginP part i at_)).1 then ([⟨i, at_, over, 256⟩], false)
    else if good i (endsP (does i) (beginP part i at_)).2 = true then
      (⟨i, at_, (endsP (does i) (beginP part i at_)).1, (endsP (does i) (beginP part i at_)).2⟩ :: (courseGo does good part over n (i + 1) (endsP (does i) (beginP part i at_)).1).1,
        (courseGo does good part over n (i + 1) (endsP (does i) (beginP part i at_)).1).2)
    else ([⟨i, at_, (endsP (does i) (beginP part i at_)).1, (endsP (does i) (beginP part i at_)).2⟩], false)

def MarkM.cells (m : MarkM) : List Value := [.int .i64 m.num, .int .i64 m.begun, .int .i64 m.ended, .int .i64 m.code]
def markCells (l : List MarkM) : List Value := l.flatMap MarkM.cells

theorem markCells_append (l k : List MarkM) : markCells (l ++ k) = markCells l ++ markCells k := by simp [markCells]
theorem markCells_length (l : List MarkM) : (markCells l).length = l.length * 4 := by
  induction l with
  | nil => rfl
  | cons x xs ih => simp [markCells, MarkM.cells] at *; omega

theorem markCells_one (l : List MarkM) : ∀ u ∈ markCells l, u.oneCell' = true := by
  intro u hu
  obtain ⟨m, -, hm⟩ := List.mem_flatMap.1 hu
  simp [MarkM.cells] at hm
  rcases hm with rfl | rfl | rfl | rfl <;> rfl

theorem markCells_get : ∀ (l : List MarkM) (i : Nat) (m : MarkM), l[i]? = some m → (markCells l)[i * 4]? = some (.int .i64 m.num) ∧ (markCells l)[i * 4 + 1]? = some (.int .i64 m.begun) ∧ (markCells l)[i * 4 + 2]? = some (.int .i64 m.ended) ∧ (markCells l)[i * 4 + 3]? = some (.int .i64 m.code)
  | [], i, m, h => by simp at h
  | x :: xs, 0, m, h => by
    simp at h
    subst h
    simp [markCells, MarkM.cells]
  | x :: xs, i + 1, m, h => by
    have ih := markCells_get xs i m (by simpa using h)
    have e : markCells (x :: xs) = [.int .i64 x.num, .int .i64 x.begun, .int .i64 x.ended, .int .i64 x.code] ++ markCells xs := by simp [markCells, MarkM.cells]
    rw [e]
    have f : ∀ j, ([Value.int .i64 x.num, .int .i64 x.begun, .int .i64 x.ended, .int .i64 x.code] ++ markCells xs)[(i + 1) * 4 + j]? = (markCells xs)[i * 4 + j]? := by
      intro j
      rw [List.getElem?_append_right (by simp; omega)]
      congr 1
      simp
      omega
    have f0 := f 0
    simp only [Nat.add_zero] at f0
    rw [f0, f 1, f 2, f 3]
    exact ih

theorem course_len (does : Nat → ActM) (good : Nat → Int → Bool) (part over : Int) : ∀ (n i : Nat) (at_ : Int), (courseGo does good part over n i at_).1.length ≤ n
  | 0, i, a => by simp [courseGo]
  | n + 1, i, a => by
    unfold courseGo
    split
    · simp
    · split
      · have := course_len does good part over n (i + 1) (endsP (does i) (beginP part i a)).1
        simp
        exact this
      · simp

end Go.Proofs.Ytohgnmpmledljaa
