/-
  The document's own search for an act (the best of those that fit) finds what world.Find finds: in plain mathematics.
-/
import Derived.Test.YtohgnmpmledljaaStFind
namespace Go.Proofs.Ytohgnmpmledljaa
open Go.RowKit

/-- how well an act fits: less is better; 9: not at all -/
def worth (r : ActR) (u : ByteArray) (p n t : Int) : Nat :=
  if r.fits u p n t = true then 0 else if r.fits u p (-1) t = true then 1 else if r.fits u p n 0 = true then 2 else if r.fits u p (-1) 0 = true then 3 else 9

/-- what has been found in l -/
def FoundIn (l : List ActR) (u : ByteArray) (p n t : Int) (best : Nat) (f : Option ActR) : Prop :=
  (best = 9 ∧ f = none ∧ firstFit l u p n t = none ∧ firstFit l u p (-1) t = none ∧ firstFit l u p n 0 = none ∧ firstFit l u p (-1) 0 = none) ∨
  (best = 0 ∧ f ≠ none ∧ firstFit l u p n t = f) ∨
  (best = 1 ∧ f ≠ none ∧ firstFit l u p n t = none ∧ firstFit l u p (-1) t = f) ∨
  (best = 2 ∧ f ≠ none ∧ firstFit l u p n t = none ∧ firstFit l u p (-1) t = none ∧ firstFit l u p n 0 = f) ∨
  (best = 3 ∧ f ≠ none ∧ firstFit l u p n t = none ∧ firstFit l u p (-1) t = none ∧ firstFit l u p n 0 = none ∧ firstFit l u p (-1) 0 = f)

theorem found_nil (u : ByteArray) (p n t : Int) : FoundIn [] u p n t 9 none := .inl ⟨rfl, rfl, rfl, rfl, rfl, rfl⟩

theorem fit_snoc (l : List ActR) (r : ActR) (u : ByteArray) (p n t : Int) : firstFit (l ++ [r]) u p n t = (firstFit l u p n t).or (if r.fits u p n t = true then some r else none) := by
  unfold firstFit
  rw [List.find?_append]
  congr 1
  cases h : r.fits u p n t <;> simp [h]

theorem found_step {l : List ActR} {u : ByteArray} {p n t : Int} {best : Nat} {f : Option ActR} (h : FoundIn l u p n t best f) (r : ActR) :
    FoundIn (l ++ [r]) u p n t (if worth r u p n t < best then worth r u p n t else best) (if worth r u p n t < best then some r else f) := by
  unfold FoundIn
  rw [fit_snoc, fit_snoc, fit_snoc, fit_snoc]
  unfold worth
  generalize r.fits u p n t = a at *
  generalize r.fits u p (-1) t = b at *
  generalize r.fits u p n 0 = c at *
  generalize r.fits u p (-1) 0 = d at *
  rcases h with ⟨rfl, rfl, h0, h1, h2, h3⟩ | ⟨rfl, hf, h0⟩ | ⟨rfl, hf, h0, h1⟩ | ⟨rfl, hf, h0, h1, h2⟩ | ⟨rfl, hf, h0, h1, h2, h3⟩
  · rw [h0, h1, h2, h3]
    cases a <;> cases b <;> cases c <;> cases d <;> simp
  · obtain ⟨x, rfl⟩ := Option.ne_none_iff_exists'.1 hf
    rw [h0]
    cases a <;> cases b <;> cases c <;> cases d <;> simp
  · obtain ⟨x, rfl⟩ := Option.ne_none_iff_exists'.1 hf
    rw [h0, h1]
    cases a <;> cases b <;> cases c <;> cases d <;> simp
  · obtain ⟨x, rfl⟩ := Option.ne_none_iff_exists'.1 hf
    rw [h0, h1, h2]
    cases a <;> cases b <;> cases c <;> cases d <;> simp
  · obtain ⟨x, rfl⟩ := Option.ne_none_iff_exists'.1 hf
    rw [h0, h1, h2, h3]
    cases a <;> cases b <;> cases c <;> cases d <;> simp

theorem found_find {l : List ActR} {u : ByteArray} {p n t : Int} {best : Nat} {f : Option ActR} (h : FoundIn l u p n t best f) : findR l u p n t = f := by
  unfold findR
  rcases h with ⟨rfl, rfl, h0, h1, h2, h3⟩ | ⟨rfl, hf, h0⟩ | ⟨rfl, hf, h0, h1⟩ | ⟨rfl, hf, h0, h1, h2⟩ | ⟨rfl, hf, h0, h1, h2, h3⟩
  · rw [h0, h1, h2, h3]; rfl
  · obtain ⟨x, rfl⟩ := Option.ne_none_iff_exists'.1 hf
    rw [h0]; rfl
  · obtain ⟨x, rfl⟩ := Option.ne_none_iff_exists'.1 hf
    rw [h0, h1]; rfl
  · obtain ⟨x, rfl⟩ := Option.ne_none_iff_exists'.1 hf
    rw [h0, h1, h2]; rfl
  · obtain ⟨x, rfl⟩ := Option.ne_none_iff_exists'.1 hf
    rw [h0, h1, h2, h3]; rfl

end Go.Proofs.Ytohgnmpmledljaa
