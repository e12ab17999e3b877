/-
  The document's own answer, in plain mathematics, is what blend.All makes.
-/
import Derived.Test.YtcionpepgpfjdaaBlPlainA
namespace Go.Proofs.Ytcionpepgpfjdaa
open Go.RowKit

/-- does a later line take a line away? -/
def killB (x y : LineM) : Bool := hitL x.s x.k y && (singleB x || badB y)
def refP : List LineM → List LineM
  | [] => []
  | x :: rest => (if (!badB x && rest.all fun y => !killB x y) = true then [x] else []) ++ refP rest

theorem refP_snoc (z : LineM) : ∀ l : List LineM, refP (l ++ [z]) = (refP l).filter (fun x => !killB x z) ++ if badB z = true then [] else [z]
  | [] => by
    simp only [List.nil_append, refP, List.all_nil, Bool.and_true, List.append_nil, List.filter_nil]
    cases badB z <;> rfl
  | x :: l => by
    rw [List.cons_append, refP, refP_snoc z l, refP, List.filter_append, ← List.append_assoc]
    congr 2
    rw [List.all_append]
    simp only [List.all_cons, List.all_nil, Bool.and_true]
    cases badB x <;> cases (l.all fun y => !killB x y) <;> cases h : killB x z <;> simp [h]

theorem kill_form (x z : LineM) : killB x z = if badB z = true then hitL z.s z.k x else if singleB z = true then hitL z.s z.k x else false := by
  unfold killB
  rw [hit_sym]
  cases h : hitL z.s z.k x with
  | false => cases badB z <;> cases singleB z <;> simp
  | true =>
    have := single_hit h
    rw [this]
    cases badB z <;> cases singleB z <;> simp

theorem ref_over (l : List LineM) (z : LineM) (h : blendP l = refP l) : blendP (l ++ [z]) = refP (l ++ [z]) := by
  rw [blendP_snoc, refP_snoc, over_form, h]
  have e : (fun x => !killB x z) = fun x => !(if badB z = true then hitL z.s z.k x else if singleB z = true then hitL z.s z.k x else false) := by
    funext x
    rw [kill_form]
  rw [e]
  by_cases hb : badB z = true
  · simp [hb]
  · by_cases hs : singleB z = true
    · simp [hb, hs]
    · simp [hb, hs]
      exact (List.filter_eq_self.2 fun _ _ => rfl).symm

theorem blend_ref (l : List LineM) : blendP l = refP l := by
  have h : ∀ (q p : List LineM), blendP p = refP p → blendP (p ++ q) = refP (p ++ q) := by
    intro q
    induction q with
    | nil => intro p h; simpa using h
    | cons x xs ih =>
      intro p h
      have := ih (p ++ [x]) (ref_over p x h)
      simpa using this
  exact h l [] rfl

end Go.Proofs.Ytcionpepgpfjdaa
