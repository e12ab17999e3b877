/-
  Lines laid over lines: the plain laws.
-/
import Derived.Test.YtcionpepgpfjdaaBlBlend
namespace Go.Proofs.Ytcionpepgpfjdaa
open Go.RowKit

theorem eqS_iff {a b : ByteArray} : eqS a b = true ↔ a = b := by
  unfold eqS
  rw [decide_eq_true_iff]
  constructor
  · intro h
    rw [ByteArray.toList_eq, ByteArray.toList_eq] at h
    exact Go.WideShapes.bytes_inj h
  · rintro rfl
    rfl

/-- a list's empty value -/
def badB (x : LineM) : Bool := match findT x.s x.k with | some t => t.2.2.2.1 && isE x | none => false
/-- a key that is no list -/
def singleB (x : LineM) : Bool := match findT x.s x.k with | some t => !t.2.2.2.1 | none => false

def Good (l : List LineM) : Prop := (∀ x ∈ l, badB x = false) ∧ l.Pairwise fun y x => singleB x = true → hitL x.s x.k y = false

theorem over_form (out : List LineM) (x : LineM) : overP out x = if badB x = true then out.filter (fun y => !hitL x.s x.k y) else if singleB x = true then out.filter (fun y => !hitL x.s x.k y) ++ [x] else out ++ [x] := by
  unfold overP badB singleB
  cases findT x.s x.k with
  | none => simp
  | some t =>
    dsimp only
    obtain ⟨t1, t2, t3, t4, t5⟩ := t
    dsimp only
    cases t4 <;> cases isE x <;> simp

theorem good_nil : Good [] := ⟨by simp, List.Pairwise.nil⟩

theorem good_filter {l : List LineM} (h : Good l) (f : LineM → Bool) : Good (l.filter f) :=
  ⟨fun x hx => h.1 x (List.mem_filter.1 hx).1, h.2.filter f⟩

theorem good_snoc {l : List LineM} {x : LineM} (h : Good l) (hb : badB x = false) (hs : singleB x = true → ∀ y ∈ l, hitL x.s x.k y = false) : Good (l ++ [x]) := by
  refine ⟨fun y hy => ?_, ?_⟩
  · rcases List.mem_append.1 hy with hy | hy
    · exact h.1 y hy
    · rw [List.mem_singleton.1 hy]; exact hb
  · rw [List.pairwise_append]
    refine ⟨h.2, List.pairwise_singleton _ _, fun y hy z hz hsz => ?_⟩
    obtain rfl := List.mem_singleton.1 hz
    exact hs hsz y hy

theorem good_over {out : List LineM} (h : Good out) (x : LineM) : Good (overP out x) := by
  rw [over_form]
  split
  · exact good_filter h _
  · rename_i hb
    have hb' : badB x = false := by simpa using hb
    split
    · refine good_snoc (good_filter h _) hb' fun _ y hy => ?_
      have := (List.mem_filter.1 hy).2
      simpa using this
    · rename_i hs
      exact good_snoc h hb' fun h => absurd h hs

theorem good_fold : ∀ (l out : List LineM), Good out → Good (l.foldl overP out)
  | [], _, h => h
  | x :: xs, _, h => good_fold xs _ (good_over h x)
theorem good_blend (l : List LineM) : Good (blendP l) := good_fold l [] good_nil

theorem over_good {p : List LineM} {x : LineM} (h : Good (p ++ [x])) : overP p x = p ++ [x] := by
  have hb : badB x = false := h.1 x (by simp)
  rw [over_form, if_neg (by rw [hb]; decide)]
  split
  · rename_i hs
    congr 1
    rw [List.filter_eq_self]
    intro y hy
    have h2 := h.2
    rw [List.pairwise_append] at h2
    rw [h2.2.2 y hy x (by simp) hs]
    rfl
  · rfl

theorem fold_good : ∀ (q p : List LineM), Good (p ++ q) → q.foldl overP p = p ++ q
  | [], p, _ => by simp
  | x :: q, p, h => by
    have e : p ++ x :: q = (p ++ [x]) ++ q := by simp
    rw [e] at h ⊢
    have hp : Good (p ++ [x]) := ⟨fun y hy => h.1 y (List.mem_append_left _ hy), (List.pairwise_append.1 h.2).1⟩
    rw [List.foldl_cons, over_good hp]
    exact fold_good q _ h

/-- laying it again changes nothing -/
theorem blend_once (l : List LineM) : blendP (blendP l) = blendP l := fold_good (blendP l) [] (good_blend l)

theorem blend_steps (l c : List LineM) : blendP (blendP l ++ c) = blendP (l ++ c) := by
  have e : ∀ m : List LineM, blendP (m ++ c) = c.foldl overP (blendP m) := fun m => by simp [blendP]
  rw [e, e, blend_once]

end Go.Proofs.Ytcionpepgpfjdaa
