/-
  Plain laws for BlendAnew and BlendSingle.
-/
import Derived.Test.YtcionpepgpfjdaaBlPlain
namespace Go.Proofs.Ytcionpepgpfjdaa
open Go.RowKit

theorem hitL_iff {s k : ByteArray} {x : LineM} : hitL s k x = true ↔ x.s = s ∧ x.k = k := by
  unfold hitL
  rw [Bool.and_eq_true, eqS_iff, eqS_iff]

theorem hit_sym {x y : LineM} : hitL x.s x.k y = hitL y.s y.k x := by
  rw [Bool.eq_iff_iff, hitL_iff, hitL_iff]
  constructor <;> exact fun h => ⟨h.1.symm, h.2.symm⟩

theorem single_hit {x y : LineM} (h : hitL x.s x.k y = true) : singleB y = singleB x := by
  obtain ⟨h1, h2⟩ := hitL_iff.1 h
  unfold singleB
  rw [h1, h2]

/-- a key that is a list -/
theorem over_filter {s k : ByteArray} {t : KeyT} (ht : findT s k = some t) (hl : t.2.2.2.1 = true) (out : List LineM) (y : LineM) :
    (overP out y).filter (fun z => !hitL s k z) = if hitL s k y = true then out.filter (fun z => !hitL s k z) else overP (out.filter fun z => !hitL s k z) y := by
  have hcomm : ∀ o : List LineM, (o.filter fun z => !hitL y.s y.k z).filter (fun z => !hitL s k z) = (o.filter fun z => !hitL s k z).filter fun z => !hitL y.s y.k z := by
    intro o
    rw [List.filter_filter, List.filter_filter]
    congr 1
    funext z
    exact Bool.and_comm _ _
  by_cases hy : hitL s k y = true
  · rw [if_pos hy]
    obtain ⟨h1, h2⟩ := hitL_iff.1 hy
    have hns : singleB y = false := by
      unfold singleB
      rw [h1, h2, ht]
      simp [hl]
    rw [over_form, hns]
    split
    · rw [h1, h2, List.filter_filter]
      simp
    · rw [if_neg (by decide), List.filter_append]
      simp [hy]
  · rw [if_neg hy]
    have hy' : hitL s k y = false := by simpa using hy
    rw [over_form, over_form]
    split
    · exact hcomm out
    · split
      · rw [List.filter_append, hcomm]
        simp [hy']
      · rw [List.filter_append]
        simp [hy']

theorem fold_filter {s k : ByteArray} {t : KeyT} (ht : findT s k = some t) (hl : t.2.2.2.1 = true) : ∀ (l out : List LineM), (l.foldl overP out).filter (fun z => !hitL s k z) = (l.filter fun z => !hitL s k z).foldl overP (out.filter fun z => !hitL s k z)
  | [], out => rfl
  | y :: l, out => by
    rw [List.foldl_cons, fold_filter ht hl l, over_filter ht hl]
    by_cases hy : hitL s k y = true
    · rw [if_pos hy, List.filter_cons_of_neg (by simp [hy])]
    · have hy' : hitL s k y = false := by simpa using hy
      rw [if_neg hy, List.filter_cons_of_pos (by simp [hy']), List.foldl_cons]

theorem blend_anew {s k : ByteArray} {t : KeyT} (ht : findT s k = some t) (hl : t.2.2.2.1 = true) (l : List LineM) : blendP (l ++ [⟨s, k, ⟨#[]⟩, 0⟩]) = blendP (l.filter fun z => !hitL s k z) := by
  have hb : badB ⟨s, k, ⟨#[]⟩, 0⟩ = true := by
    unfold badB
    dsimp only
    rw [ht]
    simp only [hl, Bool.true_and]
    unfold isE
    exact eqS_iff.2 rfl
  rw [blendP_snoc, over_form, if_pos hb]
  have h := fold_filter ht hl l []
  simpa [blendP] using h

theorem keys_uniq : (keysT.all fun t => decide ((findT t.1 t.2.1).map (fun u => u.2.2.2.1) = some t.2.2.2.1)) = true := by kernel_rfl

theorem key_uniq {t : KeyT} (h : t ∈ keysT) : ∃ u, findT t.1 t.2.1 = some u ∧ u.2.2.2.1 = t.2.2.2.1 := by
  have h1 := of_decide_eq_true (List.all_eq_true.1 keys_uniq t h)
  cases hf : findT t.1 t.2.1 with
  | none => rw [hf] at h1; cases h1
  | some u =>
    rw [hf] at h1
    injection h1 with h1
    exact ⟨u, rfl, h1⟩

def lastF (s k : ByteArray) (l : List LineM) (d : LineM) : LineM := l.foldl (fun acc y => if hitL s k y = true then y else acc) d

theorem lastF_snoc (s k : ByteArray) (l : List LineM) (y d : LineM) : lastF s k (l ++ [y]) d = if hitL s k y = true then y else lastF s k l d := by simp [lastF]

theorem hit_self (x : LineM) : hitL x.s x.k x = true := hitL_iff.2 ⟨rfl, rfl⟩

theorem last_fold : ∀ (q p : List LineM) (x d : LineM), (∀ y d, y ∈ blendP p → singleB y = true → lastF y.s y.k p d = y) → x ∈ q.foldl overP (blendP p) → singleB x = true → lastF x.s x.k (p ++ q) d = x
  | [], p, x, d, ih, hx, hs => by rw [List.append_nil]; exact ih x d hx hs
  | z :: q, p, x, d, ih, hx, hs => by
    have e : p ++ z :: q = (p ++ [z]) ++ q := by simp
    rw [e]
    refine last_fold q (p ++ [z]) x d ?_ (by rw [blendP_snoc]; exact hx) hs
    intro y d hy hsy
    rw [lastF_snoc]
    rw [blendP_snoc, over_form] at hy
    have old : y ∈ blendP p → hitL z.s z.k y = false → (if hitL y.s y.k z = true then z else lastF y.s y.k p d) = y := by
      intro h1 h2
      rw [hit_sym, h2, if_neg (by decide)]
      exact ih y d h1 hsy
    have new : y = z → (if hitL y.s y.k z = true then z else lastF y.s y.k p d) = y := by
      rintro rfl
      rw [if_pos (hit_self y)]
    split at hy
    · obtain ⟨h1, h2⟩ := List.mem_filter.1 hy
      exact old h1 (by simpa using h2)
    · split at hy
      · rcases List.mem_append.1 hy with hy | hy
        · obtain ⟨h1, h2⟩ := List.mem_filter.1 hy
          exact old h1 (by simpa using h2)
        · exact new (List.mem_singleton.1 hy)
      · rename_i hns
        rcases List.mem_append.1 hy with hy | hy
        · refine old hy ?_
          cases hh : hitL z.s z.k y with
          | false => rfl
          | true =>
            have := single_hit hh
            rw [hsy] at this
            exact absurd this.symm hns
        · exact new (List.mem_singleton.1 hy)

/-- of a key that is no list the last one stays -/
theorem blend_last {l : List LineM} {x : LineM} (d : LineM) (hx : x ∈ blendP l) (hs : singleB x = true) : lastF x.s x.k l d = x :=
  last_fold l [] x d (fun y d hy => by simp [blendP] at hy) hx hs

/-- of a key that is no list at most one line stays -/
theorem blend_single {l : List LineM} {i j : Nat} {x y : LineM} (hi : (blendP l)[i]? = some x) (hj : (blendP l)[j]? = some y) (hij : i < j) (hs : singleB x = true) : hitL x.s x.k y = false := by
  cases h : hitL x.s x.k y with
  | false => rfl
  | true =>
    have hp := (good_blend l).2
    rw [List.pairwise_iff_getElem] at hp
    obtain ⟨h1, e1⟩ := List.getElem?_eq_some_iff.1 hi
    obtain ⟨h2, e2⟩ := List.getElem?_eq_some_iff.1 hj
    have h3 := hp i j h1 h2 hij
    rw [e1, e2, single_hit h] at h3
    have h4 := h3 hs
    rw [hit_sym, h] at h4
    cases h4

end Go.Proofs.Ytcionpepgpfjdaa
