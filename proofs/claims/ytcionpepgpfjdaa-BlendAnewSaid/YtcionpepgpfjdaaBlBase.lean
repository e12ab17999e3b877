/-
  Lists of lines and of keys in memory; small laws.
-/
import Derived.Test.YtcionpepgpfjdaaAppend
import Derived.Test.YtcionpepgpfjdaaFrame
import Derived.Deep.QuietTactic
import Derived.Deep.RegionWith
import Derived.BigQuiet
import Derived.Lib.Hide
import Derived.Deep.WholeRow
import Derived.Deep.CutRange
import Derived.Deep.CutBlock
namespace Go.Proofs.Ytcionpepgpfjdaa
open Go.ChangeShapes Go.WideShapes Go.ChangeAt Go.RowKit

section
variable {α : Type}

def flat (row : α → Array Value) (l : List α) : List Value := l.flatMap fun x => (row x).toList

theorem flat_append (row : α → Array Value) (l k : List α) : flat row (l ++ k) = flat row l ++ flat row k := by simp [flat]
theorem flat_cons (row : α → Array Value) (x : α) (l : List α) : flat row (x :: l) = (row x).toList ++ flat row l := by simp [flat]
theorem flat_length {row : α → Array Value} {m : Nat} (hm : ∀ x, (row x).size = m) : ∀ l : List α, (flat row l).length = l.length * m
  | [] => by simp [flat]
  | x :: xs => by
    rw [flat_cons, List.length_append, flat_length hm xs]
    simp [hm, Nat.add_mul]
    omega

theorem flat_get {row : α → Array Value} {m : Nat} (hm : ∀ x, (row x).size = m) : ∀ (l : List α) (i j : Nat) (x : α) (v : Value), l[i]? = some x → (row x)[j]? = some v → (flat row l)[i * m + j]? = some v
  | [], i, j, x, v, h, _ => by simp at h
  | y :: ys, 0, j, x, v, h, hv => by
    simp at h
    subst h
    rw [flat_cons, Nat.zero_mul, Nat.zero_add, List.getElem?_append_left (by have := (Array.getElem?_eq_some_iff.1 hv).1; simpa using this)]
    simpa using hv
  | y :: ys, i + 1, j, x, v, h, hv => by
    have ih := flat_get hm ys i j x v (by simpa using h) hv
    rw [flat_cons, List.getElem?_append_right (by simp [hm, Nat.add_mul]; omega), ← ih]
    congr 1
    simp [hm, Nat.add_mul]
    omega

theorem flat_at {row : α → Array Value} {m : Nat} (hm : ∀ x, (row x).size = m) (hm0 : 0 < m) {l : List α} {j : Nat} {u : Value} (h : (flat row l)[j]? = some u) : ∃ x, l[j / m]? = some x ∧ (row x)[j % m]? = some u := by
  have hj : j < l.length * m := by
    have := (List.getElem?_eq_some_iff.1 h).1
    rwa [flat_length hm] at this
  have hi : j / m < l.length := (Nat.div_lt_iff_lt_mul hm0).2 hj
  refine ⟨_, List.getElem?_eq_getElem hi, ?_⟩
  have hr : j % m < (row l[j / m]).size := by rw [hm]; exact Nat.mod_lt _ hm0
  have h2 := flat_get hm l (j / m) (j % m) _ _ (List.getElem?_eq_getElem hi) (Array.getElem?_eq_getElem hr)
  rw [Nat.div_add_mod' j m] at h2
  rw [h] at h2
  rw [Array.getElem?_eq_getElem hr]
  exact h2.symm

/-- a list in memory, each of m cells -/
structure RowsIn (row : α → Array Value) (m : Nat) (w : World) (B : Nat) (a : Option Addr) (n : Nat) (l : List α) : Prop where
  len : l.length = n
  at_ : 0 < n → ∃ b off, a = some ⟨b, off, none⟩ ∧ b < B ∧ ∀ i x, l[i]? = some x → ∀ j v, (row x)[j]? = some v → w.cell? ⟨b, off + i * m + j, none⟩ = some v

variable {row : α → Array Value} {m : Nat} {w w' : World} {B B' n : Nat} {a : Option Addr} {l : List α}

theorem RowsIn.later (h : RowsIn row m w B a n l) (hb : Below B w w') (hB : B ≤ B') : RowsIn row m w' B' a n l := by
  refine ⟨h.len, fun hn => ?_⟩
  obtain ⟨b, off, e, hlt, hc⟩ := h.at_ hn
  exact ⟨b, off, e, Nat.lt_of_lt_of_le hlt hB, fun i x hx j v hv => (hb.cell (p := ⟨b, off + i * m + j, none⟩) hlt).trans (hc i x hx j v hv)⟩

theorem RowsIn.reads (hm : ∀ x, (row x).size = m) (hm0 : 0 < m) (h : RowsIn row m w B a n l) : Reads w B m a n (flat row l) := by
  refine ⟨by rw [flat_length hm, h.len], fun hn => ?_⟩
  obtain ⟨b, off, rfl, hlt, hc⟩ := h.at_ hn
  refine ⟨_, rfl, hlt, fun j u hu => ?_⟩
  obtain ⟨x, hx, hr⟩ := flat_at hm hm0 hu
  have h2 := hc _ _ hx _ _ hr
  rw [add_plain, ← Nat.div_add_mod' j m, ← Nat.add_assoc]
  exact h2

theorem rows_form (hm : ∀ x, (row x).size = m) {base : Nat} {e : TypeId} {v : Value} (h : w.ownsRow base e m v l.length (flat row l)) :
    ∃ a cap, v = .slice a l.length cap ∧ RowsIn row m w w.heap.size a l.length l ∧ (a = none → l.length = 0 ∧ cap = 0) ∧ l.length ≤ cap := by
  have h0 := h
  obtain ⟨-, ⟨rfl, hn⟩ | ⟨g, cap, cur, rfl, hg, hr, hnc, -⟩⟩ := h
  · exact ⟨none, 0, by rw [hn], ⟨rfl, fun hp => absurd hp (by omega)⟩, fun _ => ⟨hn, rfl⟩, by omega⟩
  · refine ⟨_, _, rfl, ⟨rfl, fun hp => ⟨g, 0, rfl, ?_, fun i x hx j v hv => ?_⟩⟩, fun h => by simp at h, hnc⟩
    · obtain ⟨g', cap', e', -, hlt⟩ := h0.form hp
      injection e' with e1
      injection e1 with e1
      injection e1 with e1
      rw [e1]; exact hlt
    · have hc := h0.cells (g := g) rfl _ _ (flat_get hm l i j x v hx hv)
      rw [add_plain] at hc
      rw [Nat.zero_add] at hc ⊢
      exact hc
end

theorem owns_below {w w' : World} {base : Nat} {e : TypeId} {size : Nat} {v : Value} {n : Nat} {xs : List Value} (h : w.ownsRow base e size v n xs) (hb : Below w.heap.size w w') : w'.ownsRow base e size v n xs := by
  obtain ⟨h1, h2 | ⟨g, cap, cur, hv, hg, hr, hn, hm, hc, ht⟩⟩ := h
  · exact ⟨h1, .inl h2⟩
  · have hlt : g < w.heap.size := by
      by_cases hlt : g < w.heap.size
      · exact hlt
      · have : w.heap[g]? = none := by simp; omega
        rw [this] at hr
        exact absurd hr (by simp)
    exact ⟨h1, .inr ⟨g, cap, cur, hv, hg, by rw [hb.block g hlt]; exact hr, hn, hm, hc, ht⟩⟩

theorem owns_base {w : World} {B B' : Nat} {e : TypeId} {size : Nat} {v : Value} {n : Nat} {xs : List Value} (h : w.ownsRow B e size v n xs) (hB : B' ≤ B) : w.ownsRow B' e size v n xs := by
  obtain ⟨h1, h2 | ⟨g, cap, cur, hv, hg, hr⟩⟩ := h
  · exact ⟨h1, .inl h2⟩
  · exact ⟨h1, .inr ⟨g, cap, cur, hv, Nat.le_trans hB hg, hr⟩⟩

theorem cellsRow (w : World) (cs : Array Value) (t : TypeId) (m : Nat) (hm : cs.size = m) : Reads (w.alloc (.cells cs t)) (w.heap.size + 1) m (some ⟨w.heap.size, 0, none⟩) 1 cs.toList := by
  refine ⟨by simp [hm], fun _ => ⟨_, rfl, by simp, fun j u hu => ?_⟩⟩
  rw [add_plain, Nat.zero_add, cell_of_row _ _ j _ _ _ (heap_alloc_new w _), ← hu]
  simp

theorem row_two (w : World) (X Y : Obj) : ((w.alloc X).alloc Y).heap[w.heap.size + 1]? = some Y := by
  have h := heap_alloc_new (w.alloc X) Y
  simpa using h
theorem row_three (w : World) (X Y Z : Obj) : (((w.alloc X).alloc Y).alloc Z).heap[w.heap.size + 1 + 1]? = some Z := by
  have h := heap_alloc_new ((w.alloc X).alloc Y) Z
  simpa using h

theorem cell_lt {w : World} {p : Addr} {v : Value} (h : w.cell? p = some v) : p.block < w.heap.size := by
  by_cases hb : p.block < w.heap.size
  · exact hb
  · exfalso
    have : w.heap[p.block]? = none := by simp; omega
    simp [World.cell?, this] at h

structure LineM where
  s : ByteArray
  k : ByteArray
  v : ByteArray
  a : Int
def LineM.row (x : LineM) : Array Value := #[.string x.s, .string x.k, .string x.v, .int .i64 x.a]
theorem LineM.size (x : LineM) : x.row.size = 4 := rfl
structure KeyM where
  s : ByteArray
  n : ByteArray
  f : Int
  l : Bool
  k : Int
  wa : Option Addr
  wn : Nat
  wc : Nat
def KeyM.row (x : KeyM) : Array Value := #[.string x.s, .string x.n, .int .i64 x.f, .bool x.l, .int .i64 x.k, .slice x.wa x.wn x.wc]
theorem KeyM.size (x : KeyM) : x.row.size = 6 := rfl

theorem lines_one (l : List LineM) : ∀ u ∈ flat LineM.row l, u.oneCell' = true := by
  intro u hu
  obtain ⟨x, -, hx⟩ := List.mem_flatMap.1 hu
  simp [LineM.row] at hx
  rcases hx with rfl | rfl | rfl | rfl <;> rfl
theorem keys_one (l : List KeyM) : ∀ u ∈ flat KeyM.row l, u.oneCell' = true := by
  intro u hu
  obtain ⟨x, -, hx⟩ := List.mem_flatMap.1 hu
  simp [KeyM.row] at hx
  rcases hx with rfl | rfl | rfl | rfl | rfl | rfl <;> rfl

def eqS (a b : ByteArray) : Bool := decide (a.toList = b.toList)

/-- the first index at which p holds -/
def idxI {α : Type} (p : α → Bool) (l : List α) : Int := match l.findIdx? p with | some i => i | none => -1

theorem idx_miss {α : Type} {p : α → Bool} {l : List α} (h : ∀ (j : Nat) (x : α), l[j]? = some x → p x = false) : idxI p l = -1 := by
  have e : l.findIdx? p = none := by
    rw [List.findIdx?_eq_none_iff]
    intro x hx
    obtain ⟨j, hj, e⟩ := List.getElem_of_mem hx
    exact h j x (by rw [List.getElem?_eq_getElem hj, e])
  unfold idxI
  rw [e]

theorem idx_hit {α : Type} {p : α → Bool} {l : List α} {i : Nat} {x : α} (hi : l[i]? = some x) (hx : p x = true) (h : ∀ (j : Nat) (y : α), j < i → l[j]? = some y → p y = false) : idxI p l = i := by
  have e : l.findIdx? p = some i := by
    obtain ⟨hlt, hxe⟩ := List.getElem?_eq_some_iff.1 hi
    rw [List.findIdx?_eq_some_iff_getElem]
    refine ⟨hlt, by rw [hxe]; exact hx, fun j hj => ?_⟩
    rw [h j _ hj (List.getElem?_eq_getElem (by omega))]
    simp
  unfold idxI
  rw [e]

end Go.Proofs.Ytcionpepgpfjdaa
