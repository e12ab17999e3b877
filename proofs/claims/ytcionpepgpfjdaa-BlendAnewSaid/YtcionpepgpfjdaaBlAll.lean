/-
  Contract of keys.All: the table of keys.
-/
import Derived.Test.YtcionpepgpfjdaaBlWord
import Derived.Test.YtcionpepgpfjdaaBlConcat
import Derived.StillTailTactics
namespace Go.Proofs.Ytcionpepgpfjdaa
open Go.ChangeShapes Go.WideShapes Go.ChangeAt Go.RowKit

def KeyM.core (x : KeyM) : ByteArray × ByteArray × Int × Bool × Int := (x.s, x.n, x.f, x.l, x.k)
def keysT : List (ByteArray × ByteArray × Int × Bool × Int) := [
  (⟨#[85, 110, 105, 116]⟩, ⟨#[68, 101, 115, 99, 114, 105, 112, 116, 105, 111, 110]⟩, 1, false, 30),
  (⟨#[85, 110, 105, 116]⟩, ⟨#[68, 101, 102, 97, 117, 108, 116, 68, 101, 112, 101, 110, 100, 101, 110, 99, 105, 101, 115]⟩, 2, false, 30),
  (⟨#[85, 110, 105, 116]⟩, ⟨#[82, 101, 113, 117, 105, 114, 101, 115]⟩, 6, true, 30),
  (⟨#[85, 110, 105, 116]⟩, ⟨#[87, 97, 110, 116, 115]⟩, 6, true, 30),
  (⟨#[85, 110, 105, 116]⟩, ⟨#[82, 101, 113, 117, 105, 115, 105, 116, 101]⟩, 6, true, 30),
  (⟨#[85, 110, 105, 116]⟩, ⟨#[66, 105, 110, 100, 115, 84, 111]⟩, 6, true, 30),
  (⟨#[85, 110, 105, 116]⟩, ⟨#[80, 97, 114, 116, 79, 102]⟩, 6, true, 30),
  (⟨#[85, 110, 105, 116]⟩, ⟨#[67, 111, 110, 102, 108, 105, 99, 116, 115]⟩, 6, true, 30),
  (⟨#[85, 110, 105, 116]⟩, ⟨#[66, 101, 102, 111, 114, 101]⟩, 6, true, 30),
  (⟨#[85, 110, 105, 116]⟩, ⟨#[65, 102, 116, 101, 114]⟩, 6, true, 30),
  (⟨#[85, 110, 105, 116]⟩, ⟨#[79, 110, 70, 97, 105, 108, 117, 114, 101]⟩, 6, true, 30),
  (⟨#[85, 110, 105, 116]⟩, ⟨#[83, 116, 97, 114, 116, 76, 105, 109, 105, 116, 73, 110, 116, 101, 114, 118, 97, 108, 83, 101, 99]⟩, 4, false, 30),
  (⟨#[85, 110, 105, 116]⟩, ⟨#[83, 116, 97, 114, 116, 76, 105, 109, 105, 116, 66, 117, 114, 115, 116]⟩, 3, false, 30),
  (⟨#[83, 101, 114, 118, 105, 99, 101]⟩, ⟨#[84, 121, 112, 101]⟩, 10, false, 2),
  (⟨#[83, 101, 114, 118, 105, 99, 101]⟩, ⟨#[69, 120, 101, 99, 83, 116, 97, 114, 116, 80, 114, 101]⟩, 7, true, 2),
  (⟨#[83, 101, 114, 118, 105, 99, 101]⟩, ⟨#[69, 120, 101, 99, 83, 116, 97, 114, 116]⟩, 7, true, 2),
  (⟨#[83, 101, 114, 118, 105, 99, 101]⟩, ⟨#[69, 120, 101, 99, 83, 116, 97, 114, 116, 80, 111, 115, 116]⟩, 7, true, 2),
  (⟨#[83, 101, 114, 118, 105, 99, 101]⟩, ⟨#[69, 120, 101, 99, 83, 116, 111, 112]⟩, 7, true, 2),
  (⟨#[83, 101, 114, 118, 105, 99, 101]⟩, ⟨#[69, 120, 101, 99, 82, 101, 108, 111, 97, 100]⟩, 7, true, 2),
  (⟨#[83, 101, 114, 118, 105, 99, 101]⟩, ⟨#[82, 101, 109, 97, 105, 110, 65, 102, 116, 101, 114, 69, 120, 105, 116]⟩, 2, false, 2),
  (⟨#[83, 101, 114, 118, 105, 99, 101]⟩, ⟨#[82, 101, 115, 116, 97, 114, 116]⟩, 10, false, 2),
  (⟨#[83, 101, 114, 118, 105, 99, 101]⟩, ⟨#[82, 101, 115, 116, 97, 114, 116, 83, 101, 99]⟩, 4, false, 2),
  (⟨#[83, 101, 114, 118, 105, 99, 101]⟩, ⟨#[84, 105, 109, 101, 111, 117, 116, 83, 116, 97, 114, 116, 83, 101, 99]⟩, 4, false, 2),
  (⟨#[83, 101, 114, 118, 105, 99, 101]⟩, ⟨#[84, 105, 109, 101, 111, 117, 116, 83, 116, 111, 112, 83, 101, 99]⟩, 4, false, 2),
  (⟨#[83, 101, 114, 118, 105, 99, 101]⟩, ⟨#[83, 117, 99, 99, 101, 115, 115, 69, 120, 105, 116, 83, 116, 97, 116, 117, 115]⟩, 11, true, 2),
  (⟨#[83, 101, 114, 118, 105, 99, 101]⟩, ⟨#[69, 110, 118, 105, 114, 111, 110, 109, 101, 110, 116]⟩, 8, true, 2),
  (⟨#[83, 101, 114, 118, 105, 99, 101]⟩, ⟨#[83, 111, 99, 107, 101, 116, 115]⟩, 6, true, 2),
  (⟨#[83, 111, 99, 107, 101, 116]⟩, ⟨#[76, 105, 115, 116, 101, 110, 83, 116, 114, 101, 97, 109]⟩, 11, true, 4),
  (⟨#[83, 111, 99, 107, 101, 116]⟩, ⟨#[66, 97, 99, 107, 108, 111, 103]⟩, 3, false, 4),
  (⟨#[83, 111, 99, 107, 101, 116]⟩, ⟨#[70, 105, 108, 101, 68, 101, 115, 99, 114, 105, 112, 116, 111, 114, 78, 97, 109, 101]⟩, 1, false, 4),
  (⟨#[83, 111, 99, 107, 101, 116]⟩, ⟨#[83, 101, 114, 118, 105, 99, 101]⟩, 5, false, 4),
  (⟨#[84, 105, 109, 101, 114]⟩, ⟨#[79, 110, 66, 111, 111, 116, 83, 101, 99]⟩, 4, true, 8),
  (⟨#[84, 105, 109, 101, 114]⟩, ⟨#[79, 110, 65, 99, 116, 105, 118, 101, 83, 101, 99]⟩, 4, true, 8),
  (⟨#[84, 105, 109, 101, 114]⟩, ⟨#[79, 110, 85, 110, 105, 116, 73, 110, 97, 99, 116, 105, 118, 101, 83, 101, 99]⟩, 4, true, 8),
  (⟨#[84, 105, 109, 101, 114]⟩, ⟨#[79, 110, 67, 97, 108, 101, 110, 100, 97, 114]⟩, 9, true, 8),
  (⟨#[84, 105, 109, 101, 114]⟩, ⟨#[80, 101, 114, 115, 105, 115, 116, 101, 110, 116]⟩, 2, false, 8),
  (⟨#[84, 105, 109, 101, 114]⟩, ⟨#[85, 110, 105, 116]⟩, 5, false, 8),
  (⟨#[73, 110, 115, 116, 97, 108, 108]⟩, ⟨#[87, 97, 110, 116, 101, 100, 66, 121]⟩, 6, true, 30),
  (⟨#[73, 110, 115, 116, 97, 108, 108]⟩, ⟨#[82, 101, 113, 117, 105, 114, 101, 100, 66, 121]⟩, 6, true, 30),
  (⟨#[73, 110, 115, 116, 97, 108, 108]⟩, ⟨#[65, 108, 105, 97, 115]⟩, 6, true, 30),
  (⟨#[73, 110, 115, 116, 97, 108, 108]⟩, ⟨#[65, 108, 115, 111]⟩, 6, true, 30),
  (⟨#[73, 110, 115, 116, 97, 108, 108]⟩, ⟨#[68, 101, 102, 97, 117, 108, 116, 73, 110, 115, 116, 97, 110, 99, 101]⟩, 1, false, 30)]

structure Grp where
  b : Nat
  sec : ByteArray
  kinds : Int
  v : Value
  ks : List KeyM
def GrpOk (W : World) (lo hi : Nat) (g : Grp) : Prop :=
  W.heap[g.b]? = some (.cells (groupRow g.sec g.kinds g.v) 44 (0, 0)) ∧ W.ownsRow lo 33 6 g.v g.ks.length (flat KeyM.row g.ks) ∧ ∀ k, g.v.ownBlock = some k → k < hi

theorem own_key {w : World} {base : Nat} {v : Value} {n size : Nat} {xs : List Value} {k : Nat} (h : w.ownsRow base 33 size v n xs) (hk : v.ownBlock = some k) : ∃ cur, w.heap[k]? = some (.cells cur 33 (0, 0)) := by
  obtain ⟨-, ⟨rfl, -⟩ | ⟨g, cap, cur, rfl, hg, hr, -⟩⟩ := h
  · simp [Value.ownBlock] at hk
  · simp [Value.ownBlock] at hk
    subst hk
    exact ⟨_, hr⟩

theorem own_moved {w w' : World} {base : Nat} {e : TypeId} {size : Nat} {v : Value} {n : Nat} {xs : List Value} (h : w.ownsRow base e size v n xs) (hb : ∀ k, v.ownBlock = some k → w'.heap[k]? = w.heap[k]?) : w'.ownsRow base e size v n xs := by
  obtain ⟨h1, h2 | ⟨g, cap, cur, rfl, hg, hr, hn, hm, hc, ht⟩⟩ := h
  · exact ⟨h1, .inl h2⟩
  · exact ⟨h1, .inr ⟨g, cap, cur, rfl, hg, by rw [hb g rfl]; exact hr, hn, hm, hc, ht⟩⟩

theorem GrpOk.apart {W W' : World} {lo hi base b : Nat} {g : Grp} (h : GrpOk W lo hi g) (ha : Apart base b W W') (hi' : hi ≤ base) (hne : g.b ≠ b) (hb : ∃ s k v, W.heap[b]? = some (.cells (groupRow s k v) 44 (0, 0))) : GrpOk W' lo hi g := by
  obtain ⟨h1, h2, h3⟩ := h
  have hlt : g.b < W.heap.size := (Array.getElem?_eq_some_iff.1 h1).1
  refine ⟨(ha.block g.b hlt hne (.inr (by rw [h1]; intro cs fr h; injection h with h; injection h with _ h; exact absurd h (by decide)))).trans h1, own_moved h2 fun k hk => ?_, h3⟩
  obtain ⟨cur, hr⟩ := own_key h2 hk
  refine ha.block k (Array.getElem?_eq_some_iff.1 hr).1 ?_ (.inl (Nat.lt_of_lt_of_le (h3 k hk) hi'))
  rintro rfl
  obtain ⟨s, q, v, hb⟩ := hb
  rw [hr] at hb
  injection hb with hb
  injection hb with _ hb
  exact absurd hb (by decide)

structure Inv (w0 W : World) (base b : Nat) (sec : ByteArray) (kinds : Int) (ks : List KeyM) (os ds : List Grp) : Prop where
  below : Below w0.heap.size w0 W
  lo : w0.heap.size ≤ base
  hi : base ≤ W.heap.size
  act : ∃ v, W.heap[b]? = some (.cells (groupRow sec kinds v) 44 (0, 0)) ∧ W.ownsRow base 33 6 v ks.length (flat KeyM.row ks)
  bl : w0.heap.size ≤ b
  oth : ∀ g ∈ os, GrpOk W w0.heap.size base g ∧ g.b ≠ b
  fin : ∀ g ∈ ds, GrpOk W w0.heap.size base g ∧ g.b ≠ b

theorem Inv.apart {w0 W W' : World} {base b : Nat} {sec : ByteArray} {kinds : Int} {ks ks' : List KeyM} {os ds : List Grp} (h : Inv w0 W base b sec kinds ks os ds) (ha : Apart base b W W')
    (hact : ∃ v, W'.heap[b]? = some (.cells (groupRow sec kinds v) 44 (0, 0)) ∧ W'.ownsRow base 33 6 v ks'.length (flat KeyM.row ks')) : Inv w0 W' base b sec kinds ks' os ds := by
  refine ⟨⟨ha.os.trans h.below.os, ha.tape.trans h.below.tape, ha.output.trans h.below.output, Nat.le_trans h.below.size ha.size, fun k hk => ?_⟩, h.lo, Nat.le_trans h.hi ha.size, hact, h.bl, fun g hg => ?_, fun g hg => ?_⟩
  · have h1 := h.bl
    have h2 := h.lo
    exact (ha.block k (Nat.lt_of_lt_of_le hk h.below.size) (by omega) (.inl (by omega))).trans (h.below.block k hk)
  · obtain ⟨h1, h2⟩ := h.oth g hg
    obtain ⟨v, hv, -⟩ := h.act
    exact ⟨h1.apart ha (Nat.le_refl _) h2 ⟨_, _, _, hv⟩, h2⟩
  · obtain ⟨h1, h2⟩ := h.fin g hg
    obtain ⟨v, hv, -⟩ := h.act
    exact ⟨h1.apart ha (Nat.le_refl _) h2 ⟨_, _, _, hv⟩, h2⟩

theorem Inv.alloc {w0 W : World} {base b : Nat} {sec : ByteArray} {kinds : Int} {ks : List KeyM} {os ds : List Grp} (h : Inv w0 W base b sec kinds ks os ds) (o : Obj) : Inv w0 (W.alloc o) base b sec kinds ks os ds := by
  obtain ⟨v, hv, hown⟩ := h.act
  have hb : Below W.heap.size W (W.alloc o) := (Below.refl _ _).alloc (Nat.le_refl _) _
  exact h.apart (Below.apart hb) ⟨v, (hb.block b (Array.getElem?_eq_some_iff.1 hv).1).trans hv, owns_below hown hb⟩

theorem inv_some {w0 W : World} {base b : Nat} {sec : ByteArray} {kinds : Int} {ks : List KeyM} {os ds : List Grp} (h : Inv w0 W base b sec kinds ks os ds) (form : Int) (lst : Bool) (names : List ByteArray) (hs : ks.length + names.length ≤ 1000) :
    Calls Try.prog 18 #[.pointer (some ⟨b, 0, none⟩), .int .i64 form, .bool lst, .slice (some ⟨W.heap.size, 0, none⟩) names.length names.length] (W.alloc (.cells (names.map Value.string).toArray 9))
      fun e w' => e = .returned (.tuple #[]) ∧ Inv w0 w' base b sec kinds (ks ++ names.map (mkKey sec kinds form lst)) os ds := by
  have h' := h.alloc (.cells (names.map Value.string).toArray 9)
  obtain ⟨v, hv, hown⟩ := h'.act
  refine (some_any b W.heap.size base sec kinds form lst v ks names names.length _ hv hown (heap_alloc_new W _) hs h'.hi).mono ?_
  rintro e w1 ⟨rfl, v1, h1, h2, h3⟩
  exact ⟨rfl, h'.apart h3 ⟨v1, h1, h2⟩⟩

theorem inv_word {w0 W : World} {base b : Nat} {sec : ByteArray} {kinds : Int} {ks : List KeyM} {os ds : List Grp} (h : Inv w0 W base b sec kinds ks os ds) (name : ByteArray) (words : List ByteArray) (hs : ks.length ≤ 900) (hws : words.length ≤ 1000) :
    Calls Try.prog 19 #[.pointer (some ⟨b, 0, none⟩), .string name, .slice (some ⟨W.heap.size, 0, none⟩) words.length words.length] (W.alloc (.cells (words.map Value.string).toArray 9))
      fun e w' => e = .returned (.tuple #[]) ∧ ∃ wa wn wc, Inv w0 w' base b sec kinds (ks ++ [⟨sec, name, 10, false, kinds, wa, wn, wc⟩]) os ds := by
  have h' := h.alloc (.cells (words.map Value.string).toArray 9)
  obtain ⟨v, hv, hown⟩ := h'.act
  refine (word_any b W.heap.size base sec name kinds v ks words words.length _ hv hown (heap_alloc_new W _) hs hws h'.hi).mono ?_
  rintro e w1 ⟨rfl, wa, wn, wc, v1, h1, h2, h3⟩
  exact ⟨rfl, wa, wn, wc, h'.apart h3 ⟨v1, h1, by simpa using h2⟩⟩

/-- on to the next group -/
theorem Inv.next {w0 W : World} {base b b' : Nat} {sec sec' : ByteArray} {kinds kinds' : Int} {ks : List KeyM} {os ds : List Grp} (h : Inv w0 W base b sec kinds ks (⟨b', sec', kinds', .slice none 0 0, []⟩ :: os) ds)
    (hr : ∀ g ∈ os, g.b ≠ b') (hd : ∀ g ∈ ds, g.b ≠ b') (hbl : w0.heap.size ≤ b') : ∃ v, Inv w0 W W.heap.size b' sec' kinds' [] os (⟨b, sec, kinds, v, ks⟩ :: ds) := by
  obtain ⟨v, hv, hown⟩ := h.act
  obtain ⟨⟨h1, h2, h3⟩, hne⟩ := h.oth _ (List.mem_cons_self ..)
  refine ⟨v, h.below, h.below.size, Nat.le_refl _, ⟨_, h1, ⟨rfl, .inl ⟨rfl, rfl⟩⟩⟩, hbl, fun g hg => ?_, fun g hg => ?_⟩
  · obtain ⟨⟨k1, k2, k3⟩, -⟩ := h.oth g (List.mem_cons_of_mem _ hg)
    exact ⟨⟨k1, k2, fun k hk => Nat.lt_of_lt_of_le (k3 k hk) h.hi⟩, hr g hg⟩
  · rcases List.mem_cons.1 hg with rfl | hg
    · refine ⟨⟨hv, owns_base hown h.lo, fun k hk => ?_⟩, fun e => hne e.symm⟩
      obtain ⟨cur, hr⟩ := own_key hown hk
      exact (Array.getElem?_eq_some_iff.1 hr).1
    · obtain ⟨⟨k1, k2, k3⟩, -⟩ := h.fin g hg
      exact ⟨⟨k1, k2, fun k hk => Nat.lt_of_lt_of_le (k3 k hk) h.hi⟩, hd g hg⟩

theorem rows_form' {w : World} {base : Nat} {e : TypeId} {v : Value} {l : List KeyM} (h : w.ownsRow base e 6 v l.length (flat KeyM.row l)) :
    ∃ a cap K, K = l ∧ v = .slice a K.length cap ∧ RowsIn KeyM.row 6 w w.heap.size a K.length K := by
  obtain ⟨a, cap, h1, h2, -, -⟩ := rows_form KeyM.size h
  exact ⟨a, cap, l, rfl, h1, h2⟩

theorem sum_len {α : Type} : ∀ ls : List (SlOf α), (∀ x ∈ ls, x.l.length = x.n) → sumN ls = (allOf ls).length
  | [], _ => rfl
  | x :: xs, h => by
    rw [sumN, allOf, List.length_append, h x (List.mem_cons_self ..), sum_len xs fun y hy => h y (List.mem_cons_of_mem _ hy)]

theorem inv_start (w : World) : Inv w (((((w.alloc (.cells (groupRow ⟨#[85, 110, 105, 116]⟩ 30 (.slice none 0 0)) 44)).alloc (.cells (groupRow ⟨#[83, 101, 114, 118, 105, 99, 101]⟩ 2 (.slice none 0 0)) 44)).alloc (.cells (groupRow ⟨#[83, 111, 99, 107, 101, 116]⟩ 4 (.slice none 0 0)) 44)).alloc (.cells (groupRow ⟨#[84, 105, 109, 101, 114]⟩ 8 (.slice none 0 0)) 44)).alloc (.cells (groupRow ⟨#[73, 110, 115, 116, 97, 108, 108]⟩ 30 (.slice none 0 0)) 44)) (w.heap.size + 5) (w.heap.size) ⟨#[85, 110, 105, 116]⟩ 30 [] [⟨w.heap.size + 1, ⟨#[83, 101, 114, 118, 105, 99, 101]⟩, 2, .slice none 0 0, []⟩, ⟨w.heap.size + 1 + 1, ⟨#[83, 111, 99, 107, 101, 116]⟩, 4, .slice none 0 0, []⟩, ⟨w.heap.size + 1 + 1 + 1, ⟨#[84, 105, 109, 101, 114]⟩, 8, .slice none 0 0, []⟩, ⟨w.heap.size + 1 + 1 + 1 + 1, ⟨#[73, 110, 115, 116, 97, 108, 108]⟩, 30, .slice none 0 0, []⟩] [] := by
  have hb : ∀ A B C D E : Obj, Below w.heap.size w (((((w.alloc A).alloc B).alloc C).alloc D).alloc E) := fun A B C D E => (((((Below.refl _ _).alloc (Nat.le_refl _) _).alloc (by simp) _).alloc (by simp; omega) _).alloc (by simp; omega) _).alloc (by simp; omega) _
  have r1 : ∀ A B C D E : Obj, (((((w.alloc A).alloc B).alloc C).alloc D).alloc E).heap[w.heap.size]? = some A := fun A B C D E => (Below.heap_alloc _ _ _ (by simp <;> omega)).trans ((Below.heap_alloc _ _ _ (by simp <;> omega)).trans ((Below.heap_alloc _ _ _ (by simp <;> omega)).trans ((Below.heap_alloc _ _ _ (by simp <;> omega)).trans (heap_alloc_new w A))))
  have r2 : ∀ A B C D E : Obj, (((((w.alloc A).alloc B).alloc C).alloc D).alloc E).heap[w.heap.size + 1]? = some B := fun A B C D E => (Below.heap_alloc _ _ _ (by simp <;> omega)).trans ((Below.heap_alloc _ _ _ (by simp <;> omega)).trans ((Below.heap_alloc _ _ _ (by simp <;> omega)).trans (row_two w A B)))
  have r3 : ∀ A B C D E : Obj, (((((w.alloc A).alloc B).alloc C).alloc D).alloc E).heap[w.heap.size + 1 + 1]? = some C := fun A B C D E => (Below.heap_alloc _ _ _ (by simp <;> omega)).trans ((Below.heap_alloc _ _ _ (by simp <;> omega)).trans (row_three w A B C))
  have r4 : ∀ A B C D E : Obj, (((((w.alloc A).alloc B).alloc C).alloc D).alloc E).heap[w.heap.size + 1 + 1 + 1]? = some D := fun A B C D E => (Below.heap_alloc _ _ _ (by simp <;> omega)).trans (by have h := heap_alloc_new (((w.alloc A).alloc B).alloc C) D; simpa using h)
  have r5 : ∀ A B C D E : Obj, (((((w.alloc A).alloc B).alloc C).alloc D).alloc E).heap[w.heap.size + 1 + 1 + 1 + 1]? = some E := fun A B C D E => by have h := heap_alloc_new ((((w.alloc A).alloc B).alloc C).alloc D) E; simpa using h
  refine ⟨hb _ _ _ _ _, by omega, by simp, ⟨_, r1 _ _ _ _ _, ⟨rfl, .inl ⟨rfl, rfl⟩⟩⟩, Nat.le_refl _, fun g hg => ?_, fun g hg => by simp at hg⟩
  simp only [List.mem_cons, List.not_mem_nil, or_false] at hg
  rcases hg with rfl | rfl | rfl | rfl
  · exact ⟨⟨r2 _ _ _ _ _, ⟨rfl, .inl ⟨rfl, rfl⟩⟩, fun k hk => by simp [Value.ownBlock] at hk⟩, by dsimp only; omega⟩
  · exact ⟨⟨r3 _ _ _ _ _, ⟨rfl, .inl ⟨rfl, rfl⟩⟩, fun k hk => by simp [Value.ownBlock] at hk⟩, by dsimp only; omega⟩
  · exact ⟨⟨r4 _ _ _ _ _, ⟨rfl, .inl ⟨rfl, rfl⟩⟩, fun k hk => by simp [Value.ownBlock] at hk⟩, by dsimp only; omega⟩
  · exact ⟨⟨r5 _ _ _ _ _, ⟨rfl, .inl ⟨rfl, rfl⟩⟩, fun k hk => by simp [Value.ownBlock] at hk⟩, by dsimp only; omega⟩

def AllRet (w : World) (e : Ending) (w' : World) : Prop := ∃ v ks, e = .returned v ∧ w'.ownsRow w.heap.size 33 6 v ks.length (flat KeyM.row ks) ∧ ks.map KeyM.core = keysT ∧ Below w.heap.size w w'

set_option maxRecDepth 100000 in
set_option maxHeartbeats 4000000 in
theorem all_any (w : World) : Calls Try.prog 13 #[] w (AllRet w) := by
  go_enter Try.func13, Try.ntmps13
  go_upto_region 3 with fail
  have HI := Lib.hid (inv_start w)
  generalize hWX : (((((w.alloc (.cells (groupRow ⟨#[85, 110, 105, 116]⟩ 30 (.slice none 0 0)) 44)).alloc (.cells (groupRow ⟨#[83, 101, 114, 118, 105, 99, 101]⟩ 2 (.slice none 0 0)) 44)).alloc (.cells (groupRow ⟨#[83, 111, 99, 107, 101, 116]⟩ 4 (.slice none 0 0)) 44)).alloc (.cells (groupRow ⟨#[84, 105, 109, 101, 114]⟩ 8 (.slice none 0 0)) 44)).alloc (.cells (groupRow ⟨#[73, 110, 115, 116, 97, 108, 108]⟩ 30 (.slice none 0 0)) 44)) = W5 at HI
  change Code.wp _ _ _ _ (((((w.alloc (.cells (groupRow ⟨#[85, 110, 105, 116]⟩ 30 (.slice none 0 0)) 44)).alloc (.cells (groupRow ⟨#[83, 101, 114, 118, 105, 99, 101]⟩ 2 (.slice none 0 0)) 44)).alloc (.cells (groupRow ⟨#[83, 111, 99, 107, 101, 116]⟩ 4 (.slice none 0 0)) 44)).alloc (.cells (groupRow ⟨#[84, 105, 109, 101, 114]⟩ 8 (.slice none 0 0)) 44)).alloc (.cells (groupRow ⟨#[73, 110, 115, 116, 97, 108, 108]⟩ 30 (.slice none 0 0)) 44))
  rw [hWX]
  clear hWX
  go_wp2_with (go_at_call 18; fail)
  refine (inv_some HI.out 1 false [⟨#[68, 101, 115, 99, 114, 105, 112, 116, 105, 111, 110]⟩] (by simp)).mono ?_
  rintro e w1 ⟨rfl, hI⟩
  replace HI := Lib.hid hI
  clear hI
  go_wp2_with (go_at_call 18; fail)
  refine (inv_some HI.out 2 false [⟨#[68, 101, 102, 97, 117, 108, 116, 68, 101, 112, 101, 110, 100, 101, 110, 99, 105, 101, 115]⟩] (by simp)).mono ?_
  rintro e w2 ⟨rfl, hI⟩
  replace HI := Lib.hid hI
  clear hI
  go_wp2_with (go_at_call 18; fail)
  refine (inv_some HI.out 6 true [⟨#[82, 101, 113, 117, 105, 114, 101, 115]⟩, ⟨#[87, 97, 110, 116, 115]⟩, ⟨#[82, 101, 113, 117, 105, 115, 105, 116, 101]⟩, ⟨#[66, 105, 110, 100, 115, 84, 111]⟩, ⟨#[80, 97, 114, 116, 79, 102]⟩, ⟨#[67, 111, 110, 102, 108, 105, 99, 116, 115]⟩, ⟨#[66, 101, 102, 111, 114, 101]⟩, ⟨#[65, 102, 116, 101, 114]⟩, ⟨#[79, 110, 70, 97, 105, 108, 117, 114, 101]⟩] (by simp)).mono ?_
  rintro e w3 ⟨rfl, hI⟩
  replace HI := Lib.hid hI
  clear hI
  go_wp2_with (go_at_call 18; fail)
  refine (inv_some HI.out 4 false [⟨#[83, 116, 97, 114, 116, 76, 105, 109, 105, 116, 73, 110, 116, 101, 114, 118, 97, 108, 83, 101, 99]⟩] (by simp)).mono ?_
  rintro e w4 ⟨rfl, hI⟩
  replace HI := Lib.hid hI
  clear hI
  go_wp2_with (go_at_call 18; fail)
  refine (inv_some HI.out 3 false [⟨#[83, 116, 97, 114, 116, 76, 105, 109, 105, 116, 66, 117, 114, 115, 116]⟩] (by simp)).mono ?_
  rintro e w5 ⟨rfl, hI⟩
  replace HI := Lib.hid hI
  clear hI
  obtain ⟨v1, hI⟩ := HI.out.next (by intro g hg; simp only [List.mem_cons, List.not_mem_nil, or_false] at hg; rcases hg with rfl | rfl | rfl <;> (dsimp only; omega)) (by intro g hg; simp at hg) (by omega)
  replace HI := Lib.hid hI
  clear hI
  go_wp2_with (go_at_call 19; fail)
  refine (inv_word HI.out ⟨#[84, 121, 112, 101]⟩ [⟨#[115, 105, 109, 112, 108, 101]⟩, ⟨#[111, 110, 101, 115, 104, 111, 116]⟩, ⟨#[110, 111, 116, 105, 102, 121]⟩] (by simp) (by simp)).mono ?_
  rintro e w6 ⟨rfl, wa6, wn6, wc6, hI⟩
  replace HI := Lib.hid hI
  clear hI
  go_wp2_with (go_at_call 18; fail)
  refine (inv_some HI.out 7 true [⟨#[69, 120, 101, 99, 83, 116, 97, 114, 116, 80, 114, 101]⟩, ⟨#[69, 120, 101, 99, 83, 116, 97, 114, 116]⟩, ⟨#[69, 120, 101, 99, 83, 116, 97, 114, 116, 80, 111, 115, 116]⟩, ⟨#[69, 120, 101, 99, 83, 116, 111, 112]⟩, ⟨#[69, 120, 101, 99, 82, 101, 108, 111, 97, 100]⟩] (by simp)).mono ?_
  rintro e w7 ⟨rfl, hI⟩
  replace HI := Lib.hid hI
  clear hI
  go_wp2_with (go_at_call 18; fail)
  refine (inv_some HI.out 2 false [⟨#[82, 101, 109, 97, 105, 110, 65, 102, 116, 101, 114, 69, 120, 105, 116]⟩] (by simp)).mono ?_
  rintro e w8 ⟨rfl, hI⟩
  replace HI := Lib.hid hI
  clear hI
  go_wp2_with (go_at_call 19; fail)
  refine (inv_word HI.out ⟨#[82, 101, 115, 116, 97, 114, 116]⟩ [⟨#[110, 111]⟩, ⟨#[111, 110, 45, 115, 117, 99, 99, 101, 115, 115]⟩, ⟨#[111, 110, 45, 102, 97, 105, 108, 117, 114, 101]⟩, ⟨#[111, 110, 45, 97, 98, 110, 111, 114, 109, 97, 108]⟩, ⟨#[97, 108, 119, 97, 121, 115]⟩] (by simp) (by simp)).mono ?_
  rintro e w9 ⟨rfl, wa9, wn9, wc9, hI⟩
  replace HI := Lib.hid hI
  clear hI
  go_wp2_with (go_at_call 18; fail)
  refine (inv_some HI.out 4 false [⟨#[82, 101, 115, 116, 97, 114, 116, 83, 101, 99]⟩, ⟨#[84, 105, 109, 101, 111, 117, 116, 83, 116, 97, 114, 116, 83, 101, 99]⟩, ⟨#[84, 105, 109, 101, 111, 117, 116, 83, 116, 111, 112, 83, 101, 99]⟩] (by simp)).mono ?_
  rintro e w10 ⟨rfl, hI⟩
  replace HI := Lib.hid hI
  clear hI
  go_wp2_with (go_at_call 18; fail)
  refine (inv_some HI.out 11 true [⟨#[83, 117, 99, 99, 101, 115, 115, 69, 120, 105, 116, 83, 116, 97, 116, 117, 115]⟩] (by simp)).mono ?_
  rintro e w11 ⟨rfl, hI⟩
  replace HI := Lib.hid hI
  clear hI
  go_wp2_with (go_at_call 18; fail)
  refine (inv_some HI.out 8 true [⟨#[69, 110, 118, 105, 114, 111, 110, 109, 101, 110, 116]⟩] (by simp)).mono ?_
  rintro e w12 ⟨rfl, hI⟩
  replace HI := Lib.hid hI
  clear hI
  go_wp2_with (go_at_call 18; fail)
  refine (inv_some HI.out 6 true [⟨#[83, 111, 99, 107, 101, 116, 115]⟩] (by simp)).mono ?_
  rintro e w13 ⟨rfl, hI⟩
  replace HI := Lib.hid hI
  clear hI
  obtain ⟨v2, hI⟩ := HI.out.next (by intro g hg; simp only [List.mem_cons, List.not_mem_nil, or_false] at hg; rcases hg with rfl | rfl <;> (dsimp only; omega)) (by intro g hg; simp only [List.mem_cons, List.not_mem_nil, or_false] at hg; rcases hg with rfl <;> (dsimp only; omega)) (by omega)
  replace HI := Lib.hid hI
  clear hI
  go_wp2_with (go_at_call 18; fail)
  refine (inv_some HI.out 11 true [⟨#[76, 105, 115, 116, 101, 110, 83, 116, 114, 101, 97, 109]⟩] (by simp)).mono ?_
  rintro e w14 ⟨rfl, hI⟩
  replace HI := Lib.hid hI
  clear hI
  go_wp2_with (go_at_call 18; fail)
  refine (inv_some HI.out 3 false [⟨#[66, 97, 99, 107, 108, 111, 103]⟩] (by simp)).mono ?_
  rintro e w15 ⟨rfl, hI⟩
  replace HI := Lib.hid hI
  clear hI
  go_wp2_with (go_at_call 18; fail)
  refine (inv_some HI.out 1 false [⟨#[70, 105, 108, 101, 68, 101, 115, 99, 114, 105, 112, 116, 111, 114, 78, 97, 109, 101]⟩] (by simp)).mono ?_
  rintro e w16 ⟨rfl, hI⟩
  replace HI := Lib.hid hI
  clear hI
  go_wp2_with (go_at_call 18; fail)
  refine (inv_some HI.out 5 false [⟨#[83, 101, 114, 118, 105, 99, 101]⟩] (by simp)).mono ?_
  rintro e w17 ⟨rfl, hI⟩
  replace HI := Lib.hid hI
  clear hI
  obtain ⟨v3, hI⟩ := HI.out.next (by intro g hg; simp only [List.mem_cons, List.not_mem_nil, or_false] at hg; rcases hg with rfl <;> (dsimp only; omega)) (by intro g hg; simp only [List.mem_cons, List.not_mem_nil, or_false] at hg; rcases hg with rfl | rfl <;> (dsimp only; omega)) (by omega)
  replace HI := Lib.hid hI
  clear hI
  go_wp2_with (go_at_call 18; fail)
  refine (inv_some HI.out 4 true [⟨#[79, 110, 66, 111, 111, 116, 83, 101, 99]⟩, ⟨#[79, 110, 65, 99, 116, 105, 118, 101, 83, 101, 99]⟩, ⟨#[79, 110, 85, 110, 105, 116, 73, 110, 97, 99, 116, 105, 118, 101, 83, 101, 99]⟩] (by simp)).mono ?_
  rintro e w18 ⟨rfl, hI⟩
  replace HI := Lib.hid hI
  clear hI
  go_wp2_with (go_at_call 18; fail)
  refine (inv_some HI.out 9 true [⟨#[79, 110, 67, 97, 108, 101, 110, 100, 97, 114]⟩] (by simp)).mono ?_
  rintro e w19 ⟨rfl, hI⟩
  replace HI := Lib.hid hI
  clear hI
  go_wp2_with (go_at_call 18; fail)
  refine (inv_some HI.out 2 false [⟨#[80, 101, 114, 115, 105, 115, 116, 101, 110, 116]⟩] (by simp)).mono ?_
  rintro e w20 ⟨rfl, hI⟩
  replace HI := Lib.hid hI
  clear hI
  go_wp2_with (go_at_call 18; fail)
  refine (inv_some HI.out 5 false [⟨#[85, 110, 105, 116]⟩] (by simp)).mono ?_
  rintro e w21 ⟨rfl, hI⟩
  replace HI := Lib.hid hI
  clear hI
  obtain ⟨v4, hI⟩ := HI.out.next (by intro g hg; simp at hg) (by intro g hg; simp only [List.mem_cons, List.not_mem_nil, or_false] at hg; rcases hg with rfl | rfl | rfl <;> (dsimp only; omega)) (by omega)
  replace HI := Lib.hid hI
  clear hI
  go_wp2_with (go_at_call 18; fail)
  refine (inv_some HI.out 6 true [⟨#[87, 97, 110, 116, 101, 100, 66, 121]⟩, ⟨#[82, 101, 113, 117, 105, 114, 101, 100, 66, 121]⟩, ⟨#[65, 108, 105, 97, 115]⟩, ⟨#[65, 108, 115, 111]⟩] (by simp)).mono ?_
  rintro e w22 ⟨rfl, hI⟩
  replace HI := Lib.hid hI
  clear hI
  go_wp2_with (go_at_call 18; fail)
  refine (inv_some HI.out 1 false [⟨#[68, 101, 102, 97, 117, 108, 116, 73, 110, 115, 116, 97, 110, 99, 101]⟩] (by simp)).mono ?_
  rintro e w23 ⟨rfl, hI⟩
  replace HI := Lib.hid hI
  clear hI
  obtain ⟨hbel, hlo, hhi, ⟨v5, h5r, h5o⟩, -, -, hfin⟩ := HI.out
  obtain ⟨⟨h4r, h4o, -⟩, -⟩ := hfin _ (List.mem_cons_self ..)
  obtain ⟨⟨h3r, h3o, -⟩, -⟩ := hfin _ (List.mem_cons_of_mem _ (List.mem_cons_self ..))
  obtain ⟨⟨h2r, h2o, -⟩, -⟩ := hfin _ (List.mem_cons_of_mem _ (List.mem_cons_of_mem _ (List.mem_cons_self ..)))
  obtain ⟨⟨h1r, h1o, -⟩, -⟩ := hfin _ (List.mem_cons_of_mem _ (List.mem_cons_of_mem _ (List.mem_cons_of_mem _ (List.mem_cons_self ..))))
  clear hfin HI
  dsimp only at h1r h1o
  obtain ⟨a1, c1, K1, hK1, rfl, hi1⟩ := rows_form' h1o
  clear h1o
  generalize hn1 : K1.length = n1 at hi1 h1r
  have e1 : n1 = 13 := by rw [← hn1, hK1]; simp
  have q1 : w23.cell? ⟨w.heap.size, 2, none⟩ = some (.slice a1 n1 c1) := by rw [cell_of_row w23 _ 2 _ _ _ h1r]; rfl
  have lt1 : w.heap.size < w23.heap.size := (Array.getElem?_eq_some_iff.1 h1r).1
  clear h1r
  dsimp only at h2r h2o
  obtain ⟨a2, c2, K2, hK2, rfl, hi2⟩ := rows_form' h2o
  clear h2o
  generalize hn2 : K2.length = n2 at hi2 h2r
  have e2 : n2 = 14 := by rw [← hn2, hK2]; simp
  have q2 : w23.cell? ⟨w.heap.size + 1, 2, none⟩ = some (.slice a2 n2 c2) := by rw [cell_of_row w23 _ 2 _ _ _ h2r]; rfl
  have lt2 : w.heap.size + 1 < w23.heap.size := (Array.getElem?_eq_some_iff.1 h2r).1
  clear h2r
  dsimp only at h3r h3o
  obtain ⟨a3, c3, K3, hK3, rfl, hi3⟩ := rows_form' h3o
  clear h3o
  generalize hn3 : K3.length = n3 at hi3 h3r
  have e3 : n3 = 4 := by rw [← hn3, hK3]; simp
  have q3 : w23.cell? ⟨w.heap.size + 1 + 1, 2, none⟩ = some (.slice a3 n3 c3) := by rw [cell_of_row w23 _ 2 _ _ _ h3r]; rfl
  have lt3 : w.heap.size + 1 + 1 < w23.heap.size := (Array.getElem?_eq_some_iff.1 h3r).1
  clear h3r
  dsimp only at h4r h4o
  obtain ⟨a4, c4, K4, hK4, rfl, hi4⟩ := rows_form' h4o
  clear h4o
  generalize hn4 : K4.length = n4 at hi4 h4r
  have e4 : n4 = 6 := by rw [← hn4, hK4]; simp
  have q4 : w23.cell? ⟨w.heap.size + 1 + 1 + 1, 2, none⟩ = some (.slice a4 n4 c4) := by rw [cell_of_row w23 _ 2 _ _ _ h4r]; rfl
  have lt4 : w.heap.size + 1 + 1 + 1 < w23.heap.size := (Array.getElem?_eq_some_iff.1 h4r).1
  clear h4r
  obtain ⟨a5, c5, K5, hK5, rfl, hi5⟩ := rows_form' h5o
  clear h5o
  generalize hn5 : K5.length = n5 at hi5 h5r
  have e5 : n5 = 5 := by rw [← hn5, hK5]; simp
  have q5 : w23.cell? ⟨w.heap.size + 1 + 1 + 1 + 1, 2, none⟩ = some (.slice a5 n5 c5) := by rw [cell_of_row w23 _ 2 _ _ _ h5r]; rfl
  have lt5 : w.heap.size + 1 + 1 + 1 + 1 < w23.heap.size := (Array.getElem?_eq_some_iff.1 h5r).1
  clear h5r
  have hb' : ∀ o, Below w23.heap.size w23 (w23.drew.alloc o) := fun o => (Below.refl _ _).drew.alloc (Nat.le_refl _) _
  have hcon := concat_any w23.heap.size [⟨a1, n1, c1, K1⟩, ⟨a2, n2, c2, K2⟩, ⟨a3, n3, c3, K3⟩, ⟨a4, n4, c4, K4⟩, ⟨a5, n5, c5, K5⟩] (w23.drew.alloc (.cells #[.slice a1 n1 c1, .slice a2 n2 c2, .slice a3 n3 c3, .slice a4 n4 c4, .slice a5 n5 c5] 36)) (heap_alloc_new w23.drew _)
    (by
      intro x hx
      simp only [List.mem_cons, List.not_mem_nil, or_false] at hx
      rcases hx with rfl | rfl | rfl | rfl | rfl
      · exact hi1.later (hb' _) (hb' _).size
      · exact hi2.later (hb' _) (hb' _).size
      · exact hi3.later (hb' _) (hb' _).size
      · exact hi4.later (hb' _) (hb' _).size
      · exact hi5.later (hb' _) (hb' _).size)
    (by simp only [sumN]; omega) (by simp only [sumN]; omega) (by simp)
  rw [sum_len _ (by
    intro x hx
    simp only [List.mem_cons, List.not_mem_nil, or_false] at hx
    rcases hx with rfl | rfl | rfl | rfl | rfl
    · exact hn1
    · exact hn2
    · exact hn3
    · exact hn4
    · exact hn5)] at hcon
  have hcore : (allOf [⟨a1, n1, c1, K1⟩, ⟨a2, n2, c2, K2⟩, ⟨a3, n3, c3, K3⟩, ⟨a4, n4, c4, K4⟩, (⟨a5, n5, c5, K5⟩ : SlOf KeyM)]).map KeyM.core = keysT := by
    rw [hK1, hK2, hK3, hK4, hK5]
    rfl
  generalize allOf [⟨a1, n1, c1, K1⟩, ⟨a2, n2, c2, K2⟩, ⟨a3, n3, c3, K3⟩, ⟨a4, n4, c4, K4⟩, (⟨a5, n5, c5, K5⟩ : SlOf KeyM)] = LS at hcon hcore
  have HCORE := Lib.hid hcore
  have hsz5 : w.heap.size ≤ w23.heap.size := hbel.size
  have HBA := Lib.hid (hbel.trans ((hb' (.cells #[.slice a1 n1 c1, .slice a2 n2 c2, .slice a3 n3 c3, .slice a4 n4 c4, .slice a5 n5 c5] 36)).mono hbel.size))
  clear hcore hK1 hK2 hK3 hK4 hK5 hb'
  have HCON := Lib.hid hcon
  have HBEL := Lib.hid hbel
  clear hcon hbel hi1 hi2 hi3 hi4 hi5 hlo hhi
  clear e1 e2 e3 e4 e5
  go_upto_region 26 with fail
  go_still_tail 20, (by kernel_rfl)
  change wpList _ _ _ _ _ (w23.drew)
  go_wp2_with (go_at_call 20; fail)
  refine HCON.out.mono ?_
  rintro e wz ⟨v', rfl, hown, hb⟩
  go_wp2_with fail
  exact bodyPost_ret (v := v') (by simp [results, Try.results13, go_sem]) rfl ⟨v', LS, rfl, owns_base hown (Nat.le_trans hsz5 (by simp)), HCORE.out, HBA.out.trans (hb.mono (Nat.le_trans hsz5 (by simp)))⟩

end Go.Proofs.Ytcionpepgpfjdaa
