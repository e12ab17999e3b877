/-
  Contract of keys.Find.
-/
import Derived.Test.YtcionpepgpfjdaaBlAll
import Derived.Test.YtcionpepgpfjdaaBlIdxK
namespace Go.Proofs.Ytcionpepgpfjdaa
open Go.ChangeShapes Go.WideShapes Go.ChangeAt Go.RowKit

abbrev KeyT := ByteArray × ByteArray × Int × Bool × Int
def hitT (s k : ByteArray) (t : KeyT) : Bool := eqS t.1 s && eqS t.2.1 k
def findT (s k : ByteArray) : Option KeyT := keysT.find? (hitT s k)

theorem idx_find {α : Type} (p : α → Bool) (l : List α) : (idxI p l = -1 ∧ l.find? p = none) ∨ ∃ (i : Nat) (x : α), idxI p l = i ∧ l[i]? = some x ∧ l.find? p = some x := by
  unfold idxI
  cases hf : l.findIdx? p with
  | none =>
    refine .inl ⟨rfl, ?_⟩
    rw [List.findIdx?_eq_none_iff] at hf
    rw [List.find?_eq_none]
    intro x hx
    rw [hf x hx]
    simp
  | some i =>
    rw [List.findIdx?_eq_some_iff_getElem] at hf
    obtain ⟨hlt, hp, hno⟩ := hf
    refine .inr ⟨i, l[i], rfl, List.getElem?_eq_getElem hlt, ?_⟩
    rw [List.find?_eq_some_iff_getElem]
    exact ⟨hp, i, hlt, rfl, fun j hj => by simpa using hno j hj⟩

theorem key_find {s k : ByteArray} {ks : List KeyM} (h : ks.map KeyM.core = keysT) : (idxI (hitK s k) ks = -1 ∧ findT s k = none) ∨ ∃ (i : Nat) (x : KeyM), idxI (hitK s k) ks = i ∧ ks[i]? = some x ∧ findT s k = some x.core := by
  have e : findT s k = (ks.find? (hitK s k)).map KeyM.core := by
    unfold findT
    rw [← h, List.find?_map]
    rfl
  rcases idx_find (hitK s k) ks with ⟨h1, h2⟩ | ⟨i, x, h1, h2, h3⟩
  · exact .inl ⟨h1, by rw [e, h2]; rfl⟩
  · exact .inr ⟨i, x, h1, h2, by rw [e, h3]; rfl⟩

/-- a key's six cells -/
structure KeyAt (w : World) (b : Nat) (s n : ByteArray) (f : Int) (l : Bool) (k : Int) (wa : Option Addr) (wn wc : Nat) : Prop where
  c0 : w.cell? ⟨b, 0, none⟩ = some (.string s)
  c1 : w.cell? ⟨b, 1, none⟩ = some (.string n)
  c2 : w.cell? ⟨b, 2, none⟩ = some (.int .i64 f)
  c3 : w.cell? ⟨b, 3, none⟩ = some (.bool l)
  c4 : w.cell? ⟨b, 4, none⟩ = some (.int .i64 k)
  c5 : w.cell? ⟨b, 5, none⟩ = some (.slice wa wn wc)

theorem KeyAt.set {w : World} {b : Nat} {s n : ByteArray} {f : Int} {l : Bool} {k : Int} {wa : Option Addr} {wn wc : Nat} (h : KeyAt w b s n f l k wa wn wc) (s' n' : ByteArray) (f' : Int) (l' : Bool) (k' : Int) (wa' : Option Addr) (wn' wc' : Nat) :
    KeyAt ((((((w.setCell ⟨b, 0, none⟩ (.string s')).setCell ⟨b, 1, none⟩ (.string n')).setCell ⟨b, 2, none⟩ (.int .i64 f')).setCell ⟨b, 3, none⟩ (.bool l')).setCell ⟨b, 4, none⟩ (.int .i64 k')).setCell ⟨b, 5, none⟩ (.slice wa' wn' wc')) b s' n' f' l' k' wa' wn' wc' := by
  obtain ⟨c0, c1, c2, c3, c4, c5⟩ := h
  refine ⟨?_, ?_, ?_, ?_, ?_, ?_⟩
  all_goals go_simp

theorem KeyAt.of_row {w : World} {b : Nat} {s n : ByteArray} {f : Int} {l : Bool} {k : Int} {wa : Option Addr} {wn wc : Nat} {ty : TypeId}
    (h : w.heap[b]? = some (.cells #[.string s, .string n, .int .i64 f, .bool l, .int .i64 k, .slice wa wn wc] ty (0, 0))) : KeyAt w b s n f l k wa wn wc := by
  refine ⟨?_, ?_, ?_, ?_, ?_, ?_⟩
  all_goals (rw [cell_of_row w b _ _ ty (0, 0) h]; rfl)

theorem key_results (fn : Func) (hf : fn.results = #[.cell 4 33, .tmp 5]) (W : World) (b : Nat) (s n : ByteArray) (f : Int) (l : Bool) (k : Int) (wa : Option Addr) (wn wc : Nat) (ok : Bool) (tm : Array Value) (h : KeyAt W b s n f l k wa wn wc) (h4 : tm[4]? = some (.pointer (some ⟨b, 0, none⟩))) (h5 : tm[5]? = some (.bool ok)) :
    (results fn tm).run Try.prog W = .ok (.tuple #[.agg #[.string s, .string n, .int .i64 f, .bool l, .int .i64 k, .slice wa wn wc], .bool ok]) W := by
  obtain ⟨c0, c1, c2, c3, c4, c5⟩ := h
  simp [results, hf, go_sem, h4, h5, c0, c1, c2, c3, c4, c5]

def keyZero : Value := .agg #[.string ⟨#[]⟩, .string ⟨#[]⟩, .int .i64 0, .bool false, .int .i64 0, .slice none 0 0]
def FindRet (s k : ByteArray) (e : Ending) : Prop :=
  match findT s k with
  | some t => ∃ wa wn wc, e = .returned (.tuple #[.agg #[.string t.1, .string t.2.1, .int .i64 t.2.2.1, .bool t.2.2.2.1, .int .i64 t.2.2.2.2, .slice wa wn wc], .bool true])
  | none => e = .returned (.tuple #[keyZero, .bool false])

set_option maxRecDepth 100000 in
set_option maxHeartbeats 3000000 in
theorem find_any (s k : ByteArray) (w : World) : Calls Try.prog 12 #[.string s, .string k] w fun e w' => FindRet s k e ∧ Below w.heap.size w w' := by
  have hmf : ∀ (fn : Fn) (first cap : Array Value) (w : World), (Instr.makeFunc fn first cap).run Try.prog w = .ok (.func fn first cap) w := fun _ _ _ _ => rfl
  go_enter Try.func12, Try.ntmps12
  go_wp2_with (go_at_call 13; fail)
  have hb0 : ∀ X Y Z : Obj, Below w.heap.size w (((w.alloc X).alloc Y).alloc Z) := fun X Y Z => (((Below.refl _ _).alloc (Nat.le_refl _) _).alloc (by simp) _).alloc (by simp; omega) _
  refine (all_any _).mono ?_
  rintro e w1 ⟨v, ks, rfl, hown, hcore, hb1⟩
  have hr2 := (hb1.block w.heap.size (by simp <;> omega)).trans ((Below.heap_alloc _ _ _ (by simp <;> omega)).trans ((Below.heap_alloc (w.alloc (.cells #[.string s] 9)) (.cells #[.string k] 9) _ (by simp)).trans (heap_alloc_new w _)))
  have hr3 := (hb1.block (w.heap.size + 1) (by simp <;> omega)).trans ((Below.heap_alloc _ _ _ (by simp <;> omega)).trans (row_two w (.cells #[.string s] 9) (.cells #[.string k] 9)))
  have hr4 := (hb1.block (w.heap.size + 1 + 1) (by simp)).trans (row_three w _ _ _)
  have hl1 : w.heap.size + 1 + 1 < w1.heap.size := by have := hb1.size; simp at this; omega
  have HB1 := Lib.hid ((hb0 _ _ _).trans (hb1.mono (by simp; omega)))
  have h2 : w1.cell? ⟨w.heap.size, 0, none⟩ = some (.string s) := by rw [cell_of_row w1 _ 0 _ _ _ hr2]; rfl
  have h3 : w1.cell? ⟨w.heap.size + 1, 0, none⟩ = some (.string k) := by rw [cell_of_row w1 _ 0 _ _ _ hr3]; rfl
  obtain ⟨a, c, rfl, hin, -, -⟩ := rows_form KeyM.size hown
  have hbig : ks.length ≤ 9223372036854775807 := by
    have : (ks.map KeyM.core).length = 42 := by rw [hcore]; rfl
    rw [List.length_map] at this
    omega
  have HIDX := Lib.hid (idxk_any (hitK s k) #[.pointer (some ⟨w.heap.size, 0, none⟩), .pointer (some ⟨w.heap.size + 1, 0, none⟩)] ks a ks.length c w1 hin hbig fun W x hW => idxkclo_any x s k w.heap.size (w.heap.size + 1) W ((hW.cell (p := ⟨w.heap.size, 0, none⟩) (by show w.heap.size < _; omega)).trans h2) ((hW.cell (p := ⟨w.heap.size + 1, 0, none⟩) (by show w.heap.size + 1 < _; omega)).trans h3))
  have hfind := key_find (s := s) (k := k) hcore
  have HIN := Lib.hid hin
  have HR4 := Lib.hid hr4
  clear hb0 hb1 hr2 hr3 hr4 h2 h3 hown hcore hin
  generalize hnn : ks.length = n at *
  have HNN := Lib.hid hnn
  clear hnn
  generalize idxI (hitK s k) ks = ii at hfind HIDX
  go_wp2_with (go_at_call 16; fail)
  refine HIDX.out.mono ?_
  rintro e w2 ⟨rfl, hb2⟩
  have hr4 := (hb2.block (w.heap.size + 1 + 1) hl1).trans HR4.out
  have HB2 := Lib.hid (HB1.out.trans (hb2.mono HB1.out.size))
  have HA4 := Lib.hid (KeyAt.of_row hr4)
  have f4 : ∀ j, w2.frozen? ⟨w.heap.size + 1 + 1, j, none⟩ = false := fun j => frozen_of_row _ _ _ _ _ hr4
  have hin2 := HIN.out.later hb2 hb2.size
  have hl2 : w.heap.size + 1 + 1 < w2.heap.size := Nat.lt_of_lt_of_le hl1 hb2.size
  clear hr4 hb2 HIDX HIN HR4
  obtain ⟨d0, d1, d2, d3, d4, d5⟩ := HA4.out
  rcases hfind with ⟨rfl, hf⟩ | ⟨i, x, rfl, hx, hf⟩
  · have HF := Lib.hid hf
    clear hf hin2
    go_wp2_with fail
    refine bodyPost_ret (v := .tuple #[keyZero, .bool false]) (key_results _ rfl _ (w.heap.size + 1 + 1) _ _ _ _ _ _ _ _ false _ (KeyAt.set HA4.out _ _ _ _ _ _ _ _) rfl rfl) rfl ⟨?_, ?_⟩
    · unfold FindRet
      rw [HF.out]
    · iterate 6 refine Below.setCell ?_ (by simp; omega) _
      exact HB2.out
  · have hin' : i < n := by rw [← HNN.out]; exact (List.getElem?_eq_some_iff.1 hx).1
    have hi0 : ¬ (i : Int) < 0 := by omega
    have hii : (i : Int) < (n : Int) := by omega
    obtain ⟨bs, off, rfl, hbs, hcl⟩ := hin2.at_ (by omega)
    have hcell := hcl i x hx
    obtain ⟨xs, xn, xf, xl, xk, xa, xc, xd⟩ := x
    unfold KeyM.row at hcell
    dsimp only at hcell
    have q0 := hcell 0 _ rfl
    have q1 := hcell 1 _ rfl
    have q2 := hcell 2 _ rfl
    have q3 := hcell 3 _ rfl
    have q4 := hcell 4 _ rfl
    have q5 := hcell 5 _ rfl
    simp only [Nat.add_zero] at q0
    have HF := Lib.hid hf
    clear hcell hcl hf hx hin2
    go_wp2_with fail
    refine bodyPost_ret (v := .tuple #[.agg #[.string xs, .string xn, .int .i64 xf, .bool xl, .int .i64 xk, .slice xa xc xd], .bool true]) (key_results _ rfl _ (w.heap.size + 1 + 1) _ _ _ _ _ _ _ _ true _ (KeyAt.set HA4.out _ _ _ _ _ _ _ _) rfl rfl) rfl ⟨?_, ?_⟩
    · unfold FindRet
      rw [HF.out]
      exact ⟨xa, xc, xd, rfl⟩
    · iterate 6 refine Below.setCell ?_ (by simp; omega) _
      exact HB2.out

end Go.Proofs.Ytcionpepgpfjdaa
