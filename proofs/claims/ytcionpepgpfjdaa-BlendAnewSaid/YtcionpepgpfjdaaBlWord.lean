/-
  Contracts of slices.Clone of strings and of (*keys.group).word.
-/
import Derived.Test.YtcionpepgpfjdaaBlSome
namespace Go.Proofs.Ytcionpepgpfjdaa
open Go.ChangeShapes Go.WideShapes Go.ChangeAt Go.RowKit

theorem strInfo : (Try.prog.info? 9).map (fun i => (i.zero, i.size, i.bytes)) = some (some (.string ⟨#[]⟩), 1, 16) := by kernel_rfl
theorem nil_eq (ad : Addr) (n c : Nat) (W : World) : Sem.run Try.prog (binOp BinOp.eql 31 (Value.slice (some ad) n c) (Value.slice none 0 0)) W = .ok (.bool false) W := by kernel_rfl
attribute [local go_sem] nil_eq

set_option maxRecDepth 100000 in
set_option maxHeartbeats 2000000 in
theorem clone_any (bw : Nat) (words : List ByteArray) (c : Nat) (w : World) (hn : w.heap[bw]? = some (.cells (words.map Value.string).toArray 9 (0, 0))) (hs : words.length ≤ 1000) :
    Calls Try.prog 24 #[.slice (some ⟨bw, 0, none⟩) words.length c] w fun e w' => ∃ a' n' c', e = .returned (.slice a' n' c') ∧ Below w.heap.size w w' := by
  obtain ⟨i0, hi0, hz0, hs0, hb0⟩ := info_parts strInfo
  have hlt : bw < w.heap.size := (Array.getElem?_eq_some_iff.1 hn).1
  have hrd : Reads w w.heap.size 1 (some ⟨bw, 0, none⟩) words.length (words.map Value.string) := by
    refine ⟨by simp, fun _ => ⟨_, rfl, hlt, fun j u hu => ?_⟩⟩
    rw [add_plain, Nat.zero_add, cell_of_row _ _ j _ _ _ hn, ← hu]
    simp
  have h1c : ∀ u ∈ words.map Value.string, u.oneCell' = true := by
    intro u hu
    obtain ⟨x, -, rfl⟩ := List.mem_map.1 hu
    rfl
  have HX := Lib.hid hrd
  have H1 := Lib.hid h1c
  have HI := Lib.hid hi0
  have HZ := Lib.hid hz0
  have HS := Lib.hid hs0
  have HB := Lib.hid hb0
  clear hrd h1c hi0 hz0 hs0 hb0 hn
  generalize words.map Value.string = xs at HX H1
  generalize words.length = n at *
  go_enter Try.func24, Try.ntmps24
  go_wp2_with (at_builtin
               refine wpList_append_any _ rfl (.tmp 5) (.tmp 6) 31 rfl w.heap.size 9 i0 (.string ⟨#[]⟩) 1 16 Try.underlying31 HI.out HZ.out HS.out HB.out rfl (by omega) (.slice (some ⟨w.heap.size, 0, none⟩) 0 0) 0 [] rfl
                 (World.ownsRow_made w #[] 0 (Nat.le_refl _) (Nat.zero_le _) rfl) w.heap.size (some ⟨bw, 0, none⟩) n c xs rfl (HX.out.alloc (Nat.le_refl _) _) H1.out ?_ ?_ (by simp) ?_
               · simp only [maxLen]; omega
               · omega
               intro v1 w2 hown hg hat
               have hb2 : Below w.heap.size w w2 := ((Below.refl _ _).alloc (Nat.le_refl _) _).grown hg (by simp) (by simp [Value.ownBlock])
               have HB2 := Lib.hid hb2
               have HF : Hid (∃ a' n' c', v1 = .slice a' n' c') := Lib.hid (by rcases hown.2 with ⟨rfl, -⟩ | ⟨g, cap, cur, rfl, -⟩ <;> exact ⟨_, _, _, rfl⟩)
               clear hown hg hat hb2)
  obtain ⟨a', n', c', rfl⟩ := HF.out
  exact bodyPost_ret (v := .slice a' n' c') (by simp [results, Try.results24, go_sem]) rfl ⟨a', n', c', rfl, HB2.out⟩

theorem own_set {w : World} {base : Nat} {e : TypeId} {size g n cap i : Nat} {xs : List Value} (h : w.ownsRow base e size (.slice (some ⟨g, 0, none⟩) n cap) n xs) (x : Value) :
    (w.setCell ⟨g, i, none⟩ x).ownsRow base e size (.slice (some ⟨g, 0, none⟩) n cap) n (xs.set i x) := by
  obtain ⟨h1, ⟨h2, -⟩ | ⟨g', cap', cur, hv, hg, hr, hn, hm, hc, ht⟩⟩ := h
  · cases h2
  · injection hv with e1 _ e3
    injection e1 with e1
    injection e1 with e1
    subst e1 e3
    refine ⟨by rw [List.length_set]; exact h1, .inr ⟨g, cap, _, rfl, hg, heap_setCell_same w g i cur e x hr, hn, hm, by simpa using hc, ?_⟩⟩
    rw [← ht]
    simp [List.take_set]

theorem apart_set {base b : Nat} {w : World} {g n cap i size : Nat} {xs : List Value} (h : w.ownsRow base 33 size (.slice (some ⟨g, 0, none⟩) n cap) n xs) (x : Value) : Apart base b w (w.setCell ⟨g, i, none⟩ x) := by
  refine ⟨rfl, rfl, rfl, by simp, fun k hk hb hf => ?_⟩
  refine heap_setCell_other _ _ _ _ ?_
  rintro rfl
  exact own_not_free h hf rfl

theorem last_set (ks : List KeyM) (sec name : ByteArray) (kinds : Int) (m : Nat) (hm : ks.length = m) (a : Option Addr) (n c : Nat) :
    (flat KeyM.row (ks ++ [mkKey sec kinds 10 false name])).set (m * 6 + 5) (.slice a n c) = flat KeyM.row (ks ++ [⟨sec, name, 10, false, kinds, a, n, c⟩]) := by
  have hl : (flat KeyM.row ks).length = m * 6 := by rw [flat_length KeyM.size, hm]
  rw [flat_append, flat_append, List.set_append_right _ _ (by omega), hl, show m * 6 + 5 - m * 6 = 5 by omega]
  rfl

def WordRet (base b : Nat) (sec : ByteArray) (kinds : Int) (ks : List KeyM) (name : ByteArray) (w : World) (e : Ending) (w' : World) : Prop :=
  e = .returned (.tuple #[]) ∧ ∃ wa wn wc v', w'.heap[b]? = some (.cells (groupRow sec kinds v') 44 (0, 0)) ∧ w'.ownsRow base 33 6 v' (ks.length + 1) (flat KeyM.row (ks ++ [⟨sec, name, 10, false, kinds, wa, wn, wc⟩])) ∧ Apart base b w w'

set_option maxRecDepth 100000 in
set_option maxHeartbeats 2000000 in
theorem word_any (b bw base : Nat) (sec name : ByteArray) (kinds : Int) (v : Value) (ks : List KeyM) (words : List ByteArray) (c : Nat) (w : World)
    (hg : w.heap[b]? = some (.cells (groupRow sec kinds v) 44 (0, 0))) (hown : w.ownsRow base 33 6 v ks.length (flat KeyM.row ks))
    (hn : w.heap[bw]? = some (.cells (words.map Value.string).toArray 9 (0, 0))) (hs : ks.length ≤ 900) (hws : words.length ≤ 1000) (hbase : base ≤ w.heap.size) :
    Calls Try.prog 19 #[.pointer (some ⟨b, 0, none⟩), .string name, .slice (some ⟨bw, 0, none⟩) words.length c] w (WordRet base b sec kinds ks name w) := by
  have hlt : ∀ {k : Nat} {o : Obj}, w.heap[k]? = some o → k < w.heap.size := fun h => (Array.getElem?_eq_some_iff.1 h).1
  have hlb := hlt hg
  have hlw := hlt hn
  have hne : bw ≠ b := by
    rintro rfl
    rw [hg] at hn
    injection hn with hn
    injection hn with _ h
    exact absurd h (by decide)
  have HN := Lib.hid hn
  have HSOME : Hid (Calls Try.prog 18 #[.pointer (some ⟨b, 0, none⟩), .int .i64 10, .bool false, .slice (some ⟨w.heap.size, 0, none⟩) 1 1] (w.alloc (.cells #[.string name] 9)) (SomeRet base b sec kinds (ks ++ [mkKey sec kinds 10 false name]) (w.alloc (.cells #[.string name] 9)))) :=
    Lib.hid (some_any b w.heap.size base sec kinds 10 false v ks [name] 1 _ ((Below.heap_alloc w _ _ hlb).trans hg) (owns_below hown ((Below.refl _ _).alloc (Nat.le_refl _) _)) (heap_alloc_new w _) (by simp; omega) (by simp; omega))
  clear hg hown hn hlt
  go_enter Try.func19, Try.ntmps19
  go_wp2_with (go_at_call 18; fail)
  refine HSOME.out.mono ?_
  rintro e w1 ⟨rfl, v1, hg1, hown1, hap1⟩
  have HAP := Lib.hid ((Below.apart ((Below.refl w.heap.size w).alloc (Nat.le_refl _) (.cells #[.string name] 9)) (base := base) (b := b)).trans hap1)
  have hlen : (ks ++ [mkKey sec kinds 10 false name]).length = ks.length + 1 := by simp
  rw [hlen] at hown1
  obtain ⟨g1, cap1, rfl, hbg, hlg⟩ := hown1.form (by omega)
  have hnw : w1.heap[bw]? = some (.cells (words.map Value.string).toArray 9 (0, 0)) := (HAP.out.block bw hlw hne (.inr (by rw [HN.out]; intro cs fr h; injection h with h; injection h with _ h; exact absurd h (by decide)))).trans HN.out
  have hclone := clone_any bw words c w1.drew hnw hws
  have HCLONE := Lib.hid hclone
  have hl1b : b < w1.heap.size := Nat.lt_of_lt_of_le hlb HAP.out.size
  have hgb : g1 ≠ b := by
    rintro rfl
    obtain ⟨-, ⟨h2, -⟩ | ⟨g', cap', cur, hv, -, hr, -⟩⟩ := hown1
    · cases h2
    · injection hv with e1 _ e3
      injection e1 with e1
      injection e1 with e1
      subst e1
      rw [hg1] at hr
      injection hr with hr
      injection hr with _ h
      exact absurd h (by decide)
  have c2 : w1.cell? ⟨b, 2, none⟩ = some (.slice (some ⟨g1, 0, none⟩) (ks.length + 1) cap1) := by rw [cell_of_row w1 _ 2 _ _ _ hg1]; rfl
  have k5 : w1.cell? ⟨g1, ks.length * 6 + 5, none⟩ = some (.slice none 0 0) := by
    have h := hown1.cells (g := g1) rfl (ks.length * 6 + 5) (.slice none 0 0) (flat_get KeyM.size _ ks.length 5 (mkKey sec kinds 10 false name) _ (by simp) rfl)
    rw [add_plain, Nat.zero_add] at h
    exact h
  have f5 : ∀ j, w1.frozen? ⟨g1, j, none⟩ = false := by
    intro j
    obtain ⟨-, ⟨h2, -⟩ | ⟨g', cap', cur, hv, -, hr, -⟩⟩ := hown1
    · cases h2
    · injection hv with e1 _ e3
      injection e1 with e1
      injection e1 with e1
      subst e1
      exact frozen_of_row _ _ _ _ _ hr
  have HG1 := Lib.hid hg1
  have HO1 := Lib.hid hown1
  have HK5 := Lib.hid k5
  have HF5 := Lib.hid f5
  have HC2 := Lib.hid c2
  clear hg1 hown1 hap1 hlen hnw hclone hbg
  have hw2 : IntKind.i64.wrap ((ks.length : Int) + 1 - 1) = (ks.length : Int) := by rw [IntKind.wrap_i64]; omega
  have hw3 : IntKind.i64.wrap (ks.length : Int) = (ks.length : Int) := by rw [IntKind.wrap_i64]; omega
  have hlt1 : (ks.length : Int) < (ks.length : Int) + 1 := by omega
  generalize hm : ks.length = m at *
  go_upto_region 1 with fail
  go_region_with (go_at_call 24; refine HCLONE.out.mono ?_; rintro e w2 ⟨a', n', c', rfl, hb2⟩; have HB2 := Lib.hid (((Below.refl w1.heap.size w1).drew).trans hb2); have d2 := (hb2.cell (p := ⟨b, 2, none⟩) hl1b).trans HC2.out; have d5 := (hb2.cell (p := ⟨g1, m * 6 + 5, none⟩) hlg).trans HK5.out; have e5 : ∀ j, w2.frozen? ⟨g1, j, none⟩ = false := (fun j => (hb2.frozen (p := ⟨g1, j, none⟩) hlg).trans (HF5.out j)); clear hb2)
  all_goals
    go_wp2_with fail
    have hO := owns_below HO1.out HB2.out
    refine bodyPost_ret (v := .tuple #[]) (by simp [results, Try.results19, go_sem]) rfl ⟨rfl, a', n', c', .slice (some ⟨g1, 0, none⟩) (m + 1) cap1, ?_, ?_, HAP.out.trans ((Below.apart HB2.out).trans (apart_set hO _))⟩
    · rw [heap_setCell_other _ _ _ _ (by intro h; exact hgb h.symm), HB2.out.block b hl1b]
      exact HG1.out
    · have h := own_set hO (.slice a' n' c') (i := m * 6 + 5)
      rw [last_set ks sec name kinds m hm] at h
      rw [hm]
      exact h

end Go.Proofs.Ytcionpepgpfjdaa
