/-
  Contract of (*keys.group).some.
-/
import Derived.Test.YtcionpepgpfjdaaBlBase
import Derived.Deep.RegionLaw
import Derived.OneCell
namespace Go.Proofs.Ytcionpepgpfjdaa
open Go.ChangeShapes Go.WideShapes Go.ChangeAt Go.RowKit

theorem keyInfo : (Try.prog.info? 33).map (fun i => (i.zero, i.size, i.bytes)) = some (some (.agg #[.string ⟨#[]⟩, .string ⟨#[]⟩, .int .i64 0, .bool false, .int .i64 0, .slice none 0 0]), 6, 80) := by kernel_rfl

def Free (w : World) (base k : Nat) : Prop := k < base ∨ ∀ cs fr, w.heap[k]? ≠ some (.cells cs 33 fr)

/-- all but block b and rows of keys from base on is as it was -/
structure Apart (base b : Nat) (w w' : World) : Prop where
  os : w'.os = w.os
  tape : w'.tape = w.tape
  output : w'.output = w.output
  size : w.heap.size ≤ w'.heap.size
  block : ∀ k, k < w.heap.size → k ≠ b → Free w base k → w'.heap[k]? = w.heap[k]?

theorem Apart.refl (base b : Nat) (w : World) : Apart base b w w := ⟨rfl, rfl, rfl, Nat.le_refl _, fun _ _ _ _ => rfl⟩
theorem Apart.trans {base b : Nat} {w w1 w2 : World} (h : Apart base b w w1) (k : Apart base b w1 w2) : Apart base b w w2 := by
  refine ⟨k.os.trans h.os, k.tape.trans h.tape, k.output.trans h.output, Nat.le_trans h.size k.size, fun i hi hb hf => ?_⟩
  have e := h.block i hi hb hf
  refine (k.block i (Nat.lt_of_lt_of_le hi h.size) hb ?_).trans e
  rcases hf with hf | hf
  · exact .inl hf
  · exact .inr (by rw [e]; exact hf)

theorem Below.apart {base b : Nat} {w w' : World} (h : Below w.heap.size w w') : Apart base b w w' := ⟨h.os, h.tape, h.output, h.size, fun k hk _ _ => h.block k hk⟩

theorem own_not_free {w : World} {base : Nat} {v : Value} {n size : Nat} {xs : List Value} {k : Nat} (h : w.ownsRow base 33 size v n xs) (hf : Free w base k) : some k ≠ v.ownBlock := by
  obtain ⟨-, ⟨rfl, -⟩ | ⟨g, cap, cur, rfl, hg, hr, -⟩⟩ := h
  · simp [Value.ownBlock]
  · intro e
    simp [Value.ownBlock] at e
    subst e
    rcases hf with hf | hf
    · omega
    · exact hf _ _ hr

theorem apart_step {base b : Nat} {wr w1 : World} {v : Value} {n size : Nat} {xs : List Value} (hown : wr.ownsRow base 33 size v n xs) (o : Obj) (hg : (wr.alloc o).grownBy w1 v.ownBlock) (x : Value) : Apart base b wr (w1.setCell ⟨b, 2, none⟩ x) := by
  refine ⟨hg.os, hg.tape, hg.output, ?_, fun k hk hb hf => ?_⟩
  · have := hg.size
    simp at this ⊢
    omega
  · rw [heap_setCell_other _ _ _ _ (by simpa using hb), hg.block k (by simp; omega) (own_not_free hown hf)]
    exact Below.heap_alloc _ _ _ hk

theorem Apart.of_drew {base b : Nat} {w w' : World} (h : Apart base b w.drew w') : Apart base b w w' := ⟨h.os, h.tape, h.output, h.size, h.block⟩

def groupRow (sec : ByteArray) (kinds : Int) (v : Value) : Array Value := #[.string sec, .int .i64 kinds, v]

def mkKey (sec : ByteArray) (kinds form : Int) (lst : Bool) (nm : ByteArray) : KeyM := ⟨sec, nm, form, lst, kinds, none, 0, 0⟩

def SomeRet (base b : Nat) (sec : ByteArray) (kinds : Int) (ks : List KeyM) (w : World) (e : Ending) (w' : World) : Prop :=
  e = .returned (.tuple #[]) ∧ ∃ v', w'.heap[b]? = some (.cells (groupRow sec kinds v') 44 (0, 0)) ∧ w'.ownsRow base 33 6 v' ks.length (flat KeyM.row ks) ∧ Apart base b w w'

set_option maxRecDepth 100000 in
set_option maxHeartbeats 2000000 in
theorem some_any (b bn base : Nat) (sec : ByteArray) (kinds form : Int) (lst : Bool) (v : Value) (ks : List KeyM) (names : List ByteArray) (c : Nat) (w : World)
    (hg : w.heap[b]? = some (.cells (groupRow sec kinds v) 44 (0, 0))) (hown : w.ownsRow base 33 6 v ks.length (flat KeyM.row ks))
    (hn : w.heap[bn]? = some (.cells (names.map Value.string).toArray 9 (0, 0))) (hs : ks.length + names.length ≤ 1000) (hbase : base ≤ w.heap.size) :
    Calls Try.prog 18 #[.pointer (some ⟨b, 0, none⟩), .int .i64 form, .bool lst, .slice (some ⟨bn, 0, none⟩) names.length c] w (SomeRet base b sec kinds (ks ++ names.map (mkKey sec kinds form lst)) w) := by
  have hlt : ∀ {k : Nat} {o : Obj}, w.heap[k]? = some o → k < w.heap.size := fun h => (Array.getElem?_eq_some_iff.1 h).1
  have hlb := hlt hg
  have hln := hlt hn
  have hne : bn ≠ b := by
    rintro rfl
    rw [hg] at hn
    injection hn with hn
    injection hn with _ h
    exact absurd h (by decide)
  obtain ⟨i0, hi0, hz0, hs0, hb0⟩ := info_parts keyInfo
  have HI := Lib.hid hi0
  have HZ := Lib.hid hz0
  have HS := Lib.hid hs0
  have HB := Lib.hid hb0
  have HG := Lib.hid hg
  have HOWN := Lib.hid hown
  have HN := Lib.hid hn
  have HBASE := Lib.hid hbase
  clear hi0 hz0 hs0 hb0 hg hown hn hlt hbase
  generalize hnn : names.length = n at hs
  have HNN := Lib.hid hnn
  clear hnn
  go_enter Try.func18, Try.ntmps18
  go_wp2_with fail
  go_loopw [9, 12] (fun v9 v12 wr => ∃ (i : Nat) (v' : Value), v12 = .int .i64 i ∧ i ≤ n ∧ wr.heap[b]? = some (.cells (groupRow sec kinds v') 44 (0, 0)) ∧
    wr.ownsRow base 33 6 v' (ks.length + i) (flat KeyM.row (ks ++ (names.take i).map (mkKey sec kinds form lst))) ∧ Apart base b w wr) (fun _ v12 _ => n - (intOf v12).toNat)
  case atStart => exact ⟨0, v, rfl, Nat.zero_le _, HG.out, by simpa using HOWN.out, Apart.refl _ _ _⟩
  case round =>
    obtain ⟨i, v', rfl, hi, hgr, hownr, hap⟩ := hrel
    have HGR := Lib.hid hgr
    have HOR := Lib.hid hownr
    have HAP := Lib.hid hap
    have hlbr : b < wr.heap.size := Nat.lt_of_lt_of_le hlb hap.size
    have hlnr : bn < wr.heap.size := Nat.lt_of_lt_of_le hln hap.size
    have hnr := (hap.block bn hln hne (.inr (by rw [HN.out]; intro cs fr h; injection h with h; injection h with _ h; exact absurd h (by decide)))).trans HN.out
    have f0 : ∀ j, wr.frozen? ⟨b, j, none⟩ = false := by intro j; simp [World.frozen?, hgr]
    have c0 : wr.cell? ⟨b, 0, none⟩ = some (.string sec) := by rw [cell_of_row wr _ 0 _ _ _ hgr]; rfl
    have c1 : wr.cell? ⟨b, 1, none⟩ = some (.int .i64 kinds) := by rw [cell_of_row wr _ 1 _ _ _ hgr]; rfl
    have c2 : wr.cell? ⟨b, 2, none⟩ = some v' := by rw [cell_of_row wr _ 2 _ _ _ hgr]; rfl
    clear hgr hownr hap
    by_cases hlt : i < n
    · have hlti : (i : Int) < (n : Int) := by omega
      have hwi : IntKind.i64.wrap ((i : Int) + 1) = (i : Int) + 1 := by rw [IntKind.wrap_i64]; omega
      have hil : i < names.length := by rw [HNN.out]; exact hlt
      have hnm : wr.cell? ⟨bn, i, none⟩ = some (.string names[i]) := by
        rw [cell_of_row wr _ i _ _ _ hnr]
        simp [hil]
      have htake : names.take (i + 1) = names.take i ++ [names[i]] := (List.take_append_getElem hil).symm
      generalize names[i] = nm at hnm htake
      have HT := Lib.hid htake
      clear htake hnr
      have hbo : some b ≠ v'.ownBlock := own_not_free HOR.out (.inr (by rw [HGR.out]; intro cs fr h; injection h with h; injection h with _ h; exact absurd h (by decide)))
      have HBO := Lib.hid hbo
      have HO : Hid ((wr.drew.alloc (.cells (mkKey sec kinds form lst nm).row 33)).ownsRow base 33 6 v' (ks.length + i) (flat KeyM.row (ks ++ (names.take i).map (mkKey sec kinds form lst)))) := Lib.hid (owns_below (w := wr.drew) HOR.out ((Below.refl _ _).alloc (Nat.le_refl _) _))
      have HRD : Hid (Reads (wr.drew.alloc (.cells (mkKey sec kinds form lst nm).row 33)) (wr.heap.size + 1) 6 (some ⟨wr.heap.size, 0, none⟩) 1 (mkKey sec kinds form lst nm).row.toList) := Lib.hid (cellsRow wr.drew _ _ 6 rfl)
      have H1C : Hid (∀ u ∈ (mkKey sec kinds form lst nm).row.toList, u.oneCell' = true) := Lib.hid (by intro u hu; simp [mkKey, KeyM.row] at hu; rcases hu with rfl | rfl | rfl | rfl | rfl | rfl <;> rfl)
      have HBS : Hid (base ≤ (wr.drew.alloc (.cells (mkKey sec kinds form lst nm).row 33)).heap.size) := Lib.hid (by have h1 := HBASE.out; have h2 := HAP.out.size; simp; omega)
      clear hbo
      go_upto_region 3 with fail
      go_region_law (refine step_append_any _ rfl (.tmp 20) (.tmp 33) 36 rfl base 33 i0 (.agg #[.string ⟨#[]⟩, .string ⟨#[]⟩, .int .i64 0, .bool false, .int .i64 0, .slice none 0 0]) 6 80 Try.underlying36 HI.out HZ.out HS.out HB.out rfl (by omega) v' (ks.length + i) _ (by simp [Act.eval]) HO.out (wr.heap.size + 1) (some ⟨wr.heap.size, 0, none⟩) 1 1 _ (by simp [Act.eval]) HRD.out H1C.out (by simp only [maxLen]; omega) (by omega) HBS.out ?_; intro v1 w1 hown1 hg1 hat1; obtain ⟨g1, cap1, rfl, -, -⟩ := hown1.form (by omega); have hgb := (hg1.block b (by simp; omega) HBO.out).trans ((Below.heap_alloc wr.drew _ _ hlbr).trans HGR.out); have g2 : w1.cell? ⟨b, 2, none⟩ = some v' := (by rw [cell_of_row w1 _ 2 _ _ _ hgb]; rfl); have f1 : ∀ j, w1.frozen? ⟨b, j, none⟩ = false := (by intro j; simp [World.frozen?, hgb]); have HGB := Lib.hid hgb; have HW1 := Lib.hid hown1; have HG1 := Lib.hid hg1; have HAT := Lib.hid hat1; clear hgb hown1 hg1 hat1)
      all_goals
        go_wp2_with fail
        go_roundw
        case rel =>
          refine ⟨i + 1, _, by go_num, by omega, heap_setCell_same w1 b 2 (groupRow sec kinds v') _ _ HGB.out, ?_, HAP.out.trans (apart_step (wr := wr.drew) HOR.out _ HG1.out _).of_drew⟩
          have h := ownsRow_setCell_other HW1.out (a := ⟨b, 2, none⟩) (by
            intro e
            rcases HAT.out with h | h
            · exact HBO.out (by rw [← e, h])
            · rw [h] at e
              simp at e
              omega) (.slice (some ⟨g1, 0, none⟩) (ks.length + i + 1) cap1)
          have e : flat KeyM.row ([nm].map (mkKey sec kinds form lst)) = (mkKey sec kinds form lst nm).row.toList := by simp [flat]
          rw [HT.out, List.map_append, ← List.append_assoc, flat_append, e]
          exact h
        case measure => simp [intOf]; omega
    · have hlti : ¬ (i : Int) < (n : Int) := by omega
      go_wp2_with fail
      refine bodyPost_ret (v := .tuple #[]) (by simp [results, Try.results18, go_sem]) rfl ⟨rfl, v', HGR.out, ?_, HAP.out⟩
      have e : names.take i = names := List.take_of_length_le (by rw [HNN.out]; omega)
      have h := HOR.out
      rw [e] at h
      rw [List.length_append, List.length_map, HNN.out, show n = i by omega]
      exact h

end Go.Proofs.Ytcionpepgpfjdaa
