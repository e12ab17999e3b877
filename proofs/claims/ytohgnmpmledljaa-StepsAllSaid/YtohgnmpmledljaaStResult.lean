/-
  Contract of matinsref22.Result and matinsref22.Good.
-/
import Derived.Test.YtohgnmpmledljaaStGood
namespace Go.Proofs.Ytohgnmpmledljaa
open Go.ChangeShapes Go.WideShapes Go.ChangeAt Go.RowKit

def resI (code : Int) (zs : List Int) : Int := if code = 0 ∨ zs.contains code = true then 0 else if code = 256 then 2 else 1

theorem resI_bd (code : Int) (zs : List Int) : resI code zs = 0 ∨ resI code zs = 1 ∨ resI code zs = 2 := by
  unfold resI; split <;> (try split) <;> simp

theorem contains_of (zs : List Int) (x : Int) (k : Nat) (hk : k < zs.length) (h : zs.getD k 0 = x) : zs.contains x = true := by
  rw [List.contains_iff_mem, ← h, List.getD_eq_getElem?_getD, List.getElem?_eq_getElem hk]
  exact List.getElem_mem hk

theorem not_contains_of (zs : List Int) (x : Int) (h : ∀ j, j < zs.length → zs.getD j 0 ≠ x) : zs.contains x = false := by
  rw [← Bool.not_eq_true, List.contains_iff_mem]
  intro hm
  obtain ⟨j, hj, e⟩ := List.getElem_of_mem hm
  exact h j hj (by rw [List.getD_eq_getElem?_getD, List.getElem?_eq_getElem hj]; exact e)

set_option maxHeartbeats 1000000 in
theorem rresult_any (a : Option Addr) (B n c : Nat) (zs : List Int) (x : Int) (w : World) (hz : IntsIn w B a n zs) (hbig : n ≤ 9223372036854775807) :
    Calls Try.prog 32 #[.int .i64 x, .slice a n c] w fun e w' => e = .returned (.int .i64 (resI x zs)) ∧ w = w' := by
  by_cases h0 : x = 0
  · subst h0
    have e : resI 0 zs = 0 := by simp [resI]
    rw [e]; clear e
    go_enter Try.func32, Try.ntmps32
    go_wp2_with fail
    go_ret
    exact ⟨rfl, rfl⟩
  · have hlen := hz.len
    have hpos := hz.at_
    clear hz
    go_enter Try.func32, Try.ntmps32
    go_wp2
    go_loop [6, 11] (fun _ i => ∃ k : Nat, k ≤ n ∧ i = .int .i64 k ∧ ∀ j, j < k → zs.getD j 0 ≠ x) (fun _ i => n - (intOf i).toNat)
    case atStart => exact ⟨0, Nat.zero_le _, rfl, fun j hj => absurd hj (Nat.not_lt_zero _)⟩
    case round =>
      obtain ⟨k, hk, rfl, hne⟩ := hrel
      by_cases hlt : k < n
      · obtain ⟨b, off, rfl, _, hc⟩ := hpos (by omega)
        have hcell := hc k hlt
        clear hc hpos
        by_cases heq : zs.getD k 0 = x
        · have e : resI x zs = 0 := by unfold resI; rw [if_pos (Or.inr (contains_of zs x k (by omega) heq))]
          have E := Lib.hid e; clear e
          rw [heq] at hcell
          clear hlen heq
          go_wp2
          go_ret
          exact ⟨by rw [E.out]; rfl, rfl⟩
        · clear hlen
          have hq : ((zs.getD k 0) == x) = false := by simpa using heq
          have Heq := Lib.hid heq; clear heq
          generalize hz : zs.getD k 0 = z at hcell hq Heq
          have HZ := Lib.hid hz; clear hz
          go_wp2
          go_round
          case rel =>
            refine ⟨k + 1, by omega, by go_num, fun j hj => ?_⟩
            by_cases e : j = k
            · subst e; rw [HZ.out]; exact Heq.out
            · exact hne j (by omega)
          case measure => simp [intOf]; omega
      · obtain rfl : k = n := by omega
        have h1' : zs.contains x = false := not_contains_of zs x (fun j hj => hne j (by omega))
        have e : resI x zs = if x = 256 then 2 else 1 := by unfold resI; rw [if_neg (by rw [h1']; rintro (h | h) <;> contradiction)]
        have E := Lib.hid e
        clear e h1' hpos hlen hne
        by_cases h2 : x = 256
        · have h2' : (x == 256) = true := by simpa using h2
          clear h2
          go_wp2
          go_ret
          exact ⟨by rw [E.out, if_pos (by simpa using h2')]; rfl, rfl⟩
        · go_wp2
          go_ret
          exact ⟨by rw [E.out, if_neg h2]; rfl, rfl⟩


theorem good_res (dash : Bool) (code : Int) (zs : List Int) : goodB dash code zs = (dash || decide (resI code zs = 0)) := by
  have e : (decide (code = 0) || zs.contains code) = decide (resI code zs = 0) := by
    unfold resI
    generalize zs.contains code = b
    by_cases h0 : code = 0
    · rw [if_pos (.inl h0)]
      simp [h0]
    · cases b
      · rw [if_neg (by simp [h0])]
        split <;> simp [h0]
      · rw [if_pos (.inr rfl)]
        simp
  unfold goodB
  rw [Bool.or_assoc, e]

set_option maxRecDepth 100000 in
set_option maxHeartbeats 2000000 in
theorem rgood_any (dash : Bool) (wa : Option Addr) (wn wc : Nat) (code : Int) (a : Option Addr) (B n c : Nat) (zs : List Int) (w : World) (hz : IntsIn w B a n zs) (hB : B ≤ w.heap.size) (hbig : n ≤ 9223372036854775807) :
    Calls Try.prog 19 #[.agg #[.bool dash, .slice wa wn wc], .int .i64 code, .slice a n c] w fun e w' => e = .returned (.bool (goodB dash code zs)) ∧ Below w.heap.size w w' := by
  rw [good_res]
  have hres : ∀ W, Below w.heap.size w W → Calls Try.prog 32 #[.int .i64 code, .slice a n c] W fun e w' => e = .returned (.int .i64 (resI code zs)) ∧ W = w' :=
    fun W hW => rresult_any a B n c zs code W (hz.below (hW.mono hB)) hbig
  have hbd := resI_bd code zs
  generalize resI code zs = q at *
  have HR := Lib.hid hres
  clear hres hz hbig hB
  cases dash
  · rcases hbd with rfl | rfl | rfl
    all_goals
      go_enter Try.func19, Try.ntmps19
      go_wp2_with (go_at_call 32; refine (HR.out _ ((Below.refl _ _).alloc (Nat.le_refl _) _)).mono ?_; rintro e w' ⟨rfl, rfl⟩)
    · exact bodyPost_ret (v := .bool true) (by simp [results, Try.results19, go_sem]) rfl ⟨rfl, (Below.refl _ _).alloc (Nat.le_refl _) _⟩
    · exact bodyPost_ret (v := .bool false) (by simp [results, Try.results19, go_sem]) rfl ⟨rfl, (Below.refl _ _).alloc (Nat.le_refl _) _⟩
    · exact bodyPost_ret (v := .bool false) (by simp [results, Try.results19, go_sem]) rfl ⟨rfl, (Below.refl _ _).alloc (Nat.le_refl _) _⟩
  · clear hbd
    go_enter Try.func19, Try.ntmps19
    go_wp2_with fail
    exact bodyPost_ret (v := .bool true) (by simp [results, Try.results19, go_sem]) rfl ⟨rfl, (Below.refl _ _).alloc (Nat.le_refl _) _⟩

end Go.Proofs.Ytohgnmpmledljaa
