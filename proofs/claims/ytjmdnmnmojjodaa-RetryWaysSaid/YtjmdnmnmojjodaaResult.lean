/-
  Contracts of retry.Result and matinsref22.Result: what they compute at every slice of ints that can be read; the world is as it was.
-/
import Derived.Test.YtjmdnmnmojjodaaInts
namespace Go.Proofs.Ytjmdnmnmojjodaa
open Go.ChangeShapes Go.WideShapes Go.ChangeAt Go.RowKit

def resI (code : Int) (zs : List Int) : Int := if code = 0 ∨ zs.contains code = true then 0 else if code = 256 then 2 else 1

theorem resI_bd (code : Int) (zs : List Int) : resI code zs = 0 ∨ resI code zs = 1 ∨ resI code zs = 2 := by
  unfold resI; split <;> (try split) <;> simp

theorem result_any (a : Option Addr) (B n c : Nat) (zs : List Int) (x : Int) (w : World) (hz : IntsIn w B a n zs) (hbig : n ≤ 9223372036854775807) :
    Calls Try.prog 9 #[.int .i64 x, .slice a n c] w fun e w' => e = .returned (.int .i64 (resI x zs)) ∧ w = w' := by
  by_cases h0 : x = 0
  · subst h0
    have e : resI 0 zs = 0 := by simp [resI]
    rw [e]; clear e
    go_enter Try.func9, Try.ntmps9
    go_wp2_with fail
    go_ret
    exact ⟨rfl, rfl⟩
  · by_cases h1 : zs.contains x = true
    · have e : resI x zs = 0 := by unfold resI; rw [if_pos (Or.inr h1)]
      rw [e]; clear e
      have H := Lib.hid h1; clear h1
      go_enter Try.func9, Try.ntmps9
      go_wp2_with (go_at_call 17; refine (contains_any a B n c zs x _ hz hbig).mono ?_; rintro e w' ⟨rfl, rfl⟩; rw [H.out])
      go_ret
      exact ⟨rfl, rfl⟩
    · have h1' : zs.contains x = false := by simpa using h1
      have e : resI x zs = if x = 256 then 2 else 1 := by unfold resI; rw [if_neg (by rintro (h | h) <;> contradiction)]
      rw [e]; clear e h1
      have H := Lib.hid h1'; clear h1'
      by_cases h2 : x = 256
      · subst h2
        go_enter Try.func9, Try.ntmps9
        go_wp2_with (go_at_call 17; refine (contains_any a B n c zs _ _ hz hbig).mono ?_; rintro e w' ⟨rfl, rfl⟩; rw [H.out])
        go_ret
        exact ⟨rfl, rfl⟩
      · rw [if_neg h2]
        go_enter Try.func9, Try.ntmps9
        go_wp2_with (go_at_call 17; refine (contains_any a B n c zs x _ hz hbig).mono ?_; rintro e w' ⟨rfl, rfl⟩; rw [H.out])
        go_ret
        exact ⟨rfl, rfl⟩

theorem contains_of (zs : List Int) (x : Int) (k : Nat) (hk : k < zs.length) (h : zs.getD k 0 = x) : zs.contains x = true := by
  rw [List.contains_iff_mem, ← h, List.getD_eq_getElem?_getD, List.getElem?_eq_getElem hk]
  exact List.getElem_mem hk

theorem not_contains_of (zs : List Int) (x : Int) (h : ∀ j, j < zs.length → zs.getD j 0 ≠ x) : zs.contains x = false := by
  rw [← Bool.not_eq_true, List.contains_iff_mem]
  intro hm
  obtain ⟨j, hj, e⟩ := List.getElem_of_mem hm
  exact h j hj (by rw [List.getD_eq_getElem?_getD, List.getElem?_eq_getElem hj]; exact e)

set_option maxHeartbeats 1000000 in
theorem rresult_any (a : Option Addr) (B n c : Nat) (zs : List Int) (x : Int) (w : World) (hz : IntsIn w B a n zs) (hbig : n ≤ 9223372036854775807) :
    Calls Try.prog 10 #[.int .i64 x, .slice a n c] w fun e w' => e = .returned (.int .i64 (resI x zs)) ∧ w = w' := by
  by_cases h0 : x = 0
  · subst h0
    have e : resI 0 zs = 0 := by simp [resI]
    rw [e]; clear e
    go_enter Try.func10, Try.ntmps10
    go_wp2_with fail
    go_ret
    exact ⟨rfl, rfl⟩
  · have hlen := hz.len
    have hpos := hz.at_
    clear hz
    go_enter Try.func10, Try.ntmps10
    go_wp2
    go_loop [6, 11] (fun _ i => ∃ k : Nat, k ≤ n ∧ i = .int .i64 k ∧ ∀ j, j < k → zs.getD j 0 ≠ x) (fun _ i => n - (intOf i).toNat)
    case atStart => exact ⟨0, Nat.zero_le _, rfl, fun j hj => absurd hj (Nat.not_lt_zero _)⟩
    case round =>
      obtain ⟨k, hk, rfl, hne⟩ := hrel
      by_cases hlt : k < n
      · obtain ⟨b, off, rfl, _, hc⟩ := hpos (by omega)
        have hcell := hc k hlt
        clear hc hpos
        by_cases heq : zs.getD k 0 = x
        · have e : resI x zs = 0 := by unfold resI; rw [if_pos (Or.inr (contains_of zs x k (by omega) heq))]
          have E := Lib.hid e; clear e
          rw [heq] at hcell
          clear hlen heq
          go_wp2
          go_ret
          exact ⟨by rw [E.out]; rfl, rfl⟩
        · clear hlen
          have hq : ((zs.getD k 0) == x) = false := by simpa using heq
          have Heq := Lib.hid heq; clear heq
          generalize hz : zs.getD k 0 = z at hcell hq Heq
          have HZ := Lib.hid hz; clear hz
          go_wp2
          go_round
          case rel =>
            refine ⟨k + 1, by omega, by go_num, fun j hj => ?_⟩
            by_cases e : j = k
            · subst e; rw [HZ.out]; exact Heq.out
            · exact hne j (by omega)
          case measure => simp [intOf]; omega
      · obtain rfl : k = n := by omega
        have h1' : zs.contains x = false := not_contains_of zs x (fun j hj => hne j (by omega))
        have e : resI x zs = if x = 256 then 2 else 1 := by unfold resI; rw [if_neg (by rw [h1']; rintro (h | h) <;> contradiction)]
        have E := Lib.hid e
        clear e h1' hpos hlen hne
        by_cases h2 : x = 256
        · have h2' : (x == 256) = true := by simpa using h2
          clear h2
          go_wp2
          go_ret
          exact ⟨by rw [E.out, if_pos (by simpa using h2')]; rfl, rfl⟩
        · go_wp2
          go_ret
          exact ⟨by rw [E.out, if_neg h2]; rfl, rfl⟩

end Go.Proofs.Ytjmdnmnmojjodaa
