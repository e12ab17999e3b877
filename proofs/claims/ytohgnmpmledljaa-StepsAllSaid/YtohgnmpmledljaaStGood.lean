/-
  Contract of steps.Good.
-/
import Derived.Test.YtohgnmpmledljaaRunSt
import Derived.Test.YtohgnmpmledljaaInts
namespace Go.Proofs.Ytohgnmpmledljaa
open Go.ChangeShapes Go.WideShapes Go.ChangeAt Go.RowKit

def goodB (dash : Bool) (code : Int) (zs : List Int) : Bool := dash || decide (code = 0) || zs.contains code

set_option maxRecDepth 100000 in
set_option maxHeartbeats 2000000 in
theorem good_any (dash : Bool) (wa : Option Addr) (wn wc : Nat) (code : Int) (a : Option Addr) (B n c : Nat) (zs : List Int) (w : World) (hz : IntsIn w B a n zs) (hB : B ≤ w.heap.size) (hbig : n ≤ 9223372036854775807) :
    Calls Try.prog 18 #[.agg #[.bool dash, .slice wa wn wc], .int .i64 code, .slice a n c] w fun e w' => e = .returned (.bool (goodB dash code zs)) ∧ Below w.heap.size w w' := by
  cases dash
  · by_cases h0 : code = 0
    · have e : goodB false code zs = true := by simp [goodB, h0]
      rw [e]; clear e
      go_enter Try.func18, Try.ntmps18
      go_wp2_with fail
      exact bodyPost_ret (v := .bool true) (by simp [results, Try.results18, go_sem]) rfl ⟨rfl, (Below.refl _ _).alloc (Nat.le_refl _) _⟩
    · have hcon : ∀ W, Below w.heap.size w W → Calls Try.prog 31 #[.slice a n c, .int .i64 code] W fun e w' => e = .returned (.bool (zs.contains code)) ∧ W = w' :=
        fun W hW => contains_any a B n c zs code W (hz.below (hW.mono hB)) hbig
      have e : goodB false code zs = zs.contains code := by simp [goodB, h0]
      rw [e]; clear e
      generalize zs.contains code = bb at *
      have HC := Lib.hid hcon
      clear hcon hz hbig
      go_enter Try.func18, Try.ntmps18
      go_wp2_with (go_at_call 31; refine (HC.out _ ((Below.refl _ _).alloc (Nat.le_refl _) _)).mono ?_; rintro e w' ⟨rfl, rfl⟩)
      exact bodyPost_ret (v := .bool bb) (by simp [results, Try.results18, go_sem, h0]) rfl ⟨rfl, (Below.refl _ _).alloc (Nat.le_refl _) _⟩
  · have e : goodB true code zs = true := by simp [goodB]
    rw [e]; clear e
    go_enter Try.func18, Try.ntmps18
    go_wp2_with fail
    exact bodyPost_ret (v := .bool true) (by simp [results, Try.results18, go_sem]) rfl ⟨rfl, (Below.refl _ _).alloc (Nat.le_refl _) _⟩

end Go.Proofs.Ytohgnmpmledljaa
