/-
  Contracts of world.of, slices.Clone of texts, world.copied.
-/
import Derived.Test.YtohgnmpmledljaaRunSt
import Derived.Test.YtohgnmpmledljaaAppend
namespace Go.Proofs.Ytohgnmpmledljaa
open Go.ChangeShapes Go.WideShapes Go.ChangeAt Go.RowKit

structure ActR where
  u : ByteArray
  p : Int
  n : Int
  t : Int
  A : ActM
  sa : Option Addr
  sc : Nat

def ActR.row (r : ActR) : Array Value := actRow r.u r.p r.n r.t r.A r.sa r.sc
def ActR.fits (r : ActR) (u : ByteArray) (p n t : Int) : Bool := decide (r.u.toList = u.toList ∧ r.p = p ∧ r.n = n ∧ r.t = t)

set_option maxRecDepth 100000 in
set_option maxHeartbeats 4000000 in
theorem of_any (r : ActR) (u : ByteArray) (p n t : Int) (w : World) :
    Calls Try.prog 45 #[.agg r.row, .string u, .int .i64 p, .int .i64 n, .int .i64 t] w fun e w' => e = .returned (.bool (r.fits u p n t)) ∧ Below w.heap.size w w' := by
  obtain ⟨u', p', n', t', A, sa, sc⟩ := r
  unfold ActR.row actRow
  dsimp only
  by_cases h1 : u'.toList = u.toList
  · by_cases h2 : p' = p
    · by_cases h3 : n' = n
      · by_cases h4 : t' = t
        · skip
          have e : ActR.fits ⟨u', p', n', t', A, sa, sc⟩ u p n t = true := decide_eq_true ⟨h1, h2, h3, h4⟩
          rw [e]; clear e
          go_enter Try.func45, Try.ntmps45
          go_wp2_with fail
          exact bodyPost_ret (v := .bool true) (by simp [results, Try.results45, go_sem]) rfl ⟨rfl, (Below.refl _ _).alloc (Nat.le_refl _) _⟩
        · skip
          have e : ActR.fits ⟨u', p', n', t', A, sa, sc⟩ u p n t = false := decide_eq_false fun h => h4 h.2.2.2
          rw [e]; clear e
          go_enter Try.func45, Try.ntmps45
          go_wp2_with fail
          exact bodyPost_ret (v := .bool false) (by simp [results, Try.results45, go_sem, h4]) rfl ⟨rfl, (Below.refl _ _).alloc (Nat.le_refl _) _⟩
      · skip
        have e : ActR.fits ⟨u', p', n', t', A, sa, sc⟩ u p n t = false := decide_eq_false fun h => h3 h.2.2.1
        rw [e]; clear e
        go_enter Try.func45, Try.ntmps45
        go_wp2_with fail
        exact bodyPost_ret (v := .bool false) (by simp [results, Try.results45, go_sem]) rfl ⟨rfl, (Below.refl _ _).alloc (Nat.le_refl _) _⟩
    · skip
      have e : ActR.fits ⟨u', p', n', t', A, sa, sc⟩ u p n t = false := decide_eq_false fun h => h2 h.2.1
      rw [e]; clear e
      go_enter Try.func45, Try.ntmps45
      go_wp2_with fail
      exact bodyPost_ret (v := .bool false) (by simp [results, Try.results45, go_sem]) rfl ⟨rfl, (Below.refl _ _).alloc (Nat.le_refl _) _⟩
  · skip
    have e : ActR.fits ⟨u', p', n', t', A, sa, sc⟩ u p n t = false := decide_eq_false fun h => h1 h.1
    rw [e]; clear e
    go_enter Try.func45, Try.ntmps45
    go_wp2_with fail
    exact bodyPost_ret (v := .bool false) (by simp [results, Try.results45, go_sem]) rfl ⟨rfl, (Below.refl _ _).alloc (Nat.le_refl _) _⟩

theorem nil_eq (ad : Addr) (n c : Nat) (W : World) : Sem.run Try.prog (binOp BinOp.eql 22 (Value.slice (some ad) n c) (Value.slice none 0 0)) W = .ok (.bool false) W := by kernel_rfl
theorem nil_eq0 (W : World) : Sem.run Try.prog (binOp BinOp.eql 22 (Value.slice none 0 0) (Value.slice none 0 0)) W = .ok (.bool true) W := by kernel_rfl
attribute [local go_sem] nil_eq nil_eq0

theorem saidInfo : (Try.prog.info? 37).map (fun i => (i.zero, i.size, i.bytes)) = some (some (.agg #[.int .i64 0, .string ByteArray.empty]), 2, 24) := by kernel_rfl

set_option maxRecDepth 100000 in
set_option maxHeartbeats 4000000 in
/-- slices.Clone of texts: some slice of its own; old memory is as it was -/
theorem clone_any (a : Option Addr) (n c : Nat) (xs : List Value) (w : World) (hx : Reads w w.heap.size 2 a n xs) (h1 : ∀ u ∈ xs, u.oneCell' = true) (hn : n * 24 ≤ 140737488355328) (hnc : a = none → n = 0 ∧ c = 0) :
    Calls Try.prog 49 #[.slice a n c] w fun e w' => ∃ a' n' c', e = .returned (.slice a' n' c') ∧ Below w.heap.size w w' := by
  rcases a with _ | ad
  · obtain ⟨rfl, rfl⟩ := hnc rfl
    clear hx hn hnc h1
    go_enter Try.func49, Try.ntmps49
    go_wp2_with fail
    exact bodyPost_ret (v := .slice none 0 0) (by simp [results, Try.results49, go_sem]) rfl ⟨none, 0, 0, rfl, Below.refl _ _⟩
  · obtain ⟨i0, hi0, hi1⟩ := Option.map_eq_some_iff.1 saidInfo
    simp only [Prod.mk.injEq] at hi1
    obtain ⟨hz0, hs0, hb0⟩ := hi1
    have HX := Lib.hid hx
    have H1 := Lib.hid h1
    have HN := Lib.hid hn
    have HI := Lib.hid hi0
    have HZ := Lib.hid hz0
    have HS := Lib.hid hs0
    have HB := Lib.hid hb0
    clear hx h1 hn hi0 hz0 hs0 hb0 hnc
    go_enter Try.func49, Try.ntmps49
    go_wp2_with (at_builtin
                 refine wpList_append_any _ rfl (.tmp 5) (.tmp 6) 22 rfl w.heap.size 37 i0 (.agg #[.int .i64 0, .string ByteArray.empty]) 2 24 Try.underlying22 HI.out HZ.out HS.out HB.out rfl (by omega) (.slice (some ⟨w.heap.size, 0, none⟩) 0 0) 0 [] rfl
                   (World.ownsRow_made w #[] 0 (Nat.le_refl _) (Nat.zero_le _) rfl) w.heap.size (some ad) n c xs rfl (HX.out.alloc (Nat.le_refl _) _) H1.out ?_ ?_ (by simp) ?_
                 · have := HN.out; simp only [maxLen]; omega
                 · have := HN.out; omega
                 intro v1 w2 hown hg hat
                 have hb2 : Below w.heap.size w w2 := ((Below.refl _ _).alloc (Nat.le_refl _) _).grown hg (by simp) (by simp [Value.ownBlock])
                 have HB2 := Lib.hid hb2
                 have HF : Hid (∃ a' n' c', v1 = .slice a' n' c') := Lib.hid (by rcases hown.2 with ⟨rfl, -⟩ | ⟨g, cap, cur, rfl, -⟩ <;> exact ⟨_, _, _, rfl⟩)
                 clear hown hg hat hb2)
    obtain ⟨a', n', c', rfl⟩ := HF.out
    exact bodyPost_ret (v := .slice a' n' c') (by simp [results, Try.results49, go_sem]) rfl ⟨a', n', c', rfl, HB2.out⟩

end Go.Proofs.Ytohgnmpmledljaa
