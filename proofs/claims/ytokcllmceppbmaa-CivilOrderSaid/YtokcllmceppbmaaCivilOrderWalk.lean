/-
  The walk of matinslaw3.CivilOrder: it returns true; old memory is as it was.
-/
import Derived.Test.YtokcllmceppbmaaCivilAllWalk
namespace Go.Proofs.Ytokcllmceppbmaa
open Go.ChangeShapes Go.WideShapes Go.ChangeAt Go.RowKit

def at6 (y m d h mi s : Int) (k : Nat) : Int := [y, m, d, h, mi, s].getD k 0

theorem six {k : Nat} (h : k < 6) : k = 0 ∨ k = 1 ∨ k = 2 ∨ k = 3 ∨ k = 4 ∨ k = 5 := by omega

theorem lex {s t y m d y' m' d' : Int} (hs : IsDay (s / 86400) y m d) (ht : IsDay (t / 86400) y' m' d') {k : Nat} (hk : k < 6)
    (heq : ∀ j, j < k → at6 y m d (s % 86400 / 3600) (s % 3600 / 60) (s % 60) j = at6 y' m' d' (t % 86400 / 3600) (t % 3600 / 60) (t % 60) j)
    (hne : at6 y m d (s % 86400 / 3600) (s % 3600 / 60) (s % 60) k ≠ at6 y' m' d' (t % 86400 / 3600) (t % 3600 / 60) (t % 60) k) :
    at6 y m d (s % 86400 / 3600) (s % 3600 / 60) (s % 60) k < at6 y' m' d' (t % 86400 / 3600) (t % 3600 / 60) (t % 60) k ↔ s < t := by
  have l1 := hs.lt ht
  have l2 := ht.lt hs
  have q1 := hs
  have q2 := ht
  obtain ⟨_, _, _, _, _, _, e1⟩ := q1
  obtain ⟨_, _, _, _, _, _, e2⟩ := q2
  have c0 : 0 < k → y = y' := fun h => heq 0 h
  have c1 : 1 < k → m = m' := fun h => heq 1 h
  have c2 : 2 < k → d = d' := fun h => heq 2 h
  have c3 : 3 < k → s % 86400 / 3600 = t % 86400 / 3600 := fun h => heq 3 h
  have c4 : 4 < k → s % 3600 / 60 = t % 3600 / 60 := fun h => heq 4 h
  clear heq
  rcases six hk with rfl | rfl | rfl | rfl | rfl | rfl
  · have hne' : y ≠ y' := hne
    show y < y' ↔ s < t
    have a1 := l1.1
    have a2 := l2.1
    omega
  · have hne' : m ≠ m' := hne
    have c := c0 (by omega)
    show m < m' ↔ s < t
    have a1 := l1.2.1 c
    have a2 := l2.2.1 c.symm
    omega
  · have hne' : d ≠ d' := hne
    have c := c0 (by omega)
    have c' := c1 (by omega)
    show d < d' ↔ s < t
    have a1 := l1.2.2 c c'
    have a2 := l2.2.2 c.symm c'.symm
    omega
  all_goals
    have c := c0 (by omega)
    have c' := c1 (by omega)
    have c'' := c2 (by omega)
    subst c c' c''
    have hn : s / 86400 = t / 86400 := by omega
  · have hne' : s % 86400 / 3600 ≠ t % 86400 / 3600 := hne
    show s % 86400 / 3600 < t % 86400 / 3600 ↔ s < t
    omega
  · have hne' : s % 3600 / 60 ≠ t % 3600 / 60 := hne
    have c3' := c3 (by omega)
    show s % 3600 / 60 < t % 3600 / 60 ↔ s < t
    omega
  · have hne' : s % 60 ≠ t % 60 := hne
    have c3' := c3 (by omega)
    have c4' := c4 (by omega)
    show s % 60 < t % 60 ↔ s < t
    omega

theorem lex_eq {s t y m d y' m' d' : Int} (hs : IsDay (s / 86400) y m d) (ht : IsDay (t / 86400) y' m' d')
    (heq : ∀ j, j < 6 → at6 y m d (s % 86400 / 3600) (s % 3600 / 60) (s % 60) j = at6 y' m' d' (t % 86400 / 3600) (t % 3600 / 60) (t % 60) j) : s = t := by
  obtain ⟨_, _, _, _, _, _, e1⟩ := hs
  obtain ⟨_, _, _, _, _, _, e2⟩ := ht
  have c0 : y = y' := heq 0 (by omega)
  have c1 : m = m' := heq 1 (by omega)
  have c2 : d = d' := heq 2 (by omega)
  have c3 : s % 86400 / 3600 = t % 86400 / 3600 := heq 3 (by omega)
  have c4 : s % 3600 / 60 = t % 3600 / 60 := heq 4 (by omega)
  have c5 : s % 60 = t % 60 := heq 5 (by omega)
  subst c0 c1 c2
  omega

theorem order_first (s t : Int) (w : World) (hs : s < 0 ∨ 6311433600 ≤ s) : Calls Try.prog 6 #[.int .i64 s, .int .i64 t] w fun e w' => e = .returned (.bool true) ∧ Below w.heap.size w w' := by
  have hof : ∃ (y m d h mi sc wd : Int) (ok : Bool), ∀ W : World, Calls Try.prog 9 #[.int .i64 t] W fun e w' => ∃ y m d h mi sc wd ok, e = .returned (.tuple #[dateV y m d h mi sc wd, .bool ok]) ∧ Below W.heap.size W w' := by
    refine ⟨0, 0, 0, 0, 0, 0, 0, false, fun W => ?_⟩
    by_cases ht : 0 ≤ t ∧ t < 6311433600
    · exact (of_yes t W ht.1 ht.2).mono fun e w' ⟨y, m, d, he, _, hb⟩ => ⟨_, _, _, _, _, _, _, _, he, hb⟩
    · exact (of_no t W (by omega)).mono fun e w' ⟨he, hb⟩ => ⟨_, _, _, _, _, _, _, _, he, hb⟩
  obtain ⟨_, _, _, _, _, _, _, _, hof⟩ := hof
  have HOF := Lib.hid hof
  clear hof
  go_enter Try.func6, Try.ntmps6
  go_wp2_with fail
  refine (shown_any _).mono ?_
  rintro e w1 ⟨rfl, hb1⟩
  go_wp2_with fail
  refine (of_no s _ hs).mono ?_
  rintro e w2 ⟨rfl, hb2⟩
  unfold dateV
  go_wp2_with (go_at_call 9; fail)
  refine (HOF.out _).mono ?_
  rintro e w3 ⟨y, m, d, h, mi, sc, wd, ok, rfl, hb3⟩
  unfold dateV
  have hb := (((hb1.trans (hb2.mono hb1.size)).alloc (Nat.le_trans hb1.size hb2.size) _).trans (hb3.mono (by rw [size_alloc]; have := hb1.size; have := hb2.size; omega)))
  clear hb1 hb2 hb3
  go_wp2_with (go_at_call 9; fail)
  go_ret
  exact ⟨rfl, hb.alloc hb.size _⟩

set_option maxHeartbeats 4000000 in
theorem order_second (s t : Int) (w : World) (h0 : 0 ≤ s) (h1 : s < 6311433600) (ht : t < 0 ∨ 6311433600 ≤ t) : Calls Try.prog 6 #[.int .i64 s, .int .i64 t] w fun e w' => e = .returned (.bool true) ∧ Below w.heap.size w w' := by
  go_enter Try.func6, Try.ntmps6
  go_wp2_with fail
  refine (shown_any _).mono ?_
  rintro e w1 ⟨rfl, hb1⟩
  go_wp2_with fail
  refine (of_yes s _ h0 h1).mono ?_
  rintro e w2 ⟨y, m, d, rfl, _, hb2⟩
  unfold dateV
  go_wp2_with (go_at_call 9; fail)
  refine (of_no t _ ht).mono ?_
  rintro e w3 ⟨rfl, hb3⟩
  unfold dateV
  have hb := (((hb1.trans (hb2.mono hb1.size)).alloc (Nat.le_trans hb1.size hb2.size) _).trans (hb3.mono (by rw [size_alloc]; have := hb1.size; have := hb2.size; omega)))
  clear hb1 hb2 hb3
  go_wp2_with (go_at_call 9; fail)
  go_ret
  exact ⟨rfl, hb.alloc hb.size _⟩

set_option maxHeartbeats 4000000 in
theorem order_main (s t : Int) (w : World) (h0 : 0 ≤ s) (h1 : s < 6311433600) (h2 : 0 ≤ t) (h3 : t < 6311433600) : Calls Try.prog 6 #[.int .i64 s, .int .i64 t] w fun e w' => e = .returned (.bool true) ∧ Below w.heap.size w w' := by
  go_enter Try.func6, Try.ntmps6
  go_wp2_with fail
  refine (shown_any _).mono ?_
  rintro e w1 ⟨rfl, hb1⟩
  go_wp2_with fail
  refine (of_yes s _ h0 h1).mono ?_
  rintro e w2 ⟨y, m, d, rfl, hd, hb2⟩
  unfold dateV
  have HD := Lib.hid hd
  go_wp2_with (go_at_call 9; fail)
  refine (of_yes t _ h2 h3).mono ?_
  rintro e w3 ⟨y', m', d', rfl, hd', hb3⟩
  unfold dateV
  have HE := Lib.hid hd'
  clear hd hd'
  have hc2 := rowAfter hb3
  have hsz := hb3.size
  rw [size_alloc] at hsz
  have s3 : w2.heap.size < w3.heap.size := by omega
  have hb := (((hb1.trans (hb2.mono hb1.size)).alloc (Nat.le_trans hb1.size hb2.size) _).trans (hb3.mono (by rw [size_alloc]; have := hb1.size; have := hb2.size; omega)))
  clear hb1 hb2 hb3
  go_wp2_with (go_at_call 9; fail)
  generalize hW : World.alloc (World.alloc (World.alloc w3 _) _) _ = W
  have hbW : Below w.heap.size w W := by
    rw [← hW]
    exact ((hb.alloc hb.size _).alloc (by rw [size_alloc]; have := hb.size; omega) _).alloc (by rw [size_alloc, size_alloc]; have := hb.size; omega) _
  have HX : Hid (∀ k, k < 6 → W.cell? ⟨w3.heap.size + 1, k, none⟩ = some (.int .i64 (at6 y m d (s % 86400 / 3600) (s % 3600 / 60) (s % 60) k))) := by
    intro k hk
    subst hW
    rcases six hk with rfl | rfl | rfl | rfl | rfl | rfl <;> go_simp <;> rfl
  have HY : Hid (∀ k, k < 6 → W.cell? ⟨w3.heap.size + 1 + 1, k, none⟩ = some (.int .i64 (at6 y' m' d' (t % 86400 / 3600) (t % 3600 / 60) (t % 60) k))) := by
    intro k hk
    subst hW
    rcases six hk with rfl | rfl | rfl | rfl | rfl | rfl <;> go_simp <;> rfl
  clear hW hc2 hb
  go_loopw [58] (fun i wr => ∃ k n : Nat, k ≤ 6 ∧ i = .int .i64 k ∧ wr = W.drewN n ∧ Hid (∀ j, j < k → at6 y m d (s % 86400 / 3600) (s % 3600 / 60) (s % 60) j = at6 y' m' d' (t % 86400 / 3600) (t % 3600 / 60) (t % 60) j)) (fun i _ => 6 - (intOf i).toNat)
  case atStart => exact ⟨0, 0, by omega, rfl, rfl, fun j hj => absurd hj (Nat.not_lt_zero _)⟩
  case round =>
    obtain ⟨k, n, hk, rfl, rfl, HQ⟩ := hrel
    by_cases hlt : k < 6
    · have hx := HX.out k hlt
      have hy := HY.out k hlt
      by_cases hne : at6 y m d (s % 86400 / 3600) (s % 3600 / 60) (s % 60) k = at6 y' m' d' (t % 86400 / 3600) (t % 3600 / 60) (t % 60) k
      · have HN : Hid (∀ j, j < k + 1 → at6 y m d (s % 86400 / 3600) (s % 3600 / 60) (s % 60) j = at6 y' m' d' (t % 86400 / 3600) (t % 3600 / 60) (t % 60) j) := by
          intro j hj
          by_cases e : j = k
          · subst e; exact hne
          · exact HQ.out j (by omega)
        rw [hne] at hx
        clear hne
        generalize at6 y' m' d' (t % 86400 / 3600) (t % 3600 / 60) (t % 60) k = v at hx hy
        have hv : (v != v) = false := by simp
        go_wp2_with fail
        go_quiet (fail)
        go_wp2_with fail
        go_roundw
        case rel => exact ⟨k + 1, _, by omega, by go_num, rfl, HN⟩
        case measure => simp [intOf]; omega
      · have HL := Lib.hid (lex HD.out HE.out hlt HQ.out hne)
        generalize at6 y m d (s % 86400 / 3600) (s % 3600 / 60) (s % 60) k = v at hx hne HL
        generalize at6 y' m' d' (t % 86400 / 3600) (t % 3600 / 60) (t % 60) k = v' at hy hne HL
        have hv : (v != v') = true := by simpa using hne
        have hl : (decide (v < v') == decide (s < t)) = true := by
          have := HL.out
          simp [this]
        clear hne
        go_wp2_with fail
        go_quiet (fail)
        go_wp2_with fail
        go_quiet (fail)
        go_wp2_with fail
        go_ret
        exact ⟨ret_bool (by first | rfl | (simp; done) | assumption), below_drewN (below_drewN (below_drewN hbW _) _) _⟩
    · obtain rfl : k = 6 := by omega
      have hst := lex_eq HD.out HE.out HQ.out
      subst hst
      clear HQ HX HY
      go_wp2_with fail
      go_ret
      exact ⟨ret_bool (by first | rfl | (simp; done)), below_drewN hbW _⟩

theorem order_any (s t : Int) (w : World) : Calls Try.prog 6 #[.int .i64 s, .int .i64 t] w fun e w' => e = .returned (.bool true) ∧ Below w.heap.size w w' := by
  by_cases hs : 0 ≤ s ∧ s < 6311433600
  · by_cases ht : 0 ≤ t ∧ t < 6311433600
    · exact order_main s t w hs.1 hs.2 ht.1 ht.2
    · exact order_second s t w hs.1 hs.2 (by omega)
  · exact order_first s t w (by omega)

end Go.Proofs.Ytokcllmceppbmaa
