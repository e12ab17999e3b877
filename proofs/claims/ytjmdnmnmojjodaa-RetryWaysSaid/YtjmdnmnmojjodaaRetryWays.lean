/-
  The walk of matinslaw26.RetryWays: it returns true; old memory is as it was.
-/
import Derived.Test.YtjmdnmnmojjodaaRetryShown
import Derived.Test.YtjmdnmnmojjodaaAppend
namespace Go.Proofs.Ytjmdnmnmojjodaa
open Go.ChangeShapes Go.WideShapes Go.ChangeAt Go.RowKit

theorem intInfo : (Try.prog.info? 3).map (fun i => (i.zero, i.size, i.bytes)) = some (some (.int .i64 0), 1, 8) := by kernel_rfl

theorem IntsIn.reads {w : World} {B n : Nat} {a : Option Addr} {zs : List Int} (h : IntsIn w B a n zs) : Reads w B 1 a n (zs.map (.int .i64)) := by
  refine ⟨by simp [h.len], fun hn => ?_⟩
  obtain ⟨b, off, rfl, hlt, hc⟩ := h.at_ hn
  refine ⟨_, rfl, hlt, fun j u hu => ?_⟩
  have hj : j < n := by
    have := (List.getElem?_eq_some_iff.1 hu).1
    simp [h.len] at this
    exact this
  rw [Go.WideShapes.add_plain, hc j hj, ← hu, List.getElem?_map, List.getD_eq_getElem?_getD, List.getElem?_eq_getElem (by rw [h.len]; exact hj)]
  rfl

theorem intsOf {w : World} {n cap : Nat} {A : Option Addr} {e base : Nat} {zs : List Int} (h : w.ownsRow base e 1 (.slice A n cap) n (zs.map (.int .i64))) : IntsIn w w.heap.size A n zs := by
  have hl : zs.length = n := by have := h.1; simpa using this
  refine ⟨hl, fun hn => ?_⟩
  obtain ⟨g, cap', hv, _, hlt⟩ := h.form hn
  have hA : A = some ⟨g, 0, none⟩ := by injection hv
  subst hA
  refine ⟨g, 0, rfl, hlt, fun j hj => ?_⟩
  have := h.cells (g := g) rfl j (.int .i64 (zs.getD j 0)) (by rw [List.getElem?_map, List.getD_eq_getElem?_getD, List.getElem?_eq_getElem (by omega)]; rfl)
  rw [Go.WideShapes.add_plain] at this
  exact this

theorem resI_snoc (code : Int) (zs : List Int) : resI code (zs ++ [code]) = 0 := by
  unfold resI
  rw [if_pos (Or.inr (by simp))]

set_option maxHeartbeats 4000000 in
theorem ways_any (res code : Int) (a : Option Addr) (n c : Nat) (zs : List Int) (w : World) (hz : IntsIn w w.heap.size a n zs) (hbig : n ≤ 9223372036854775807) :
    Calls Try.prog 4 #[.int .i64 res, .int .i64 code, .slice a n c] w fun e w' => e = .returned (.bool true) ∧ Below w.heap.size w w' := by
  by_cases h1 : 100 < n
  · go_enter Try.func4, Try.ntmps4
    go_wp2_with fail
    refine (shown_any _).mono ?_
    rintro e w1 ⟨rfl, hb1⟩
    go_wp2_with fail
    go_ret
    exact ⟨rfl, hb1⟩
  · go_enter Try.func4, Try.ntmps4
    go_wp2_with fail
    refine (shown_any _).mono ?_
    rintro e w1 ⟨rfl, hb1⟩
    have hz1 := hz.below hb1
    have E54 : Hid (agB 5 4 = false) := Lib.hid (by decide)
    have F : Hid (agB 1 res = false) := by simp [agB, Hid]
    have G : ∃ x y z u : Bool, Hid (agB 2 res = x) ∧ Hid (agB 3 res = y) ∧ Hid (agB 4 res = z) ∧ Hid (agB 5 res = u) ∧ ((x = true ∧ y = false ∧ z = false ∧ u = true) ∨ (x = false ∧ y = true ∧ u = true) ∨ (x = false ∧ y = false ∧ z = false ∧ u = false)) := by
      refine ⟨_, _, _, _, rfl, rfl, rfl, rfl, ?_⟩
      rcases five res with rfl | rfl | rfl | rfl | ⟨r0, r1, r2, r3⟩ <;> simp [agB, *]
    obtain ⟨x, y, z, u, E2, E3, E4, E5, hc⟩ := G
    have hr := resI_bd code zs
    generalize hrr : resI code zs = rr at hr
    have HR := Lib.hid hrr
    clear hrr
    have hrr5 : Hid (agB 5 rr = true) := by rcases hr with rfl | rfl | rfl <;> simp [agB, Hid]
    obtain ⟨i0, hi0, hz0, hs0, hb0⟩ := info_parts intInfo
    rcases hc with ⟨rfl, rfl, rfl, rfl⟩ | ⟨rfl, rfl, rfl⟩ | ⟨rfl, rfl, rfl, rfl⟩
    all_goals
      go_wp2_with (first
        | (go_at_call 11; refine (again_any _ _ _).mono ?_; rintro e w' ⟨rfl, rfl⟩; first | rw [E2.out] | rw [E3.out] | rw [E4.out] | rw [E5.out] | rw [F.out] | rw [E54.out])
        | (go_at_call 9; fail))
    all_goals
      refine (result_any a w.heap.size n c zs code _ hz1 hbig).mono ?_
      rintro e w' ⟨rfl, rfl⟩
      rw [HR.out]
      rcases hr with rfl | rfl | rfl
    all_goals
      go_wp2_with (first
        | (go_at_call 11; refine (again_any _ _ _).mono ?_; rintro e w' ⟨rfl, rfl⟩; first | rw [hrr5.out] | rw [E2.out] | rw [E3.out] | rw [E4.out] | rw [E5.out] | rw [F.out] | rw [E54.out])
        | (at_builtin
           refine wpList_wanted (by go_simp) (fun K1 hK1 => ?_)
           refine wp_append_any _ (.const (.slice none 0 0)) (.tmp 68) _ rfl w.heap.size 3 i0 _ 1 8 Try.underlying22 hi0 hz0 hs0 hb0 rfl (by omega) (.slice none 0 0) 0 [] rfl
             ⟨by simp, .inl ⟨rfl, rfl⟩⟩ w.heap.size a n c (zs.map (.int .i64)) rfl hz1.reads (by simp [Value.oneCell']) (by simp only [maxLen]; omega) (by omega) hb1.size ?_
           intro v1 w2 hown1 hg1 hat1
           refine hK1 _ _ ?_
           have hb2 : Below w.heap.size w w2 := hb1.grown hg1 hb1.size (by simp [Value.ownBlock]))
        | (at_builtin
           refine wpList_wanted (by go_simp) (fun K1 hK1 => ?_)
           refine wp_append_any _ (.tmp 69) (.tmp 71) _ rfl w.heap.size 3 i0 _ 1 8 Try.underlying22 hi0 hz0 hs0 hb0 rfl (by omega) v1 (0 + n) ([] ++ zs.map (.int .i64)) rfl
             (hown1.alloc _) (w2.heap.size + 1) (some ⟨w2.heap.size, 0, none⟩) 1 1 [.int .i64 code] rfl ⟨rfl, fun _ => ⟨_, rfl, by simp, fun j u hu => ?_⟩⟩ (by simp [Value.oneCell']) (by simp only [maxLen]; omega) (by omega) (by have := hb2.size; simp; omega) ?_
           · obtain rfl : j = 0 := by have := (List.getElem?_eq_some_iff.1 hu).1; simp at this; exact this
             simp at hu
             subst hu
             go_simp
           intro v2 w3 hown2 hg2 hat2
           refine hK1 _ _ ?_))
    all_goals
      have hb3 : Below w.heap.size w w3 := (hb2.alloc hb2.size _).grown hg2 (by have := hb2.size; simp; omega) (fun k hk => by
        have := hb2.size
        rcases hat1 with e1 | e1 <;> rw [e1] at hk <;> simp [Value.ownBlock] at hk <;> (have := hb1.size; omega))
      have hown3 : w3.ownsRow w.heap.size 3 1 v2 (n + 1) ((zs ++ [code]).map (.int .i64)) := by simpa using hown2
      clear hown2 hown1 hg2 hat2 hg1 hat1
      obtain ⟨g, cap, rfl, _, hlt⟩ := hown3.form (by omega)
      refine (result_any (some ⟨g, 0, none⟩) w3.heap.size (n + 1) cap (zs ++ [code]) code _ (intsOf hown3) (by omega)).mono ?_
      rintro e w' ⟨rfl, rfl⟩
      rw [resI_snoc]
      go_wp2_with fail
      go_ret
      exact ⟨rfl, hb3⟩

end Go.Proofs.Ytjmdnmnmojjodaa
