/-
  The contract of matinsref1.Of, as far as it is wanted: it returns some pieces; old memory is as it was.
-/
import Derived.Test.YtohgnmpmledljaaNames
namespace Go.Proofs.Ytohgnmpmledljaa
open Go.ChangeShapes Go.WideShapes Go.ChangeAt Go.RowKit

def SomeCut (w : World) (e : Ending) (w' : World) : Prop := ∃ (k : Int) (p i : ByteArray) (a : Bool), e = .returned (.agg #[.int .i64 k, .string p, .string i, .bool a]) ∧ Below w.heap.size w w'


theorem setCell_drewN (w : World) (n : Nat) (a : Addr) (v : Value) : (w.drewN n).setCell a v = (w.setCell a v).drewN n := rfl

attribute [local go_sem] setCell_drewN

theorem cutStore (w : World) (Z : Obj) (cs : Array Value) (t : TypeId) (n i : Nat) (v : Value) :
    (((w.alloc Z).alloc (.cells cs t)).drewN n).setCell ⟨w.heap.size + 1, i, none⟩ v = ((w.alloc Z).alloc (.cells (cs.setIfInBounds i v) t)).drewN n := by
  rw [setCell_drewN, World.setCell_alloc_at _ _ _ _ _ (by simp)]

set_option maxRecDepth 100000 in
set_option maxHeartbeats 4000000 in
theorem nameOf_any (s : ByteArray) (w : World) (hs : s.size ≤ 9223372036854775807) : Calls Try.prog 43 #[.string s] w (SomeCut w) := by
  by_cases h60 : 60 < s.size
  · go_enter Try.func43, Try.ntmps43
    go_wp2_with fail
    exact bodyPost_ret (v := .agg #[.int .i64 0, .string ByteArray.empty, .string ByteArray.empty, .bool false]) (by simp [results, Try.results43, go_sem]; rfl) rfl ⟨_, _, _, _, rfl, (Below.refl _ _).alloc (Nat.le_refl _) _⟩
  · go_enter Try.func43, Try.ntmps43
    go_wp2_with fail
    go_loopw [4, 5] (fun rest k wr => ∃ (q kk : Int) (r : ByteArray) (n : Nat), 1 ≤ q ∧ q ≤ 5 ∧ r.size ≤ 60 ∧ rest = .string r ∧ k = .int .i64 q ∧
      wr = ((w.alloc (.cells #[.int .i64 0, .string ByteArray.empty, .string ByteArray.empty, .bool false] 83)).alloc (.cells #[.int .i64 kk, .string ByteArray.empty, .string ByteArray.empty, .bool false] 83)).drewN n) (fun _ k _ => (5 - intOf k).toNat)
    case atStart => exact ⟨1, 0, ByteArray.empty, 0, by omega, by omega, by decide, rfl, rfl, rfl⟩
    case round =>
      obtain ⟨q, kk, r, n, q1, q2, hr, rfl, rfl, rfl⟩ := hrel
      by_cases hq : q ≤ 4
      · have hq' : q = 1 ∨ q = 2 ∨ q = 3 ∨ q = 4 := by omega
        have HK := Lib.hid hq'
        rcases hq' with rfl | rfl | rfl | rfl
        · go_wp2_with (go_at_call 47; refine (suffix_any _ _ HK.out).mono ?_; rintro e w' ⟨rfl, rfl⟩)
          · go_region
            all_goals go_wp2_with fail
            all_goals go_roundw
            case rel => exact ⟨2, 1, _, _, by omega, by omega, by simp [ByteArray.size_extract]; omega, rfl, rfl, rfl⟩
            case measure => simp [intOf]
          all_goals go_roundw
          case rel => exact ⟨2, kk, r, n, by omega, by omega, hr, rfl, rfl, rfl⟩
          case rel => exact ⟨2, kk, r, n, by omega, by omega, hr, rfl, rfl, rfl⟩
          all_goals simp [intOf]
        · go_wp2_with (go_at_call 47; refine (suffix_any _ _ HK.out).mono ?_; rintro e w' ⟨rfl, rfl⟩)
          · go_region
            all_goals go_wp2_with fail
            all_goals go_roundw
            case rel => exact ⟨3, 2, _, _, by omega, by omega, by simp [ByteArray.size_extract]; omega, rfl, rfl, rfl⟩
            case measure => simp [intOf]
          all_goals go_roundw
          case rel => exact ⟨3, kk, r, n, by omega, by omega, hr, rfl, rfl, rfl⟩
          case rel => exact ⟨3, kk, r, n, by omega, by omega, hr, rfl, rfl, rfl⟩
          all_goals simp [intOf]
        · go_wp2_with (go_at_call 47; refine (suffix_any _ _ HK.out).mono ?_; rintro e w' ⟨rfl, rfl⟩)
          · go_region
            all_goals go_wp2_with fail
            all_goals go_roundw
            case rel => exact ⟨4, 3, _, _, by omega, by omega, by simp [ByteArray.size_extract]; omega, rfl, rfl, rfl⟩
            case measure => simp [intOf]
          all_goals go_roundw
          case rel => exact ⟨4, kk, r, n, by omega, by omega, hr, rfl, rfl, rfl⟩
          case rel => exact ⟨4, kk, r, n, by omega, by omega, hr, rfl, rfl, rfl⟩
          all_goals simp [intOf]
        · go_wp2_with (go_at_call 47; refine (suffix_any _ _ HK.out).mono ?_; rintro e w' ⟨rfl, rfl⟩)
          · go_region
            all_goals go_wp2_with fail
            all_goals go_roundw
            case rel => exact ⟨5, 4, _, _, by omega, by omega, by simp [ByteArray.size_extract]; omega, rfl, rfl, rfl⟩
            case measure => simp [intOf]
          all_goals go_roundw
          case rel => exact ⟨5, kk, r, n, by omega, by omega, hr, rfl, rfl, rfl⟩
          case rel => exact ⟨5, kk, r, n, by omega, by omega, hr, rfl, rfl, rfl⟩
          all_goals simp [intOf]
      · obtain rfl : q = 5 := by omega
        go_wp2_with fail
        · exact bodyPost_ret (v := .agg #[.int .i64 0, .string ByteArray.empty, .string ByteArray.empty, .bool false]) (by simp [results, Try.results43, go_sem]; rfl) rfl ⟨_, _, _, _, rfl, below_drewN (((Below.refl _ _).alloc (Nat.le_refl _) _).alloc (by simp) _) _⟩
        · go_loop [7] (fun i => ∃ k : Nat, k ≤ r.size ∧ i = .int .i64 k) (fun i => r.size - (intOf i).toNat)
          case atStart => exact ⟨0, Nat.zero_le _, rfl⟩
          case round =>
            obtain ⟨k, hk, rfl⟩ := hrel
            by_cases hlt : k < r.size
            · have hki : (k : Int) < (r.size : Int) := by omega
              go_wp2_with fail
              · go_region
                all_goals go_wp2_with fail
                · refine bodyPost_ret (v := .agg #[.int .i64 0, .string ByteArray.empty, .string ByteArray.empty, .bool false]) (by simp [results, Try.results43, go_sem]; rfl) rfl ⟨_, _, _, _, rfl, below_drewN (((Below.refl _ _).alloc (Nat.le_refl _) _).alloc (by simp) _) _⟩
                · rename_i h64 htrue KK hpre
                  clear h64 htrue
                  generalize hal : r.extract 0 k ++ r.extract (k + 1) r.size = al
                  have hsz : al.size ≤ 60 := by
                    rw [← hal]
                    simp [ByteArray.size_append, ByteArray.size_extract]
                    omega
                  clear hal
                  go_loop [9] (fun i => ∃ q : Nat, q ≤ al.size ∧ i = .int .i64 q) (fun i => al.size - (intOf i).toNat)
                  case atStart => exact ⟨0, Nat.zero_le _, rfl⟩
                  case round =>
                    obtain ⟨q, hq1, rfl⟩ := hrel
                    by_cases hlt2 : q < al.size
                    · have hqi : (q : Int) < (al.size : Int) := by omega
                      go_wp2_with (go_at_call 48; refine (nameByte_any _ _).mono ?_; rintro e w' ⟨b1, rfl, rfl⟩; cases b1)
                      · refine bodyPost_ret (v := .agg #[.int .i64 0, .string ByteArray.empty, .string ByteArray.empty, .bool false]) (by simp [results, Try.results43, go_sem]; rfl) rfl ⟨_, _, _, _, rfl, below_drewN (((Below.refl _ _).alloc (Nat.le_refl _) _).alloc (by simp) _) _⟩
                      · go_round
                        case rel => first | exact ⟨q + 1, by omega, by go_num⟩ | exact ⟨trivial, .int .i64 ((q : Int) + 1), _, _, _, _, _, _, _, _, _, _, _, _, ⟨q + 1, by omega, by go_num⟩, rfl⟩
                        case measure => simp [intOf]; omega
                    · go_wp2_with fail
                      refine bodyPost_ret (v := .agg #[.int .i64 kk, .string (r.extract 0 k), .string (r.extract (k + 1) r.size), .bool true]) (by simp [results, Try.results43, go_sem]) rfl ⟨_, _, _, _, rfl, below_drewN (((Below.refl _ _).alloc (Nat.le_refl _) _).alloc (by simp) _) _⟩
              · go_round
                case rel => exact ⟨k + 1, by omega, by go_num⟩
                case measure => simp [intOf]; omega
            · go_wp2_with fail
              · refine bodyPost_ret (v := .agg #[.int .i64 0, .string ByteArray.empty, .string ByteArray.empty, .bool false]) (by simp [results, Try.results43, go_sem]; rfl) rfl ⟨_, _, _, _, rfl, below_drewN (((Below.refl _ _).alloc (Nat.le_refl _) _).alloc (by simp) _) _⟩
              · have hsz : r.size ≤ 60 := hr
                go_loop [9] (fun i => ∃ q : Nat, q ≤ r.size ∧ i = .int .i64 q) (fun i => r.size - (intOf i).toNat)
                case atStart => exact ⟨0, Nat.zero_le _, rfl⟩
                case round =>
                  obtain ⟨q, hq1, rfl⟩ := hrel
                  by_cases hlt2 : q < r.size
                  · have hqi : (q : Int) < (r.size : Int) := by omega
                    go_wp2_with (go_at_call 48; refine (nameByte_any _ _).mono ?_; rintro e w' ⟨b1, rfl, rfl⟩; cases b1)
                    · refine bodyPost_ret (v := .agg #[.int .i64 0, .string ByteArray.empty, .string ByteArray.empty, .bool false]) (by simp [results, Try.results43, go_sem]; rfl) rfl ⟨_, _, _, _, rfl, below_drewN (((Below.refl _ _).alloc (Nat.le_refl _) _).alloc (by simp) _) _⟩
                    · go_round
                      case rel => first | exact ⟨q + 1, by omega, by go_num⟩ | exact ⟨trivial, .int .i64 ((q : Int) + 1), _, _, _, _, _, _, _, _, _, _, _, _, ⟨q + 1, by omega, by go_num⟩, rfl⟩
                      case measure => simp [intOf]; omega
                  · go_wp2_with fail
                    refine bodyPost_ret (v := .agg #[.int .i64 kk, .string r, .string ByteArray.empty, .bool false]) (by simp [results, Try.results43, go_sem]) rfl ⟨_, _, _, _, rfl, below_drewN (((Below.refl _ _).alloc (Nat.le_refl _) _).alloc (by simp) _) _⟩

end Go.Proofs.Ytohgnmpmledljaa
