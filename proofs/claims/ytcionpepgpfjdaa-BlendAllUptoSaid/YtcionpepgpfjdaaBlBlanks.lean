/-
  Contract of matinsref1.Blanks, parted by blanks.
-/
import Derived.Test.YtcionpepgpfjdaaBlBase
import Derived.Deep.QuietTactic
import Derived.Laws.Strings2
namespace Go.Proofs.Ytcionpepgpfjdaa
open Go.ChangeShapes Go.WideShapes Go.ChangeAt Go.RowKit

theorem strInfo' : (Try.prog.info? 9).map (fun i => (i.zero, i.size, i.bytes)) = some (some (.string ⟨#[]⟩), 1, 16) := by kernel_rfl
theorem below_drewN' {B : Nat} {a w : World} (h : Below B a w) (q : Nat) : Below B a (w.drewN q) := ⟨h.os, h.tape, h.output, h.size, h.block⟩
def strRow (x : ByteArray) : Array Value := #[.string x]
theorem strRow_size (x : ByteArray) : (strRow x).size = 1 := rfl

def blanksB : List UInt8 → ByteArray → List ByteArray
  | [], w => if w.size = 0 then [] else [w]
  | b :: bs, w => if b = 32 then (if w.size = 0 then blanksB bs ⟨#[]⟩ else w :: blanksB bs ⟨#[]⟩) else blanksB bs (w ++ ⟨#[b]⟩)

theorem extract_one (s : ByteArray) (i : Nat) (h : i < s.size) : s.extract i (i + 1) = ⟨#[s[i]]⟩ := by
  apply ByteArray.ext
  rw [ByteArray.data_extract]
  have h' : i < s.data.size := h
  apply Array.ext
  · simp
    omega
  · intro k h1 h2
    simp at h2
    subst h2
    simp
    rfl

set_option maxRecDepth 100000 in
set_option maxHeartbeats 1000000 in
theorem blanks_any (s : ByteArray) (w : World) (hs : s.size ≤ 1000) :
    Calls Try.prog 29 #[.string s, .string ⟨#[32]⟩] w fun e w' => ∃ v, e = .returned v ∧ w'.ownsRow w.heap.size 9 1 v (blanksB s.data.toList ⟨#[]⟩).length (flat strRow (blanksB s.data.toList ⟨#[]⟩)) ∧ Below w.heap.size w w' := by
  obtain ⟨i0, hi0, hz0, hs0, hb0⟩ := info_parts strInfo'
  have HI := Lib.hid hi0
  have HZ := Lib.hid hz0
  have HS := Lib.hid hs0
  have HB := Lib.hid hb0
  clear hi0 hz0 hs0 hb0
  generalize hT : blanksB s.data.toList ⟨#[]⟩ = T
  have HT := Lib.hid hT
  clear hT
  go_enter Try.func29, Try.ntmps29
  go_wp2_with fail
  go_loopw [5, 6, 7, 8, 9] (fun v5 v6 v7 v8 v9 wr => ∃ (i : Nat) (wd : ByteArray) (ts : List ByteArray), v7 = .int .i64 i ∧ v6 = .string wd ∧ i ≤ s.size + 1 ∧ ts.length ≤ i ∧ wd.size ≤ i ∧ Below w.heap.size w wr ∧ wr.ownsRow w.heap.size 9 1 v5 ts.length (flat strRow ts) ∧
    (i ≤ s.size → ts ++ blanksB (s.data.toList.drop i) wd = T) ∧ (i = s.size + 1 → ts = T)) (fun _ _ v7 _ _ _ => s.size + 1 - (intOf v7).toNat)
  case atStart => exact ⟨0, ⟨#[]⟩, [], rfl, rfl, Nat.zero_le _, Nat.le_refl _, Nat.le_refl _, Below.refl _ _, ⟨by simp [flat], .inl ⟨rfl, rfl⟩⟩, fun _ => by simpa using HT.out, fun h => absurd h (by omega)⟩
  case round =>
    obtain ⟨i, wd, ts, rfl, rfl, hi, hts, hwd, hb, hown, hgo, hend⟩ := hrel
    have HBR := Lib.hid hb
    have HOWN := Lib.hid hown
    have HGO := Lib.hid hgo
    have HEND := Lib.hid hend
    clear hb hown hgo hend
    have hwi : IntKind.i64.wrap ((i : Int) + 1) = (i : Int) + 1 := by rw [IntKind.wrap_i64]; omega
    by_cases hle : i ≤ s.size
    · have hlei : (i : Int) ≤ (s.size : Int) := by omega
      by_cases hlt : i < s.size
      · have hlti : (i : Int) < (s.size : Int) := by omega
        have hne : ¬ (i : Int) = (s.size : Int) := by omega
        have hneb : ((i : Int) == (s.size : Int)) = false := by simp; omega
        go_wp2_with fail
        go_loopw [8, 9] (fun v8 v9 wq => ∃ (k n : Nat), v9 = .int .i64 k ∧ k ≤ 1 ∧ wq = wr.drewN n ∧ (k = 0 → v8 = .bool false) ∧ (k = 1 → v8 = .bool ((s[i].toNat : Int) == 32))) (fun _ v9 _ => 1 - (intOf v9).toNat)
        case atStart => exact ⟨0, 0, rfl, by omega, rfl, fun _ => rfl, fun h => absurd h (by decide)⟩
        case round =>
          obtain ⟨k, nn, rfl, hk, rfl, h0, h1⟩ := hrel
          have hk01 : k = 0 ∨ k = 1 := by omega
          rcases hk01 with rfl | rfl
          · obtain rfl := h0 rfl
            clear h0 h1
            go_wp2_with fail
            go_quiet (fail)
            go_wp2_with fail
            go_roundw
            case rel => exact ⟨1, _, rfl, by omega, rfl, fun h => absurd h (by decide), fun _ => rfl⟩
            case measure => simp [intOf]
          · obtain rfl := h1 rfl
            clear h0 h1
            have HBR2 := Lib.hid (below_drewN' HBR.out nn)
            have HOWN2 : Hid ((wr.drewN nn).ownsRow w.heap.size 9 1 u5 ts.length (flat strRow ts)) := Lib.hid HOWN.out
            have hdr : s.data.toList.drop i = s[i] :: s.data.toList.drop (i + 1) := by
              rw [List.drop_eq_getElem_cons (by simpa using hlt)]
              rfl
            have hg := HGO.out hle
            rw [hdr] at hg
            unfold blanksB at hg
            by_cases hc : s[i].toNat = 32
            · have hc2 : ((s[i].toNat : Int) == 32) = true := by simp; omega
              have hc3 : s[i] = 32 := by
                apply UInt8.toNat_inj.1
                rw [hc]
                rfl
              rw [if_pos hc3] at hg
              have HG := Lib.hid hg
              clear hg hdr
              rw [hc2]
              by_cases he : wd.size = 0
              · have hel : wd.toList = [] := by rw [ByteArray.toList_eq]; exact List.eq_nil_of_length_eq_zero (by simpa using he)
                have hel2 : (wd.toList == []) = true := by simp [hel]
                go_wp2_with fail
                go_roundw
                case rel => exact ⟨i + 1, ⟨#[]⟩, ts, by go_num, rfl, by omega, by omega, Nat.zero_le _, HBR2.out, HOWN2.out, fun _ => by have h := HG.out; rw [if_pos he] at h; exact h, fun h => absurd h (by omega)⟩
                case measure => simp [intOf]; omega
              · have hel : ¬ wd.toList = [] := by rw [ByteArray.toList_eq]; intro h; exact he (by simpa using congrArg List.length h)
                have hel2 : (wd.toList == []) = false := by simp [hel]
                go_wp2_with (at_builtin; refine wpList_append_any _ rfl (.tmp 53) (.tmp 55) 31 rfl w.heap.size 9 i0 (.string ⟨#[]⟩) 1 16 Try.underlying31 HI.out HZ.out HS.out HB.out rfl (by omega) _ _ _ rfl (owns_below HOWN2.out ((Below.refl _ _).alloc (Nat.le_refl _) _)) (wr.heap.size + 1) (some ⟨wr.heap.size, 0, none⟩) 1 1 [.string wd] rfl (cellsRow _ _ _ 1 rfl) (by simp [Value.oneCell']) (by simp only [maxLen]; omega) (by omega) (by have := HBR2.out.size; simp at this ⊢; omega) ?_; intro v1 w6 hown6 hg6 hat6; have hb6 : Below w.heap.size w w6 := (HBR2.out.alloc HBR2.out.size _).grown hg6 (by have := HBR2.out.size; simp at this ⊢; omega) (fun k hk => (HOWN2.out.lt k hk).1); have H6a := Lib.hid hown6; have H6b := Lib.hid hb6; clear hown6 hg6 hat6 hb6)
                go_roundw
                case rel => exact ⟨i + 1, ⟨#[]⟩, ts ++ [wd], by go_num, rfl, by omega, by simp; omega, Nat.zero_le _, H6b.out, by rw [List.length_append, flat_append]; exact H6a.out, fun _ => by have h := HG.out; rw [if_neg he] at h; rw [List.append_assoc]; exact h, fun h => absurd h (by omega)⟩
                case measure => simp [intOf]; omega
            · have hc2 : ((s[i].toNat : Int) == 32) = false := by simp; omega
              have hc3 : ¬ s[i] = 32 := fun h => hc (by rw [h]; rfl)
              rw [if_neg hc3] at hg
              have HG := Lib.hid hg
              clear hg hdr
              rw [hc2]
              have hsl : ∀ W, (Instr.slice 9 (.string s) (some (.int .i64 (i : Int))) (some (.int .i64 ((i : Int) + 1))) none).run Try.prog W = .ok (.string (s.extract i (i + 1))) W := fun W => by
                have h := run_slice_string (P := Try.prog) W 9 s .i64 .i64 (i : Int) ((i : Int) + 1) Try.underlying9 (by omega) (by omega) (by omega)
                rw [h]
                rfl
              have hcat : ¬ 9223372036854775807 < wd.size + (min (i + 1) s.size - i) := by omega
              go_wp2_with fail
              go_roundw
              case rel => exact ⟨i + 1, _, ts, by go_num, rfl, by omega, by omega, by rw [extract_one s i hlt, ByteArray.size_append]; exact Nat.add_le_add hwd (Nat.le_refl 1), HBR2.out, HOWN2.out, fun _ => by rw [extract_one s i hlt]; exact HG.out, fun h => absurd h (by omega)⟩
              case measure => simp [intOf]; omega
      · obtain rfl : i = s.size := by omega
        have hneb : ((s.size : Int) == (s.size : Int)) = true := by simp
        have HBR2 := HBR
        have HOWN2 := HOWN
        have hg := HGO.out hle
        rw [List.drop_of_length_le (by simp)] at hg
        unfold blanksB at hg
        have HG := Lib.hid hg
        clear hg
        go_wp2_with fail
        go_loopw [8, 9] (fun v8 v9 wq => v9 = .int .i64 0 ∧ v8 = .bool true ∧ wq = wr) (fun _ _ _ => 0)
        case atStart => exact ⟨rfl, rfl, rfl⟩
        case round =>
          obtain ⟨rfl, rfl, rfl⟩ := hrel
          by_cases he : wd.size = 0
          · have hel : wd.toList = [] := by rw [ByteArray.toList_eq]; exact List.eq_nil_of_length_eq_zero (by simpa using he)
            have hel2 : (wd.toList == []) = true := by simp [hel]
            go_wp2_with fail
            go_roundw
            case rel => exact ⟨s.size + 1, ⟨#[]⟩, ts, by go_num, rfl, by omega, by omega, Nat.zero_le _, HBR2.out, HOWN2.out, fun h => absurd h (by omega), fun _ => by have h := HG.out; rw [if_pos he] at h; rw [← h, List.append_nil]⟩
            case measure => simp [intOf] <;> omega
          · have hel : ¬ wd.toList = [] := by rw [ByteArray.toList_eq]; intro h; exact he (by simpa using congrArg List.length h)
            have hel2 : (wd.toList == []) = false := by simp [hel]
            go_wp2_with (at_builtin; refine wpList_append_any _ rfl (.tmp 53) (.tmp 55) 31 rfl w.heap.size 9 i0 (.string ⟨#[]⟩) 1 16 Try.underlying31 HI.out HZ.out HS.out HB.out rfl (by omega) _ _ _ rfl (owns_below HOWN2.out ((Below.refl _ _).alloc (Nat.le_refl _) _)) (wr.heap.size + 1) (some ⟨wr.heap.size, 0, none⟩) 1 1 [.string wd] rfl (cellsRow _ _ _ 1 rfl) (by simp [Value.oneCell']) (by simp only [maxLen]; omega) (by omega) (by have := HBR2.out.size; simp; omega) ?_; intro v1 w6 hown6 hg6 hat6; have hb6 : Below w.heap.size w w6 := (HBR2.out.alloc HBR2.out.size _).grown hg6 (by have := HBR2.out.size; simp; omega) (fun k hk => (HOWN2.out.lt k hk).1); have H6a := Lib.hid hown6; have H6b := Lib.hid hb6; clear hown6 hg6 hat6 hb6)
            go_roundw
            case rel => exact ⟨s.size + 1, ⟨#[]⟩, ts ++ [wd], by go_num, rfl, by omega, by simp; omega, Nat.zero_le _, H6b.out, by rw [List.length_append, flat_append]; exact H6a.out, fun h => absurd h (by omega), fun _ => by have h := HG.out; rw [if_neg he] at h; exact h⟩
            case measure => simp [intOf] <;> omega
    · have hlei : ¬ (i : Int) ≤ (s.size : Int) := by omega
      have e := HEND.out (by omega)
      subst e
      go_wp2_with fail
      exact bodyPost_ret (v := u5) (by simp [results, Try.results29, go_sem]) rfl ⟨_, rfl, HOWN.out, HBR.out⟩

end Go.Proofs.Ytcionpepgpfjdaa
