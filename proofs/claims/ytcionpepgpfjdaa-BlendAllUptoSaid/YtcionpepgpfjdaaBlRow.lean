/-
  Contracts of matinsref7.kinds, row, worded.
-/
import Derived.Test.YtcionpepgpfjdaaBlBlanks
import Derived.Test.YtcionpepgpfjdaaBlWord
namespace Go.Proofs.Ytcionpepgpfjdaa
open Go.ChangeShapes Go.WideShapes Go.ChangeAt Go.RowKit

def secSv : ByteArray := ⟨#[83, 101, 114, 118, 105, 99, 101]⟩
def secSo : ByteArray := ⟨#[83, 111, 99, 107, 101, 116]⟩
def secTi : ByteArray := ⟨#[84, 105, 109, 101, 114]⟩
def kindsP (s : ByteArray) : Int := if s.toList = secSv.toList then 2 else if s.toList = secSo.toList then 4 else if s.toList = secTi.toList then 8 else 30

theorem kinds_any (s : ByteArray) (w : World) : Calls Try.prog 30 #[.string s] w fun e w' => e = .returned (.int .i64 (kindsP s)) ∧ w = w' := by
  unfold kindsP secSv secSo secTi
  by_cases h1 : s.toList = (⟨#[83, 101, 114, 118, 105, 99, 101]⟩ : ByteArray).toList
  · rw [if_pos h1]
    go_enter Try.func30, Try.ntmps30
    go_wp2_with fail
    exact bodyPost_ret (v := .int .i64 2) (by simp [results, Try.results30, go_sem]) rfl ⟨rfl, rfl⟩
  rw [if_neg h1]
  have h1l : (⟨#[83, 101, 114, 118, 105, 99, 101]⟩ : ByteArray).toList = [83, 101, 114, 118, 105, 99, 101] := by decide +kernel
  rw [h1l] at h1
  have h1b : (s.toList == [83, 101, 114, 118, 105, 99, 101]) = false := by simp [h1]
  clear h1l
  by_cases h2 : s.toList = (⟨#[83, 111, 99, 107, 101, 116]⟩ : ByteArray).toList
  · rw [if_pos h2]
    go_enter Try.func30, Try.ntmps30
    go_wp2_with fail
    exact bodyPost_ret (v := .int .i64 4) (by simp [results, Try.results30, go_sem]) rfl ⟨rfl, rfl⟩
  rw [if_neg h2]
  have h2l : (⟨#[83, 111, 99, 107, 101, 116]⟩ : ByteArray).toList = [83, 111, 99, 107, 101, 116] := by decide +kernel
  rw [h2l] at h2
  have h2b : (s.toList == [83, 111, 99, 107, 101, 116]) = false := by simp [h2]
  clear h2l
  by_cases h3 : s.toList = (⟨#[84, 105, 109, 101, 114]⟩ : ByteArray).toList
  · rw [if_pos h3]
    go_enter Try.func30, Try.ntmps30
    go_wp2_with fail
    exact bodyPost_ret (v := .int .i64 8) (by simp [results, Try.results30, go_sem]) rfl ⟨rfl, rfl⟩
  rw [if_neg h3]
  have h3l : (⟨#[84, 105, 109, 101, 114]⟩ : ByteArray).toList = [84, 105, 109, 101, 114] := by decide +kernel
  rw [h3l] at h3
  have h3b : (s.toList == [84, 105, 109, 101, 114]) = false := by simp [h3]
  clear h3l
  go_enter Try.func30, Try.ntmps30
  go_wp2_with fail
  exact bodyPost_ret (v := .int .i64 30) (by simp [results, Try.results30, go_sem]) rfl ⟨rfl, rfl⟩

def rowP (sec names : ByteArray) (form : Int) (lst : Bool) : List KeyM := (blanksB names.data.toList ⟨#[]⟩).map (mkKey sec (kindsP sec) form lst)

theorem blanksB_len : ∀ (l : List UInt8) (w : ByteArray), (blanksB l w).length ≤ l.length + 1
  | [], w => by unfold blanksB; split <;> simp
  | b :: bs, w => by
    unfold blanksB
    have h1 := blanksB_len bs ⟨#[]⟩
    have h2 := blanksB_len bs (w ++ ⟨#[b]⟩)
    split
    · split
      · simp; omega
      · simp; omega
    · simp; omega

set_option maxRecDepth 100000 in
set_option maxHeartbeats 1000000 in
theorem row_any (sec names : ByteArray) (form : Int) (lst : Bool) (w : World) (hs : names.size ≤ 1000) :
    Calls Try.prog 27 #[.string sec, .string names, .int .i64 form, .bool lst] w fun e w' => ∃ v, e = .returned v ∧ w'.ownsRow w.heap.size 33 6 v (rowP sec names form lst).length (flat KeyM.row (rowP sec names form lst)) ∧ Below w.heap.size w w' := by
  obtain ⟨i0, hi0, hz0, hs0, hb0⟩ := info_parts keyInfo
  have HI := Lib.hid hi0
  have HZ := Lib.hid hz0
  have HS := Lib.hid hs0
  have HB := Lib.hid hb0
  have hbl := blanksB_len names.data.toList ⟨#[]⟩
  have hbl2 : (blanksB names.data.toList ⟨#[]⟩).length ≤ 1001 := Nat.le_trans hbl (by simpa using hs)
  clear hi0 hz0 hs0 hb0 hbl
  unfold rowP
  have HBK := Lib.hid (fun W => blanks_any names W hs)
  generalize blanksB names.data.toList ⟨#[]⟩ = ts at *
  have HKI := Lib.hid (fun W => kinds_any sec W)
  generalize kindsP sec = kq at *
  go_enter Try.func27, Try.ntmps27
  go_wp2_with (go_at_call 29; fail)
  refine (HBK.out _).mono ?_
  rintro e w1 ⟨v1, rfl, hown1, hb1⟩
  obtain ⟨a1, c1, rfl, hin1, -, -⟩ := rows_form strRow_size hown1
  have HIN1 := Lib.hid hin1
  have HB1 := Lib.hid hb1
  clear hown1 hin1 hb1
  generalize hn : ts.length = n at *
  have HN := Lib.hid hn
  clear hn
  go_wp2_with fail
  go_loopw [9, 11, 15] (fun v9 v11 v15 wr => ∃ i : Nat, v15 = .int .i64 i ∧ i ≤ n ∧ Below w1.heap.size w1 wr ∧ wr.ownsRow w1.heap.size 33 6 v9 i (flat KeyM.row ((ts.take i).map (mkKey sec kq form lst)))) (fun _ _ v15 _ => n - (intOf v15).toNat)
  case atStart => exact ⟨0, rfl, Nat.zero_le _, Below.refl _ _, ⟨by simp [flat], .inl ⟨rfl, rfl⟩⟩⟩
  case round =>
    obtain ⟨i, rfl, hi, hbr, hown⟩ := hrel
    have HBR := Lib.hid hbr
    have HOWN := Lib.hid hown
    clear hown
    by_cases hlt : i < n
    · have hlti : (i : Int) < (n : Int) := by omega
      have hwi : IntKind.i64.wrap ((i : Int) + 1) = (i : Int) + 1 := by rw [IntKind.wrap_i64]; omega
      have hil : i < ts.length := by rw [HN.out]; exact hlt
      obtain ⟨bs, off, rfl, hbs, hcl⟩ := HIN1.out.at_ (by omega)
      have hc : wr.cell? ⟨bs, off + i, none⟩ = some (.string ts[i]) := by
        have h := (hbr.cell (p := ⟨bs, off + i * 1 + 0, none⟩) hbs).trans (hcl i ts[i] (List.getElem?_eq_getElem hil) 0 (.string ts[i]) rfl)
        rw [Nat.mul_one, Nat.add_zero] at h
        exact h
      have htk : ts.take (i + 1) = ts.take i ++ [ts[i]] := (List.take_append_getElem hil).symm
      have hbl : bs < wr.heap.size := Nat.lt_of_lt_of_le hbs hbr.size
      generalize ts[i] = nm at hc htk
      have HTK := Lib.hid htk
      clear hcl htk hbr
      go_wp2_with (first
        | (go_at_call 30; refine (HKI.out _).mono ?_; rintro e w' ⟨rfl, rfl⟩)
        | (at_builtin; refine wpList_append_any _ rfl (.tmp 19) (.tmp 27) 36 rfl w1.heap.size 33 i0 (.agg #[.string ⟨#[]⟩, .string ⟨#[]⟩, .int .i64 0, .bool false, .int .i64 0, .slice none 0 0]) 6 80 Try.underlying36 HI.out HZ.out HS.out HB.out rfl (by omega) _ i _ rfl (owns_below HOWN.out ((Below.refl _ _).alloc (Nat.le_refl _) _)) (wr.heap.size + 1) (some ⟨wr.heap.size, 0, none⟩) 1 1 [.string sec, .string nm, .int .i64 form, .bool lst, .int .i64 kq, .slice none 0 0] rfl (cellsRow _ _ _ 6 rfl) (by simp [Value.oneCell']) (by simp only [maxLen]; omega) (by omega) (by have := HBR.out.size; simp; omega) ?_; intro v6 w6 hown6 hg6 hat6; have hb6 : Below w1.heap.size w1 w6 := (HBR.out.alloc HBR.out.size _).grown hg6 (by have := HBR.out.size; simp; omega) (fun k hk => (HOWN.out.lt k hk).1); have H6a := Lib.hid hown6; have H6b := Lib.hid hb6; clear hown6 hg6 hat6 hb6))
      go_roundw
      case rel => exact ⟨i + 1, by go_num, by omega, H6b.out, by rw [HTK.out, List.map_append, flat_append]; exact H6a.out⟩
      case measure => simp [intOf]; omega
    · have hlti : ¬ (i : Int) < (n : Int) := by omega
      obtain rfl : i = n := by omega
      have e : ts.take i = ts := List.take_of_length_le (by rw [HN.out]; exact Nat.le_refl _)
      have h := HOWN.out
      rw [e] at h
      have HO := Lib.hid h
      clear h hbr
      go_wp2_with fail
      exact bodyPost_ret (v := u9) (by simp [results, Try.results27, go_sem]) rfl ⟨_, rfl, by rw [show ts.length = i from HN.out]; exact owns_base HO.out HB1.out.size, HB1.out.trans (HBR.out.mono HB1.out.size)⟩

def wordedP (sec name : ByteArray) (a : Option Addr) (n c : Nat) : KeyM := ⟨sec, name, 10, false, kindsP sec, a, n, c⟩

theorem one_set (sec name : ByteArray) (kq : Int) (a : Option Addr) (n c : Nat) : (flat KeyM.row [mkKey sec kq 10 false name]).set 5 (.slice a n c) = flat KeyM.row [⟨sec, name, 10, false, kq, a, n, c⟩] := rfl

set_option maxRecDepth 100000 in
set_option maxHeartbeats 1000000 in
theorem worded_any (sec name words : ByteArray) (w : World) (hname : blanksB name.data.toList ⟨#[]⟩ = [name]) (hs : name.size ≤ 1000) (hws : words.size ≤ 1000) :
    Calls Try.prog 28 #[.string sec, .string name, .string words] w fun e w' => ∃ v a n c, e = .returned v ∧ w'.ownsRow w.heap.size 33 6 v 1 (flat KeyM.row [wordedP sec name a n c]) ∧ Below w.heap.size w w' := by
  have hrow := fun W => row_any sec name 10 false W hs
  unfold rowP at hrow
  rw [hname] at hrow
  have HROW := Lib.hid hrow
  have HBK := Lib.hid (fun W => blanks_any words W hws)
  unfold wordedP
  clear hrow
  generalize kindsP sec = kq at *
  go_enter Try.func28, Try.ntmps28
  go_wp2_with (go_at_call 27; fail)
  refine (HROW.out _).mono ?_
  rintro e w1 ⟨v1, rfl, hown1, hb1⟩
  obtain ⟨g1, c1, rfl, hbg, hlg⟩ := hown1.form (by simp)
  have HO1 := Lib.hid hown1
  have HB1 := Lib.hid hb1
  clear hown1 hb1
  go_wp2_with (go_at_call 29; fail)
  refine (HBK.out _).mono ?_
  rintro e w2 ⟨v2, rfl, hown2, hb2⟩
  obtain ⟨a2, c2, rfl, -, -, -⟩ := rows_form strRow_size hown2
  have hO2 := owns_below HO1.out hb2
  have HO2 := Lib.hid hO2
  have HB2 := Lib.hid (HB1.out.trans (hb2.mono HB1.out.size))
  have k5 : w2.cell? ⟨g1, 5, none⟩ = some (.slice none 0 0) := by
    have h := hO2.cells (g := g1) rfl 5 (.slice none 0 0) rfl
    rw [add_plain, Nat.zero_add] at h
    exact h
  have f5 : ∀ j, w2.frozen? ⟨g1, j, none⟩ = false := by
    intro j
    obtain ⟨-, ⟨h2, -⟩ | ⟨g', cap', cur, hv, -, hr, -⟩⟩ := hO2
    · cases h2
    · injection hv with e1 _ e3
      injection e1 with e1
      injection e1 with e1
      subst e1
      exact frozen_of_row _ _ _ _ _ hr
  clear hown2 hb2 hO2
  go_wp2_with fail
  have h := own_set HO2.out (.slice a2 (blanksB words.data.toList ⟨#[]⟩).length c2) (i := 5)
  exact bodyPost_ret (v := .slice (some ⟨g1, 0, none⟩) 1 c1) (by simp [results, Try.results28, go_sem]) rfl ⟨_, a2, (blanksB words.data.toList ⟨#[]⟩).length, c2, rfl, h, HB2.out.setCell hbg _⟩

end Go.Proofs.Ytcionpepgpfjdaa
