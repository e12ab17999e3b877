/-
  The contract of matinslaw23.may: it returns some Bool; true means that the act's spans and texts are in order, and now is a time.
-/
import Derived.Test.YtohgnmpmledljaaRunMayAll
namespace Go.Proofs.Ytohgnmpmledljaa
open Go.ChangeShapes Go.WideShapes Go.ChangeAt Go.RowKit

/-- the name that the law lays in -/
def aUnit : ByteArray := ⟨#[97, 46, 115, 101, 114, 118, 105, 99, 101]⟩

def MayNow (A : ActM) (now : Int) : Prop := MayP A ∧ 0 ≤ now ∧ now < 6311433600
def SomeNow (A : ActM) (now : Int) (w : World) (e : Ending) (w' : World) : Prop := ∃ b, e = .returned (.bool b) ∧ Below w.heap.size w w' ∧ (b = true → MayNow A now)

set_option maxRecDepth 100000 in
set_option maxHeartbeats 4000000 in
theorem mayLaw_any (un : ByteArray) (p n t : Int) (A : ActM) (sa : Option Addr) (sc : Nat) (now : Int) (w : World)
    (hs : ∀ v0 v1 v2 v3 : Value, SaysIn w w.heap.size #[v0, v1, v2, v3, .int .i64 A.lasts, .int .i64 A.code, .int .i64 A.ready, .int .i64 A.dies, .slice sa A.says.length sc] A.says)
    (ht : ∀ j, (A.says.getD j (0, ByteArray.empty)).2.size ≤ 9223372036854775807) :
    Calls Try.prog 10 #[.agg #[.string un, .int .i64 p, .int .i64 n, .int .i64 t, .int .i64 A.lasts, .int .i64 A.code, .int .i64 A.ready, .int .i64 A.dies, .slice sa A.says.length sc], .int .i64 now] w (SomeNow A now w) := by
  have HS := Lib.hid hs
  have HT := Lib.hid ht
  clear hs ht
  generalize hL : A.lasts = L at *
  generalize hC : A.code = C at *
  generalize hR : A.ready = R at *
  generalize hD : A.dies = D at *
  generalize hN : A.says.length = N at *
  have HL := Lib.hid hL
  have HC := Lib.hid hC
  have HR := Lib.hid hR
  have HD := Lib.hid hD
  have HN := Lib.hid hN
  clear hL hC hR hD hN
  go_enter Try.func10, Try.ntmps10
  go_wp2_with (go_at_call 23; fail)
  have hful : ActFull #[.string aUnit, .int .i64 2, .int .i64 0, .int .i64 0, .int .i64 L, .int .i64 C, .int .i64 R, .int .i64 D, .slice sa N sc] A aUnit :=
    ⟨⟨rfl, by rw [HL.out]; rfl, by rw [HC.out]; rfl, by rw [HR.out]; rfl, by rw [HD.out]; rfl⟩, rfl, rfl, rfl, rfl, by decide, HT.out⟩
  have hb0 : ∀ X Y : Obj, Below w.heap.size w ((w.alloc X).alloc Y) := fun X Y => ((Below.refl _ _).alloc (Nat.le_refl _) _).alloc (by simp) _
  refine (mayOne_any _ A aUnit hful (by simp [Value.oneCell']) _ (w.heap.size + 1) (by simp) 24 (row_two _ _ _) (SaysIn.later (HS.out _ _ _ _) (hb0 _ _) (by simp; omega))).mono ?_
  rintro e w1 ⟨bb, rfl, hb1, hmb⟩
  have HB := Lib.hid ((hb0 _ _).trans (hb1.mono (by simp; omega)))
  clear hb1 hb0 hful
  cases bb
  · clear hmb
    go_wp2_with fail
    exact bodyPost_ret (v := .bool false) (by simp [results, Try.results10, go_sem]) rfl ⟨false, rfl, HB.out, by simp⟩
  · have HM : Hid (MayP A) := Lib.hid (hmb rfl)
    clear hmb
    generalize htt : timeB now = tt
    cases tt
    · have HTM : Hid (∀ W, Calls Try.prog 24 #[.int .i64 now] W fun e w' => e = .returned (.bool false) ∧ W = w') := by refine Lib.hid (fun W => ?_); have h := time_any now W; rw [htt] at h; exact h
      clear htt
      go_wp2_with (go_at_call 24; refine (HTM.out _).mono ?_; rintro e w' ⟨rfl, rfl⟩)
      exact bodyPost_ret (v := .bool false) (by simp [results, Try.results10, go_sem]) rfl ⟨false, rfl, HB.out, by simp⟩
    · have HTM : Hid (∀ W, Calls Try.prog 24 #[.int .i64 now] W fun e w' => e = .returned (.bool true) ∧ W = w') := by refine Lib.hid (fun W => ?_); have h := time_any now W; rw [htt] at h; exact h
      have hnow : 0 ≤ now ∧ now < 6311433600 := by simpa [timeB] using htt
      have HN' := Lib.hid hnow
      clear htt hnow
      go_wp2_with (go_at_call 24; refine (HTM.out _).mono ?_; rintro e w' ⟨rfl, rfl⟩)
      exact bodyPost_ret (v := .bool true) (by simp [results, Try.results10, go_sem]) rfl ⟨true, rfl, HB.out, fun _ => ⟨HM.out, HN'.out⟩⟩

end Go.Proofs.Ytohgnmpmledljaa
