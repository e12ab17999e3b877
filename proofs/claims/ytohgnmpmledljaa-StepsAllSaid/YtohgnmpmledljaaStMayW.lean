/-
  Contract of matinsref22.May at any world.
-/
import Derived.Test.YtohgnmpmledljaaStAct
import Derived.Test.YtohgnmpmledljaaStFind
namespace Go.Proofs.Ytohgnmpmledljaa
open Go.ChangeShapes Go.WideShapes Go.ChangeAt Go.RowKit

theorem cut_kind2 (k : Int) (p i : ByteArray) (a : Bool) (W : World) : (Instr.field 83 (.agg #[.int .i64 k, .string p, .string i, .bool a]) 0).run Try.prog W = .ok (.int .i64 k) W := by kernel_rfl
attribute [local go_sem] cut_kind2

def SomeB (w : World) (e : Ending) (w' : World) : Prop := ∃ b, e = .returned (.bool b) ∧ Below w.heap.size w w'

set_option maxRecDepth 100000 in
set_option maxHeartbeats 1000000 in
theorem nameMay_any (s : ByteArray) (w : World) (hs : s.size ≤ 9223372036854775807) : Calls Try.prog 38 #[.string s] w (SomeB w) := by
  go_enter Try.func38, Try.ntmps38
  go_wp2_with (go_at_call 43; refine (nameOf_any s _ hs).mono ?_; rintro e w1 ⟨kk, pp, ii, aa, rfl, hb1⟩; have HB := Lib.hid hb1; clear hb1)
  exact bodyPost_ret (v := .bool (decide (0 < kk))) (by simp [results, Try.results38, go_sem]) rfl ⟨_, rfl, HB.out⟩

structure CallsIn (w : World) (B : Nat) (a : Option Addr) (n : Nat) : Prop where
  at_ : 0 < n → ∃ b off, a = some ⟨b, off, none⟩ ∧ b < B ∧ ∀ i, i < n → ∃ x y z : Int, w.cell? ⟨b, off + i * 3, none⟩ = some (.int .i64 x) ∧ w.cell? ⟨b, off + i * 3 + 1, none⟩ = some (.int .i64 y) ∧ w.cell? ⟨b, off + i * 3 + 2, none⟩ = some (.int .i64 z)

structure AsksIn (w : World) (B : Nat) (a : Option Addr) (n : Nat) : Prop where
  at_ : 0 < n → ∃ b off, a = some ⟨b, off, none⟩ ∧ b < B ∧ ∀ i, i < n → ∃ (x : Int) (s : ByteArray) (z : Int), w.cell? ⟨b, off + i * 3, none⟩ = some (.int .i64 x) ∧ w.cell? ⟨b, off + i * 3 + 1, none⟩ = some (.string s) ∧ w.cell? ⟨b, off + i * 3 + 2, none⟩ = some (.int .i64 z) ∧ s.size ≤ 9223372036854775807

/-- a world in memory -/
structure WorldIn (w : World) (aa : Option Addr) (na ca : Nat) (ab : Option Addr) (nb : Nat) (ak : Option Addr) (nk : Nat) (l : List ActR) : Prop where
  acts : ActsIn w w.heap.size aa na l
  cap : na ≤ ca
  sizes : ∀ r : ActR, r ∈ l → r.u.size ≤ 9223372036854775807 ∧ ∀ j, (r.A.says.getD j (0, ByteArray.empty)).2.size ≤ 9223372036854775807
  calls : CallsIn w w.heap.size ab nb
  asks : AsksIn w w.heap.size ak nk
  na_ : na ≤ 9223372036854775807
  ca_ : ca ≤ 9223372036854775807
  nb_ : nb ≤ 9223372036854775807
  nk_ : nk ≤ 9223372036854775807

def SomeMayW (l : List ActR) (w : World) (e : Ending) (w' : World) : Prop := ∃ b, e = .returned (.bool b) ∧ Below w.heap.size w w' ∧ (b = true → ∀ r : ActR, r ∈ l → MayP r.A)

set_option maxRecDepth 100000 in
set_option maxHeartbeats 8000000 in
theorem mayW_any (aa : Option Addr) (na ca : Nat) (ab : Option Addr) (nb cb : Nat) (ak : Option Addr) (nk ck : Nat) (l : List ActR) (w : World) (hw : WorldIn w aa na ca ab nb ak nk l) :
    Calls Try.prog 23 #[.agg #[.slice aa na ca, .slice ab nb cb, .slice ak nk ck]] w (SomeMayW l w) := by
  have HW := Lib.hid hw
  have hna := hw.na_
  have hca := hw.ca_
  have hnc := hw.cap
  have hnb := hw.nb_
  have hnk := hw.nk_
  have HLEN := Lib.hid hw.acts.len
  clear hw
  go_enter Try.func23, Try.ntmps23
  by_cases g1 : 200 < na
  · go_wp2_with fail
    exact bodyPost_ret (v := .bool false) (by simp [results, Try.results23, go_sem]) rfl ⟨false, rfl, (Below.refl _ _).alloc (Nat.le_refl _) _, by simp⟩
  by_cases g2 : 100 < nb
  · go_wp2_with fail
    exact bodyPost_ret (v := .bool false) (by simp [results, Try.results23, go_sem]) rfl ⟨false, rfl, (Below.refl _ _).alloc (Nat.le_refl _) _, by simp⟩
  by_cases g3 : 100 < nk
  · go_wp2_with fail
    exact bodyPost_ret (v := .bool false) (by simp [results, Try.results23, go_sem]) rfl ⟨false, rfl, (Below.refl _ _).alloc (Nat.le_refl _) _, by simp⟩
  have hr1 := heap_alloc_new w (.cells #[.slice aa na ca, .slice ab nb cb, .slice ak nk ck] 44)
  have hb0 : Below w.heap.size w (w.alloc (.cells #[.slice aa na ca, .slice ab nb cb, .slice ak nk ck] 44)) := (Below.refl _ _).alloc (Nat.le_refl _) _
  have hs0 : (w.alloc (.cells #[.slice aa na ca, .slice ab nb cb, .slice ak nk ck] 44)).heap.size = w.heap.size + 1 := by simp
  go_wp2_with fail
  generalize w.alloc (.cells #[.slice aa na ca, .slice ab nb cb, .slice ak nk ck] 44) = W1 at *
  have HR1 := Lib.hid hr1
  have HB0 := Lib.hid hb0
  have HS0 := Lib.hid hs0
  clear hr1 hb0 hs0
  go_loopw [30] (fun v30 wr => ∃ i : Nat, v30 = .int .i64 i ∧ i ≤ na ∧ Below W1.heap.size W1 wr ∧ ∀ (j : Nat) (r : ActR), j < i → l[j]? = some r → MayP r.A) (fun v30 _ => na - (intOf v30).toNat)
  case atStart => exact ⟨0, rfl, Nat.zero_le _, Below.refl _ _, fun j r h => absurd h (Nat.not_lt_zero _)⟩
  case round =>
    obtain ⟨i, rfl, hi, hbr, hok⟩ := hrel
    have HBR := Lib.hid hbr
    have HOK := Lib.hid hok
    have HBW := Lib.hid (HB0.out.trans (hbr.mono HB0.out.size))
    have hl1 : w.heap.size < wr.heap.size := by have := hbr.size; have := HS0.out; omega
    have h1 := (hbr.block w.heap.size (by have := HS0.out; omega)).trans HR1.out
    have H1 := Lib.hid h1
    have k0 : wr.cell? ⟨w.heap.size, 0, none⟩ = some (.slice aa na ca) := by rw [cell_of_row wr _ 0 _ _ _ h1]; rfl
    clear hbr hok h1
    by_cases hlt : i < na
    · have hlti : (i : Int) < (na : Int) := by omega
      have hwi : IntKind.i64.wrap ((i : Int) + 1) = (i : Int) + 1 := by rw [IntKind.wrap_i64]; omega
      obtain ⟨bs, off, rfl, hbs, hcl⟩ := HW.out.acts.at_ (by omega)
      have HCL := Lib.hid hcl
      have hil : i < l.length := by rw [HLEN.out]; exact hlt
      obtain ⟨hcell, hsay, -⟩ := hcl i l[i] (List.getElem?_eq_getElem hil)
      have hsz := HW.out.sizes l[i] (List.getElem_mem hil)
      generalize hri : l[i] = ri at hcell hsay hsz
      have HRI : Hid (l[i]? = some ri) := Lib.hid (by rw [List.getElem?_eq_getElem hil, hri])
      clear hri hcl
      have hcw : ∀ j v, ri.row[j]? = some v → wr.cell? ⟨bs, off + i * 9 + j, none⟩ = some v := fun j v hv => (HBW.out.cell (p := ⟨bs, off + i * 9 + j, none⟩) hbs).trans (hcell j v hv)
      have hmay : ∀ W, Below w.heap.size w W → Calls Try.prog 36 #[.agg ri.row] W (SomeMay ri.A W) := fun W hW => mayActG_any ri.row ri.A ri.u ri.p ri.n ri.t ⟨actRow_cells _ _ _ _ _ _ _, rfl, rfl, rfl, rfl, hsz.1, hsz.2⟩ W (hsay.later hW hW.size)
      have HOK2 : Hid (MayP ri.A → ∀ (j : Nat) (r : ActR), j < i + 1 → l[j]? = some r → MayP r.A) := Lib.hid fun h j r hj hr => by
        by_cases e : j = i
        · subst e
          rw [HRI.out] at hr
          injection hr with hr
          rw [← hr]; exact h
        · exact HOK.out j r (by omega) hr
      obtain ⟨ru, rp, rn, rt, ⟨rL, rC, rR, rD, rS⟩, rsa, rsc⟩ := ri
      unfold ActR.row actRow at hmay hcw
      dsimp only at hmay hcw HOK2
      have q0 := hcw 0 _ rfl
      have q1 := hcw 1 _ rfl
      have q2 := hcw 2 _ rfl
      have q3 := hcw 3 _ rfl
      have q4 := hcw 4 _ rfl
      have q5 := hcw 5 _ rfl
      have q6 := hcw 6 _ rfl
      have q7 := hcw 7 _ rfl
      have q8 := hcw 8 _ rfl
      simp only [Nat.add_zero] at q0
      have HMAY := Lib.hid hmay
      clear hcw hcell hmay hsay hsz
      go_wp2_with (go_at_call 36; fail)
      refine (HMAY.out _ (HBW.out.alloc HBW.out.size _)).mono ?_
      rintro e w4 ⟨bb, rfl, hb4, hmb⟩
      have hbx : Below wr.heap.size wr w4 := ((Below.refl wr.heap.size wr).alloc (Nat.le_refl _) _).trans (hb4.mono (by simp))
      have hr4 := (hb4.block wr.heap.size (by simp)).trans (heap_alloc_new wr _)
      have hl4 : wr.heap.size < w4.heap.size := by have := hb4.size; simp at this; omega
      have HBX := Lib.hid hbx
      have HR4 := Lib.hid (ActAt.of_row hr4)
      have HL4 := Lib.hid hl4
      have HBF := Lib.hid (HBW.out.trans (hbx.mono HBW.out.size))
      clear hb4 hbx hr4 q0 q1 q2 q3 q4 q5 q6 q7 q8 k0
      cases bb
      · clear hmb
        go_wp2_with fail
        exact bodyPost_ret (v := .bool false) (by simp [results, Try.results23, go_sem]) rfl ⟨false, rfl, HBF.out, by simp⟩
      · have HOK3 := Lib.hid (HOK2.out (hmb rfl))
        clear hmb HOK2
        have k0 : w4.cell? ⟨w.heap.size, 0, none⟩ = some (.slice (some ⟨bs, off, none⟩) na ca) := (HBX.out.cell (p := ⟨w.heap.size, 0, none⟩) hl1).trans (by rw [cell_of_row wr _ 0 _ _ _ H1.out]; rfl)
        have HLE : Hid (W1.heap.size ≤ wr.heap.size) := Lib.hid HBR.out.size
        generalize hb4e : wr.heap.size = b4 at *
        clear hb4e
        go_wp2_with fail
        go_loopw [43] (fun v43 wj => ∃ j : Nat, v43 = .int .i64 j ∧ j ≤ i ∧ Below w4.heap.size w4 wj) (fun v43 _ => i - (intOf v43).toNat)
        case atStart => exact ⟨0, rfl, Nat.zero_le _, Below.refl _ _⟩
        case round =>
          obtain ⟨j, rfl, hj, hbj⟩ := hrel
          have HBJ := Lib.hid hbj
          have HBJW := Lib.hid (HBF.out.trans (hbj.mono HBF.out.size))
          obtain ⟨d0, d1, d2, d3, d4, d5, d6, d7, d8⟩ := HR4.out.below hbj HL4.out
          have hlj : b4 < wr.heap.size := Nat.lt_of_lt_of_le HL4.out hbj.size
          clear hbj k0 d4 d5 d6 d7 d8
          by_cases hji : j < i
          · have hjii : (j : Int) < (i : Int) := by omega
            have hwj : IntKind.i64.wrap ((j : Int) + 1) = (j : Int) + 1 := by rw [IntKind.wrap_i64]; omega
            have hjl : j < l.length := by rw [HLEN.out]; omega
            obtain ⟨hcell, -, -⟩ := HCL.out j l[j] (List.getElem?_eq_getElem hjl)
            generalize l[j] = rj at hcell
            have hcw : ∀ k v, rj.row[k]? = some v → wr.cell? ⟨bs, off + j * 9 + k, none⟩ = some v := fun k v hv => (HBJW.out.cell (p := ⟨bs, off + j * 9 + k, none⟩) hbs).trans (hcell k v hv)
            obtain ⟨su, sp, sn, st, ⟨sL, sC, sR, sD, sS⟩, ssa, ssc⟩ := rj
            unfold ActR.row actRow at hcw
            dsimp only at hcw
            have q0 := hcw 0 _ rfl
            have q1 := hcw 1 _ rfl
            have q2 := hcw 2 _ rfl
            have q3 := hcw 3 _ rfl
            have q4 := hcw 4 _ rfl
            have q5 := hcw 5 _ rfl
            have q6 := hcw 6 _ rfl
            have q7 := hcw 7 _ rfl
            have q8 := hcw 8 _ rfl
            simp only [Nat.add_zero] at q0
            clear hcw hcell
            by_cases e1 : ru.toList = su.toList
            · by_cases e2 : rp = sp
              · by_cases e3 : rn = sn
                · have e3b : (rn == sn) = true := by simp [e3]
                  have e2b : (rp == sp) = true := by simp [e2]
                  clear e3 e2
                  by_cases e4 : rt = st
                  · go_wp2_with fail
                    exact bodyPost_ret (v := .bool false) (by simp [results, Try.results23, go_sem]) rfl ⟨false, rfl, HBJW.out.alloc HBJW.out.size _, by simp⟩
                  · skip
                    go_wp2_with fail
                    go_roundw
                    case rel => exact ⟨j + 1, by go_num, by omega, HBJ.out.alloc HBJ.out.size _⟩
                    case measure => simp [intOf]; omega
                · have e2b : (rp == sp) = true := by simp [e2]
                  clear e2
                  go_wp2_with fail
                  go_roundw
                  case rel => exact ⟨j + 1, by go_num, by omega, HBJ.out.alloc HBJ.out.size _⟩
                  case measure => simp [intOf]; omega
              · skip
                go_wp2_with fail
                go_roundw
                case rel => exact ⟨j + 1, by go_num, by omega, HBJ.out.alloc HBJ.out.size _⟩
                case measure => simp [intOf]; omega
            · skip
              go_wp2_with fail
              go_roundw
              case rel => exact ⟨j + 1, by go_num, by omega, HBJ.out.alloc HBJ.out.size _⟩
              case measure => simp [intOf]; omega
          · have hjii : ¬ (j : Int) < (i : Int) := by omega
            clear d0 d1 d2 d3
            go_wp2_with fail
            go_roundw
            case rel => exact ⟨i + 1, by go_num, by omega, HBR.out.trans ((HBX.out.trans (HBJ.out.mono (Nat.le_of_lt HL4.out))).mono HLE.out), HOK3.out⟩
            case measure => simp [intOf]; omega
    · skip
      have hlti : ¬ (i : Int) < (na : Int) := by omega
      have HALL : Hid (∀ r : ActR, r ∈ l → MayP r.A) := Lib.hid fun r hr => by
        obtain ⟨j, hj, e⟩ := List.getElem_of_mem hr
        exact HOK.out j r (by have := HLEN.out; omega) (by rw [List.getElem?_eq_getElem hj, e])
      clear HOK k0
      have k1 : wr.cell? ⟨w.heap.size, 1, none⟩ = some (.slice ab nb cb) := by rw [cell_of_row wr _ 1 _ _ _ H1.out]; rfl
      go_wp2_with fail
      clear k1 hl1
      go_loopw [78] (fun v78 wc => ∃ i : Nat, v78 = .int .i64 i ∧ i ≤ nb ∧ Below W1.heap.size W1 wc) (fun v78 _ => nb - (intOf v78).toNat)
      case atStart => exact ⟨0, rfl, Nat.zero_le _, HBR.out⟩
      case round =>
        clear HBR HBW H1 hlti hi
        obtain ⟨i, rfl, hi, hbr⟩ := hrel
        have HBR := Lib.hid hbr
        have HBF := Lib.hid (HB0.out.trans (hbr.mono HB0.out.size))
        have hl1 : w.heap.size < wr.heap.size := by have := hbr.size; have := HS0.out; omega
        have h1 := (hbr.block w.heap.size (by have := HS0.out; omega)).trans HR1.out
        have H1 := Lib.hid h1
        clear hbr h1
        by_cases hlt : i < nb
        · have hlti : (i : Int) < (nb : Int) := by omega
          have hwi : IntKind.i64.wrap ((i : Int) + 1) = (i : Int) + 1 := by rw [IntKind.wrap_i64]; omega
          obtain ⟨bs, off, rfl, hbs, hcl⟩ := HW.out.calls.at_ (by omega)
          have k1 : wr.cell? ⟨w.heap.size, 1, none⟩ = some (.slice (some ⟨bs, off, none⟩) nb cb) := by rw [cell_of_row wr _ 1 _ _ _ H1.out]; rfl
          have kA : ∀ O : Obj, (wr.alloc O).cell? ⟨w.heap.size, 1, none⟩ = some (.slice (some ⟨bs, off, none⟩) nb cb) := fun O => (World.cell?_of_block (w := wr) (Below.heap_alloc wr O w.heap.size hl1)).trans k1
          obtain ⟨x, y, z, c0, c1, c2⟩ := hcl i hlt
          have hbsr : bs < wr.heap.size := by omega
          rw [← HBF.out.cell (p := ⟨bs, off + i * 3, none⟩) hbs] at c0
          rw [← HBF.out.cell (p := ⟨bs, off + i * 3 + 1, none⟩) hbs] at c1
          rw [← HBF.out.cell (p := ⟨bs, off + i * 3 + 2, none⟩) hbs] at c2
          have EP : Hid (∀ j, j < nb → ∃ xp : Int, ∀ O : Obj, (wr.alloc O).cell? ⟨bs, off + j * 3, none⟩ = some (.int .i64 xp)) := Lib.hid fun j hj => by
            obtain ⟨xp, -, -, e0, -, -⟩ := hcl j hj
            exact ⟨xp, fun O => (World.cell?_of_block (w := wr) (Below.heap_alloc wr O bs hbsr)).trans ((HBF.out.cell (p := ⟨bs, off + j * 3, none⟩) hbs).trans e0)⟩
          clear hcl k1
          cases htm : timeB x
          · have HTM : Hid (∀ W, Calls Try.prog 24 #[.int .i64 x] W fun e w' => e = .returned (.bool false) ∧ W = w') := by refine Lib.hid (fun W => ?_); have h := time_any x W; rw [htm] at h; exact h
            clear htm
            go_wp2_with fail
            go_quiet (first
              | (go_at_call 24; exact quiet_left (HTM.out _))
              | (go_at_call 37; exact quiet_left (HSP.out _)))
            go_wp2_with fail
            exact bodyPost_ret (v := .bool false) (by simp [results, Try.results23, go_sem]) rfl ⟨false, rfl, below_drewN (HBF.out.alloc HBF.out.size _) _, by simp⟩
          · have HTM : Hid (∀ W, Calls Try.prog 24 #[.int .i64 x] W fun e w' => e = .returned (.bool true) ∧ W = w') := by refine Lib.hid (fun W => ?_); have h := time_any x W; rw [htm] at h; exact h
            clear htm
            by_cases y1 : y < 1
            · have y1b : decide (y < 1) = true := by simp [y1]
              go_wp2_with fail
              go_quiet (first
                | (go_at_call 24; exact quiet_left (HTM.out _))
                | (go_at_call 37; exact quiet_left (HSP.out _)))
              go_wp2_with fail
              exact bodyPost_ret (v := .bool false) (by simp [results, Try.results23, go_sem]) rfl ⟨false, rfl, below_drewN (HBF.out.alloc HBF.out.size _) _, by simp⟩
            · have y1b : decide (y < 1) = false := by simp [y1]
              by_cases y2 : 65535 < y
              · have y2b : decide (65535 < y) = true := by simp [y2]
                go_wp2_with fail
                go_quiet (first
                  | (go_at_call 24; exact quiet_left (HTM.out _))
                  | (go_at_call 37; exact quiet_left (HSP.out _)))
                go_wp2_with fail
                exact bodyPost_ret (v := .bool false) (by simp [results, Try.results23, go_sem]) rfl ⟨false, rfl, below_drewN (HBF.out.alloc HBF.out.size _) _, by simp⟩
              · have y2b : decide (65535 < y) = false := by simp [y2]
                cases hsp : spanB z
                · have HSP : Hid (∀ W, Calls Try.prog 37 #[.int .i64 z] W fun e w' => e = .returned (.bool false) ∧ W = w') := by refine Lib.hid (fun W => ?_); have h := span_any z W; rw [hsp] at h; exact h
                  clear hsp
                  go_wp2_with fail
                  go_quiet (first
                    | (go_at_call 24; exact quiet_left (HTM.out _))
                    | (go_at_call 37; exact quiet_left (HSP.out _)))
                  go_wp2_with fail
                  exact bodyPost_ret (v := .bool false) (by simp [results, Try.results23, go_sem]) rfl ⟨false, rfl, below_drewN (HBF.out.alloc HBF.out.size _) _, by simp⟩
                · have HSP : Hid (∀ W, Calls Try.prog 37 #[.int .i64 z] W fun e w' => e = .returned (.bool true) ∧ W = w') := by refine Lib.hid (fun W => ?_); have h := span_any z W; rw [hsp] at h; exact h
                  by_cases z1 : z = 1099511627776
                  · subst z1
                    clear hsp
                    go_wp2_with fail
                    go_quiet (first
                      | (go_at_call 24; exact quiet_left (HTM.out _))
                      | (go_at_call 37; exact quiet_left (HSP.out _)))
                    go_wp2_with fail
                    exact bodyPost_ret (v := .bool false) (by simp [results, Try.results23, go_sem]) rfl ⟨false, rfl, below_drewN (HBF.out.alloc HBF.out.size _) _, by simp⟩
                  · have z1b : (z == 1099511627776) = false := by simp [z1]
                    clear hsp
                    by_cases hi0 : i = 0
                    · subst hi0
                      simp only [Nat.zero_mul, Nat.add_zero] at c0 c1 c2
                      go_wp2_with fail
                      go_quiet (first
                        | (go_at_call 24; exact quiet_left (HTM.out _))
                        | (go_at_call 37; exact quiet_left (HSP.out _)))
                      go_wp2_with fail
                      go_roundw
                      case rel => exact ⟨1, by go_num, by omega, below_drewN (HBR.out.alloc HBR.out.size _) _⟩
                      case measure => simp [intOf]; omega
                    · obtain ⟨p, rfl⟩ : ∃ p, i = p + 1 := ⟨i - 1, by omega⟩
                      obtain ⟨xp, ep⟩ := EP.out p (by omega)
                      generalize hie : p + 1 = i at *
                      have hpi : 0 < (i : Int) := by omega
                      have hpi' : 0 < i := by omega
                      have hwp : IntKind.i64.wrap ((i : Int) - 1) = (p : Int) := by rw [IntKind.wrap_i64]; omega
                      have hpl : (p : Int) < (nb : Int) := by omega
                      have HIE := Lib.hid hie
                      clear hie
                      by_cases x1 : x < xp
                      · have x1b : decide (x < xp) = true := by simp [x1]
                        go_wp2_with fail
                        go_quiet (first
                          | (go_at_call 24; exact quiet_left (HTM.out _))
                          | (go_at_call 37; exact quiet_left (HSP.out _)))
                        go_wp2_with fail
                        exact bodyPost_ret (v := .bool false) (by simp [results, Try.results23, go_sem]) rfl ⟨false, rfl, below_drewN (HBF.out.alloc HBF.out.size _) _, by simp⟩
                      · have x1b : decide (x < xp) = false := by simp [x1]
                        go_wp2_with fail
                        go_quiet (first
                          | (go_at_call 24; exact quiet_left (HTM.out _))
                          | (go_at_call 37; exact quiet_left (HSP.out _)))
                        go_wp2_with fail
                        go_roundw
                        case rel => exact ⟨i + 1, by go_num, by omega, below_drewN (HBR.out.alloc HBR.out.size _) _⟩
                        case measure => simp [intOf]; omega
        · skip
          have hlti : ¬ (i : Int) < (nb : Int) := by omega
          have k2 : wr.cell? ⟨w.heap.size, 2, none⟩ = some (.slice ak nk ck) := by rw [cell_of_row wr _ 2 _ _ _ H1.out]; rfl
          go_wp2_with fail
          clear k2 hl1
          go_loopw [128] (fun v128 wc => ∃ i : Nat, v128 = .int .i64 i ∧ i ≤ nk ∧ Below W1.heap.size W1 wc) (fun v128 _ => nk - (intOf v128).toNat)
          case atStart => exact ⟨0, rfl, Nat.zero_le _, HBR.out⟩
          case round =>
            clear HBR HBF H1 hlti hi
            obtain ⟨i, rfl, hi, hbr⟩ := hrel
            have HBR := Lib.hid hbr
            have HBF := Lib.hid (HB0.out.trans (hbr.mono HB0.out.size))
            have hl1 : w.heap.size < wr.heap.size := by have := hbr.size; have := HS0.out; omega
            have h1 := (hbr.block w.heap.size (by have := HS0.out; omega)).trans HR1.out
            have H1 := Lib.hid h1
            clear hbr h1
            by_cases hlt : i < nk
            · have hlti : (i : Int) < (nk : Int) := by omega
              have hwi : IntKind.i64.wrap ((i : Int) + 1) = (i : Int) + 1 := by rw [IntKind.wrap_i64]; omega
              obtain ⟨bs, off, rfl, hbs, hcl⟩ := HW.out.asks.at_ (by omega)
              have k2 : wr.cell? ⟨w.heap.size, 2, none⟩ = some (.slice (some ⟨bs, off, none⟩) nk ck) := by rw [cell_of_row wr _ 2 _ _ _ H1.out]; rfl
              have kA : ∀ O : Obj, (wr.alloc O).cell? ⟨w.heap.size, 2, none⟩ = some (.slice (some ⟨bs, off, none⟩) nk ck) := fun O => (World.cell?_of_block (w := wr) (Below.heap_alloc wr O w.heap.size hl1)).trans k2
              obtain ⟨x, su, z, c0, c1, c2, hsu⟩ := hcl i hlt
              have hbsr : bs < wr.heap.size := by omega
              rw [← HBF.out.cell (p := ⟨bs, off + i * 3, none⟩) hbs] at c0
              rw [← HBF.out.cell (p := ⟨bs, off + i * 3 + 1, none⟩) hbs] at c1
              rw [← HBF.out.cell (p := ⟨bs, off + i * 3 + 2, none⟩) hbs] at c2
              have EP : Hid (∀ j, j < nk → ∃ xp : Int, ∀ O : Obj, (wr.alloc O).cell? ⟨bs, off + j * 3, none⟩ = some (.int .i64 xp)) := Lib.hid fun j hj => by
                obtain ⟨xp, -, -, e0, -, -, -⟩ := hcl j hj
                exact ⟨xp, fun O => (World.cell?_of_block (w := wr) (Below.heap_alloc wr O bs hbsr)).trans ((HBF.out.cell (p := ⟨bs, off + j * 3, none⟩) hbs).trans e0)⟩
              have KR := Lib.hid k2
              have EPR : Hid (∀ j, j < nk → ∃ xp : Int, wr.cell? ⟨bs, off + j * 3, none⟩ = some (.int .i64 xp)) := Lib.hid fun j hj => by
                obtain ⟨xp, -, -, e0, -, -, -⟩ := hcl j hj
                exact ⟨xp, (HBF.out.cell (p := ⟨bs, off + j * 3, none⟩) hbs).trans e0⟩
              have HNM := Lib.hid (fun W => nameMay_any su W hsu)
              clear hcl k2 hsu
              cases htm : timeB x
              · have HTM : Hid (∀ W, Calls Try.prog 24 #[.int .i64 x] W fun e w' => e = .returned (.bool false) ∧ W = w') := by refine Lib.hid (fun W => ?_); have h := time_any x W; rw [htm] at h; exact h
                clear htm
                go_wp2_with fail
                go_quiet ((go_at_call 24; exact quiet_left (HTM.out _)))
                go_wp2_with fail
                exact bodyPost_ret (v := .bool false) (by simp [results, Try.results23, go_sem]) rfl ⟨false, rfl, below_drewN (HBF.out.alloc HBF.out.size _) _, by simp⟩
              · have HTM : Hid (∀ W, Calls Try.prog 24 #[.int .i64 x] W fun e w' => e = .returned (.bool true) ∧ W = w') := by refine Lib.hid (fun W => ?_); have h := time_any x W; rw [htm] at h; exact h
                clear htm
                go_wp2_with fail
                refine wp_region_any (by kernel_rfl) ?_
                try (change wpAny _ _ _ _ _ _ _ (World.drew _))
                refine wpAny_take (i := 0) (v := ?_) rfl (by kernel_rfl) (by kernel_rfl) (by kernel_rfl) (fun _ _ _ h => h) (Or.inl ⟨by rfl, ?_⟩) ?_
                rotate_left
                · (intro w; go_simp; try with_reducible rfl)
                refine wpAny_ready (rs := [1]) (by kernel_rfl) (by simp) ?_
                refine AllReady.cons rfl (fun K hK => ?_) AllReady.nil
                go_simp
                refine hK _ _ ?_
                clear hK K
                refine wpAny_ready (rs := [2]) (by kernel_rfl) (by simp) ?_
                refine AllReady.cons rfl (fun K hK => ?_) AllReady.nil
                go_simp
                go_wp2_with (go_at_call 24; refine (HTM.out _).mono ?_; rintro e w' ⟨rfl, rfl⟩)
                first | (refine wpAny_take (i := 3) (v := ?_) rfl (by kernel_rfl) (by kernel_rfl) (by kernel_rfl) (fun _ _ _ h => h) (Or.inl ⟨by rfl, ?_⟩) ?_; rotate_left; · (intro w; go_simp; try with_reducible rfl)) | (refine wpAny_take (i := 3) (v := undef) rfl (by kernel_rfl) (by kernel_rfl) (by kernel_rfl) (fun _ _ _ h => h) (Or.inr ⟨by rfl, rfl⟩) ?_) | (refine wpAny_ready (rs := [3]) (by kernel_rfl) (by simp) ?_; refine AllReady.cons rfl (fun K hK => ?_) AllReady.nil; go_simp; refine hK _ _ ?_; clear hK K)
                first | (refine wpAny_take (i := 4) (v := ?_) rfl (by kernel_rfl) (by kernel_rfl) (by kernel_rfl) (fun _ _ _ h => h) (Or.inl ⟨by rfl, ?_⟩) ?_; rotate_left; · (intro w; go_simp; try with_reducible rfl)) | (refine wpAny_take (i := 4) (v := undef) rfl (by kernel_rfl) (by kernel_rfl) (by kernel_rfl) (fun _ _ _ h => h) (Or.inr ⟨by rfl, rfl⟩) ?_) | (refine wpAny_ready (rs := [4]) (by kernel_rfl) (by simp) ?_; refine AllReady.cons rfl (fun K hK => ?_) AllReady.nil; go_simp; refine hK _ _ ?_; clear hK K)
                first | (refine wpAny_take (i := 5) (v := ?_) rfl (by kernel_rfl) (by kernel_rfl) (by kernel_rfl) (fun _ _ _ h => h) (Or.inl ⟨by rfl, ?_⟩) ?_; rotate_left; · (intro w; go_simp; try with_reducible rfl)) | (refine wpAny_take (i := 5) (v := undef) rfl (by kernel_rfl) (by kernel_rfl) (by kernel_rfl) (fun _ _ _ h => h) (Or.inr ⟨by rfl, rfl⟩) ?_) | (refine wpAny_ready (rs := [5]) (by kernel_rfl) (by simp) ?_; refine AllReady.cons rfl (fun K hK => ?_) AllReady.nil; go_simp; refine hK _ _ ?_; clear hK K)
                first | (refine wpAny_take (i := 6) (v := ?_) rfl (by kernel_rfl) (by kernel_rfl) (by kernel_rfl) (fun _ _ _ h => h) (Or.inl ⟨by rfl, ?_⟩) ?_; rotate_left; · (intro w; go_simp; try with_reducible rfl)) | (refine wpAny_take (i := 6) (v := undef) rfl (by kernel_rfl) (by kernel_rfl) (by kernel_rfl) (fun _ _ _ h => h) (Or.inr ⟨by rfl, rfl⟩) ?_) | (refine wpAny_ready (rs := [6]) (by kernel_rfl) (by simp) ?_; refine AllReady.cons rfl (fun K hK => ?_) AllReady.nil; go_simp; refine hK _ _ ?_; clear hK K)
                refine wpAny_ready (rs := [7]) (by kernel_rfl) (by simp) ?_
                refine AllReady.cons rfl (fun K hK => ?_) AllReady.nil
                go_simp
                go_wp2_with (go_at_call 38; refine (HNM.out _).mono ?_; rintro e wn ⟨bb, rfl, hbn⟩; have hbx : Below wr.heap.size wr wn := (((Below.refl wr.heap.size wr).alloc (Nat.le_refl _) (.cells #[.int .i64 x, .string su, .int .i64 z] 77)).drew).trans (hbn.mono (by simp)); have hrow : wn.heap[wr.heap.size]? = some (.cells #[.int .i64 x, .string su, .int .i64 z] 77 (0, 0)) := (hbn.block wr.heap.size (by simp)).trans (heap_alloc_new wr _); have HBX := Lib.hid (HBF.out.trans (hbx.mono HBF.out.size)); have m0 : wn.cell? ⟨wr.heap.size, 0, none⟩ = some (.int .i64 x) := (by rw [cell_of_row wn _ 0 _ _ _ hrow]; rfl); have m2 : wn.cell? ⟨wr.heap.size, 2, none⟩ = some (.int .i64 z) := (by rw [cell_of_row wn _ 2 _ _ _ hrow]; rfl); have kW : wn.cell? ⟨w.heap.size, 2, none⟩ = some (.slice (some ⟨bs, off, none⟩) nk ck) := (hbx.cell (p := ⟨w.heap.size, 2, none⟩) hl1).trans KR.out; have EPN : Hid (∀ j, j < nk → ∃ xp : Int, wn.cell? ⟨bs, off + j * 3, none⟩ = some (.int .i64 xp)) := Lib.hid (fun j hj => (EPR.out j hj).imp fun xp h => (hbx.cell (p := ⟨bs, off + j * 3, none⟩) hbsr).trans h); have HBY := Lib.hid (HBR.out.trans (hbx.mono HBR.out.size)); clear hbn hbx hrow; rcases bb with _ | _)
                · clear m0 m2 kW EPN
                  refine wpAny_ready (rs := [8]) (by kernel_rfl) (by simp) ?_; refine AllReady.cons rfl (fun K hK => ?_) AllReady.nil; go_simp; refine hK _ _ ?_; clear hK K
                  refine wpAny_ready (rs := [9]) (by kernel_rfl) (by simp) ?_; refine AllReady.cons rfl (fun K hK => ?_) AllReady.nil; go_simp; refine hK _ _ ?_; clear hK K
                  refine wpAny_ready (rs := [10]) (by kernel_rfl) (by simp) ?_; refine AllReady.cons rfl (fun K hK => ?_) AllReady.nil; go_simp; refine hK _ _ ?_; clear hK K
                  refine wpAny_take (i := 11) (v := undef) rfl (by kernel_rfl) (by kernel_rfl) (by kernel_rfl) (fun _ _ _ h => h) (Or.inr ⟨by kernel_rfl, rfl⟩) ?_
                  refine wpAny_take (i := 12) (v := undef) rfl (by kernel_rfl) (by kernel_rfl) (by kernel_rfl) (fun _ _ _ h => h) (Or.inr ⟨by kernel_rfl, rfl⟩) ?_
                  refine wpAny_take (i := 13) (v := undef) rfl (by kernel_rfl) (by kernel_rfl) (by kernel_rfl) (fun _ _ _ h => h) (Or.inr ⟨by kernel_rfl, rfl⟩) ?_
                  refine wpAny_ready (rs := [14]) (by kernel_rfl) (by simp) ?_; refine AllReady.cons rfl (fun K hK => ?_) AllReady.nil; go_simp; refine hK _ _ ?_; clear hK K
                  refine wpAny_ready (rs := [15]) (by kernel_rfl) (by simp) ?_; refine AllReady.cons rfl (fun K hK => ?_) AllReady.nil; go_simp; refine hK _ _ ?_; clear hK K
                  refine wpAny_take (i := 16) (v := undef) rfl (by kernel_rfl) (by kernel_rfl) (by kernel_rfl) (fun _ _ _ h => h) (Or.inr ⟨by kernel_rfl, rfl⟩) ?_
                  refine wpAny_take (i := 17) (v := undef) rfl (by kernel_rfl) (by kernel_rfl) (by kernel_rfl) (fun _ _ _ h => h) (Or.inr ⟨by kernel_rfl, rfl⟩) ?_
                  refine wpAny_take (i := 18) (v := undef) rfl (by kernel_rfl) (by kernel_rfl) (by kernel_rfl) (fun _ _ _ h => h) (Or.inr ⟨by kernel_rfl, rfl⟩) ?_
                  refine wpAny_ready (rs := [19]) (by kernel_rfl) (by simp) ?_; refine AllReady.cons rfl (fun K hK => ?_) AllReady.nil; go_simp; refine hK _ _ ?_; clear hK K
                  refine wpAny_ready (rs := [20]) (by kernel_rfl) (by simp) ?_; refine AllReady.cons rfl (fun K hK => ?_) AllReady.nil; go_simp; refine hK _ _ ?_; clear hK K
                  refine wpAny_take (i := 21) (v := undef) rfl (by kernel_rfl) (by kernel_rfl) (by kernel_rfl) (fun _ _ _ h => h) (Or.inr ⟨by kernel_rfl, rfl⟩) ?_
                  refine wpAny_take (i := 22) (v := undef) rfl (by kernel_rfl) (by kernel_rfl) (by kernel_rfl) (fun _ _ _ h => h) (Or.inr ⟨by kernel_rfl, rfl⟩) ?_
                  refine wpAny_take (i := 23) (v := undef) rfl (by kernel_rfl) (by kernel_rfl) (by kernel_rfl) (fun _ _ _ h => h) (Or.inr ⟨by kernel_rfl, rfl⟩) ?_
                  refine wpAny_take (i := 24) (v := undef) rfl (by kernel_rfl) (by kernel_rfl) (by kernel_rfl) (fun _ _ _ h => h) (Or.inr ⟨by kernel_rfl, rfl⟩) ?_
                  refine wpAny_take (i := 25) (v := undef) rfl (by kernel_rfl) (by kernel_rfl) (by kernel_rfl) (fun _ _ _ h => h) (Or.inr ⟨by kernel_rfl, rfl⟩) ?_
                  refine wpAny_take (i := 26) (v := undef) rfl (by kernel_rfl) (by kernel_rfl) (by kernel_rfl) (fun _ _ _ h => h) (Or.inr ⟨by kernel_rfl, rfl⟩) ?_
                  refine wpAny_take (i := 27) (v := undef) rfl (by kernel_rfl) (by kernel_rfl) (by kernel_rfl) (fun _ _ _ h => h) (Or.inr ⟨by kernel_rfl, rfl⟩) ?_
                  refine wpAny_take (i := 28) (v := undef) rfl (by kernel_rfl) (by kernel_rfl) (by kernel_rfl) (fun _ _ _ h => h) (Or.inr ⟨by kernel_rfl, rfl⟩) ?_
                  refine wpAny_take (i := 29) (v := undef) rfl (by kernel_rfl) (by kernel_rfl) (by kernel_rfl) (fun _ _ _ h => h) (Or.inr ⟨by kernel_rfl, rfl⟩) ?_
                  refine wpAny_take (i := 30) (v := undef) rfl (by kernel_rfl) (by kernel_rfl) (by kernel_rfl) (fun _ _ _ h => h) (Or.inr ⟨by kernel_rfl, rfl⟩) ?_
                  refine wpAny_take (i := 31) (v := undef) rfl (by kernel_rfl) (by kernel_rfl) (by kernel_rfl) (fun _ _ _ h => h) (Or.inr ⟨by kernel_rfl, rfl⟩) ?_
                  refine wpAny_take (i := 32) (v := undef) rfl (by kernel_rfl) (by kernel_rfl) (by kernel_rfl) (fun _ _ _ h => h) (Or.inr ⟨by kernel_rfl, rfl⟩) ?_
                  refine wpAny_take (i := 33) (v := undef) rfl (by kernel_rfl) (by kernel_rfl) (by kernel_rfl) (fun _ _ _ h => h) (Or.inr ⟨by kernel_rfl, rfl⟩) ?_
                  refine wpAny_take (i := 34) (v := undef) rfl (by kernel_rfl) (by kernel_rfl) (by kernel_rfl) (fun _ _ _ h => h) (Or.inr ⟨by kernel_rfl, rfl⟩) ?_
                  refine wpAny_ready (rs := [35]) (by kernel_rfl) (by simp) ?_; refine AllReady.cons rfl (fun K hK => ?_) AllReady.nil; go_simp; refine hK _ _ ?_; clear hK K
                  refine wpAny_done (by kernel_rfl) ?_ _
                  go_wp2_with fail
                  exact bodyPost_ret (v := .bool false) (by simp [results, Try.results23, go_sem]) rfl ⟨false, rfl, HBX.out, by simp⟩
                · by_cases z1 : z < 1
                  · have z1b : decide (z < 1) = true := by simp [z1]
                    refine wpAny_ready (rs := [8]) (by kernel_rfl) (by simp) ?_; refine AllReady.cons rfl (fun K hK => ?_) AllReady.nil; go_simp; refine hK _ _ ?_; clear hK K
                    refine wpAny_ready (rs := [9]) (by kernel_rfl) (by simp) ?_; refine AllReady.cons rfl (fun K hK => ?_) AllReady.nil; go_simp; refine hK _ _ ?_; clear hK K
                    refine wpAny_ready (rs := [10]) (by kernel_rfl) (by simp) ?_; refine AllReady.cons rfl (fun K hK => ?_) AllReady.nil; go_simp; refine hK _ _ ?_; clear hK K
                    refine wpAny_ready (rs := [11]) (by kernel_rfl) (by simp) ?_; refine AllReady.cons rfl (fun K hK => ?_) AllReady.nil; go_simp; refine hK _ _ ?_; clear hK K
                    refine wpAny_ready (rs := [12]) (by kernel_rfl) (by simp) ?_; refine AllReady.cons rfl (fun K hK => ?_) AllReady.nil; go_simp; refine hK _ _ ?_; clear hK K
                    refine wpAny_ready (rs := [13]) (by kernel_rfl) (by simp) ?_; refine AllReady.cons rfl (fun K hK => ?_) AllReady.nil; go_simp; refine hK _ _ ?_; clear hK K
                    refine wpAny_ready (rs := [14]) (by kernel_rfl) (by simp) ?_; refine AllReady.cons rfl (fun K hK => ?_) AllReady.nil; go_simp; refine hK _ _ ?_; clear hK K
                    refine wpAny_ready (rs := [15]) (by kernel_rfl) (by simp) ?_; refine AllReady.cons rfl (fun K hK => ?_) AllReady.nil; go_simp; refine hK _ _ ?_; clear hK K
                    refine wpAny_take (i := 16) (v := undef) rfl (by kernel_rfl) (by kernel_rfl) (by kernel_rfl) (fun _ _ _ h => h) (Or.inr ⟨by kernel_rfl, rfl⟩) ?_
                    refine wpAny_take (i := 17) (v := undef) rfl (by kernel_rfl) (by kernel_rfl) (by kernel_rfl) (fun _ _ _ h => h) (Or.inr ⟨by kernel_rfl, rfl⟩) ?_
                    refine wpAny_take (i := 18) (v := undef) rfl (by kernel_rfl) (by kernel_rfl) (by kernel_rfl) (fun _ _ _ h => h) (Or.inr ⟨by kernel_rfl, rfl⟩) ?_
                    refine wpAny_ready (rs := [19]) (by kernel_rfl) (by simp) ?_; refine AllReady.cons rfl (fun K hK => ?_) AllReady.nil; go_simp; refine hK _ _ ?_; clear hK K
                    refine wpAny_ready (rs := [20]) (by kernel_rfl) (by simp) ?_; refine AllReady.cons rfl (fun K hK => ?_) AllReady.nil; go_simp; refine hK _ _ ?_; clear hK K
                    refine wpAny_take (i := 21) (v := undef) rfl (by kernel_rfl) (by kernel_rfl) (by kernel_rfl) (fun _ _ _ h => h) (Or.inr ⟨by kernel_rfl, rfl⟩) ?_
                    refine wpAny_take (i := 22) (v := undef) rfl (by kernel_rfl) (by kernel_rfl) (by kernel_rfl) (fun _ _ _ h => h) (Or.inr ⟨by kernel_rfl, rfl⟩) ?_
                    refine wpAny_take (i := 23) (v := undef) rfl (by kernel_rfl) (by kernel_rfl) (by kernel_rfl) (fun _ _ _ h => h) (Or.inr ⟨by kernel_rfl, rfl⟩) ?_
                    refine wpAny_take (i := 24) (v := undef) rfl (by kernel_rfl) (by kernel_rfl) (by kernel_rfl) (fun _ _ _ h => h) (Or.inr ⟨by kernel_rfl, rfl⟩) ?_
                    refine wpAny_take (i := 25) (v := undef) rfl (by kernel_rfl) (by kernel_rfl) (by kernel_rfl) (fun _ _ _ h => h) (Or.inr ⟨by kernel_rfl, rfl⟩) ?_
                    refine wpAny_take (i := 26) (v := undef) rfl (by kernel_rfl) (by kernel_rfl) (by kernel_rfl) (fun _ _ _ h => h) (Or.inr ⟨by kernel_rfl, rfl⟩) ?_
                    refine wpAny_take (i := 27) (v := undef) rfl (by kernel_rfl) (by kernel_rfl) (by kernel_rfl) (fun _ _ _ h => h) (Or.inr ⟨by kernel_rfl, rfl⟩) ?_
                    refine wpAny_take (i := 28) (v := undef) rfl (by kernel_rfl) (by kernel_rfl) (by kernel_rfl) (fun _ _ _ h => h) (Or.inr ⟨by kernel_rfl, rfl⟩) ?_
                    refine wpAny_take (i := 29) (v := undef) rfl (by kernel_rfl) (by kernel_rfl) (by kernel_rfl) (fun _ _ _ h => h) (Or.inr ⟨by kernel_rfl, rfl⟩) ?_
                    refine wpAny_take (i := 30) (v := undef) rfl (by kernel_rfl) (by kernel_rfl) (by kernel_rfl) (fun _ _ _ h => h) (Or.inr ⟨by kernel_rfl, rfl⟩) ?_
                    refine wpAny_take (i := 31) (v := undef) rfl (by kernel_rfl) (by kernel_rfl) (by kernel_rfl) (fun _ _ _ h => h) (Or.inr ⟨by kernel_rfl, rfl⟩) ?_
                    refine wpAny_take (i := 32) (v := undef) rfl (by kernel_rfl) (by kernel_rfl) (by kernel_rfl) (fun _ _ _ h => h) (Or.inr ⟨by kernel_rfl, rfl⟩) ?_
                    refine wpAny_take (i := 33) (v := undef) rfl (by kernel_rfl) (by kernel_rfl) (by kernel_rfl) (fun _ _ _ h => h) (Or.inr ⟨by kernel_rfl, rfl⟩) ?_
                    refine wpAny_take (i := 34) (v := undef) rfl (by kernel_rfl) (by kernel_rfl) (by kernel_rfl) (fun _ _ _ h => h) (Or.inr ⟨by kernel_rfl, rfl⟩) ?_
                    refine wpAny_ready (rs := [35]) (by kernel_rfl) (by simp) ?_; refine AllReady.cons rfl (fun K hK => ?_) AllReady.nil; go_simp; refine hK _ _ ?_; clear hK K
                    refine wpAny_done (by kernel_rfl) ?_ _
                    go_wp2_with fail
                    exact bodyPost_ret (v := .bool false) (by simp [results, Try.results23, go_sem]) rfl ⟨false, rfl, HBX.out, by simp⟩
                  · have z1b : decide (z < 1) = false := by simp [z1]
                    by_cases z2 : 4 < z
                    · have z2b : decide (4 < z) = true := by simp [z2]
                      refine wpAny_ready (rs := [8]) (by kernel_rfl) (by simp) ?_; refine AllReady.cons rfl (fun K hK => ?_) AllReady.nil; go_simp; refine hK _ _ ?_; clear hK K
                      refine wpAny_ready (rs := [9]) (by kernel_rfl) (by simp) ?_; refine AllReady.cons rfl (fun K hK => ?_) AllReady.nil; go_simp; refine hK _ _ ?_; clear hK K
                      refine wpAny_ready (rs := [10]) (by kernel_rfl) (by simp) ?_; refine AllReady.cons rfl (fun K hK => ?_) AllReady.nil; go_simp; refine hK _ _ ?_; clear hK K
                      refine wpAny_ready (rs := [11]) (by kernel_rfl) (by simp) ?_; refine AllReady.cons rfl (fun K hK => ?_) AllReady.nil; go_simp; refine hK _ _ ?_; clear hK K
                      refine wpAny_ready (rs := [12]) (by kernel_rfl) (by simp) ?_; refine AllReady.cons rfl (fun K hK => ?_) AllReady.nil; go_simp; refine hK _ _ ?_; clear hK K
                      refine wpAny_ready (rs := [13]) (by kernel_rfl) (by simp) ?_; refine AllReady.cons rfl (fun K hK => ?_) AllReady.nil; go_simp; refine hK _ _ ?_; clear hK K
                      refine wpAny_ready (rs := [14]) (by kernel_rfl) (by simp) ?_; refine AllReady.cons rfl (fun K hK => ?_) AllReady.nil; go_simp; refine hK _ _ ?_; clear hK K
                      refine wpAny_ready (rs := [15]) (by kernel_rfl) (by simp) ?_; refine AllReady.cons rfl (fun K hK => ?_) AllReady.nil; go_simp; refine hK _ _ ?_; clear hK K
                      refine wpAny_ready (rs := [16]) (by kernel_rfl) (by simp) ?_; refine AllReady.cons rfl (fun K hK => ?_) AllReady.nil; go_simp; refine hK _ _ ?_; clear hK K
                      refine wpAny_ready (rs := [17]) (by kernel_rfl) (by simp) ?_; refine AllReady.cons rfl (fun K hK => ?_) AllReady.nil; go_simp; refine hK _ _ ?_; clear hK K
                      refine wpAny_ready (rs := [18]) (by kernel_rfl) (by simp) ?_; refine AllReady.cons rfl (fun K hK => ?_) AllReady.nil; go_simp; refine hK _ _ ?_; clear hK K
                      refine wpAny_ready (rs := [19]) (by kernel_rfl) (by simp) ?_; refine AllReady.cons rfl (fun K hK => ?_) AllReady.nil; go_simp; refine hK _ _ ?_; clear hK K
                      refine wpAny_ready (rs := [20]) (by kernel_rfl) (by simp) ?_; refine AllReady.cons rfl (fun K hK => ?_) AllReady.nil; go_simp; refine hK _ _ ?_; clear hK K
                      refine wpAny_take (i := 21) (v := undef) rfl (by kernel_rfl) (by kernel_rfl) (by kernel_rfl) (fun _ _ _ h => h) (Or.inr ⟨by kernel_rfl, rfl⟩) ?_
                      refine wpAny_take (i := 22) (v := undef) rfl (by kernel_rfl) (by kernel_rfl) (by kernel_rfl) (fun _ _ _ h => h) (Or.inr ⟨by kernel_rfl, rfl⟩) ?_
                      refine wpAny_take (i := 23) (v := undef) rfl (by kernel_rfl) (by kernel_rfl) (by kernel_rfl) (fun _ _ _ h => h) (Or.inr ⟨by kernel_rfl, rfl⟩) ?_
                      refine wpAny_take (i := 24) (v := undef) rfl (by kernel_rfl) (by kernel_rfl) (by kernel_rfl) (fun _ _ _ h => h) (Or.inr ⟨by kernel_rfl, rfl⟩) ?_
                      refine wpAny_take (i := 25) (v := undef) rfl (by kernel_rfl) (by kernel_rfl) (by kernel_rfl) (fun _ _ _ h => h) (Or.inr ⟨by kernel_rfl, rfl⟩) ?_
                      refine wpAny_take (i := 26) (v := undef) rfl (by kernel_rfl) (by kernel_rfl) (by kernel_rfl) (fun _ _ _ h => h) (Or.inr ⟨by kernel_rfl, rfl⟩) ?_
                      refine wpAny_take (i := 27) (v := undef) rfl (by kernel_rfl) (by kernel_rfl) (by kernel_rfl) (fun _ _ _ h => h) (Or.inr ⟨by kernel_rfl, rfl⟩) ?_
                      refine wpAny_take (i := 28) (v := undef) rfl (by kernel_rfl) (by kernel_rfl) (by kernel_rfl) (fun _ _ _ h => h) (Or.inr ⟨by kernel_rfl, rfl⟩) ?_
                      refine wpAny_take (i := 29) (v := undef) rfl (by kernel_rfl) (by kernel_rfl) (by kernel_rfl) (fun _ _ _ h => h) (Or.inr ⟨by kernel_rfl, rfl⟩) ?_
                      refine wpAny_take (i := 30) (v := undef) rfl (by kernel_rfl) (by kernel_rfl) (by kernel_rfl) (fun _ _ _ h => h) (Or.inr ⟨by kernel_rfl, rfl⟩) ?_
                      refine wpAny_take (i := 31) (v := undef) rfl (by kernel_rfl) (by kernel_rfl) (by kernel_rfl) (fun _ _ _ h => h) (Or.inr ⟨by kernel_rfl, rfl⟩) ?_
                      refine wpAny_take (i := 32) (v := undef) rfl (by kernel_rfl) (by kernel_rfl) (by kernel_rfl) (fun _ _ _ h => h) (Or.inr ⟨by kernel_rfl, rfl⟩) ?_
                      refine wpAny_take (i := 33) (v := undef) rfl (by kernel_rfl) (by kernel_rfl) (by kernel_rfl) (fun _ _ _ h => h) (Or.inr ⟨by kernel_rfl, rfl⟩) ?_
                      refine wpAny_take (i := 34) (v := undef) rfl (by kernel_rfl) (by kernel_rfl) (by kernel_rfl) (fun _ _ _ h => h) (Or.inr ⟨by kernel_rfl, rfl⟩) ?_
                      refine wpAny_ready (rs := [35]) (by kernel_rfl) (by simp) ?_; refine AllReady.cons rfl (fun K hK => ?_) AllReady.nil; go_simp; refine hK _ _ ?_; clear hK K
                      refine wpAny_done (by kernel_rfl) ?_ _
                      go_wp2_with fail
                      exact bodyPost_ret (v := .bool false) (by simp [results, Try.results23, go_sem]) rfl ⟨false, rfl, HBX.out, by simp⟩
                    · have z2b : decide (4 < z) = false := by simp [z2]
                      by_cases hi0 : i = 0
                      · subst hi0
                        refine wpAny_ready (rs := [8]) (by kernel_rfl) (by simp) ?_; refine AllReady.cons rfl (fun K hK => ?_) AllReady.nil; go_simp; refine hK _ _ ?_; clear hK K
                        refine wpAny_ready (rs := [9]) (by kernel_rfl) (by simp) ?_; refine AllReady.cons rfl (fun K hK => ?_) AllReady.nil; go_simp; refine hK _ _ ?_; clear hK K
                        refine wpAny_ready (rs := [10]) (by kernel_rfl) (by simp) ?_; refine AllReady.cons rfl (fun K hK => ?_) AllReady.nil; go_simp; refine hK _ _ ?_; clear hK K
                        refine wpAny_ready (rs := [11]) (by kernel_rfl) (by simp) ?_; refine AllReady.cons rfl (fun K hK => ?_) AllReady.nil; go_simp; refine hK _ _ ?_; clear hK K
                        refine wpAny_ready (rs := [12]) (by kernel_rfl) (by simp) ?_; refine AllReady.cons rfl (fun K hK => ?_) AllReady.nil; go_simp; refine hK _ _ ?_; clear hK K
                        refine wpAny_ready (rs := [13]) (by kernel_rfl) (by simp) ?_; refine AllReady.cons rfl (fun K hK => ?_) AllReady.nil; go_simp; refine hK _ _ ?_; clear hK K
                        refine wpAny_ready (rs := [14]) (by kernel_rfl) (by simp) ?_; refine AllReady.cons rfl (fun K hK => ?_) AllReady.nil; go_simp; refine hK _ _ ?_; clear hK K
                        refine wpAny_ready (rs := [15]) (by kernel_rfl) (by simp) ?_; refine AllReady.cons rfl (fun K hK => ?_) AllReady.nil; go_simp; refine hK _ _ ?_; clear hK K
                        refine wpAny_ready (rs := [16]) (by kernel_rfl) (by simp) ?_; refine AllReady.cons rfl (fun K hK => ?_) AllReady.nil; go_simp; refine hK _ _ ?_; clear hK K
                        refine wpAny_ready (rs := [17]) (by kernel_rfl) (by simp) ?_; refine AllReady.cons rfl (fun K hK => ?_) AllReady.nil; go_simp; refine hK _ _ ?_; clear hK K
                        refine wpAny_ready (rs := [18]) (by kernel_rfl) (by simp) ?_; refine AllReady.cons rfl (fun K hK => ?_) AllReady.nil; go_simp; refine hK _ _ ?_; clear hK K
                        refine wpAny_ready (rs := [19]) (by kernel_rfl) (by simp) ?_; refine AllReady.cons rfl (fun K hK => ?_) AllReady.nil; go_simp; refine hK _ _ ?_; clear hK K
                        refine wpAny_ready (rs := [20]) (by kernel_rfl) (by simp) ?_; refine AllReady.cons rfl (fun K hK => ?_) AllReady.nil; go_simp; refine hK _ _ ?_; clear hK K
                        refine wpAny_ready (rs := [21]) (by kernel_rfl) (by simp) ?_; refine AllReady.cons rfl (fun K hK => ?_) AllReady.nil; go_simp; refine hK _ _ ?_; clear hK K
                        refine wpAny_ready (rs := [22]) (by kernel_rfl) (by simp) ?_; refine AllReady.cons rfl (fun K hK => ?_) AllReady.nil; go_simp; refine hK _ _ ?_; clear hK K
                        refine wpAny_ready (rs := [23]) (by kernel_rfl) (by simp) ?_; refine AllReady.cons rfl (fun K hK => ?_) AllReady.nil; go_simp; refine hK _ _ ?_; clear hK K
                        refine wpAny_take (i := 24) (v := undef) rfl (by kernel_rfl) (by kernel_rfl) (by kernel_rfl) (fun _ _ _ h => h) (Or.inr ⟨by kernel_rfl, rfl⟩) ?_
                        refine wpAny_take (i := 25) (v := undef) rfl (by kernel_rfl) (by kernel_rfl) (by kernel_rfl) (fun _ _ _ h => h) (Or.inr ⟨by kernel_rfl, rfl⟩) ?_
                        refine wpAny_take (i := 26) (v := undef) rfl (by kernel_rfl) (by kernel_rfl) (by kernel_rfl) (fun _ _ _ h => h) (Or.inr ⟨by kernel_rfl, rfl⟩) ?_
                        refine wpAny_take (i := 27) (v := undef) rfl (by kernel_rfl) (by kernel_rfl) (by kernel_rfl) (fun _ _ _ h => h) (Or.inr ⟨by kernel_rfl, rfl⟩) ?_
                        refine wpAny_take (i := 28) (v := undef) rfl (by kernel_rfl) (by kernel_rfl) (by kernel_rfl) (fun _ _ _ h => h) (Or.inr ⟨by kernel_rfl, rfl⟩) ?_
                        refine wpAny_take (i := 29) (v := undef) rfl (by kernel_rfl) (by kernel_rfl) (by kernel_rfl) (fun _ _ _ h => h) (Or.inr ⟨by kernel_rfl, rfl⟩) ?_
                        refine wpAny_take (i := 30) (v := undef) rfl (by kernel_rfl) (by kernel_rfl) (by kernel_rfl) (fun _ _ _ h => h) (Or.inr ⟨by kernel_rfl, rfl⟩) ?_
                        refine wpAny_take (i := 31) (v := undef) rfl (by kernel_rfl) (by kernel_rfl) (by kernel_rfl) (fun _ _ _ h => h) (Or.inr ⟨by kernel_rfl, rfl⟩) ?_
                        refine wpAny_take (i := 32) (v := undef) rfl (by kernel_rfl) (by kernel_rfl) (by kernel_rfl) (fun _ _ _ h => h) (Or.inr ⟨by kernel_rfl, rfl⟩) ?_
                        refine wpAny_take (i := 33) (v := undef) rfl (by kernel_rfl) (by kernel_rfl) (by kernel_rfl) (fun _ _ _ h => h) (Or.inr ⟨by kernel_rfl, rfl⟩) ?_
                        refine wpAny_ready (rs := [34]) (by kernel_rfl) (by simp) ?_; refine AllReady.cons rfl (fun K hK => ?_) AllReady.nil; go_simp; refine hK _ _ ?_; clear hK K
                        refine wpAny_ready (rs := [35]) (by kernel_rfl) (by simp) ?_; refine AllReady.cons rfl (fun K hK => ?_) AllReady.nil; go_simp; refine hK _ _ ?_; clear hK K
                        refine wpAny_done (by kernel_rfl) ?_ _
                        go_wp2_with fail
                        go_roundw
                        case rel => exact ⟨1, by go_num, by omega, HBY.out⟩
                        case measure => simp [intOf]; omega
                      · obtain ⟨p, rfl⟩ : ∃ p, i = p + 1 := ⟨i - 1, by omega⟩
                        obtain ⟨xp, ep⟩ := EPN.out p (by omega)
                        generalize hie : p + 1 = i at *
                        have hpi : 0 < (i : Int) := by omega
                        have hpi' : 0 < i := by omega
                        have hwp : IntKind.i64.wrap ((i : Int) - 1) = (p : Int) := by rw [IntKind.wrap_i64]; omega
                        have hpl : (p : Int) < (nk : Int) := by omega
                        have HIE := Lib.hid hie
                        clear hie
                        by_cases x1 : x < xp
                        · have x1b : decide (x < xp) = true := by simp [x1]
                          refine wpAny_ready (rs := [8]) (by kernel_rfl) (by simp) ?_; refine AllReady.cons rfl (fun K hK => ?_) AllReady.nil; go_simp; refine hK _ _ ?_; clear hK K
                          refine wpAny_ready (rs := [9]) (by kernel_rfl) (by simp) ?_; refine AllReady.cons rfl (fun K hK => ?_) AllReady.nil; go_simp; refine hK _ _ ?_; clear hK K
                          refine wpAny_ready (rs := [10]) (by kernel_rfl) (by simp) ?_; refine AllReady.cons rfl (fun K hK => ?_) AllReady.nil; go_simp; refine hK _ _ ?_; clear hK K
                          refine wpAny_ready (rs := [11]) (by kernel_rfl) (by simp) ?_; refine AllReady.cons rfl (fun K hK => ?_) AllReady.nil; go_simp; refine hK _ _ ?_; clear hK K
                          refine wpAny_ready (rs := [12]) (by kernel_rfl) (by simp) ?_; refine AllReady.cons rfl (fun K hK => ?_) AllReady.nil; go_simp; refine hK _ _ ?_; clear hK K
                          refine wpAny_ready (rs := [13]) (by kernel_rfl) (by simp) ?_; refine AllReady.cons rfl (fun K hK => ?_) AllReady.nil; go_simp; refine hK _ _ ?_; clear hK K
                          refine wpAny_ready (rs := [14]) (by kernel_rfl) (by simp) ?_; refine AllReady.cons rfl (fun K hK => ?_) AllReady.nil; go_simp; refine hK _ _ ?_; clear hK K
                          refine wpAny_ready (rs := [15]) (by kernel_rfl) (by simp) ?_; refine AllReady.cons rfl (fun K hK => ?_) AllReady.nil; go_simp; refine hK _ _ ?_; clear hK K
                          refine wpAny_ready (rs := [16]) (by kernel_rfl) (by simp) ?_; refine AllReady.cons rfl (fun K hK => ?_) AllReady.nil; go_simp; refine hK _ _ ?_; clear hK K
                          refine wpAny_ready (rs := [17]) (by kernel_rfl) (by simp) ?_; refine AllReady.cons rfl (fun K hK => ?_) AllReady.nil; go_simp; refine hK _ _ ?_; clear hK K
                          refine wpAny_ready (rs := [18]) (by kernel_rfl) (by simp) ?_; refine AllReady.cons rfl (fun K hK => ?_) AllReady.nil; go_simp; refine hK _ _ ?_; clear hK K
                          refine wpAny_ready (rs := [19]) (by kernel_rfl) (by simp) ?_; refine AllReady.cons rfl (fun K hK => ?_) AllReady.nil; go_simp; refine hK _ _ ?_; clear hK K
                          refine wpAny_ready (rs := [20]) (by kernel_rfl) (by simp) ?_; refine AllReady.cons rfl (fun K hK => ?_) AllReady.nil; go_simp; refine hK _ _ ?_; clear hK K
                          refine wpAny_ready (rs := [21]) (by kernel_rfl) (by simp) ?_; refine AllReady.cons rfl (fun K hK => ?_) AllReady.nil; go_simp; refine hK _ _ ?_; clear hK K
                          refine wpAny_ready (rs := [22]) (by kernel_rfl) (by simp) ?_; refine AllReady.cons rfl (fun K hK => ?_) AllReady.nil; go_simp; refine hK _ _ ?_; clear hK K
                          refine wpAny_ready (rs := [23]) (by kernel_rfl) (by simp) ?_; refine AllReady.cons rfl (fun K hK => ?_) AllReady.nil; go_simp; refine hK _ _ ?_; clear hK K
                          refine wpAny_take (i := 24) (v := ?_) rfl (by kernel_rfl) (by kernel_rfl) (by kernel_rfl) (fun _ _ _ h => h) (Or.inl ⟨by kernel_rfl, ?_⟩) ?_; rotate_left; · (intro w; go_simp; try with_reducible rfl)
                          refine wpAny_take (i := 26) (v := ?_) rfl (by kernel_rfl) (by kernel_rfl) (by kernel_rfl) (fun _ _ _ h => h) (Or.inl ⟨by kernel_rfl, ?_⟩) ?_; rotate_left; · (intro w; go_simp; try with_reducible rfl)
                          refine wpAny_take (i := 28) (v := ?_) rfl (by kernel_rfl) (by kernel_rfl) (by kernel_rfl) (fun _ _ _ h => h) (Or.inl ⟨by kernel_rfl, ?_⟩) ?_; rotate_left; · (intro w; go_simp; try with_reducible rfl)
                          refine wpAny_take (i := 29) (v := ?_) rfl (by kernel_rfl) (by kernel_rfl) (by kernel_rfl) (fun _ _ _ h => h) (Or.inl ⟨by kernel_rfl, ?_⟩) ?_; rotate_left; · (intro w; go_simp; try with_reducible rfl)
                          refine wpAny_ready (rs := [25, 27]) (by kernel_rfl) (by simp) ?_
                          refine AllReady.cons rfl (fun K hK => ?_) (AllReady.cons rfl (fun K hK => ?_) AllReady.nil)
                          · go_simp
                            refine hK _ _ ?_
                            clear hK K
                            refine wpAny_ready (rs := [27]) (by kernel_rfl) (by simp) ?_; refine AllReady.cons rfl (fun K hK => ?_) AllReady.nil; go_simp; refine hK _ _ ?_; clear hK K
                            refine wpAny_ready (rs := [30]) (by kernel_rfl) (by simp) ?_; refine AllReady.cons rfl (fun K hK => ?_) AllReady.nil; go_simp; refine hK _ _ ?_; clear hK K
                            refine wpAny_ready (rs := [31]) (by kernel_rfl) (by simp) ?_; refine AllReady.cons rfl (fun K hK => ?_) AllReady.nil; go_simp; refine hK _ _ ?_; clear hK K
                            refine wpAny_ready (rs := [32]) (by kernel_rfl) (by simp) ?_; refine AllReady.cons rfl (fun K hK => ?_) AllReady.nil; go_simp; refine hK _ _ ?_; clear hK K
                            refine wpAny_ready (rs := [33]) (by kernel_rfl) (by simp) ?_; refine AllReady.cons rfl (fun K hK => ?_) AllReady.nil; go_simp; refine hK _ _ ?_; clear hK K
                            refine wpAny_ready (rs := [34]) (by kernel_rfl) (by simp) ?_; refine AllReady.cons rfl (fun K hK => ?_) AllReady.nil; go_simp; refine hK _ _ ?_; clear hK K
                            refine wpAny_ready (rs := [35]) (by kernel_rfl) (by simp) ?_; refine AllReady.cons rfl (fun K hK => ?_) AllReady.nil; go_simp; refine hK _ _ ?_; clear hK K
                            refine wpAny_done (by kernel_rfl) ?_ _
                            go_wp2_with fail
                            exact bodyPost_ret (v := .bool false) (by simp [results, Try.results23, go_sem]) rfl ⟨false, rfl, HBX.out, by simp⟩
                          · go_simp
                            refine hK _ _ ?_
                            clear hK K
                            refine wpAny_take (i := 30) (v := ?_) rfl (by kernel_rfl) (by kernel_rfl) (by kernel_rfl) (fun _ _ _ h => h) (Or.inl ⟨by kernel_rfl, ?_⟩) ?_; rotate_left; · (intro w; go_simp; try with_reducible rfl)
                            refine wpAny_take (i := 31) (v := ?_) rfl (by kernel_rfl) (by kernel_rfl) (by kernel_rfl) (fun _ _ _ h => h) (Or.inl ⟨by kernel_rfl, ?_⟩) ?_; rotate_left; · (intro w; go_simp; try with_reducible rfl)
                            refine wpAny_ready (rs := [25, 32]) (by kernel_rfl) (by simp) ?_
                            refine AllReady.cons rfl (fun K hK => ?_) (AllReady.cons rfl (fun K hK => ?_) AllReady.nil)
                            · go_simp
                              refine hK _ _ ?_
                              clear hK K
                              refine wpAny_ready (rs := [32]) (by kernel_rfl) (by simp) ?_; refine AllReady.cons rfl (fun K hK => ?_) AllReady.nil; go_simp; refine hK _ _ ?_; clear hK K
                              refine wpAny_ready (rs := [33]) (by kernel_rfl) (by simp) ?_; refine AllReady.cons rfl (fun K hK => ?_) AllReady.nil; go_simp; refine hK _ _ ?_; clear hK K
                              refine wpAny_ready (rs := [34]) (by kernel_rfl) (by simp) ?_; refine AllReady.cons rfl (fun K hK => ?_) AllReady.nil; go_simp; refine hK _ _ ?_; clear hK K
                              refine wpAny_ready (rs := [35]) (by kernel_rfl) (by simp) ?_; refine AllReady.cons rfl (fun K hK => ?_) AllReady.nil; go_simp; refine hK _ _ ?_; clear hK K
                              refine wpAny_done (by kernel_rfl) ?_ _
                              go_wp2_with fail
                              exact bodyPost_ret (v := .bool false) (by simp [results, Try.results23, go_sem]) rfl ⟨false, rfl, HBX.out, by simp⟩
                            · go_simp
                              refine hK _ _ ?_
                              clear hK K
                              refine wpAny_ready (rs := [25]) (by kernel_rfl) (by simp) ?_; refine AllReady.cons rfl (fun K hK => ?_) AllReady.nil; go_simp; refine hK _ _ ?_; clear hK K
                              refine wpAny_ready (rs := [33]) (by kernel_rfl) (by simp) ?_; refine AllReady.cons rfl (fun K hK => ?_) AllReady.nil; go_simp; refine hK _ _ ?_; clear hK K
                              refine wpAny_ready (rs := [34]) (by kernel_rfl) (by simp) ?_; refine AllReady.cons rfl (fun K hK => ?_) AllReady.nil; go_simp; refine hK _ _ ?_; clear hK K
                              refine wpAny_ready (rs := [35]) (by kernel_rfl) (by simp) ?_; refine AllReady.cons rfl (fun K hK => ?_) AllReady.nil; go_simp; refine hK _ _ ?_; clear hK K
                              refine wpAny_done (by kernel_rfl) ?_ _
                              go_wp2_with fail
                              exact bodyPost_ret (v := .bool false) (by simp [results, Try.results23, go_sem]) rfl ⟨false, rfl, HBX.out, by simp⟩
                        · have x1b : decide (x < xp) = false := by simp [x1]
                          refine wpAny_ready (rs := [8]) (by kernel_rfl) (by simp) ?_; refine AllReady.cons rfl (fun K hK => ?_) AllReady.nil; go_simp; refine hK _ _ ?_; clear hK K
                          refine wpAny_ready (rs := [9]) (by kernel_rfl) (by simp) ?_; refine AllReady.cons rfl (fun K hK => ?_) AllReady.nil; go_simp; refine hK _ _ ?_; clear hK K
                          refine wpAny_ready (rs := [10]) (by kernel_rfl) (by simp) ?_; refine AllReady.cons rfl (fun K hK => ?_) AllReady.nil; go_simp; refine hK _ _ ?_; clear hK K
                          refine wpAny_ready (rs := [11]) (by kernel_rfl) (by simp) ?_; refine AllReady.cons rfl (fun K hK => ?_) AllReady.nil; go_simp; refine hK _ _ ?_; clear hK K
                          refine wpAny_ready (rs := [12]) (by kernel_rfl) (by simp) ?_; refine AllReady.cons rfl (fun K hK => ?_) AllReady.nil; go_simp; refine hK _ _ ?_; clear hK K
                          refine wpAny_ready (rs := [13]) (by kernel_rfl) (by simp) ?_; refine AllReady.cons rfl (fun K hK => ?_) AllReady.nil; go_simp; refine hK _ _ ?_; clear hK K
                          refine wpAny_ready (rs := [14]) (by kernel_rfl) (by simp) ?_; refine AllReady.cons rfl (fun K hK => ?_) AllReady.nil; go_simp; refine hK _ _ ?_; clear hK K
                          refine wpAny_ready (rs := [15]) (by kernel_rfl) (by simp) ?_; refine AllReady.cons rfl (fun K hK => ?_) AllReady.nil; go_simp; refine hK _ _ ?_; clear hK K
                          refine wpAny_ready (rs := [16]) (by kernel_rfl) (by simp) ?_; refine AllReady.cons rfl (fun K hK => ?_) AllReady.nil; go_simp; refine hK _ _ ?_; clear hK K
                          refine wpAny_ready (rs := [17]) (by kernel_rfl) (by simp) ?_; refine AllReady.cons rfl (fun K hK => ?_) AllReady.nil; go_simp; refine hK _ _ ?_; clear hK K
                          refine wpAny_ready (rs := [18]) (by kernel_rfl) (by simp) ?_; refine AllReady.cons rfl (fun K hK => ?_) AllReady.nil; go_simp; refine hK _ _ ?_; clear hK K
                          refine wpAny_ready (rs := [19]) (by kernel_rfl) (by simp) ?_; refine AllReady.cons rfl (fun K hK => ?_) AllReady.nil; go_simp; refine hK _ _ ?_; clear hK K
                          refine wpAny_ready (rs := [20]) (by kernel_rfl) (by simp) ?_; refine AllReady.cons rfl (fun K hK => ?_) AllReady.nil; go_simp; refine hK _ _ ?_; clear hK K
                          refine wpAny_ready (rs := [21]) (by kernel_rfl) (by simp) ?_; refine AllReady.cons rfl (fun K hK => ?_) AllReady.nil; go_simp; refine hK _ _ ?_; clear hK K
                          refine wpAny_ready (rs := [22]) (by kernel_rfl) (by simp) ?_; refine AllReady.cons rfl (fun K hK => ?_) AllReady.nil; go_simp; refine hK _ _ ?_; clear hK K
                          refine wpAny_ready (rs := [23]) (by kernel_rfl) (by simp) ?_; refine AllReady.cons rfl (fun K hK => ?_) AllReady.nil; go_simp; refine hK _ _ ?_; clear hK K
                          refine wpAny_take (i := 24) (v := ?_) rfl (by kernel_rfl) (by kernel_rfl) (by kernel_rfl) (fun _ _ _ h => h) (Or.inl ⟨by kernel_rfl, ?_⟩) ?_; rotate_left; · (intro w; go_simp; try with_reducible rfl)
                          refine wpAny_take (i := 26) (v := ?_) rfl (by kernel_rfl) (by kernel_rfl) (by kernel_rfl) (fun _ _ _ h => h) (Or.inl ⟨by kernel_rfl, ?_⟩) ?_; rotate_left; · (intro w; go_simp; try with_reducible rfl)
                          refine wpAny_take (i := 28) (v := ?_) rfl (by kernel_rfl) (by kernel_rfl) (by kernel_rfl) (fun _ _ _ h => h) (Or.inl ⟨by kernel_rfl, ?_⟩) ?_; rotate_left; · (intro w; go_simp; try with_reducible rfl)
                          refine wpAny_take (i := 29) (v := ?_) rfl (by kernel_rfl) (by kernel_rfl) (by kernel_rfl) (fun _ _ _ h => h) (Or.inl ⟨by kernel_rfl, ?_⟩) ?_; rotate_left; · (intro w; go_simp; try with_reducible rfl)
                          refine wpAny_ready (rs := [25, 27]) (by kernel_rfl) (by simp) ?_
                          refine AllReady.cons rfl (fun K hK => ?_) (AllReady.cons rfl (fun K hK => ?_) AllReady.nil)
                          · go_simp
                            refine hK _ _ ?_
                            clear hK K
                            refine wpAny_ready (rs := [27]) (by kernel_rfl) (by simp) ?_; refine AllReady.cons rfl (fun K hK => ?_) AllReady.nil; go_simp; refine hK _ _ ?_; clear hK K
                            refine wpAny_ready (rs := [30]) (by kernel_rfl) (by simp) ?_; refine AllReady.cons rfl (fun K hK => ?_) AllReady.nil; go_simp; refine hK _ _ ?_; clear hK K
                            refine wpAny_ready (rs := [31]) (by kernel_rfl) (by simp) ?_; refine AllReady.cons rfl (fun K hK => ?_) AllReady.nil; go_simp; refine hK _ _ ?_; clear hK K
                            refine wpAny_ready (rs := [32]) (by kernel_rfl) (by simp) ?_; refine AllReady.cons rfl (fun K hK => ?_) AllReady.nil; go_simp; refine hK _ _ ?_; clear hK K
                            refine wpAny_ready (rs := [33]) (by kernel_rfl) (by simp) ?_; refine AllReady.cons rfl (fun K hK => ?_) AllReady.nil; go_simp; refine hK _ _ ?_; clear hK K
                            refine wpAny_ready (rs := [34]) (by kernel_rfl) (by simp) ?_; refine AllReady.cons rfl (fun K hK => ?_) AllReady.nil; go_simp; refine hK _ _ ?_; clear hK K
                            refine wpAny_ready (rs := [35]) (by kernel_rfl) (by simp) ?_; refine AllReady.cons rfl (fun K hK => ?_) AllReady.nil; go_simp; refine hK _ _ ?_; clear hK K
                            refine wpAny_done (by kernel_rfl) ?_ _
                            go_wp2_with fail
                            go_roundw
                            case rel => exact ⟨i + 1, by go_num, by omega, HBY.out⟩
                            case measure => simp [intOf]; have := HIE.out; omega
                          · go_simp
                            refine hK _ _ ?_
                            clear hK K
                            refine wpAny_take (i := 30) (v := ?_) rfl (by kernel_rfl) (by kernel_rfl) (by kernel_rfl) (fun _ _ _ h => h) (Or.inl ⟨by kernel_rfl, ?_⟩) ?_; rotate_left; · (intro w; go_simp; try with_reducible rfl)
                            refine wpAny_take (i := 31) (v := ?_) rfl (by kernel_rfl) (by kernel_rfl) (by kernel_rfl) (fun _ _ _ h => h) (Or.inl ⟨by kernel_rfl, ?_⟩) ?_; rotate_left; · (intro w; go_simp; try with_reducible rfl)
                            refine wpAny_ready (rs := [25, 32]) (by kernel_rfl) (by simp) ?_
                            refine AllReady.cons rfl (fun K hK => ?_) (AllReady.cons rfl (fun K hK => ?_) AllReady.nil)
                            · go_simp
                              refine hK _ _ ?_
                              clear hK K
                              refine wpAny_ready (rs := [32]) (by kernel_rfl) (by simp) ?_; refine AllReady.cons rfl (fun K hK => ?_) AllReady.nil; go_simp; refine hK _ _ ?_; clear hK K
                              refine wpAny_ready (rs := [33]) (by kernel_rfl) (by simp) ?_; refine AllReady.cons rfl (fun K hK => ?_) AllReady.nil; go_simp; refine hK _ _ ?_; clear hK K
                              refine wpAny_ready (rs := [34]) (by kernel_rfl) (by simp) ?_; refine AllReady.cons rfl (fun K hK => ?_) AllReady.nil; go_simp; refine hK _ _ ?_; clear hK K
                              refine wpAny_ready (rs := [35]) (by kernel_rfl) (by simp) ?_; refine AllReady.cons rfl (fun K hK => ?_) AllReady.nil; go_simp; refine hK _ _ ?_; clear hK K
                              refine wpAny_done (by kernel_rfl) ?_ _
                              go_wp2_with fail
                              go_roundw
                              case rel => exact ⟨i + 1, by go_num, by omega, HBY.out⟩
                              case measure => simp [intOf]; have := HIE.out; omega
                            · go_simp
                              refine hK _ _ ?_
                              clear hK K
                              refine wpAny_ready (rs := [25]) (by kernel_rfl) (by simp) ?_; refine AllReady.cons rfl (fun K hK => ?_) AllReady.nil; go_simp; refine hK _ _ ?_; clear hK K
                              refine wpAny_ready (rs := [33]) (by kernel_rfl) (by simp) ?_; refine AllReady.cons rfl (fun K hK => ?_) AllReady.nil; go_simp; refine hK _ _ ?_; clear hK K
                              refine wpAny_ready (rs := [34]) (by kernel_rfl) (by simp) ?_; refine AllReady.cons rfl (fun K hK => ?_) AllReady.nil; go_simp; refine hK _ _ ?_; clear hK K
                              refine wpAny_ready (rs := [35]) (by kernel_rfl) (by simp) ?_; refine AllReady.cons rfl (fun K hK => ?_) AllReady.nil; go_simp; refine hK _ _ ?_; clear hK K
                              refine wpAny_done (by kernel_rfl) ?_ _
                              go_wp2_with fail
                              go_roundw
                              case rel => exact ⟨i + 1, by go_num, by omega, HBY.out⟩
                              case measure => simp [intOf]; have := HIE.out; omega
            · have hlti : ¬ (i : Int) < (nk : Int) := by omega
              go_wp2_with fail
              exact bodyPost_ret (v := .bool true) (by simp [results, Try.results23, go_sem]) rfl ⟨true, rfl, HBF.out, fun _ => HALL.out⟩

end Go.Proofs.Ytohgnmpmledljaa
