/-
  Contract of world.Find: it returns a copy of the act that fits best, or none.
-/
import Derived.Test.YtohgnmpmledljaaStCopy
namespace Go.Proofs.Ytohgnmpmledljaa
open Go.ChangeShapes Go.WideShapes Go.ChangeAt Go.RowKit

/-- acts in memory -/
structure ActsIn (w : World) (B : Nat) (a : Option Addr) (n : Nat) (l : List ActR) : Prop where
  len : l.length = n
  at_ : 0 < n → ∃ b off, a = some ⟨b, off, none⟩ ∧ b < B ∧ ∀ i r, l[i]? = some r →
    ((∀ j v, r.row[j]? = some v → w.cell? ⟨b, off + i * 9 + j, none⟩ = some v) ∧ SaysIn w B r.row r.A.says ∧ (r.sa = none → r.A.says.length = 0 ∧ r.sc = 0))

theorem ActsIn.later {w w' : World} {B B' : Nat} {a : Option Addr} {n : Nat} {l : List ActR} (h : ActsIn w B a n l) (hb : Below B w w') (hB : B ≤ B') : ActsIn w' B' a n l := by
  refine ⟨h.len, fun hn => ?_⟩
  obtain ⟨b, off, e, hlt, hc⟩ := h.at_ hn
  refine ⟨b, off, e, Nat.lt_of_lt_of_le hlt hB, fun i r hr => ?_⟩
  obtain ⟨h1, h2, h3⟩ := hc i r hr
  exact ⟨fun j v hv => (hb.cell (p := ⟨b, off + i * 9 + j, none⟩) hlt).trans (h1 j v hv), h2.later hb hB, h3⟩

/-- no text is too long to be copied -/
def Light (l : List ActR) : Prop := ∀ r : ActR, r ∈ l → r.A.says.length * 24 ≤ 140737488355328

def firstFit (l : List ActR) (u : ByteArray) (p n t : Int) : Option ActR := l.find? fun r : ActR => r.fits u p n t
def findR (l : List ActR) (u : ByteArray) (p n t : Int) : Option ActR :=
  (firstFit l u p n t).or ((firstFit l u p (-1) t).or ((firstFit l u p n 0).or (firstFit l u p (-1) 0)))

theorem firstFit_none {l : List ActR} {u : ByteArray} {p n t : Int} (h : ∀ (j : Nat) (r : ActR), l[j]? = some r → r.fits u p n t = false) : firstFit l u p n t = none := by
  unfold firstFit
  rw [List.find?_eq_none]
  intro r hr
  obtain ⟨j, hj, e⟩ := List.getElem_of_mem hr
  rw [h j r (by rw [List.getElem?_eq_getElem hj, e])]
  simp

theorem firstFit_some {l : List ActR} {u : ByteArray} {p n t : Int} {i : Nat} {r : ActR} (hi : l[i]? = some r) (hf : r.fits u p n t = true) (h : ∀ (j : Nat) (r : ActR), j < i → l[j]? = some r → r.fits u p n t = false) : firstFit l u p n t = some r := by
  unfold firstFit
  induction l generalizing i with
  | nil => simp at hi
  | cons x xs ih =>
    cases i with
    | zero =>
      simp at hi
      subst hi
      simp [hf]
    | succ i =>
      have h0 := h 0 x (by omega) (by simp)
      rw [List.find?_cons, h0]
      exact ih (i := i) (by simpa using hi) fun j r hj hr => h (j + 1) r (by omega) (by simpa using hr)

def FindRet (l : List ActR) (u : ByteArray) (p n t : Int) (e : Ending) : Prop :=
  match findR l u p n t with
  | some r => ∃ a' n' c', e = .returned (.tuple #[.agg #[.string r.u, .int .i64 r.p, .int .i64 r.n, .int .i64 r.t, .int .i64 r.A.lasts, .int .i64 r.A.code, .int .i64 r.A.ready, .int .i64 r.A.dies, .slice a' n' c'], .bool true])
  | none => e = .returned (.tuple #[.agg #[.string ⟨#[]⟩, .int .i64 0, .int .i64 0, .int .i64 0, .int .i64 0, .int .i64 0, .int .i64 0, .int .i64 0, .slice none 0 0], .bool false])

theorem idx4_0 (a0 a1 a2 a3 a4 a5 a6 a7 : Int) (W : World) : Sem.run Try.prog (Instr.index 87 (.agg #[.int .i64 a0, .int .i64 a1, .int .i64 a2, .int .i64 a3, .int .i64 a4, .int .i64 a5, .int .i64 a6, .int .i64 a7]) (.int .i64 0)) W = .ok (.agg #[.int .i64 a0, .int .i64 a1]) W := by kernel_rfl
theorem idx4_1 (a0 a1 a2 a3 a4 a5 a6 a7 : Int) (W : World) : Sem.run Try.prog (Instr.index 87 (.agg #[.int .i64 a0, .int .i64 a1, .int .i64 a2, .int .i64 a3, .int .i64 a4, .int .i64 a5, .int .i64 a6, .int .i64 a7]) (.int .i64 1)) W = .ok (.agg #[.int .i64 a2, .int .i64 a3]) W := by kernel_rfl
theorem idx4_2 (a0 a1 a2 a3 a4 a5 a6 a7 : Int) (W : World) : Sem.run Try.prog (Instr.index 87 (.agg #[.int .i64 a0, .int .i64 a1, .int .i64 a2, .int .i64 a3, .int .i64 a4, .int .i64 a5, .int .i64 a6, .int .i64 a7]) (.int .i64 2)) W = .ok (.agg #[.int .i64 a4, .int .i64 a5]) W := by kernel_rfl
theorem idx4_3 (a0 a1 a2 a3 a4 a5 a6 a7 : Int) (W : World) : Sem.run Try.prog (Instr.index 87 (.agg #[.int .i64 a0, .int .i64 a1, .int .i64 a2, .int .i64 a3, .int .i64 a4, .int .i64 a5, .int .i64 a6, .int .i64 a7]) (.int .i64 3)) W = .ok (.agg #[.int .i64 a6, .int .i64 a7]) W := by kernel_rfl
attribute [local go_sem] idx4_0 idx4_1 idx4_2 idx4_3

/-- the first k ways to fit have failed -/
def NoneYet (l : List ActR) (u : ByteArray) (p n t : Int) (k : Nat) : Prop :=
  (0 < k → firstFit l u p n t = none) ∧ (1 < k → firstFit l u p (-1) t = none) ∧ (2 < k → firstFit l u p n 0 = none) ∧ (3 < k → firstFit l u p (-1) 0 = none)

theorem find_results (W : World) (b : Nat) (un : ByteArray) (p n t L C R D : Int) (sa : Option Addr) (sn sc : Nat) (ok : Bool) (tm : Array Value) (h : ActAt W b un p n t L C R D sa sn sc) (h4 : tm[10]? = some (.pointer (some ⟨b, 0, none⟩))) (h5 : tm[11]? = some (.bool ok)) :
    (results Try.f39 tm).run Try.prog W = .ok (.tuple #[.agg #[.string un, .int .i64 p, .int .i64 n, .int .i64 t, .int .i64 L, .int .i64 C, .int .i64 R, .int .i64 D, .slice sa sn sc], .bool ok]) W := by
  obtain ⟨c0, c1, c2, c3, c4, c5, c6, c7, c8⟩ := h
  simp [results, Try.results39, go_sem, h4, h5, c0, c1, c2, c3, c4, c5, c6, c7, c8]

set_option maxRecDepth 100000 in
set_option maxHeartbeats 8000000 in
theorem find_any (l : List ActR) (u : ByteArray) (p n t : Int) (aa : Option Addr) (na ca : Nat) (ab : Option Addr) (nb cb : Nat) (ak : Option Addr) (nk ck : Nat) (w : World) (hl : ActsIn w w.heap.size aa na l) (hbig : na ≤ 9223372036854775807) (hli : Light l) :
    Calls Try.prog 39 #[.agg #[.slice aa na ca, .slice ab nb cb, .slice ak nk ck], .string u, .int .i64 p, .int .i64 n, .int .i64 t] w fun e w' => FindRet l u p n t e ∧ Below w.heap.size w w' := by
  have HL := Lib.hid hl
  have HLI := Lib.hid hli
  have hlen := hl.len
  have HLEN := Lib.hid hlen
  clear hl hli hlen
  go_enter Try.func39, Try.ntmps39
  go_wp2_with fail
  generalize hW0 : (w.alloc (.cells #[.slice aa na ca, .slice ab nb cb, .slice ak nk ck] 44)).alloc (.cells #[.string ⟨#[]⟩, .int .i64 0, .int .i64 0, .int .i64 0, .int .i64 0, .int .i64 0, .int .i64 0, .int .i64 0, .slice none 0 0] 24) = W0
  have hr5 : W0.heap[w.heap.size]? = some (.cells #[.slice aa na ca, .slice ab nb cb, .slice ak nk ck] 44 (0, 0)) := by
    rw [← hW0]; exact (Below.heap_alloc (w.alloc _) _ _ (by simp)).trans (heap_alloc_new w _)
  have hr10 : W0.heap[w.heap.size + 1]? = some (.cells #[.string ⟨#[]⟩, .int .i64 0, .int .i64 0, .int .i64 0, .int .i64 0, .int .i64 0, .int .i64 0, .int .i64 0, .slice none 0 0] 24 (0, 0)) := by rw [← hW0]; exact row_two w _ _
  have hsz : W0.heap.size = w.heap.size + 2 := by rw [← hW0]; simp
  have hb0 : Below w.heap.size w W0 := by rw [← hW0]; exact ((Below.refl _ _).alloc (Nat.le_refl _) _).alloc (by simp) _
  have HR5 := Lib.hid hr5
  have HR10 := Lib.hid hr10
  have HSZ := Lib.hid hsz
  have HB0 := Lib.hid hb0
  clear hW0 hr5 hr10 hsz hb0
  go_loopw [25] (fun v25 wr => ∃ (k : Nat) (q : Int), v25 = .int .i64 q ∧ q = k ∧ k ≤ 4 ∧ Below W0.heap.size W0 wr ∧ NoneYet l u p n t k) (fun v25 _ => 4 - (intOf v25).toNat)
  case atStart => exact ⟨0, 0, rfl, rfl, by omega, Below.refl _ _, fun h => absurd h (by omega), fun h => absurd h (by omega), fun h => absurd h (by omega), fun h => absurd h (by omega)⟩
  case round =>
    obtain ⟨k, q, rfl, hqk, hk, hbr, hnone⟩ := hrel
    have HBR := Lib.hid hbr
    have HNO := Lib.hid hnone
    have hlt5 : w.heap.size < wr.heap.size := by have := hbr.size; have := HSZ.out; omega
    have hr5 := (hbr.block w.heap.size (by have := HSZ.out; omega)).trans HR5.out
    have q5 : wr.cell? ⟨w.heap.size, 0, none⟩ = some (.slice aa na ca) := by rw [cell_of_row wr _ 0 _ _ _ hr5]; rfl
    clear hbr hnone hr5
    have hcase : k = 0 ∨ k = 1 ∨ k = 2 ∨ k = 3 ∨ k = 4 := by omega
    clear hk
    have hq : q = 0 ∧ k = 0 ∨ q = 1 ∧ k = 1 ∨ q = 2 ∧ k = 2 ∨ q = 3 ∧ k = 3 ∨ q = 4 ∧ k = 4 := by omega
    clear hcase hqk
    rcases hq with ⟨rfl, rfl⟩ | ⟨rfl, rfl⟩ | ⟨rfl, rfl⟩ | ⟨rfl, rfl⟩ | ⟨rfl, rfl⟩
    · go_wp2_with fail
      generalize hw3 : wr.alloc (.cells #[.int .i64 (n), .int .i64 (t)] 86) = w3
      have hr3 : w3.heap[wr.heap.size]? = some (.cells #[.int .i64 (n), .int .i64 (t)] 86 (0, 0)) := by rw [← hw3]; exact heap_alloc_new wr _
      have hb3 : Below wr.heap.size wr w3 := by rw [← hw3]; exact (Below.refl _ _).alloc (Nat.le_refl _) _
      have hs3 : wr.heap.size < w3.heap.size := by rw [← hw3]; simp
      have HR3 := Lib.hid hr3
      have HB3 := Lib.hid hb3
      have HS3 := Lib.hid hs3
      have HLE : Hid (W0.heap.size ≤ wr.heap.size) := Lib.hid HBR.out.size
      generalize wr.heap.size = b3 at *
      clear hw3 hr3 hb3 hs3
      go_loopw [31] (fun v31 wi => ∃ i : Nat, v31 = .int .i64 i ∧ i ≤ na ∧ Below w3.heap.size w3 wi ∧ ∀ (j : Nat) (r : ActR), j < i → l[j]? = some r → r.fits u p (n) (t) = false) (fun v31 _ => na - (intOf v31).toNat)
      case atStart => exact ⟨0, rfl, Nat.zero_le _, Below.refl _ _, fun j r h => absurd h (Nat.not_lt_zero _)⟩
      case round =>
        obtain ⟨i, rfl, hi, hbi, hno⟩ := hrel
        have HBI := Lib.hid hbi
        have HNI := Lib.hid hno
        have hr3 := (hbi.block b3 HS3.out).trans HR3.out
        have p0 : wr.cell? ⟨b3, 0, none⟩ = some (.int .i64 (n)) := by rw [cell_of_row wr _ 0 _ _ _ hr3]; rfl
        have p1 : wr.cell? ⟨b3, 1, none⟩ = some (.int .i64 (t)) := by rw [cell_of_row wr _ 1 _ _ _ hr3]; rfl
        have hl3 : b3 < wr.heap.size := by have := hbi.size; have := HS3.out; omega
        have hbw : Below w.heap.size w wr := HB0.out.trans ((HBR.out.trans ((HB3.out.trans (hbi.mono (Nat.le_of_lt HS3.out))).mono HLE.out)).mono HB0.out.size)
        have HBW := Lib.hid hbw
        have hr10 : wr.heap[w.heap.size + 1]? = some (.cells #[.string ⟨#[]⟩, .int .i64 0, .int .i64 0, .int .i64 0, .int .i64 0, .int .i64 0, .int .i64 0, .int .i64 0, .slice none 0 0] 24 (0, 0)) := by
          have h1 := HSZ.out
          have h2 := HLE.out
          have h3 := HS3.out
          rw [hbi.block _ (by omega), HB3.out.block _ (by omega), HBR.out.block _ (by omega)]
          exact HR10.out
        have HR10I := Lib.hid hr10
        clear hbi hno hr3 hbw hr10
        by_cases hlt : i < na
        · have hlti : (i : Int) < (na : Int) := by omega
          obtain ⟨bs, off, rfl, hbs, hcl⟩ := HL.out.at_ (by omega)
          have hil : i < l.length := by rw [HLEN.out]; exact hlt
          obtain ⟨hcell, hsay, hnil⟩ := hcl i l[i] (List.getElem?_eq_getElem hil)
          generalize hri : l[i] = ri at hcell hsay hnil
          have HRI : Hid (l[i]? = some ri) := Lib.hid (by rw [List.getElem?_eq_getElem hil, hri])
          clear hri hcl
          have HSAY := Lib.hid hsay
          have HNIL := Lib.hid hnil
          clear hsay hnil
          have hcw : ∀ j v, ri.row[j]? = some v → wr.cell? ⟨bs, off + i * 9 + j, none⟩ = some v := fun j v hv => (HBW.out.cell (p := ⟨bs, off + i * 9 + j, none⟩) hbs).trans (hcell j v hv)
          have hof := of_any ri u p (n) (t)
          have hcp := fun W (hW : Below w.heap.size w W) => copied_any ri W (HSAY.out.later hW hW.size) (HLI.out ri (List.mem_of_getElem? HRI.out)) HNIL.out
          have HFR : Hid (ri.fits u p (n) (t) = true → firstFit l u p (n) (t) = some ri) := Lib.hid fun h => firstFit_some HRI.out h HNI.out
          have HSTEP : Hid (ri.fits u p (n) (t) = false → ∀ (j : Nat) (r : ActR), j < i + 1 → l[j]? = some r → r.fits u p (n) (t) = false) := Lib.hid fun h j r hj hr => by
            by_cases e : j = i
            · subst e
              rw [HRI.out] at hr
              injection hr with hr
              rw [← hr]; exact h
            · exact HNI.out j r (by omega) hr
          generalize hfv : ri.fits u p (n) (t) = fv at hof HFR HSTEP
          obtain ⟨ru, rp, rn, rt, ⟨rL, rC, rR, rD, rS⟩, rsa, rsc⟩ := ri
          unfold ActR.row actRow at hof hcp hcw
          dsimp only at hof hcp hcw
          have q0 := hcw 0 _ rfl
          have q1 := hcw 1 _ rfl
          have q2 := hcw 2 _ rfl
          have q3 := hcw 3 _ rfl
          have q4 := hcw 4 _ rfl
          have q5' := hcw 5 _ rfl
          have q6 := hcw 6 _ rfl
          have q7 := hcw 7 _ rfl
          have q8 := hcw 8 _ rfl
          simp only [Nat.add_zero] at q0
          have HOF := Lib.hid hof
          have HCP := Lib.hid hcp
          clear hcw hcell hof hcp hfv
          go_wp2_with (go_at_call 45; fail)
          refine (HOF.out _).mono ?_
          rintro e w4 ⟨rfl, hb4⟩
          have hbx : Below wr.heap.size wr w4 := ((Below.refl wr.heap.size wr).alloc (Nat.le_refl _) _).trans (hb4.mono (by simp))
          have hr15 := (hb4.block wr.heap.size (by simp)).trans (heap_alloc_new wr _)
          have HBX := Lib.hid hbx
          have HR15 := Lib.hid hr15
          clear hb4 hbx hr15 q0 q1 q2 q3 q4 q5' q6 q7 q8
          cases fv
          · clear HFR
            go_wp2_with fail
            go_roundw
            case rel => exact ⟨i + 1, by go_num, by omega, HBI.out.trans (HBX.out.mono HBI.out.size), HSTEP.out trivial⟩
            case measure => simp [intOf]; omega
          · clear HSTEP
            obtain ⟨a0, a1, a2, a3, a4, a5, a6, a7, a8⟩ := ActAt.of_row HR15.out
            go_wp2_with (go_at_call 46; fail)
            have hbw4 : Below w.heap.size w w4 := HBW.out.trans (HBX.out.mono HBW.out.size)
            refine (HCP.out _ hbw4).mono ?_
            rintro e w5 ⟨⟨sa', sn', sc', rfl⟩, hb5⟩
            have hl10 : w.heap.size + 1 < wr.heap.size := by have h1 := HSZ.out; have h2 := HLE.out; omega
            have hr10 : w5.heap[w.heap.size + 1]? = some (.cells #[.string ⟨#[]⟩, .int .i64 0, .int .i64 0, .int .i64 0, .int .i64 0, .int .i64 0, .int .i64 0, .int .i64 0, .slice none 0 0] 24 (0, 0)) := by
              have h3 := HBX.out.size
              rw [hb5.block _ (by omega), HBX.out.block _ hl10]
              exact HR10I.out
            have HA10 := Lib.hid (ActAt.of_row hr10)
            have f10 : ∀ i, w5.frozen? ⟨w.heap.size + 1, i, none⟩ = false := by intro i; simp [World.frozen?, hr10]
            have HB5 := Lib.hid (hbw4.trans (hb5.mono hbw4.size))
            clear a0 a1 a2 a3 a4 a5 a6 a7 a8 hb5 hbw4 hl10 hr10
            obtain ⟨d0, d1, d2, d3, d4, d5, d6, d7, d8⟩ := HA10.out
            go_wp2_with fail
            refine bodyPost_ret (v := .tuple #[.agg #[.string ru, .int .i64 rp, .int .i64 rn, .int .i64 rt, .int .i64 rL, .int .i64 rC, .int .i64 rR, .int .i64 rD, .slice sa' sn' sc'], .bool true]) (find_results _ (w.heap.size + 1) _ _ _ _ _ _ _ _ _ _ _ true _ (ActAt.set HA10.out _ _ _ _ _ _ _ _ _ _ _) rfl rfl) rfl ⟨?_, ?_⟩
            · have e : findR l u p n t = some ⟨ru, rp, rn, rt, ⟨rL, rC, rR, rD, rS⟩, rsa, rsc⟩ := by
                have h := HFR.out trivial
                obtain ⟨n0, n1, n2, n3⟩ := HNO.out
                unfold findR
                rw [h]; rfl
              unfold FindRet
              rw [e]
              exact ⟨sa', sn', sc', rfl⟩
            · iterate 9 refine Below.setCell ?_ (by simp) _
              exact HB5.out
        · have hlti : ¬ (i : Int) < (na : Int) := by omega
          have hnf : firstFit l u p (n) (t) = none := firstFit_none fun j r hr => HNI.out j r (by
            have := (List.getElem?_eq_some_iff.1 hr).1
            have := HLEN.out
            omega) hr
          have HNF := Lib.hid hnf
          clear hnf
          go_wp2_with fail
          go_roundw
          case rel =>
            obtain ⟨n0, n1, n2, n3⟩ := HNO.out
            exact ⟨1, 1, rfl, rfl, by omega, HBR.out.trans ((HB3.out.trans (HBI.out.mono (Nat.le_of_lt HS3.out))).mono HLE.out), ⟨fun _ => HNF.out, fun h => absurd h (by omega), fun h => absurd h (by omega), fun h => absurd h (by omega)⟩⟩
          case measure => simp [intOf]
    · go_wp2_with fail
      generalize hw3 : wr.alloc (.cells #[.int .i64 (-1), .int .i64 (t)] 86) = w3
      have hr3 : w3.heap[wr.heap.size]? = some (.cells #[.int .i64 (-1), .int .i64 (t)] 86 (0, 0)) := by rw [← hw3]; exact heap_alloc_new wr _
      have hb3 : Below wr.heap.size wr w3 := by rw [← hw3]; exact (Below.refl _ _).alloc (Nat.le_refl _) _
      have hs3 : wr.heap.size < w3.heap.size := by rw [← hw3]; simp
      have HR3 := Lib.hid hr3
      have HB3 := Lib.hid hb3
      have HS3 := Lib.hid hs3
      have HLE : Hid (W0.heap.size ≤ wr.heap.size) := Lib.hid HBR.out.size
      generalize wr.heap.size = b3 at *
      clear hw3 hr3 hb3 hs3
      go_loopw [31] (fun v31 wi => ∃ i : Nat, v31 = .int .i64 i ∧ i ≤ na ∧ Below w3.heap.size w3 wi ∧ ∀ (j : Nat) (r : ActR), j < i → l[j]? = some r → r.fits u p (-1) (t) = false) (fun v31 _ => na - (intOf v31).toNat)
      case atStart => exact ⟨0, rfl, Nat.zero_le _, Below.refl _ _, fun j r h => absurd h (Nat.not_lt_zero _)⟩
      case round =>
        obtain ⟨i, rfl, hi, hbi, hno⟩ := hrel
        have HBI := Lib.hid hbi
        have HNI := Lib.hid hno
        have hr3 := (hbi.block b3 HS3.out).trans HR3.out
        have p0 : wr.cell? ⟨b3, 0, none⟩ = some (.int .i64 (-1)) := by rw [cell_of_row wr _ 0 _ _ _ hr3]; rfl
        have p1 : wr.cell? ⟨b3, 1, none⟩ = some (.int .i64 (t)) := by rw [cell_of_row wr _ 1 _ _ _ hr3]; rfl
        have hl3 : b3 < wr.heap.size := by have := hbi.size; have := HS3.out; omega
        have hbw : Below w.heap.size w wr := HB0.out.trans ((HBR.out.trans ((HB3.out.trans (hbi.mono (Nat.le_of_lt HS3.out))).mono HLE.out)).mono HB0.out.size)
        have HBW := Lib.hid hbw
        have hr10 : wr.heap[w.heap.size + 1]? = some (.cells #[.string ⟨#[]⟩, .int .i64 0, .int .i64 0, .int .i64 0, .int .i64 0, .int .i64 0, .int .i64 0, .int .i64 0, .slice none 0 0] 24 (0, 0)) := by
          have h1 := HSZ.out
          have h2 := HLE.out
          have h3 := HS3.out
          rw [hbi.block _ (by omega), HB3.out.block _ (by omega), HBR.out.block _ (by omega)]
          exact HR10.out
        have HR10I := Lib.hid hr10
        clear hbi hno hr3 hbw hr10
        by_cases hlt : i < na
        · have hlti : (i : Int) < (na : Int) := by omega
          obtain ⟨bs, off, rfl, hbs, hcl⟩ := HL.out.at_ (by omega)
          have hil : i < l.length := by rw [HLEN.out]; exact hlt
          obtain ⟨hcell, hsay, hnil⟩ := hcl i l[i] (List.getElem?_eq_getElem hil)
          generalize hri : l[i] = ri at hcell hsay hnil
          have HRI : Hid (l[i]? = some ri) := Lib.hid (by rw [List.getElem?_eq_getElem hil, hri])
          clear hri hcl
          have HSAY := Lib.hid hsay
          have HNIL := Lib.hid hnil
          clear hsay hnil
          have hcw : ∀ j v, ri.row[j]? = some v → wr.cell? ⟨bs, off + i * 9 + j, none⟩ = some v := fun j v hv => (HBW.out.cell (p := ⟨bs, off + i * 9 + j, none⟩) hbs).trans (hcell j v hv)
          have hof := of_any ri u p (-1) (t)
          have hcp := fun W (hW : Below w.heap.size w W) => copied_any ri W (HSAY.out.later hW hW.size) (HLI.out ri (List.mem_of_getElem? HRI.out)) HNIL.out
          have HFR : Hid (ri.fits u p (-1) (t) = true → firstFit l u p (-1) (t) = some ri) := Lib.hid fun h => firstFit_some HRI.out h HNI.out
          have HSTEP : Hid (ri.fits u p (-1) (t) = false → ∀ (j : Nat) (r : ActR), j < i + 1 → l[j]? = some r → r.fits u p (-1) (t) = false) := Lib.hid fun h j r hj hr => by
            by_cases e : j = i
            · subst e
              rw [HRI.out] at hr
              injection hr with hr
              rw [← hr]; exact h
            · exact HNI.out j r (by omega) hr
          generalize hfv : ri.fits u p (-1) (t) = fv at hof HFR HSTEP
          obtain ⟨ru, rp, rn, rt, ⟨rL, rC, rR, rD, rS⟩, rsa, rsc⟩ := ri
          unfold ActR.row actRow at hof hcp hcw
          dsimp only at hof hcp hcw
          have q0 := hcw 0 _ rfl
          have q1 := hcw 1 _ rfl
          have q2 := hcw 2 _ rfl
          have q3 := hcw 3 _ rfl
          have q4 := hcw 4 _ rfl
          have q5' := hcw 5 _ rfl
          have q6 := hcw 6 _ rfl
          have q7 := hcw 7 _ rfl
          have q8 := hcw 8 _ rfl
          simp only [Nat.add_zero] at q0
          have HOF := Lib.hid hof
          have HCP := Lib.hid hcp
          clear hcw hcell hof hcp hfv
          go_wp2_with (go_at_call 45; fail)
          refine (HOF.out _).mono ?_
          rintro e w4 ⟨rfl, hb4⟩
          have hbx : Below wr.heap.size wr w4 := ((Below.refl wr.heap.size wr).alloc (Nat.le_refl _) _).trans (hb4.mono (by simp))
          have hr15 := (hb4.block wr.heap.size (by simp)).trans (heap_alloc_new wr _)
          have HBX := Lib.hid hbx
          have HR15 := Lib.hid hr15
          clear hb4 hbx hr15 q0 q1 q2 q3 q4 q5' q6 q7 q8
          cases fv
          · clear HFR
            go_wp2_with fail
            go_roundw
            case rel => exact ⟨i + 1, by go_num, by omega, HBI.out.trans (HBX.out.mono HBI.out.size), HSTEP.out trivial⟩
            case measure => simp [intOf]; omega
          · clear HSTEP
            obtain ⟨a0, a1, a2, a3, a4, a5, a6, a7, a8⟩ := ActAt.of_row HR15.out
            go_wp2_with (go_at_call 46; fail)
            have hbw4 : Below w.heap.size w w4 := HBW.out.trans (HBX.out.mono HBW.out.size)
            refine (HCP.out _ hbw4).mono ?_
            rintro e w5 ⟨⟨sa', sn', sc', rfl⟩, hb5⟩
            have hl10 : w.heap.size + 1 < wr.heap.size := by have h1 := HSZ.out; have h2 := HLE.out; omega
            have hr10 : w5.heap[w.heap.size + 1]? = some (.cells #[.string ⟨#[]⟩, .int .i64 0, .int .i64 0, .int .i64 0, .int .i64 0, .int .i64 0, .int .i64 0, .int .i64 0, .slice none 0 0] 24 (0, 0)) := by
              have h3 := HBX.out.size
              rw [hb5.block _ (by omega), HBX.out.block _ hl10]
              exact HR10I.out
            have HA10 := Lib.hid (ActAt.of_row hr10)
            have f10 : ∀ i, w5.frozen? ⟨w.heap.size + 1, i, none⟩ = false := by intro i; simp [World.frozen?, hr10]
            have HB5 := Lib.hid (hbw4.trans (hb5.mono hbw4.size))
            clear a0 a1 a2 a3 a4 a5 a6 a7 a8 hb5 hbw4 hl10 hr10
            obtain ⟨d0, d1, d2, d3, d4, d5, d6, d7, d8⟩ := HA10.out
            go_wp2_with fail
            refine bodyPost_ret (v := .tuple #[.agg #[.string ru, .int .i64 rp, .int .i64 rn, .int .i64 rt, .int .i64 rL, .int .i64 rC, .int .i64 rR, .int .i64 rD, .slice sa' sn' sc'], .bool true]) (find_results _ (w.heap.size + 1) _ _ _ _ _ _ _ _ _ _ _ true _ (ActAt.set HA10.out _ _ _ _ _ _ _ _ _ _ _) rfl rfl) rfl ⟨?_, ?_⟩
            · have e : findR l u p n t = some ⟨ru, rp, rn, rt, ⟨rL, rC, rR, rD, rS⟩, rsa, rsc⟩ := by
                have h := HFR.out trivial
                obtain ⟨n0, n1, n2, n3⟩ := HNO.out
                unfold findR
                rw [n0 (by omega), h]; rfl
              unfold FindRet
              rw [e]
              exact ⟨sa', sn', sc', rfl⟩
            · iterate 9 refine Below.setCell ?_ (by simp) _
              exact HB5.out
        · have hlti : ¬ (i : Int) < (na : Int) := by omega
          have hnf : firstFit l u p (-1) (t) = none := firstFit_none fun j r hr => HNI.out j r (by
            have := (List.getElem?_eq_some_iff.1 hr).1
            have := HLEN.out
            omega) hr
          have HNF := Lib.hid hnf
          clear hnf
          go_wp2_with fail
          go_roundw
          case rel =>
            obtain ⟨n0, n1, n2, n3⟩ := HNO.out
            exact ⟨2, 2, rfl, rfl, by omega, HBR.out.trans ((HB3.out.trans (HBI.out.mono (Nat.le_of_lt HS3.out))).mono HLE.out), ⟨fun _ => n0 (by omega), fun _ => HNF.out, fun h => absurd h (by omega), fun h => absurd h (by omega)⟩⟩
          case measure => simp [intOf]
    · go_wp2_with fail
      generalize hw3 : wr.alloc (.cells #[.int .i64 (n), .int .i64 (0)] 86) = w3
      have hr3 : w3.heap[wr.heap.size]? = some (.cells #[.int .i64 (n), .int .i64 (0)] 86 (0, 0)) := by rw [← hw3]; exact heap_alloc_new wr _
      have hb3 : Below wr.heap.size wr w3 := by rw [← hw3]; exact (Below.refl _ _).alloc (Nat.le_refl _) _
      have hs3 : wr.heap.size < w3.heap.size := by rw [← hw3]; simp
      have HR3 := Lib.hid hr3
      have HB3 := Lib.hid hb3
      have HS3 := Lib.hid hs3
      have HLE : Hid (W0.heap.size ≤ wr.heap.size) := Lib.hid HBR.out.size
      generalize wr.heap.size = b3 at *
      clear hw3 hr3 hb3 hs3
      go_loopw [31] (fun v31 wi => ∃ i : Nat, v31 = .int .i64 i ∧ i ≤ na ∧ Below w3.heap.size w3 wi ∧ ∀ (j : Nat) (r : ActR), j < i → l[j]? = some r → r.fits u p (n) (0) = false) (fun v31 _ => na - (intOf v31).toNat)
      case atStart => exact ⟨0, rfl, Nat.zero_le _, Below.refl _ _, fun j r h => absurd h (Nat.not_lt_zero _)⟩
      case round =>
        obtain ⟨i, rfl, hi, hbi, hno⟩ := hrel
        have HBI := Lib.hid hbi
        have HNI := Lib.hid hno
        have hr3 := (hbi.block b3 HS3.out).trans HR3.out
        have p0 : wr.cell? ⟨b3, 0, none⟩ = some (.int .i64 (n)) := by rw [cell_of_row wr _ 0 _ _ _ hr3]; rfl
        have p1 : wr.cell? ⟨b3, 1, none⟩ = some (.int .i64 (0)) := by rw [cell_of_row wr _ 1 _ _ _ hr3]; rfl
        have hl3 : b3 < wr.heap.size := by have := hbi.size; have := HS3.out; omega
        have hbw : Below w.heap.size w wr := HB0.out.trans ((HBR.out.trans ((HB3.out.trans (hbi.mono (Nat.le_of_lt HS3.out))).mono HLE.out)).mono HB0.out.size)
        have HBW := Lib.hid hbw
        have hr10 : wr.heap[w.heap.size + 1]? = some (.cells #[.string ⟨#[]⟩, .int .i64 0, .int .i64 0, .int .i64 0, .int .i64 0, .int .i64 0, .int .i64 0, .int .i64 0, .slice none 0 0] 24 (0, 0)) := by
          have h1 := HSZ.out
          have h2 := HLE.out
          have h3 := HS3.out
          rw [hbi.block _ (by omega), HB3.out.block _ (by omega), HBR.out.block _ (by omega)]
          exact HR10.out
        have HR10I := Lib.hid hr10
        clear hbi hno hr3 hbw hr10
        by_cases hlt : i < na
        · have hlti : (i : Int) < (na : Int) := by omega
          obtain ⟨bs, off, rfl, hbs, hcl⟩ := HL.out.at_ (by omega)
          have hil : i < l.length := by rw [HLEN.out]; exact hlt
          obtain ⟨hcell, hsay, hnil⟩ := hcl i l[i] (List.getElem?_eq_getElem hil)
          generalize hri : l[i] = ri at hcell hsay hnil
          have HRI : Hid (l[i]? = some ri) := Lib.hid (by rw [List.getElem?_eq_getElem hil, hri])
          clear hri hcl
          have HSAY := Lib.hid hsay
          have HNIL := Lib.hid hnil
          clear hsay hnil
          have hcw : ∀ j v, ri.row[j]? = some v → wr.cell? ⟨bs, off + i * 9 + j, none⟩ = some v := fun j v hv => (HBW.out.cell (p := ⟨bs, off + i * 9 + j, none⟩) hbs).trans (hcell j v hv)
          have hof := of_any ri u p (n) (0)
          have hcp := fun W (hW : Below w.heap.size w W) => copied_any ri W (HSAY.out.later hW hW.size) (HLI.out ri (List.mem_of_getElem? HRI.out)) HNIL.out
          have HFR : Hid (ri.fits u p (n) (0) = true → firstFit l u p (n) (0) = some ri) := Lib.hid fun h => firstFit_some HRI.out h HNI.out
          have HSTEP : Hid (ri.fits u p (n) (0) = false → ∀ (j : Nat) (r : ActR), j < i + 1 → l[j]? = some r → r.fits u p (n) (0) = false) := Lib.hid fun h j r hj hr => by
            by_cases e : j = i
            · subst e
              rw [HRI.out] at hr
              injection hr with hr
              rw [← hr]; exact h
            · exact HNI.out j r (by omega) hr
          generalize hfv : ri.fits u p (n) (0) = fv at hof HFR HSTEP
          obtain ⟨ru, rp, rn, rt, ⟨rL, rC, rR, rD, rS⟩, rsa, rsc⟩ := ri
          unfold ActR.row actRow at hof hcp hcw
          dsimp only at hof hcp hcw
          have q0 := hcw 0 _ rfl
          have q1 := hcw 1 _ rfl
          have q2 := hcw 2 _ rfl
          have q3 := hcw 3 _ rfl
          have q4 := hcw 4 _ rfl
          have q5' := hcw 5 _ rfl
          have q6 := hcw 6 _ rfl
          have q7 := hcw 7 _ rfl
          have q8 := hcw 8 _ rfl
          simp only [Nat.add_zero] at q0
          have HOF := Lib.hid hof
          have HCP := Lib.hid hcp
          clear hcw hcell hof hcp hfv
          go_wp2_with (go_at_call 45; fail)
          refine (HOF.out _).mono ?_
          rintro e w4 ⟨rfl, hb4⟩
          have hbx : Below wr.heap.size wr w4 := ((Below.refl wr.heap.size wr).alloc (Nat.le_refl _) _).trans (hb4.mono (by simp))
          have hr15 := (hb4.block wr.heap.size (by simp)).trans (heap_alloc_new wr _)
          have HBX := Lib.hid hbx
          have HR15 := Lib.hid hr15
          clear hb4 hbx hr15 q0 q1 q2 q3 q4 q5' q6 q7 q8
          cases fv
          · clear HFR
            go_wp2_with fail
            go_roundw
            case rel => exact ⟨i + 1, by go_num, by omega, HBI.out.trans (HBX.out.mono HBI.out.size), HSTEP.out trivial⟩
            case measure => simp [intOf]; omega
          · clear HSTEP
            obtain ⟨a0, a1, a2, a3, a4, a5, a6, a7, a8⟩ := ActAt.of_row HR15.out
            go_wp2_with (go_at_call 46; fail)
            have hbw4 : Below w.heap.size w w4 := HBW.out.trans (HBX.out.mono HBW.out.size)
            refine (HCP.out _ hbw4).mono ?_
            rintro e w5 ⟨⟨sa', sn', sc', rfl⟩, hb5⟩
            have hl10 : w.heap.size + 1 < wr.heap.size := by have h1 := HSZ.out; have h2 := HLE.out; omega
            have hr10 : w5.heap[w.heap.size + 1]? = some (.cells #[.string ⟨#[]⟩, .int .i64 0, .int .i64 0, .int .i64 0, .int .i64 0, .int .i64 0, .int .i64 0, .int .i64 0, .slice none 0 0] 24 (0, 0)) := by
              have h3 := HBX.out.size
              rw [hb5.block _ (by omega), HBX.out.block _ hl10]
              exact HR10I.out
            have HA10 := Lib.hid (ActAt.of_row hr10)
            have f10 : ∀ i, w5.frozen? ⟨w.heap.size + 1, i, none⟩ = false := by intro i; simp [World.frozen?, hr10]
            have HB5 := Lib.hid (hbw4.trans (hb5.mono hbw4.size))
            clear a0 a1 a2 a3 a4 a5 a6 a7 a8 hb5 hbw4 hl10 hr10
            obtain ⟨d0, d1, d2, d3, d4, d5, d6, d7, d8⟩ := HA10.out
            go_wp2_with fail
            refine bodyPost_ret (v := .tuple #[.agg #[.string ru, .int .i64 rp, .int .i64 rn, .int .i64 rt, .int .i64 rL, .int .i64 rC, .int .i64 rR, .int .i64 rD, .slice sa' sn' sc'], .bool true]) (find_results _ (w.heap.size + 1) _ _ _ _ _ _ _ _ _ _ _ true _ (ActAt.set HA10.out _ _ _ _ _ _ _ _ _ _ _) rfl rfl) rfl ⟨?_, ?_⟩
            · have e : findR l u p n t = some ⟨ru, rp, rn, rt, ⟨rL, rC, rR, rD, rS⟩, rsa, rsc⟩ := by
                have h := HFR.out trivial
                obtain ⟨n0, n1, n2, n3⟩ := HNO.out
                unfold findR
                rw [n0 (by omega), n1 (by omega), h]; rfl
              unfold FindRet
              rw [e]
              exact ⟨sa', sn', sc', rfl⟩
            · iterate 9 refine Below.setCell ?_ (by simp) _
              exact HB5.out
        · have hlti : ¬ (i : Int) < (na : Int) := by omega
          have hnf : firstFit l u p (n) (0) = none := firstFit_none fun j r hr => HNI.out j r (by
            have := (List.getElem?_eq_some_iff.1 hr).1
            have := HLEN.out
            omega) hr
          have HNF := Lib.hid hnf
          clear hnf
          go_wp2_with fail
          go_roundw
          case rel =>
            obtain ⟨n0, n1, n2, n3⟩ := HNO.out
            exact ⟨3, 3, rfl, rfl, by omega, HBR.out.trans ((HB3.out.trans (HBI.out.mono (Nat.le_of_lt HS3.out))).mono HLE.out), ⟨fun _ => n0 (by omega), fun _ => n1 (by omega), fun _ => HNF.out, fun h => absurd h (by omega)⟩⟩
          case measure => simp [intOf]
    · go_wp2_with fail
      generalize hw3 : wr.alloc (.cells #[.int .i64 (-1), .int .i64 (0)] 86) = w3
      have hr3 : w3.heap[wr.heap.size]? = some (.cells #[.int .i64 (-1), .int .i64 (0)] 86 (0, 0)) := by rw [← hw3]; exact heap_alloc_new wr _
      have hb3 : Below wr.heap.size wr w3 := by rw [← hw3]; exact (Below.refl _ _).alloc (Nat.le_refl _) _
      have hs3 : wr.heap.size < w3.heap.size := by rw [← hw3]; simp
      have HR3 := Lib.hid hr3
      have HB3 := Lib.hid hb3
      have HS3 := Lib.hid hs3
      have HLE : Hid (W0.heap.size ≤ wr.heap.size) := Lib.hid HBR.out.size
      generalize wr.heap.size = b3 at *
      clear hw3 hr3 hb3 hs3
      go_loopw [31] (fun v31 wi => ∃ i : Nat, v31 = .int .i64 i ∧ i ≤ na ∧ Below w3.heap.size w3 wi ∧ ∀ (j : Nat) (r : ActR), j < i → l[j]? = some r → r.fits u p (-1) (0) = false) (fun v31 _ => na - (intOf v31).toNat)
      case atStart => exact ⟨0, rfl, Nat.zero_le _, Below.refl _ _, fun j r h => absurd h (Nat.not_lt_zero _)⟩
      case round =>
        obtain ⟨i, rfl, hi, hbi, hno⟩ := hrel
        have HBI := Lib.hid hbi
        have HNI := Lib.hid hno
        have hr3 := (hbi.block b3 HS3.out).trans HR3.out
        have p0 : wr.cell? ⟨b3, 0, none⟩ = some (.int .i64 (-1)) := by rw [cell_of_row wr _ 0 _ _ _ hr3]; rfl
        have p1 : wr.cell? ⟨b3, 1, none⟩ = some (.int .i64 (0)) := by rw [cell_of_row wr _ 1 _ _ _ hr3]; rfl
        have hl3 : b3 < wr.heap.size := by have := hbi.size; have := HS3.out; omega
        have hbw : Below w.heap.size w wr := HB0.out.trans ((HBR.out.trans ((HB3.out.trans (hbi.mono (Nat.le_of_lt HS3.out))).mono HLE.out)).mono HB0.out.size)
        have HBW := Lib.hid hbw
        have hr10 : wr.heap[w.heap.size + 1]? = some (.cells #[.string ⟨#[]⟩, .int .i64 0, .int .i64 0, .int .i64 0, .int .i64 0, .int .i64 0, .int .i64 0, .int .i64 0, .slice none 0 0] 24 (0, 0)) := by
          have h1 := HSZ.out
          have h2 := HLE.out
          have h3 := HS3.out
          rw [hbi.block _ (by omega), HB3.out.block _ (by omega), HBR.out.block _ (by omega)]
          exact HR10.out
        have HR10I := Lib.hid hr10
        clear hbi hno hr3 hbw hr10
        by_cases hlt : i < na
        · have hlti : (i : Int) < (na : Int) := by omega
          obtain ⟨bs, off, rfl, hbs, hcl⟩ := HL.out.at_ (by omega)
          have hil : i < l.length := by rw [HLEN.out]; exact hlt
          obtain ⟨hcell, hsay, hnil⟩ := hcl i l[i] (List.getElem?_eq_getElem hil)
          generalize hri : l[i] = ri at hcell hsay hnil
          have HRI : Hid (l[i]? = some ri) := Lib.hid (by rw [List.getElem?_eq_getElem hil, hri])
          clear hri hcl
          have HSAY := Lib.hid hsay
          have HNIL := Lib.hid hnil
          clear hsay hnil
          have hcw : ∀ j v, ri.row[j]? = some v → wr.cell? ⟨bs, off + i * 9 + j, none⟩ = some v := fun j v hv => (HBW.out.cell (p := ⟨bs, off + i * 9 + j, none⟩) hbs).trans (hcell j v hv)
          have hof := of_any ri u p (-1) (0)
          have hcp := fun W (hW : Below w.heap.size w W) => copied_any ri W (HSAY.out.later hW hW.size) (HLI.out ri (List.mem_of_getElem? HRI.out)) HNIL.out
          have HFR : Hid (ri.fits u p (-1) (0) = true → firstFit l u p (-1) (0) = some ri) := Lib.hid fun h => firstFit_some HRI.out h HNI.out
          have HSTEP : Hid (ri.fits u p (-1) (0) = false → ∀ (j : Nat) (r : ActR), j < i + 1 → l[j]? = some r → r.fits u p (-1) (0) = false) := Lib.hid fun h j r hj hr => by
            by_cases e : j = i
            · subst e
              rw [HRI.out] at hr
              injection hr with hr
              rw [← hr]; exact h
            · exact HNI.out j r (by omega) hr
          generalize hfv : ri.fits u p (-1) (0) = fv at hof HFR HSTEP
          obtain ⟨ru, rp, rn, rt, ⟨rL, rC, rR, rD, rS⟩, rsa, rsc⟩ := ri
          unfold ActR.row actRow at hof hcp hcw
          dsimp only at hof hcp hcw
          have q0 := hcw 0 _ rfl
          have q1 := hcw 1 _ rfl
          have q2 := hcw 2 _ rfl
          have q3 := hcw 3 _ rfl
          have q4 := hcw 4 _ rfl
          have q5' := hcw 5 _ rfl
          have q6 := hcw 6 _ rfl
          have q7 := hcw 7 _ rfl
          have q8 := hcw 8 _ rfl
          simp only [Nat.add_zero] at q0
          have HOF := Lib.hid hof
          have HCP := Lib.hid hcp
          clear hcw hcell hof hcp hfv
          go_wp2_with (go_at_call 45; fail)
          refine (HOF.out _).mono ?_
          rintro e w4 ⟨rfl, hb4⟩
          have hbx : Below wr.heap.size wr w4 := ((Below.refl wr.heap.size wr).alloc (Nat.le_refl _) _).trans (hb4.mono (by simp))
          have hr15 := (hb4.block wr.heap.size (by simp)).trans (heap_alloc_new wr _)
          have HBX := Lib.hid hbx
          have HR15 := Lib.hid hr15
          clear hb4 hbx hr15 q0 q1 q2 q3 q4 q5' q6 q7 q8
          cases fv
          · clear HFR
            go_wp2_with fail
            go_roundw
            case rel => exact ⟨i + 1, by go_num, by omega, HBI.out.trans (HBX.out.mono HBI.out.size), HSTEP.out trivial⟩
            case measure => simp [intOf]; omega
          · clear HSTEP
            obtain ⟨a0, a1, a2, a3, a4, a5, a6, a7, a8⟩ := ActAt.of_row HR15.out
            go_wp2_with (go_at_call 46; fail)
            have hbw4 : Below w.heap.size w w4 := HBW.out.trans (HBX.out.mono HBW.out.size)
            refine (HCP.out _ hbw4).mono ?_
            rintro e w5 ⟨⟨sa', sn', sc', rfl⟩, hb5⟩
            have hl10 : w.heap.size + 1 < wr.heap.size := by have h1 := HSZ.out; have h2 := HLE.out; omega
            have hr10 : w5.heap[w.heap.size + 1]? = some (.cells #[.string ⟨#[]⟩, .int .i64 0, .int .i64 0, .int .i64 0, .int .i64 0, .int .i64 0, .int .i64 0, .int .i64 0, .slice none 0 0] 24 (0, 0)) := by
              have h3 := HBX.out.size
              rw [hb5.block _ (by omega), HBX.out.block _ hl10]
              exact HR10I.out
            have HA10 := Lib.hid (ActAt.of_row hr10)
            have f10 : ∀ i, w5.frozen? ⟨w.heap.size + 1, i, none⟩ = false := by intro i; simp [World.frozen?, hr10]
            have HB5 := Lib.hid (hbw4.trans (hb5.mono hbw4.size))
            clear a0 a1 a2 a3 a4 a5 a6 a7 a8 hb5 hbw4 hl10 hr10
            obtain ⟨d0, d1, d2, d3, d4, d5, d6, d7, d8⟩ := HA10.out
            go_wp2_with fail
            refine bodyPost_ret (v := .tuple #[.agg #[.string ru, .int .i64 rp, .int .i64 rn, .int .i64 rt, .int .i64 rL, .int .i64 rC, .int .i64 rR, .int .i64 rD, .slice sa' sn' sc'], .bool true]) (find_results _ (w.heap.size + 1) _ _ _ _ _ _ _ _ _ _ _ true _ (ActAt.set HA10.out _ _ _ _ _ _ _ _ _ _ _) rfl rfl) rfl ⟨?_, ?_⟩
            · have e : findR l u p n t = some ⟨ru, rp, rn, rt, ⟨rL, rC, rR, rD, rS⟩, rsa, rsc⟩ := by
                have h := HFR.out trivial
                obtain ⟨n0, n1, n2, n3⟩ := HNO.out
                unfold findR
                rw [n0 (by omega), n1 (by omega), n2 (by omega), h]; rfl
              unfold FindRet
              rw [e]
              exact ⟨sa', sn', sc', rfl⟩
            · iterate 9 refine Below.setCell ?_ (by simp) _
              exact HB5.out
        · have hlti : ¬ (i : Int) < (na : Int) := by omega
          have hnf : firstFit l u p (-1) (0) = none := firstFit_none fun j r hr => HNI.out j r (by
            have := (List.getElem?_eq_some_iff.1 hr).1
            have := HLEN.out
            omega) hr
          have HNF := Lib.hid hnf
          clear hnf
          go_wp2_with fail
          go_roundw
          case rel =>
            obtain ⟨n0, n1, n2, n3⟩ := HNO.out
            exact ⟨4, 4, rfl, rfl, by omega, HBR.out.trans ((HB3.out.trans (HBI.out.mono (Nat.le_of_lt HS3.out))).mono HLE.out), ⟨fun _ => n0 (by omega), fun _ => n1 (by omega), fun _ => n2 (by omega), fun _ => HNF.out⟩⟩
          case measure => simp [intOf]
    · have hr10 := (HBR.out.block (w.heap.size + 1) (by have := HSZ.out; omega)).trans HR10.out
      have HA10 := Lib.hid (ActAt.of_row hr10)
      have f10 : ∀ i, wr.frozen? ⟨w.heap.size + 1, i, none⟩ = false := by intro i; simp [World.frozen?, hr10]
      have HB5 := Lib.hid (HB0.out.trans (HBR.out.mono HB0.out.size))
      clear hr10
      obtain ⟨d0, d1, d2, d3, d4, d5, d6, d7, d8⟩ := HA10.out
      go_wp2_with fail
      refine bodyPost_ret (v := .tuple #[.agg #[.string ⟨#[]⟩, .int .i64 0, .int .i64 0, .int .i64 0, .int .i64 0, .int .i64 0, .int .i64 0, .int .i64 0, .slice none 0 0], .bool false]) (find_results _ (w.heap.size + 1) _ _ _ _ _ _ _ _ _ _ _ false _ (ActAt.set HA10.out _ _ _ _ _ _ _ _ _ _ _) rfl rfl) rfl ⟨?_, ?_⟩
      · have e : findR l u p n t = none := by
          obtain ⟨n0, n1, n2, n3⟩ := HNO.out
          unfold findR
          rw [n0 (by omega), n1 (by omega), n2 (by omega), n3 (by omega)]
          rfl
        unfold FindRet
        rw [e]
      · iterate 9 refine Below.setCell ?_ (by simp) _
        exact HB5.out

end Go.Proofs.Ytohgnmpmledljaa
