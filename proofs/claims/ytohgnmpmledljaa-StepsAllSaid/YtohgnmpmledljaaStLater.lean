/-
  The walk of StepsLater.
-/
import Derived.Test.YtohgnmpmledljaaStShown
import Derived.Test.YtohgnmpmledljaaStMayW
import Derived.Test.YtohgnmpmledljaaStPlainL
namespace Go.Proofs.Ytohgnmpmledljaa
open Go.ChangeShapes Go.WideShapes Go.ChangeAt Go.RowKit

theorem later_at {over : Int} : ∀ {xs ys : List MarkM} {i : Nat} {x : MarkM}, LaterOk over xs ys → xs[i]? = some x →
    ∃ y, ys[i]? = some y ∧ x.num = y.num ∧ x.begun = y.begun ∧ ((x.ended = y.ended ∧ x.code = y.code) ∨ (i + 1 = xs.length ∧ x.ended = over ∧ x.code = 256 ∧ x.ended ≤ y.ended))
  | [], _, _, _, _, h => by simp at h
  | _ :: _, [], _, _, h, _ => h.elim
  | x0 :: xs, y0 :: ys, 0, x, h, hx => by
    simp at hx
    subst hx
    refine ⟨y0, by simp, h.1, h.2.1, ?_⟩
    rcases h.2.2.1 with h1 | ⟨h1, h2⟩
    · exact .inl h1
    · exact .inr ⟨by simp [h1], h2⟩
  | x0 :: xs, y0 :: ys, i + 1, x, h, hx => by
    obtain ⟨y, h1, h2, h3, h4⟩ := later_at (i := i) h.2.2.2 (by simpa using hx)
    refine ⟨y, by simpa using h1, h2, h3, ?_⟩
    rcases h4 with h4 | ⟨h4, h5⟩
    · exact .inl h4
    · exact .inr ⟨by simp [h4], h5⟩

/-- marks in memory -/
structure MarksIn (w : World) (B : Nat) (a : Option Addr) (n : Nat) (l : List MarkM) : Prop where
  len : l.length = n
  at_ : ∀ i m, l[i]? = some m → ∃ g, a = some ⟨g, 0, none⟩ ∧ g < B ∧ w.cell? ⟨g, i * 4, none⟩ = some (.int .i64 m.num) ∧ w.cell? ⟨g, i * 4 + 1, none⟩ = some (.int .i64 m.begun) ∧ w.cell? ⟨g, i * 4 + 2, none⟩ = some (.int .i64 m.ended) ∧ w.cell? ⟨g, i * 4 + 3, none⟩ = some (.int .i64 m.code)

theorem MarksIn.later {w w' : World} {B B' : Nat} {a : Option Addr} {n : Nat} {l : List MarkM} (h : MarksIn w B a n l) (hb : Below B w w') (hB : B ≤ B') : MarksIn w' B' a n l := by
  refine ⟨h.len, fun i m hm => ?_⟩
  obtain ⟨g, e, hg, c0, c1, c2, c3⟩ := h.at_ i m hm
  exact ⟨g, e, Nat.lt_of_lt_of_le hg hB, (hb.cell (p := ⟨g, i * 4, none⟩) hg).trans c0, (hb.cell (p := ⟨g, i * 4 + 1, none⟩) hg).trans c1, (hb.cell (p := ⟨g, i * 4 + 2, none⟩) hg).trans c2, (hb.cell (p := ⟨g, i * 4 + 3, none⟩) hg).trans c3⟩

theorem marks_form {w : World} {base : Nat} {v : Value} {l : List MarkM} (h : w.ownsRow base 63 4 v l.length (markCells l)) : ∃ a cap, v = .slice a l.length cap ∧ MarksIn w w.heap.size a l.length l := by
  have h0 := h
  obtain ⟨-, ⟨rfl, hn⟩ | ⟨g, cap, cur, rfl, hg, hr, -⟩⟩ := h
  · refine ⟨none, 0, by rw [hn], rfl, fun i m hm => ?_⟩
    have := (List.getElem?_eq_some_iff.1 hm).1
    omega
  · refine ⟨_, _, rfl, rfl, fun i m hm => ?_⟩
    obtain ⟨e0, e1, e2, e3⟩ := markCells_get l i m hm
    have hat := marks_at h0
    have hlt : g < w.heap.size := cell_lt (hat _ _ e0)
    exact ⟨g, rfl, hlt, hat _ _ e0, hat _ _ e1, hat _ _ e2, hat _ _ e3⟩

theorem WorldIn.later {w w' : World} {aa : Option Addr} {na ca : Nat} {ab : Option Addr} {nb : Nat} {ak : Option Addr} {nk : Nat} {l : List ActR} (h : WorldIn w aa na ca ab nb ak nk l) (hb : Below w.heap.size w w') (hB : w.heap.size ≤ w'.heap.size) : WorldIn w' aa na ca ab nb ak nk l := by
  refine ⟨h.acts.later hb hB, h.cap, h.sizes, ⟨fun hn => ?_⟩, ⟨fun hn => ?_⟩, h.na_, h.ca_, h.nb_, h.nk_⟩
  · obtain ⟨b, off, e, hlt, hc⟩ := h.calls.at_ hn
    refine ⟨b, off, e, Nat.lt_of_lt_of_le hlt hB, fun i hi => ?_⟩
    obtain ⟨x, y, z, c0, c1, c2⟩ := hc i hi
    exact ⟨x, y, z, (hb.cell (p := ⟨b, off + i * 3, none⟩) hlt).trans c0, (hb.cell (p := ⟨b, off + i * 3 + 1, none⟩) hlt).trans c1, (hb.cell (p := ⟨b, off + i * 3 + 2, none⟩) hlt).trans c2⟩
  · obtain ⟨b, off, e, hlt, hc⟩ := h.asks.at_ hn
    refine ⟨b, off, e, Nat.lt_of_lt_of_le hlt hB, fun i hi => ?_⟩
    obtain ⟨x, y, z, c0, c1, c2, h3⟩ := hc i hi
    exact ⟨x, y, z, (hb.cell (p := ⟨b, off + i * 3, none⟩) hlt).trans c0, (hb.cell (p := ⟨b, off + i * 3 + 1, none⟩) hlt).trans c1, (hb.cell (p := ⟨b, off + i * 3 + 2, none⟩) hlt).trans c2, h3⟩

theorem light_of {l : List ActR} (h : ∀ r : ActR, r ∈ l → MayP r.A) : Light l := fun r hr => by
  have := (h r hr).2.2.2.1
  omega

set_option maxRecDepth 100000 in
set_option maxHeartbeats 8000000 in
theorem later_any (l : List ActR) (cu : Array Value) (u : ByteArray) (ty part att now over later : Int) (aa : Option Addr) (na ca : Nat) (ab : Option Addr) (nb cb : Nat) (ak : Option Addr) (nk ck : Nat)
    (la : Option Addr) (ln lc : Nat) (ds : List (Bool × Option Addr × Nat × Nat)) (sa : Option Addr) (sn sc : Nat) (zs : List Int) (w : World) (hw : WorldIn w aa na ca ab nb ak nk l)
    (hus : cu.size = 35) (hu0 : cu[0]? = some (.string u)) (hu7 : cu[7]? = some (.int .i64 ty)) (hds : ExecsIn w w.heap.size la ln ds) (hln : ln ≤ 9223372036854775807) (hzs : IntsIn w w.heap.size sa sn zs) (hsn : sn ≤ 9223372036854775807) :
    Calls Try.prog 8 #[.agg #[.slice aa na ca, .slice ab nb cb, .slice ak nk ck], .agg cu, .int .i64 part, .slice la ln lc, .slice sa sn sc, .int .i64 att, .int .i64 now, .int .i64 over, .int .i64 later] w
      fun e w' => e = .returned (.bool true) ∧ Below w.heap.size w w' := by
  have HMAY : Hid (∀ W, Below w.heap.size w W → Calls Try.prog 23 #[.agg #[.slice aa na ca, .slice ab nb cb, .slice ak nk ck]] W (SomeMayW l W)) :=
    Lib.hid fun W hW => mayW_any aa na ca ab nb cb ak nk ck l W (hw.later hW hW.size)
  have HCO : Hid (∀ W o, Below w.heap.size w W → Light l → ln ≤ 16 → Calls Try.prog 20 #[.agg #[.slice aa na ca, .slice ab nb cb, .slice ak nk ck], .agg cu, .int .i64 part, .slice la ln lc, .slice sa sn sc, .int .i64 att, .int .i64 now, .int .i64 o] W
      (CourseRet W.heap.size (courseGo (fun i => doesA l u ty part i att) (fun i c => goodB (ds.getD i (false, none, 0, 0)).1 c zs) part o ln 0 now) W)) :=
    Lib.hid fun W o hW hli h16 => course_any l cu u ty part att now o aa na ca ab nb cb ak nk ck la ln lc ds sa sn sc zs W (hw.acts.later hW hW.size) hw.na_ hli hus hu0 hu7 (hds.later hW hW.size) (by omega) (hzs.later hW hW.size) hsn
  have HUS := Lib.hid hus
  clear hw hus hu0 hu7 hds hzs hsn
  have hl1 := course_len (fun i => doesA l u ty part i att) (fun i c => goodB (ds.getD i (false, none, 0, 0)).1 c zs) part over ln 0 now
  have hl2 := course_len (fun i => doesA l u ty part i att) (fun i c => goodB (ds.getD i (false, none, 0, 0)).1 c zs) part later ln 0 now
  have HLAW := Lib.hid (fun h => later_ok (fun i => doesA l u ty part i att) (fun i c => goodB (ds.getD i (false, none, 0, 0)).1 c zs) part over later h ln 0 now)
  have HCA : Hid (∀ W, Below w.heap.size w W → Light l → ln ≤ 16 → Calls Try.prog 20 #[.agg #[.slice aa na ca, .slice ab nb cb, .slice ak nk ck], .agg cu, .int .i64 part, .slice la ln lc, .slice sa sn sc, .int .i64 att, .int .i64 now, .int .i64 over] W (CourseRet W.heap.size (courseGo (fun i => doesA l u ty part i att) (fun i c => goodB (ds.getD i (false, none, 0, 0)).1 c zs) part over ln 0 now) W)) := Lib.hid fun W => HCO.out W over
  have HCB : Hid (∀ W, Below w.heap.size w W → Light l → ln ≤ 16 → Calls Try.prog 20 #[.agg #[.slice aa na ca, .slice ab nb cb, .slice ak nk ck], .agg cu, .int .i64 part, .slice la ln lc, .slice sa sn sc, .int .i64 att, .int .i64 now, .int .i64 later] W (CourseRet W.heap.size (courseGo (fun i => doesA l u ty part i att) (fun i c => goodB (ds.getD i (false, none, 0, 0)).1 c zs) part later ln 0 now) W)) := Lib.hid fun W => HCO.out W later
  clear HCO
  generalize courseGo (fun i => doesA l u ty part i att) (fun i c => goodB (ds.getD i (false, none, 0, 0)).1 c zs) part over ln 0 now = co at HLAW HCA hl1
  generalize courseGo (fun i => doesA l u ty part i att) (fun i c => goodB (ds.getD i (false, none, 0, 0)).1 c zs) part later ln 0 now = cp at HLAW HCB hl2
  obtain ⟨ms, ok⟩ := co
  obtain ⟨ns, is⟩ := cp
  have HL1' := Lib.hid hl1
  have HL2' := Lib.hid hl2
  clear hl1 hl2
  go_enter Try.func8, Try.ntmps8
  go_wp2_with (first
    | (go_at_call 17; refine (shown24_true _).mono ?_; rintro e w1 ⟨rfl, hb1⟩; have h0 := (hb1.block w.heap.size (by simp; omega)).trans ((Below.heap_alloc (w.alloc _) _ _ (by simp)).trans (heap_alloc_new w _)); have h1 := (hb1.block (w.heap.size + 1) (by simp)).trans (row_two w _ _); have HR0 := Lib.hid h0; have HR1 := Lib.hid h1; have HB1 := Lib.hid ((((Below.refl _ _).alloc (Nat.le_refl _) _).alloc (by simp) _).trans (hb1.mono (by simp; omega)) : Below w.heap.size w w1); have HL1 : Hid (w.heap.size + 1 < w1.heap.size) := Lib.hid (by have := hb1.size; simp at this; omega); have q0 : w1.cell? ⟨w.heap.size, 0, none⟩ = some (.slice aa na ca) := (by rw [cell_of_row w1 _ 0 _ _ _ h0]; rfl); have q1 : w1.cell? ⟨w.heap.size, 1, none⟩ = some (.slice ab nb cb) := (by rw [cell_of_row w1 _ 1 _ _ _ h0]; rfl); have q2 : w1.cell? ⟨w.heap.size, 2, none⟩ = some (.slice ak nk ck) := (by rw [cell_of_row w1 _ 2 _ _ _ h0]; rfl); clear hb1 h0 h1)
    | (go_at_call 23; fail))
  refine (HMAY.out _ HB1.out).mono ?_
  rintro e w2 ⟨bb, rfl, hb2, hmay⟩
  have HB2 := Lib.hid (HB1.out.trans (hb2.mono HB1.out.size))
  have h0 := (hb2.block w.heap.size (by have := HL1.out; omega)).trans HR0.out
  have h1 := (hb2.block (w.heap.size + 1) HL1.out).trans HR1.out
  have HR20 := Lib.hid h0
  have HR21 := Lib.hid h1
  have HL2 : Hid (w.heap.size + 1 < w2.heap.size) := Lib.hid (Nat.lt_of_lt_of_le HL1.out hb2.size)
  clear q0 q1 q2 hb2 h1 HR0 HR1 HB1 HL1
  have q0 : w2.cell? ⟨w.heap.size, 0, none⟩ = some (.slice aa na ca) := by rw [cell_of_row w2 _ 0 _ _ _ h0]; rfl
  have q1 : w2.cell? ⟨w.heap.size, 1, none⟩ = some (.slice ab nb cb) := by rw [cell_of_row w2 _ 1 _ _ _ h0]; rfl
  have q2 : w2.cell? ⟨w.heap.size, 2, none⟩ = some (.slice ak nk ck) := by rw [cell_of_row w2 _ 2 _ _ _ h0]; rfl
  clear h0
  cases bb
  · clear hmay
    go_wp2_with fail
    exact bodyPost_ret (v := .bool true) (by simp [results, Try.results8, go_sem]) rfl ⟨rfl, HB2.out⟩
  have HLI := Lib.hid (light_of (hmay rfl))
  clear hmay
  generalize htt : timeB now = tt
  have HTM : Hid (∀ W, Calls Try.prog 24 #[.int .i64 now] W fun e w' => e = .returned (.bool tt) ∧ W = w') := by refine Lib.hid (fun W => ?_); have h := time_any now W; rw [htt] at h; exact h
  clear htt
  cases tt
  · go_wp2_with (go_at_call 24; refine (HTM.out _).mono ?_; rintro e w' ⟨rfl, rfl⟩)
    exact bodyPost_ret (v := .bool true) (by simp [results, Try.results8, go_sem]) rfl ⟨rfl, HB2.out⟩
  by_cases g1 : over < now
  · go_wp2_with (go_at_call 24; refine (HTM.out _).mono ?_; rintro e w' ⟨rfl, rfl⟩)
    exact bodyPost_ret (v := .bool true) (by simp [results, Try.results8, go_sem]) rfl ⟨rfl, HB2.out⟩
  by_cases g2 : later < over
  · go_wp2_with (go_at_call 24; refine (HTM.out _).mono ?_; rintro e w' ⟨rfl, rfl⟩)
    exact bodyPost_ret (v := .bool true) (by simp [results, Try.results8, go_sem]) rfl ⟨rfl, HB2.out⟩
  by_cases g3 : 16 < ln
  · have g3' : (16 : Int) < (ln : Int) := by omega
    go_wp2_with (go_at_call 24; refine (HTM.out _).mono ?_; rintro e w' ⟨rfl, rfl⟩)
    exact bodyPost_ret (v := .bool true) (by simp [results, Try.results8, go_sem]) rfl ⟨rfl, HB2.out⟩
  have h16 : ln ≤ 16 := by omega
  have g3' : ¬ (16 : Int) < (ln : Int) := by omega
  have HCA2 := Lib.hid (fun W hW => HCA.out W hW HLI.out h16)
  have HCB2 := Lib.hid (fun W hW => HCB.out W hW HLI.out h16)
  have hlaw := HLAW.out (by omega)
  have HLA := Lib.hid hlaw.1
  have HLB := Lib.hid hlaw.2
  clear HCA HCB HLAW hlaw HLI HMAY h16
  go_wp2_with (first
    | (go_at_call 24; refine (HTM.out _).mono ?_; rintro e w' ⟨rfl, rfl⟩)
    | (refine wpList_load_row rfl 51 _ rfl (w.heap.size + 1) rfl 51 cu (0, 0) _ HR21.out Try.underlying51 rfl (by rw [HUS.out]; exact sizeUnit) ?_)
    | (go_at_call 20; fail))
  refine (HCA2.out _ HB2.out).mono ?_
  rintro e w3 ⟨v3, rfl, hown3, hb3⟩
  dsimp only at hown3 ⊢
  obtain ⟨a3, cap3, rfl, hm3⟩ := marks_form hown3
  have HM3 := Lib.hid hm3
  have HB3 := Lib.hid (HB2.out.trans (hb3.mono HB2.out.size))
  have h0 := (hb3.block w.heap.size (by have := HL2.out; omega)).trans HR20.out
  have h1 := (hb3.block (w.heap.size + 1) HL2.out).trans HR21.out
  have HR31 := Lib.hid h1
  clear q0 q1 q2 hb3 h1 hown3 hm3 HR20 HR21 HL2
  have q0 : w3.cell? ⟨w.heap.size, 0, none⟩ = some (.slice aa na ca) := by rw [cell_of_row w3 _ 0 _ _ _ h0]; rfl
  have q1 : w3.cell? ⟨w.heap.size, 1, none⟩ = some (.slice ab nb cb) := by rw [cell_of_row w3 _ 1 _ _ _ h0]; rfl
  have q2 : w3.cell? ⟨w.heap.size, 2, none⟩ = some (.slice ak nk ck) := by rw [cell_of_row w3 _ 2 _ _ _ h0]; rfl
  clear h0
  go_wp2_with (first
    | (refine wpList_load_row rfl 51 _ rfl (w.heap.size + 1) rfl 51 cu (0, 0) _ HR31.out Try.underlying51 rfl (by rw [HUS.out]; exact sizeUnit) ?_)
    | (go_at_call 20; fail))
  refine (HCB2.out _ HB3.out).mono ?_
  rintro e w4 ⟨v4, rfl, hown4, hb4⟩
  dsimp only at hown4 ⊢
  obtain ⟨a4, cap4, rfl, hm4⟩ := marks_form hown4
  have HM4 := Lib.hid hm4
  have HM3' := Lib.hid (HM3.out.later hb4 hb4.size)
  have HB4 := Lib.hid (HB3.out.trans (hb4.mono HB3.out.size))
  have hlen := later_len HLA.out
  have HEQ : Hid (ok = true → is = true ∧ ns.length = ms.length) := Lib.hid fun h => by
    have := HLB.out h
    simp only [Prod.mk.injEq] at this
    exact ⟨this.2.trans h, by rw [this.1]⟩
  have hn1 : ¬ ns.length < ms.length := by omega
  clear q0 q1 q2 hb4 hown4 hm4 HM3 HR31 HLB HCA2 HCB2 HTM hlen
  have hgo : ok = false ∨ (ok = true ∧ is = true ∧ ns.length = ms.length) := by
    cases ok
    · exact .inl rfl
    · exact .inr ⟨rfl, HEQ.out rfl⟩
  clear HEQ
  have HMN : Hid (∀ i x, ms[i]? = some x → ∃ y, ns[i]? = some y ∧ x.num = y.num ∧ x.begun = y.begun ∧ ((x.ended = y.ended ∧ x.code = y.code) ∨ (i + 1 = ms.length ∧ x.ended = over ∧ x.code = 256 ∧ x.ended ≤ y.ended))) := Lib.hid fun i x hx => later_at HLA.out hx
  clear HLA
  have hm16 : ms.length ≤ 16 := Nat.le_trans HL1'.out (by omega)
  have hn16 : ns.length ≤ 16 := Nat.le_trans HL2'.out (by omega)
  clear HL1' HL2'
  generalize hmm : ms.length = m at *
  have HMS := Lib.hid hmm
  clear hmm
  generalize ns.length = n at *
  have hgo2 : ok = false ∨ (ok = true ∧ is = true ∧ m = n) := by
    rcases hgo with h | ⟨h1, h2, h3⟩
    · exact .inl h
    · exact .inr ⟨h1, h2, h3.symm⟩
  clear hgo
  rcases hgo2 with rfl | ⟨rfl, rfl, rfl⟩
  all_goals
    go_wp2_with fail
    go_loopw [96] (fun v96 wr => ∃ i : Nat, v96 = .int .i64 i ∧ i ≤ m ∧ Below w4.heap.size w4 wr) (fun v96 _ => m - (intOf v96).toNat)
    case atStart => exact ⟨0, rfl, Nat.zero_le _, Below.refl _ _⟩
    case round =>
      obtain ⟨i, rfl, hi, hbr⟩ := hrel
      have HBR := Lib.hid hbr
      by_cases hlt : i < m
      · have hlti : (i : Int) < (m : Int) := by omega
        try have hltn : (i : Int) < (n : Int) := by omega
        try have hltn2 : i < n := by omega
        have hwi : IntKind.i64.wrap ((i : Int) + 1) = (i : Int) + 1 := by rw [IntKind.wrap_i64]; omega
        have hwm : IntKind.i64.wrap ((m : Int) - 1) = (m : Int) - 1 := by rw [IntKind.wrap_i64]; omega
        have hil : i < ms.length := by rw [HMS.out]; exact hlt
        obtain ⟨y, hy, e1, e2, e34⟩ := HMN.out i ms[i] (List.getElem?_eq_getElem hil)
        obtain ⟨ga, rfl, hga, x0, x1, x2, x3⟩ := HM3'.out.at_ i ms[i] (List.getElem?_eq_getElem hil)
        obtain ⟨gb, rfl, hgb, y0, y1, y2, y3⟩ := HM4.out.at_ i y hy
        rw [← hbr.cell (p := ⟨ga, i * 4, none⟩) hga] at x0
        rw [← hbr.cell (p := ⟨ga, i * 4 + 1, none⟩) hga] at x1
        rw [← hbr.cell (p := ⟨ga, i * 4 + 2, none⟩) hga] at x2
        rw [← hbr.cell (p := ⟨ga, i * 4 + 3, none⟩) hga] at x3
        rw [← hbr.cell (p := ⟨gb, i * 4, none⟩) hgb] at y0
        rw [← hbr.cell (p := ⟨gb, i * 4 + 1, none⟩) hgb] at y1
        rw [← hbr.cell (p := ⟨gb, i * 4 + 2, none⟩) hgb] at y2
        rw [← hbr.cell (p := ⟨gb, i * 4 + 3, none⟩) hgb] at y3
        have hgbr : gb < wr.heap.size := cell_lt y0
        have hgar : ga < wr.heap.size := cell_lt x0
        generalize ms[i] = x at e1 e2 e34 x0 x1 x2 x3
        obtain ⟨xn, xb, xe, xc⟩ := x
        obtain ⟨yn, yb, ye, yc⟩ := y
        dsimp only at e1 e2 e34 x0 x1 x2 x3 y0 y1 y2 y3
        subst e1
        subst e2
        clear hbr hy
        rcases e34 with ⟨e3, e4⟩ | ⟨f1, f2, f3, f4⟩
        · subst e3
          subst e4
          by_cases c1 : i + 1 = m
          · have c1b : ((i : Int) == (m : Int) - 1) = true := by simp; omega
            by_cases c2 : xe = over
            · have c2b : (xe == over) = true := by simp [c2]
              clear c2
              by_cases c3 : xc = 256
              · have c3b : (xc == 256) = true := by simp [c3]
                clear c3
                go_wp2_with fail
                go_quiet (fail)
                go_wp2_with fail
                go_roundw
                case rel => exact ⟨i + 1, by go_num, by omega, below_drewN (HBR.out.alloc HBR.out.size _) _⟩
                case measure => simp [intOf]; omega
              · have c3b : (xc == 256) = false := by simp [c3]
                go_wp2_with fail
                go_quiet (fail)
                go_wp2_with fail
                go_roundw
                case rel => exact ⟨i + 1, by go_num, by omega, below_drewN (HBR.out.alloc HBR.out.size _) _⟩
                case measure => simp [intOf]; omega
            · have c2b : (xe == over) = false := by simp [c2]
              go_wp2_with fail
              go_quiet (fail)
              go_wp2_with fail
              go_roundw
              case rel => exact ⟨i + 1, by go_num, by omega, below_drewN (HBR.out.alloc HBR.out.size _) _⟩
              case measure => simp [intOf]; omega
          · have c1b : ((i : Int) == (m : Int) - 1) = false := by simp; omega
            go_wp2_with fail
            go_quiet (fail)
            go_wp2_with fail
            go_roundw
            case rel => exact ⟨i + 1, by go_num, by omega, below_drewN (HBR.out.alloc HBR.out.size _) _⟩
            case measure => simp [intOf]; omega
        · have c1b : ((i : Int) == (m : Int) - 1) = true := by simp; omega
          subst f2
          subst f3
          have hge : decide (ye < xe) = false := by simp; omega
          have hge' : ¬ ye < xe := by omega
          go_wp2_with fail
          go_quiet (fail)
          go_wp2_with fail
          go_roundw
          case rel => exact ⟨i + 1, by go_num, by omega, below_drewN (HBR.out.alloc HBR.out.size _) _⟩
          case measure => simp [intOf]; omega
      · have hlti : ¬ (i : Int) < (m : Int) := by omega
        go_wp2_with fail
        exact bodyPost_ret (v := .bool true) (by simp [results, Try.results8, go_sem]) rfl ⟨rfl, HB4.out.trans (HBR.out.mono HB4.out.size)⟩

end Go.Proofs.Ytohgnmpmledljaa
