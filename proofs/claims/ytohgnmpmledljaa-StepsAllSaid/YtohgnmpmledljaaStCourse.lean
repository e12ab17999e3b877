/-
  Contract of steps.Course.
-/
import Derived.Test.YtohgnmpmledljaaStDoes
import Derived.Test.YtohgnmpmledljaaStGood
import Derived.Test.YtohgnmpmledljaaStPlain
namespace Go.Proofs.Ytohgnmpmledljaa
open Go.ChangeShapes Go.WideShapes Go.ChangeAt Go.RowKit

/-- commands in memory: whether each bears a dash; its words -/
structure ExecsIn (w : World) (B : Nat) (a : Option Addr) (n : Nat) (ds : List (Bool × Option Addr × Nat × Nat)) : Prop where
  len : ds.length = n
  at_ : 0 < n → ∃ b off, a = some ⟨b, off, none⟩ ∧ b < B ∧ ∀ i d, ds[i]? = some d → w.cell? ⟨b, off + i * 2, none⟩ = some (.bool d.1) ∧ w.cell? ⟨b, off + i * 2 + 1, none⟩ = some (.slice d.2.1 d.2.2.1 d.2.2.2)

theorem ExecsIn.later {w w' : World} {B B' : Nat} {a : Option Addr} {n : Nat} {ds : List (Bool × Option Addr × Nat × Nat)} (h : ExecsIn w B a n ds) (hb : Below B w w') (hB : B ≤ B') : ExecsIn w' B' a n ds := by
  refine ⟨h.len, fun hn => ?_⟩
  obtain ⟨b, off, e, hlt, hc⟩ := h.at_ hn
  refine ⟨b, off, e, Nat.lt_of_lt_of_le hlt hB, fun i d hd => ?_⟩
  obtain ⟨h1, h2⟩ := hc i d hd
  exact ⟨(hb.cell (p := ⟨b, off + i * 2, none⟩) hlt).trans h1, (hb.cell (p := ⟨b, off + i * 2 + 1, none⟩) hlt).trans h2⟩

theorem IntsIn.later {w w' : World} {B B' : Nat} {a : Option Addr} {n : Nat} {zs : List Int} (h : IntsIn w B a n zs) (hb : Below B w w') (hB : B ≤ B') : IntsIn w' B' a n zs :=
  ⟨h.len, fun hn => by
    obtain ⟨b, off, e, hlt, hc⟩ := (h.below hb).at_ hn
    exact ⟨b, off, e, Nat.lt_of_lt_of_le hlt hB, hc⟩⟩

theorem owns_below {w w' : World} {base : Nat} {e : TypeId} {size : Nat} {v : Value} {n : Nat} {xs : List Value} (h : w.ownsRow base e size v n xs) (hb : Below w.heap.size w w') : w'.ownsRow base e size v n xs := by
  obtain ⟨h1, h2 | ⟨g, cap, cur, hv, hg, hr, hn, hm, hc, ht⟩⟩ := h
  · exact ⟨h1, .inl h2⟩
  · have hlt : g < w.heap.size := by
      by_cases hlt : g < w.heap.size
      · exact hlt
      · have : w.heap[g]? = none := by simp; omega
        rw [this] at hr
        exact absurd hr (by simp)
    exact ⟨h1, .inr ⟨g, cap, cur, hv, hg, by rw [hb.block g hlt]; exact hr, hn, hm, hc, ht⟩⟩

theorem markInfo : (Try.prog.info? 63).map (fun i => (i.zero, i.size, i.bytes)) = some (some (.agg #[.int .i64 0, .int .i64 0, .int .i64 0, .int .i64 0]), 4, 32) := by kernel_rfl
theorem sizeUnit : (Try.prog.info? 51).map (·.size) = some 35 := by kernel_rfl

theorem owns_base {w : World} {B B' : Nat} {e : TypeId} {size : Nat} {v : Value} {n : Nat} {xs : List Value} (h : w.ownsRow B e size v n xs) (hB : B' ≤ B) : w.ownsRow B' e size v n xs := by
  obtain ⟨h1, h2 | ⟨g, cap, cur, hv, hg, hr⟩⟩ := h
  · exact ⟨h1, .inl h2⟩
  · exact ⟨h1, .inr ⟨g, cap, cur, hv, Nat.le_trans hB hg, hr⟩⟩

theorem cells4 (w : World) (a b c d : Value) (t : TypeId) : Reads (w.alloc (.cells #[a, b, c, d] t)) (w.heap.size + 1) 4 (some ⟨w.heap.size, 0, none⟩) 1 [a, b, c, d] := by
  refine ⟨rfl, fun _ => ⟨_, rfl, by simp, fun j u hu => ?_⟩⟩
  rw [add_plain, Nat.zero_add, cell_of_row _ _ j _ _ _ (heap_alloc_new w _), ← hu]
  simp

def CourseRet (base : Nat) (c : List MarkM × Bool) (w : World) (e : Ending) (w' : World) : Prop :=
  ∃ v, e = .returned (.tuple #[v, .bool c.2]) ∧ w'.ownsRow base 63 4 v c.1.length (markCells c.1) ∧ Below w.heap.size w w'

set_option maxRecDepth 100000 in
set_option maxHeartbeats 8000000 in
theorem course_any (l : List ActR) (cu : Array Value) (u : ByteArray) (ty part att now over : Int) (aa : Option Addr) (na ca : Nat) (ab : Option Addr) (nb cb : Nat) (ak : Option Addr) (nk ck : Nat)
    (la : Option Addr) (ln lc : Nat) (ds : List (Bool × Option Addr × Nat × Nat)) (sa : Option Addr) (sn sc : Nat) (zs : List Int) (w : World) (hl : ActsIn w w.heap.size aa na l) (hbig : na ≤ 9223372036854775807) (hli : Light l)
    (hus : cu.size = 35) (hu0 : cu[0]? = some (.string u)) (hu7 : cu[7]? = some (.int .i64 ty)) (hds : ExecsIn w w.heap.size la ln ds) (hln : ln ≤ 1000) (hzs : IntsIn w w.heap.size sa sn zs) (hsn : sn ≤ 9223372036854775807) :
    Calls Try.prog 20 #[.agg #[.slice aa na ca, .slice ab nb cb, .slice ak nk ck], .agg cu, .int .i64 part, .slice la ln lc, .slice sa sn sc, .int .i64 att, .int .i64 now, .int .i64 over] w
      (CourseRet w.heap.size (courseGo (fun i => doesA l u ty part i att) (fun i c => goodB (ds.getD i (false, none, 0, 0)).1 c zs) part over ln 0 now) w) := by
  have HDOES : Hid (∀ W (i : Int), Below w.heap.size w W → Calls Try.prog 25 #[.agg #[.slice aa na ca, .slice ab nb cb, .slice ak nk ck], .agg cu, .int .i64 part, .int .i64 i, .int .i64 att] W (DoesRet (doesA l u ty part i att) W)) :=
    Lib.hid fun W i hW => does_any l cu u ty part i att aa na ca ab nb cb ak nk ck W (hl.later hW hW.size) hbig hli hu0 hu7
  have HGOOD : Hid (∀ W (d : Bool × Option Addr × Nat × Nat) c, Below w.heap.size w W → Calls Try.prog 18 #[.agg #[.bool d.1, .slice d.2.1 d.2.2.1 d.2.2.2], .int .i64 c, .slice sa sn sc] W fun e w' => e = .returned (.bool (goodB d.1 c zs)) ∧ Below W.heap.size W w') :=
    Lib.hid fun W d c hW => good_any d.1 d.2.1 d.2.2.1 d.2.2.2 c sa W.heap.size sn sc zs W (hzs.later hW hW.size) (Nat.le_refl _) hsn
  have HUS := Lib.hid hus
  have HEX := Lib.hid hds
  obtain ⟨i0, hi0, hi1⟩ := Option.map_eq_some_iff.1 markInfo
  simp only [Prod.mk.injEq] at hi1
  obtain ⟨hz0, hs0, hb0⟩ := hi1
  have HI := Lib.hid hi0
  have HZ := Lib.hid hz0
  have HS := Lib.hid hs0
  have HB := Lib.hid hb0
  have HLN := Lib.hid hds.len
  clear hl hbig hli hus hu0 hu7 hds hzs hsn hi0 hz0 hs0 hb0
  generalize hdf : (fun i : Nat => doesA l u ty part i att) = does
  have HDF : Hid (∀ i : Nat, doesA l u ty part i att = does i) := Lib.hid fun i => by rw [← hdf]
  generalize hgf : (fun (i : Nat) (c : Int) => goodB (ds.getD i (false, none, 0, 0)).1 c zs) = good
  have HGF : Hid (∀ (i : Nat) (c : Int), goodB (ds.getD i (false, none, 0, 0)).1 c zs = good i c) := Lib.hid fun i c => by rw [← hgf]
  generalize hco : courseGo does good part over ln 0 now = co
  have HCO := Lib.hid hco
  clear hdf hgf hco
  go_enter Try.func20, Try.ntmps20
  go_wp2_with fail
  generalize hW0 : (w.alloc (.cells #[.slice aa na ca, .slice ab nb cb, .slice ak nk ck] 44)).alloc (.cells cu 51) = W0
  have hr5 : W0.heap[w.heap.size]? = some (.cells #[.slice aa na ca, .slice ab nb cb, .slice ak nk ck] 44 (0, 0)) := by
    rw [← hW0]; exact (Below.heap_alloc (w.alloc _) _ _ (by simp)).trans (heap_alloc_new w _)
  have hr6 : W0.heap[w.heap.size + 1]? = some (.cells cu 51 (0, 0)) := by rw [← hW0]; exact row_two w _ _
  have hsz : W0.heap.size = w.heap.size + 2 := by rw [← hW0]; simp
  have hbw0 : Below w.heap.size w W0 := by rw [← hW0]; exact ((Below.refl _ _).alloc (Nat.le_refl _) _).alloc (by simp) _
  have HR5 := Lib.hid hr5
  have HR6 := Lib.hid hr6
  have HSZ := Lib.hid hsz
  have HB0 := Lib.hid hbw0
  clear hW0 hr5 hr6 hsz hbw0
  go_loopw [18, 19, 27] (fun v18 v19 v27 wr => ∃ (i : Nat) (at_ : Int) (ms : List MarkM), v27 = .int .i64 i ∧ v19 = .int .i64 at_ ∧ i ≤ ln ∧ ms.length = i ∧ Below W0.heap.size W0 wr ∧ wr.ownsRow W0.heap.size 63 4 v18 i (markCells ms) ∧
    (ms ++ (courseGo does good part over (ln - i) i at_).1, (courseGo does good part over (ln - i) i at_).2) = co) (fun _ _ v27 _ => ln - (intOf v27).toNat)
  case atStart => exact ⟨0, now, [], rfl, rfl, Nat.zero_le _, rfl, Below.refl _ _, ⟨rfl, .inl ⟨rfl, rfl⟩⟩, by rw [Nat.sub_zero, HCO.out]; rfl⟩
  case round =>
    obtain ⟨i, at_, ms, rfl, rfl, hi, hms, hbr, hown, hcur⟩ := hrel
    have HMS := Lib.hid hms
    have HBR := Lib.hid hbr
    have HOWN := Lib.hid hown
    have HCUR := Lib.hid hcur
    have h5 := (hbr.block w.heap.size (by have := HSZ.out; omega)).trans HR5.out
    have h6 := (hbr.block (w.heap.size + 1) (by have := HSZ.out; omega)).trans HR6.out
    have q0 : wr.cell? ⟨w.heap.size, 0, none⟩ = some (.slice aa na ca) := by rw [cell_of_row wr _ 0 _ _ _ h5]; rfl
    have q1 : wr.cell? ⟨w.heap.size, 1, none⟩ = some (.slice ab nb cb) := by rw [cell_of_row wr _ 1 _ _ _ h5]; rfl
    have q2 : wr.cell? ⟨w.heap.size, 2, none⟩ = some (.slice ak nk ck) := by rw [cell_of_row wr _ 2 _ _ _ h5]; rfl
    have hl5 : w.heap.size < wr.heap.size := by have := hbr.size; have := HSZ.out; omega
    have hl6 : w.heap.size + 1 < wr.heap.size := by have := hbr.size; have := HSZ.out; omega
    have H6 := Lib.hid h6
    have HBW := Lib.hid (HB0.out.trans (hbr.mono HB0.out.size))
    clear hms hbr hown hcur h5 h6
    by_cases hlt : i < ln
    · have hlti : (i : Int) < (ln : Int) := by omega
      obtain ⟨bs, off, rfl, hbs, hcl⟩ := HEX.out.at_ (by omega)
      have hil : i < ds.length := by rw [HLN.out]; exact hlt
      obtain ⟨hc0, hc1⟩ := hcl i ds[i] (List.getElem?_eq_getElem hil)
      have hgd : ds.getD i (false, none, 0, 0) = ds[i] := by simp [List.getD, hil]
      rw [← HBW.out.cell (p := ⟨bs, off + i * 2, none⟩) hbs] at hc0
      rw [← HBW.out.cell (p := ⟨bs, off + i * 2 + 1, none⟩) hbs] at hc1
      have HGI : Hid (∀ c, goodB (ds[i]).1 c zs = good i c) := Lib.hid fun c => by rw [← HGF.out i c, hgd]
      generalize ds[i] = d at hc0 hc1 HGI
      obtain ⟨dd, da, dn, dc⟩ := d
      dsimp only at hc0 hc1
      clear hcl hgd
      have hstep : courseGo does good part over (ln - i) i at_ = courseGo does good part over (ln - (i + 1) + 1) i at_ := by rw [show ln - i = ln - (i + 1) + 1 by omega]
      have HSTEP := Lib.hid hstep
      clear hstep
      generalize hen : endsP (does i) (beginP part i at_) = en
      have HEN := Lib.hid hen
      clear hen
      obtain ⟨e0, c0⟩ := en
      go_wp2_with (first
        | (refine wpList_load_row rfl 51 _ rfl (w.heap.size + 1) rfl 51 cu (0, 0) _ ((Below.heap_alloc _ _ _ hl6).trans H6.out) Try.underlying51 rfl (by rw [HUS.out]; exact sizeUnit) ?_)
        | (go_at_call 25; fail))
      refine (HDOES.out _ i (HBW.out.alloc HBW.out.size _)).mono ?_
      rintro e w3 ⟨⟨cs', rfl, hcs'⟩, hb3⟩
      rw [HDF.out i] at hcs'
      have HCS := Lib.hid hcs'
      have hb3' : Below wr.heap.size wr w3 := ((Below.refl wr.heap.size wr).alloc (Nat.le_refl _) _).trans (hb3.mono (by simp))
      have hr21 := (hb3.block wr.heap.size (by simp)).trans (heap_alloc_new wr _)
      have HB3 := Lib.hid hb3'
      have HR21 := Lib.hid hr21
      have HL3 : Hid (wr.heap.size < w3.heap.size) := Lib.hid (by have := hb3.size; simp at this; omega)
      clear hcs' hb3 hb3' hr21 q0 q1 q2
      go_wp2_with (first
        | (go_at_call 11; refine (begin_any _ _ _ _).mono ?_; rintro e w4 ⟨rfl, hb4⟩; have HB4 := Lib.hid hb4; clear hb4)
        | (go_at_call 15; fail))
      refine (ends_lit cs' (does i) HCS.out (beginP part i at_) e0 c0 HEN.out _).mono ?_
      rintro e w5 ⟨rfl, hb5⟩
      have hb35 : Below w3.heap.size w3 w5 := HB4.out.trans (hb5.mono HB4.out.size)
      have hbr5 : Below wr.heap.size wr w5 := HB3.out.trans (hb35.mono HB3.out.size)
      have HR5' := Lib.hid ((hb35.block wr.heap.size HL3.out).trans HR21.out)
      have HOWN5 := Lib.hid (owns_below HOWN.out hbr5)
      have HBR5 := Lib.hid (HBR.out.trans (hbr5.mono HBR.out.size))
      have HBW5 := Lib.hid (HBW.out.trans (hbr5.mono HBW.out.size))
      have HL5 : Hid (wr.heap.size < w5.heap.size) := Lib.hid (Nat.lt_of_lt_of_le HL3.out hb35.size)
      have HLT := Lib.hid HOWN.out.lt
      clear hb35 hbr5 hb5 HB4 HB3 HL3 HR21
      have hin : i + 1 ≤ 1000 := by omega
      by_cases hF : e0 = 1099511627776 ∨ over < e0
      · have hcg : courseGo does good part over (ln - i) i at_ = ([⟨i, at_, over, 256⟩], false) := by
          rw [HSTEP.out]
          unfold courseGo
          rw [HEN.out]
          exact if_pos hF
        have hco' : co = (ms ++ [⟨i, at_, over, 256⟩], false) := by rw [← HCUR.out, hcg]
        have HCO' := Lib.hid hco'
        clear hcg hco'
        have fin : ∀ v1 w6, Hid (w6.ownsRow W0.heap.size 63 4 v1 (i + 1) (markCells ms ++ [.int .i64 i, .int .i64 at_, .int .i64 over, .int .i64 256])) → Hid (Below w.heap.size w w6) → CourseRet w.heap.size co w (.returned (.tuple #[v1, .bool false])) w6 := by
          intro v1 w6 h1 h2
          rw [HCO'.out]
          refine ⟨v1, rfl, ?_, h2.out⟩
          have e : markCells (ms ++ [⟨i, at_, over, 256⟩]) = markCells ms ++ [.int .i64 i, .int .i64 at_, .int .i64 over, .int .i64 256] := by rw [markCells_append]; rfl
          dsimp only
          rw [e, List.length_append, HMS.out]
          exact owns_base h1.out HB0.out.size
        have HFIN := Lib.hid fin
        clear fin
        have hff : (e0 = 1099511627776) ∨ ¬ (e0 = 1099511627776) ∧ over < e0 := by omega
        clear hF
        rcases hff with rfl | ⟨hf1, hf2⟩
        all_goals
          go_wp2_with (at_builtin; refine wpList_append_any _ rfl (.tmp 53) (.tmp 58) 55 rfl W0.heap.size 63 i0 (.agg #[.int .i64 0, .int .i64 0, .int .i64 0, .int .i64 0]) 4 32 Try.underlying55 HI.out HZ.out HS.out HB.out rfl (by omega) u18 i (markCells ms) rfl (owns_below HOWN5.out ((Below.refl _ _).alloc (Nat.le_refl _) _)) (w5.heap.size + 1) (some ⟨w5.heap.size, 0, none⟩) 1 1 [.int .i64 i, .int .i64 at_, .int .i64 over, .int .i64 256] rfl (cells4 _ _ _ _ _ _) (by simp [Value.oneCell']) (by simp only [maxLen]; omega) (by omega) (by have := HBR5.out.size; simp; omega) ?_; intro v1 w6 hown6 hg6 hat6; have hb6 : Below w.heap.size w w6 := (HBW5.out.alloc HBW5.out.size _).grown hg6 (by have := HBW5.out.size; simp; omega) (fun k hk => by have := (HLT.out k hk).1; have := HSZ.out; omega); have H6a := Lib.hid hown6; have H6b := Lib.hid hb6; clear hown6 hg6 hat6 hb6)
          exact bodyPost_ret (v := .tuple #[v1, .bool false]) (by simp [results, Try.results20, go_sem]) rfl (HFIN.out v1 w6 H6a H6b)
      · have hF1 : ¬ e0 = 1099511627776 := fun h => hF (.inl h)
        have hF2 : ¬ over < e0 := fun h => hF (.inr h)
        have hF1b : (e0 == 1099511627776) = false := by simp [hF1]
        have hF2b : decide (over < e0) = false := by simp [hF2]
        have HFN := Lib.hid hF
        clear hF
        generalize hgg : good i c0 = gg
        have HGG := Lib.hid hgg
        have HGO : Hid (∀ W, Below w.heap.size w W → Calls Try.prog 18 #[.agg #[.bool dd, .slice da dn dc], .int .i64 c0, .slice sa sn sc] W fun e w' => e = .returned (.bool gg) ∧ Below W.heap.size W w') := by
          refine Lib.hid fun W hW => ?_
          have h := HGOOD.out W (dd, da, dn, dc) c0 hW
          rw [← hgg, ← HGI.out c0]
          exact h
        clear hgg
        have em : markCells (ms ++ [⟨i, at_, e0, c0⟩]) = markCells ms ++ [.int .i64 i, .int .i64 at_, .int .i64 e0, .int .i64 c0] := by rw [markCells_append]; rfl
        have EM := Lib.hid em
        clear em
        go_wp2_with (first | (go_at_call 18; fail) | (at_builtin; refine wpList_append_any _ rfl (.tmp 60) (.tmp 66) 55 rfl W0.heap.size 63 i0 (.agg #[.int .i64 0, .int .i64 0, .int .i64 0, .int .i64 0]) 4 32 Try.underlying55 HI.out HZ.out HS.out HB.out rfl (by omega) u18 i (markCells ms) rfl (owns_below HOWN5.out ((Below.refl _ _).alloc (Nat.le_refl _) _)) (w5.heap.size + 1) (some ⟨w5.heap.size, 0, none⟩) 1 1 [.int .i64 i, .int .i64 at_, .int .i64 e0, .int .i64 c0] rfl (cells4 _ _ _ _ _ _) (by simp [Value.oneCell']) (by simp only [maxLen]; omega) (by omega) (by have := HBR5.out.size; simp; omega) ?_; intro v1 w6 hown6 hg6 hat6; have hb6 : Below W0.heap.size W0 w6 := (HBR5.out.alloc HBR5.out.size _).grown hg6 (by have := HBR5.out.size; simp; omega) (fun k hk => (HLT.out k hk).1); have hr21 := (hg6.block wr.heap.size (by have := HL5.out; simp; omega) (fun e => by have := (HLT.out _ e.symm).2; omega)).trans ((Below.heap_alloc w5 _ _ HL5.out).trans HR5'.out); have z0 : w6.cell? ⟨wr.heap.size, 0, none⟩ = some (.bool dd) := (by rw [cell_of_row w6 _ 0 _ _ _ hr21]; rfl); have z1 : w6.cell? ⟨wr.heap.size, 1, none⟩ = some (.slice da dn dc) := (by rw [cell_of_row w6 _ 1 _ _ _ hr21]; rfl); have H6a := Lib.hid hown6; have H6b := Lib.hid hb6; clear hown6 hg6 hat6 hb6 hr21))
        refine (HGO.out _ (HB0.out.trans (H6b.out.mono HB0.out.size))).mono ?_
        rintro e w7 ⟨rfl, hb7⟩
        have HB7 := Lib.hid hb7
        clear hb7 z0 z1
        cases gg
        · have hcg : courseGo does good part over (ln - i) i at_ = ([⟨i, at_, e0, c0⟩], false) := by
            rw [HSTEP.out]
            unfold courseGo
            rw [HEN.out]
            rw [if_neg HFN.out, if_neg (by rw [HGG.out]; decide)]
          have hco' : co = (ms ++ [⟨i, at_, e0, c0⟩], false) := by rw [← HCUR.out, hcg]
          have HCO' := Lib.hid hco'
          clear hcg hco'
          go_wp2_with fail
          refine bodyPost_ret (v := .tuple #[v1, .bool false]) (by simp [results, Try.results20, go_sem]) rfl ?_
          rw [HCO'.out]
          refine ⟨v1, rfl, ?_, HB0.out.trans ((H6b.out.trans (HB7.out.mono H6b.out.size)).mono HB0.out.size)⟩
          dsimp only
          rw [EM.out, List.length_append, HMS.out]
          exact owns_base (owns_below H6a.out HB7.out) HB0.out.size
        · have hcg : courseGo does good part over (ln - i) i at_ = (⟨i, at_, e0, c0⟩ :: (courseGo does good part over (ln - (i + 1)) (i + 1) e0).1, (courseGo does good part over (ln - (i + 1)) (i + 1) e0).2) := by
            rw [HSTEP.out]
            conv => lhs; unfold courseGo
            rw [HEN.out]
            rw [if_neg HFN.out, if_pos HGG.out]
          have hco' : ((ms ++ [⟨i, at_, e0, c0⟩]) ++ (courseGo does good part over (ln - (i + 1)) (i + 1) e0).1, (courseGo does good part over (ln - (i + 1)) (i + 1) e0).2) = co := by
            rw [← HCUR.out, hcg]
            simp
          have HCO' := Lib.hid hco'
          clear hcg hco'
          go_wp2_with fail
          go_roundw
          case rel => exact ⟨i + 1, e0, ms ++ [⟨i, at_, e0, c0⟩], by go_num, rfl, by omega, by rw [List.length_append, HMS.out]; rfl, H6b.out.trans (HB7.out.mono H6b.out.size), by rw [EM.out]; exact owns_below H6a.out HB7.out, HCO'.out⟩
          case measure => simp [intOf]; omega
    · have hlti : ¬ (i : Int) < (ln : Int) := by omega
      have hcg : courseGo does good part over (ln - i) i at_ = ([], true) := by rw [show ln - i = 0 by omega]; rfl
      have hco' : co = (ms, true) := by rw [← HCUR.out, hcg, List.append_nil]
      have HCO' := Lib.hid hco'
      clear hcg hco'
      go_wp2_with fail
      refine bodyPost_ret (v := .tuple #[u18, .bool true]) (by simp [results, Try.results20, go_sem]) rfl ?_
      rw [HCO'.out]
      refine ⟨u18, rfl, ?_, HB0.out.trans (HBR.out.mono HB0.out.size)⟩
      dsimp only
      rw [HMS.out]
      exact owns_base HOWN.out HB0.out.size

end Go.Proofs.Ytohgnmpmledljaa
