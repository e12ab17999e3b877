/-
  The plain laws of RunOrder and RunTold: in numbers alone.
-/
import Derived.Test.YtohgnmpmledljaaRunMayLaw
namespace Go.Proofs.Ytohgnmpmledljaa

theorem sum_ge (a b : Int) (h0 : 0 ≤ a) (h1 : a ≤ 1099511627776) (hb : 0 ≤ b) : a ≤ sumI a b := by
  unfold sumI heldI
  repeat' split
  all_goals omega

theorem sum_mono_l (a a' b : Int) (h : a ≤ a') : sumI a b ≤ sumI a' b := by
  unfold sumI heldI
  repeat' split
  all_goals omega

theorem sum_mono_r (a b b' : Int) (h : b ≤ b') : sumI a b ≤ sumI a b' := by
  unfold sumI heldI
  repeat' split
  all_goals omega

theorem sum_top (a b : Int) : sumI a b ≤ 1099511627776 := (heldI_bd _).2

theorem span_ge {t : Int} (h : spanB t = true) : 0 ≤ t := by
  simp [spanB] at h
  omega

theorem ends_fst (A : ActM) (r : RunM) (h : ¬ r.part ≤ 0) : (endsP A r).1 = (endsRaw A r).1 := by
  unfold endsP
  rw [if_neg h]
  split
  · next h => exact h.symm
  · rfl

theorem ends_own (A : ActM) (r : RunM) (h : ¬ r.part ≤ 0) (ht : r.told < 0) : (endsP A r).1 = sumI r.begun A.lasts := by
  rw [ends_fst A r h]
  unfold endsRaw
  rw [if_neg (by omega)]

theorem ends_told (A : ActM) (r : RunM) (h : ¬ r.part ≤ 0) (ht : 0 ≤ r.told) : (endsP A r).1 = min (sumI r.begun A.lasts) (sumI r.told A.dies) := by
  rw [ends_fst A r h]
  unfold endsRaw
  split
  · next h => simp only []; omega
  · next h => simp only []; omega

theorem told_law (A : ActM) (now t u : Int) (h : MayNow A now) (h1 : now ≤ t) (h2 : t ≤ u) (h3 : u < 6311433600) :
    (endsP A ⟨2, 0, now, t, 0, false⟩).1 ≤ (endsP A ⟨2, 0, now, -1, 0, false⟩).1 ∧ ((endsP A ⟨2, 0, now, -1, 0, false⟩).1 ≤ (endsP A ⟨2, 0, now, t, 0, false⟩).1 ∨ t ≤ (endsP A ⟨2, 0, now, t, 0, false⟩).1) ∧
      (endsP A ⟨2, 0, now, t, 0, false⟩).1 ≤ (endsP A ⟨2, 0, now, u, 0, false⟩).1 ∧ (endsP A ⟨2, 0, now, u, 0, false⟩).1 ≤ (endsP A ⟨2, 0, now, -1, 0, false⟩).1 := by
  obtain ⟨⟨-, -, hd, -, -⟩, hn, hn'⟩ := h
  have hd0 := span_ge hd
  rw [ends_own A ⟨2, 0, now, -1, 0, false⟩ (by simp) (by simp), ends_told A ⟨2, 0, now, t, 0, false⟩ (by simp) (by simp only []; omega), ends_told A ⟨2, 0, now, u, 0, false⟩ (by simp) (by simp only []; omega)]
  have g1 := sum_ge t A.dies (by omega) (by omega) hd0
  have g2 := sum_mono_l t u A.dies h2
  simp only []
  omega

/-- how many steps are left -/
def pend (A : ActM) (r : RunM) : Nat := if r.part ≤ 0 then 0 else (A.says.length - r.said.toNat) + (if r.ready = true then 0 else 1) + 1

/-- all that is still due is not ahead of last -/
def OrdI (A : ActM) (r : RunM) (now last : Int) : Prop :=
  0 ≤ last ∧ last ≤ 1099511627776 ∧ (r.part ≤ 0 ∨ (r.part = 2 ∧ r.begun = now ∧ 0 ≤ r.said ∧ r.said ≤ A.says.length ∧
    (r.said < A.says.length → last ≤ sumI now (A.says.getD r.said.toNat (0, ByteArray.empty)).1) ∧ (r.ready = false → last ≤ sumI now A.ready) ∧ last ≤ (endsP A r).1))

theorem soon_cases (p : Int × Int) (t k : Int) : (soonB p t k = p ∧ p.1 ≤ t) ∨ (soonB p t k = (t, k) ∧ t < p.1) := by
  rcases soonB_two p t k with ⟨h, h'⟩ | ⟨h, h'⟩
  · exact .inl ⟨h, by omega⟩
  · exact .inr ⟨h, h'⟩

/-- what is due, by its kind -/
theorem due_cases (A : ActM) (r : RunM) :
    dueP A r = (1099511627776, 0) ∨
    (¬ r.part ≤ 0 ∧ (dueP A r).1 < 1099511627776 ∧
      (0 ≤ r.said ∧ r.said < A.says.length → (dueP A r).1 ≤ sumI r.begun (A.says.getD r.said.toNat (0, ByteArray.empty)).1) ∧ (r.ready = false → (dueP A r).1 ≤ sumI r.begun A.ready) ∧ (dueP A r).1 ≤ (endsP A r).1 ∧
      (((dueP A r).2 = 1 ∧ 0 ≤ r.said ∧ r.said < A.says.length ∧ (dueP A r).1 = sumI r.begun (A.says.getD r.said.toNat (0, ByteArray.empty)).1) ∨
       ((dueP A r).2 = 2 ∧ r.ready = false ∧ (dueP A r).1 = sumI r.begun A.ready) ∨
       ((dueP A r).2 = 3 ∧ (dueP A r).1 = (endsP A r).1))) := by
  by_cases hp : r.part ≤ 0
  · left; unfold dueP; rw [if_pos hp]
  have e : dueP A r = soonB (dueReady A r) (endsP A r).1 3 := by unfold dueP; rw [if_neg hp]
  have es : (dueSays A r = (1099511627776, 0) ∧ (0 ≤ r.said ∧ r.said < A.says.length → 1099511627776 ≤ sumI r.begun (A.says.getD r.said.toNat (0, ByteArray.empty)).1)) ∨
      (dueSays A r = (sumI r.begun (A.says.getD r.said.toNat (0, ByteArray.empty)).1, 1) ∧ 0 ≤ r.said ∧ r.said < A.says.length ∧ sumI r.begun (A.says.getD r.said.toNat (0, ByteArray.empty)).1 < 1099511627776) := by
    by_cases h : 0 ≤ r.said ∧ r.said < A.says.length
    · have e1 : dueSays A r = soonB (1099511627776, 0) (sumI r.begun (A.says.getD r.said.toNat (0, ByteArray.empty)).1) 1 := by unfold dueSays; rw [if_pos h]
      rw [e1]
      rcases soon_cases (1099511627776, 0) (sumI r.begun (A.says.getD r.said.toNat (0, ByteArray.empty)).1) 1 with ⟨a, b⟩ | ⟨a, b⟩
      · exact .inl ⟨a, fun _ => b⟩
      · exact .inr ⟨a, h.1, h.2, b⟩
    · left
      refine ⟨by unfold dueSays; rw [if_neg h], fun h' => absurd h' h⟩
  have er : (dueReady A r = dueSays A r ∧ (r.ready = false → (dueSays A r).1 ≤ sumI r.begun A.ready)) ∨ (dueReady A r = (sumI r.begun A.ready, 2) ∧ r.ready = false ∧ sumI r.begun A.ready < (dueSays A r).1) := by
    cases hr : r.ready
    · have e1 : dueReady A r = soonB (dueSays A r) (sumI r.begun A.ready) 2 := by unfold dueReady; rw [hr]; rfl
      rw [e1]
      rcases soon_cases (dueSays A r) (sumI r.begun A.ready) 2 with ⟨a, b⟩ | ⟨a, b⟩
      · exact .inl ⟨a, fun _ => b⟩
      · exact .inr ⟨a, rfl, b⟩
    · left
      exact ⟨by unfold dueReady; rw [if_pos hr], fun h => Bool.noConfusion h⟩
  have top := sum_top r.begun A.ready
  rw [e]
  generalize sumI r.begun (A.says.getD r.said.toNat (0, ByteArray.empty)).1 = S at *
  generalize sumI r.begun A.ready = Y at *
  generalize (endsP A r).1 = Z at *
  generalize dueReady A r = dr at *
  generalize dueSays A r = ds at *
  rcases soon_cases dr Z 3 with ⟨a, b⟩ | ⟨a, b⟩
  · rw [a]
    rcases er with ⟨rfl, g⟩ | ⟨rfl, g, g'⟩
    · rcases es with ⟨rfl, f⟩ | ⟨rfl, f1, f2, f3⟩
      · exact .inl rfl
      · exact .inr ⟨hp, f3, fun _ => Int.le_refl _, g, b, .inl ⟨rfl, f1, f2, rfl⟩⟩
    · rcases es with ⟨rfl, f⟩ | ⟨rfl, f1, f2, f3⟩
      · exact .inr ⟨hp, g', fun h => Int.le_trans (Int.le_of_lt g') (f h), fun _ => Int.le_refl _, b, .inr (.inl ⟨rfl, g, rfl⟩)⟩
      · exact .inr ⟨hp, Int.lt_trans g' f3, fun _ => Int.le_of_lt g', fun _ => Int.le_refl _, b, .inr (.inl ⟨rfl, g, rfl⟩)⟩
  · rw [a]
    rcases er with ⟨rfl, g⟩ | ⟨rfl, g, g'⟩
    · rcases es with ⟨rfl, f⟩ | ⟨rfl, f1, f2, f3⟩
      · exact .inr ⟨hp, b, fun h => Int.le_trans (Int.le_of_lt b) (f h), fun h => Int.le_trans (Int.le_of_lt b) (g h), Int.le_refl _, .inr (.inr ⟨rfl, rfl⟩)⟩
      · exact .inr ⟨hp, Int.lt_trans b f3, fun _ => Int.le_of_lt b, fun h => Int.le_trans (Int.le_of_lt b) (g h), Int.le_refl _, .inr (.inr ⟨rfl, rfl⟩)⟩
    · rcases es with ⟨rfl, f⟩ | ⟨rfl, f1, f2, f3⟩
      · exact .inr ⟨hp, Int.lt_trans b g', fun h => Int.le_trans (Int.le_of_lt (Int.lt_trans b g')) (f h), fun _ => Int.le_of_lt b, Int.le_refl _, .inr (.inr ⟨rfl, rfl⟩)⟩
      · exact .inr ⟨hp, Int.lt_trans b (Int.lt_trans g' f3), fun _ => Int.le_of_lt (Int.lt_trans b g'), fun _ => Int.le_of_lt b, Int.le_refl _, .inr (.inr ⟨rfl, rfl⟩)⟩

theorem due_none {A : ActM} {r : RunM} (h : (dueP A r).2 = 0) : dueP A r = (1099511627776, 0) := by
  rcases due_cases A r with h1 | ⟨-, -, -, -, -, ⟨h1, -⟩ | ⟨h1, -⟩ | ⟨h1, -⟩⟩
  · exact h1
  all_goals (rw [h] at h1; exact absurd h1 (by decide))

theorem due_ended {A : ActM} {r : RunM} (h : pend A r = 0) : dueP A r = (1099511627776, 0) := by
  have : r.part ≤ 0 := by
    unfold pend at h
    by_cases hp : r.part ≤ 0
    · exact hp
    · rw [if_neg hp] at h; omega
  unfold dueP; rw [if_pos this]

theorem ord_ge {A : ActM} {r : RunM} {now last : Int} (h : OrdI A r now last) (hw : (dueP A r).2 ≠ 0) : last ≤ (dueP A r).1 := by
  obtain ⟨h0, h1, hp | ⟨hp, hb, hs0, hs1, g1, g2, g3⟩⟩ := h
  · exact absurd (by unfold dueP; rw [if_pos hp]) hw
  rcases due_cases A r with e | ⟨-, -, -, -, -, ⟨-, a, b, c⟩ | ⟨-, a, b⟩ | ⟨-, a⟩⟩
  · rw [e] at hw; exact absurd rfl hw
  · rw [c, hb]; exact g1 b
  · rw [b, hb]; exact g2 a
  · rw [a]; exact g3

theorem ord_begin {A : ActM} {now : Int} (h : MayNow A now) : OrdI A ⟨2, 0, now, -1, 0, false⟩ now now := by
  obtain ⟨⟨hl, hr, -, -, hs⟩, hn, hn'⟩ := h
  refine ⟨hn, by omega, .inr ⟨rfl, rfl, by simp, by simp, fun h => ?_, fun _ => sum_ge _ _ hn (by omega) (span_ge hr), ?_⟩⟩
  · refine sum_ge _ _ hn (by omega) ?_
    simp at h
    exact (hs 0 h).1
  · rw [ends_own A ⟨2, 0, now, -1, 0, false⟩ (by simp) (by simp)]
    exact sum_ge _ _ hn (by omega) (span_ge hl)

theorem pend_begin (A : ActM) (now : Int) : pend A ⟨2, 0, now, -1, 0, false⟩ = A.says.length + 2 := by
  simp [pend]

theorem ord_tell {A : ActM} {r : RunM} {now last at_ : Int} (hm : MayNow A now) (h : OrdI A r now last) (h1 : last ≤ at_) (h2 : at_ ≤ 1099511627776) : OrdI A (tellP r at_) now last ∧ pend A (tellP r at_) = pend A r := by
  obtain ⟨⟨-, -, hd, -, -⟩, -, -⟩ := hm
  unfold tellP
  by_cases ht : 0 < r.part ∧ r.told < 0
  · rw [if_pos ht]
    obtain ⟨h0, h3, hp | ⟨hp, hb, hs0, hs1, g1, g2, g3⟩⟩ := h
    · exact absurd ht.1 (by omega)
    refine ⟨⟨h0, h3, .inr ⟨hp, hb, hs0, hs1, g1, g2, ?_⟩⟩, rfl⟩
    rw [ends_told A { r with told := at_ } (by simp only []; omega) (by simp only []; omega)]
    rw [ends_own A r (by omega) ht.2] at g3
    have := sum_ge at_ A.dies (by omega) h2 (span_ge hd)
    simp only []
    omega
  · rw [if_neg ht]
    exact ⟨h, rfl⟩

theorem ord_do {A : ActM} {r : RunM} {now last : Int} (hm : MayNow A now) (h : OrdI A r now last) (hw : (dueP A r).2 ≠ 0) : OrdI A (doP A r).1 now (dueP A r).1 ∧ pend A (doP A r).1 + 1 ≤ pend A r := by
  have hge := ord_ge h hw
  obtain ⟨⟨-, -, -, -, hs⟩, -, -⟩ := hm
  obtain ⟨h0, h1, hp | ⟨hp, hb, hs0, hs1, g1, g2, g3⟩⟩ := h
  · exact absurd (by unfold dueP; rw [if_pos hp]) hw
  rcases due_cases A r with e | ⟨hp', ht, k1, k2, k3, ⟨e, a, b, c⟩ | ⟨e, a, b⟩ | ⟨e, a⟩⟩
  · rw [e] at hw; exact absurd rfl hw
  · have ed : (doP A r).1 = { r with said := r.said + 1 } := by unfold doP; rw [if_pos e]
    rw [ed]
    refine ⟨⟨by omega, by omega, .inr ⟨hp, hb, by simp only []; omega, by simp only []; omega, fun hlt => ?_, fun hr => by rw [← hb]; exact k2 hr, k3⟩⟩, ?_⟩
    · simp only [] at hlt ⊢
      rw [c, hb]
      refine sum_mono_r _ _ _ ?_
      have hj : (r.said + 1).toNat = r.said.toNat + 1 := by omega
      have := (hs (r.said + 1).toNat (by omega)).2.2 (by omega)
      rw [hj] at this ⊢
      simpa using this
    · unfold pend
      rw [if_neg hp', if_neg hp']
      simp only []
      omega
  · have ed : (doP A r).1 = { r with ready := true } := by unfold doP; rw [if_neg (by rw [e]; decide), if_pos e]
    rw [ed]
    refine ⟨⟨by omega, by omega, .inr ⟨hp, hb, hs0, hs1, fun hlt => by rw [← hb]; exact k1 ⟨hs0, hlt⟩, fun hr => Bool.noConfusion hr, k3⟩⟩, ?_⟩
    unfold pend
    rw [if_neg hp', if_neg hp']
    simp only []
    rw [a]
    simp
  · have ed : (doP A r).1 = zeroP := by unfold doP; rw [if_neg (by rw [e]; decide), if_neg (by rw [e]; decide), if_pos e]
    rw [ed]
    refine ⟨⟨by omega, by omega, .inl (by decide)⟩, ?_⟩
    unfold pend
    rw [if_neg hp', if_pos (by decide)]
    omega

end Go.Proofs.Ytohgnmpmledljaa
