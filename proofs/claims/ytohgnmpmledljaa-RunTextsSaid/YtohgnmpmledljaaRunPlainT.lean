/-
  The plain law of RunTexts: in numbers alone.
-/
import Derived.Test.YtohgnmpmledljaaRunPlain
namespace Go.Proofs.Ytohgnmpmledljaa

theorem due_strict (A : ActM) (r : RunM) (hp : ¬ r.part ≤ 0) :
    ((dueP A r).2 = 0 → (0 ≤ r.said ∧ r.said < A.says.length → 1099511627776 ≤ sumI r.begun (A.says.getD r.said.toNat (0, ByteArray.empty)).1) ∧ (r.ready = false → 1099511627776 ≤ sumI r.begun A.ready)) ∧
    ((dueP A r).2 = 3 → (0 ≤ r.said ∧ r.said < A.says.length → (endsP A r).1 < sumI r.begun (A.says.getD r.said.toNat (0, ByteArray.empty)).1) ∧ (r.ready = false → (endsP A r).1 < sumI r.begun A.ready)) := by
  have e : dueP A r = soonB (dueReady A r) (endsP A r).1 3 := by unfold dueP; rw [if_neg hp]
  have es : (dueSays A r = (1099511627776, 0) ∧ (0 ≤ r.said ∧ r.said < A.says.length → 1099511627776 ≤ sumI r.begun (A.says.getD r.said.toNat (0, ByteArray.empty)).1)) ∨
      (dueSays A r = (sumI r.begun (A.says.getD r.said.toNat (0, ByteArray.empty)).1, 1)) := by
    by_cases h : 0 ≤ r.said ∧ r.said < A.says.length
    · have e1 : dueSays A r = soonB (1099511627776, 0) (sumI r.begun (A.says.getD r.said.toNat (0, ByteArray.empty)).1) 1 := by unfold dueSays; rw [if_pos h]
      rw [e1]
      rcases soon_cases (1099511627776, 0) (sumI r.begun (A.says.getD r.said.toNat (0, ByteArray.empty)).1) 1 with ⟨a, b⟩ | ⟨a, b⟩
      · exact .inl ⟨a, fun _ => b⟩
      · exact .inr a
    · left
      refine ⟨by unfold dueSays; rw [if_neg h], fun h' => absurd h' h⟩
  have et : (dueSays A r).1 ≤ 1099511627776 := by
    rcases es with ⟨h, -⟩ | h
    · rw [h]; exact Int.le_refl _
    · rw [h]; exact sum_top _ _
  have ek : (dueSays A r).2 = 0 ∨ (dueSays A r).2 = 1 := by
    rcases es with ⟨h, -⟩ | h
    · rw [h]; exact .inl rfl
    · rw [h]; exact .inr rfl
  have er : (dueReady A r = dueSays A r ∧ (r.ready = false → (dueSays A r).1 ≤ sumI r.begun A.ready)) ∨ (dueReady A r = (sumI r.begun A.ready, 2) ∧ r.ready = false ∧ sumI r.begun A.ready < (dueSays A r).1) := by
    cases hr : r.ready
    · have e1 : dueReady A r = soonB (dueSays A r) (sumI r.begun A.ready) 2 := by unfold dueReady; rw [hr]; rfl
      rw [e1]
      rcases soon_cases (dueSays A r) (sumI r.begun A.ready) 2 with ⟨a, b⟩ | ⟨a, b⟩
      · exact .inl ⟨a, fun _ => b⟩
      · exact .inr ⟨a, rfl, b⟩
    · left
      exact ⟨by unfold dueReady; rw [if_pos hr], fun h => Bool.noConfusion h⟩
  have es' : 0 ≤ r.said ∧ r.said < A.says.length → (dueSays A r).1 ≤ sumI r.begun (A.says.getD r.said.toNat (0, ByteArray.empty)).1 := by
    intro h
    rcases es with ⟨e, g⟩ | e
    · rw [e]; exact g h
    · rw [e]; exact Int.le_refl _
  have ez : (dueSays A r).2 = 0 → (dueSays A r).1 = 1099511627776 := by
    intro h
    rcases es with ⟨e, g⟩ | e
    · rw [e]
    · rw [e] at h; exact absurd h (by simp)
  rw [e]
  generalize sumI r.begun (A.says.getD r.said.toNat (0, ByteArray.empty)).1 = S at *
  generalize sumI r.begun A.ready = Y at *
  generalize (endsP A r).1 = Z at *
  generalize dueReady A r = dr at *
  generalize dueSays A r = ds at *
  clear e es
  rcases soon_cases dr Z 3 with ⟨a, b⟩ | ⟨a, b⟩
  · rw [a]
    rcases er with ⟨rfl, g⟩ | ⟨rfl, g, g'⟩
    · refine ⟨fun h => ?_, fun h => ?_⟩
      · rw [ez h] at es' g
        exact ⟨es', g⟩
      · rcases ek with k | k <;> rw [k] at h <;> exact absurd h (by decide)
    · exact ⟨fun h => absurd h (by simp), fun h => absurd h (by simp)⟩
  · rw [a]
    refine ⟨fun h => absurd h (by simp), fun _ => ?_⟩
    rcases er with ⟨rfl, g⟩ | ⟨rfl, g, g'⟩
    · exact ⟨fun h => Int.lt_of_lt_of_le b (es' h), fun h => Int.lt_of_lt_of_le b (g h)⟩
    · exact ⟨fun h => Int.lt_trans b (Int.lt_of_lt_of_le g' (es' h)), fun _ => b⟩

/-- text j is due up to the end -/
def inTime (A : ActM) (now e : Int) (j : Nat) : Prop := sumI now (A.says.getD j (0, ByteArray.empty)).1 ≤ e ∧ sumI now (A.says.getD j (0, ByteArray.empty)).1 < 1099511627776
def readyIn (A : ActM) (now e : Int) : Prop := sumI now A.ready ≤ e ∧ sumI now A.ready < 1099511627776

def Closed (A : ActM) (now e : Int) (n : Nat) (rd : Bool) : Prop := (∀ j, n ≤ j → j < A.says.length → ¬ inTime A now e j) ∧ (rd = false → ¬ readyIn A now e)

def TxI (A : ActM) (r : RunM) (now e : Int) (n : Nat) (rd : Bool) (k : Nat) : Prop :=
  n ≤ A.says.length ∧ (∀ j, j < n → inTime A now e j) ∧ (rd = true → readyIn A now e) ∧
  ((r.part = 2 ∧ r.begun = now ∧ r.said = n ∧ r.ready = rd ∧ (endsP A r).1 = e ∧ (pend A r + k ≤ A.says.length + 2 ∨ (dueP A r).2 = 0)) ∨ (r.part ≤ 0 ∧ Closed A now e n rd))

theorem says_mono {A : ActM} (hs : SaysOk A.says A.says.length) : ∀ (d n : Nat), n + d < A.says.length → (A.says.getD n (0, ByteArray.empty)).1 ≤ (A.says.getD (n + d) (0, ByteArray.empty)).1
  | 0, n, _ => Int.le_refl _
  | d + 1, n, h => by
    have h1 := says_mono hs d n (by omega)
    have h2 := (hs (n + (d + 1)) h).2.2 (by omega)
    have e : n + (d + 1) - 1 = n + d := by omega
    rw [e] at h2
    exact Int.le_trans h1 h2

theorem closed_of {A : ActM} (hs : SaysOk A.says A.says.length) {now e : Int} {n : Nat} {rd : Bool} (h1 : n < A.says.length → ¬ inTime A now e n) (h2 : rd = false → ¬ readyIn A now e) : Closed A now e n rd := by
  refine ⟨fun j hj hl hin => h1 (by omega) ?_, h2⟩
  obtain ⟨d, rfl⟩ : ∃ d, j = n + d := ⟨j - n, by omega⟩
  have := sum_mono_r now _ _ (says_mono hs d n hl)
  unfold inTime at *
  omega

theorem tx_one {A : ActM} {r : RunM} {now e : Int} {n : Nat} {rd : Bool} {k : Nat} (h : TxI A r now e n rd k) (hw : (dueP A r).2 = 1) :
    n < A.says.length ∧ (doP A r).2 = (A.says.getD n (0, ByteArray.empty)).2 ∧ (dueP A r).1 = sumI now (A.says.getD n (0, ByteArray.empty)).1 ∧ (dueP A r).1 ≤ e ∧ TxI A (doP A r).1 now e (n + 1) rd (k + 1) := by
  obtain ⟨hn, ha, hr, ⟨hp, hb, hs, hy, he, hk⟩ | ⟨hp, -⟩⟩ := h
  · have hp' : ¬ r.part ≤ 0 := by omega
    rcases due_cases A r with c | ⟨-, ht, k1, k2, k3, ⟨c, a, b, d⟩ | ⟨c, a, b⟩ | ⟨c, a⟩⟩
    · rw [c] at hw; exact absurd hw (by decide)
    · have ed : doP A r = ({ r with said := r.said + 1 }, (A.says.getD r.said.toNat (0, ByteArray.empty)).2) := by unfold doP; rw [if_pos c]
      have hsn : r.said.toNat = n := by omega
      rw [hsn, hb] at d
      rw [ed, hsn]
      refine ⟨by omega, rfl, d, by rw [← he]; exact k3, by omega, fun j hj => ?_, hr, .inl ⟨hp, hb, by simp only []; omega, hy, he, .inl ?_⟩⟩
      · by_cases hjn : j = n
        · subst hjn
          unfold inTime
          rw [← d, ← he]
          exact ⟨k3, ht⟩
        · exact ha j (by omega)
      · rcases hk with hk | hk
        · unfold pend at hk ⊢
          rw [if_neg hp'] at hk
          rw [if_neg hp']
          simp only []
          omega
        · rw [hw] at hk; exact absurd hk (by decide)
    · rw [c] at hw; exact absurd hw (by decide)
    · rw [c] at hw; exact absurd hw (by decide)
  · unfold dueP at hw; rw [if_pos hp] at hw; exact absurd hw (by decide)

theorem tx_two {A : ActM} {r : RunM} {now e : Int} {n : Nat} {rd : Bool} {k : Nat} (h : TxI A r now e n rd k) (hw : (dueP A r).2 = 2) :
    rd = false ∧ (dueP A r).1 = sumI now A.ready ∧ (dueP A r).1 ≤ e ∧ TxI A (doP A r).1 now e n true (k + 1) := by
  obtain ⟨hn, ha, hr, ⟨hp, hb, hs, hy, he, hk⟩ | ⟨hp, -⟩⟩ := h
  · have hp' : ¬ r.part ≤ 0 := by omega
    rcases due_cases A r with c | ⟨-, ht, k1, k2, k3, ⟨c, a, b, d⟩ | ⟨c, a, b⟩ | ⟨c, a⟩⟩
    · rw [c] at hw; exact absurd hw (by decide)
    · rw [c] at hw; exact absurd hw (by decide)
    · have ed : (doP A r).1 = { r with ready := true } := by unfold doP; rw [if_neg (by rw [c]; decide), if_pos c]
      rw [hb] at b
      rw [ed]
      refine ⟨by rw [← hy]; exact a, b, by rw [← he]; exact k3, hn, ha, fun _ => ?_, .inl ⟨hp, hb, hs, rfl, he, .inl ?_⟩⟩
      · unfold readyIn
        rw [← b, ← he]
        exact ⟨k3, ht⟩
      · rcases hk with hk | hk
        · unfold pend at hk ⊢
          rw [if_neg hp'] at hk
          rw [if_neg hp']
          rw [a] at hk
          simp only [] at hk ⊢
          simp at hk ⊢
          omega
        · rw [hw] at hk; exact absurd hk (by decide)
    · rw [c] at hw; exact absurd hw (by decide)
  · unfold dueP at hw; rw [if_pos hp] at hw; exact absurd hw (by decide)

theorem tx_other {A : ActM} {r : RunM} {now e : Int} {n : Nat} {rd : Bool} {k : Nat} (hm : SaysOk A.says A.says.length) (h : TxI A r now e n rd k) (h1 : (dueP A r).2 ≠ 1) (h2 : (dueP A r).2 ≠ 2) : TxI A (doP A r).1 now e n rd (k + 1) := by
  obtain ⟨hn, ha, hr, ⟨hp, hb, hs, hy, he, hk⟩ | ⟨hp, hcl⟩⟩ := h
  · have hp' : ¬ r.part ≤ 0 := by omega
    by_cases h3 : (dueP A r).2 = 3
    · have ed : (doP A r).1 = zeroP := by unfold doP; rw [if_neg h1, if_neg h2, if_pos h3]
      rw [ed]
      obtain ⟨s1, s2⟩ := (due_strict A r hp').2 h3
      have hsn : r.said.toNat = n := by omega
      rw [hsn, hb, he] at s1
      rw [hb, he, hy] at s2
      refine ⟨hn, ha, hr, .inr ⟨by decide, closed_of hm (fun hl hin => ?_) (fun hf hin => ?_)⟩⟩
      · have := s1 ⟨by omega, by omega⟩
        unfold inTime at hin; omega
      · have := s2 hf
        unfold readyIn at hin; omega
    · have ed : (doP A r).1 = r := by unfold doP; rw [if_neg h1, if_neg h2, if_neg h3]
      have h0 : (dueP A r).2 = 0 := by
        rcases due_what A r with g | g | g | g
        · exact g
        · exact absurd g h1
        · exact absurd g h2
        · exact absurd g h3
      rw [ed]
      exact ⟨hn, ha, hr, .inl ⟨hp, hb, hs, hy, he, .inr h0⟩⟩
  · have h0 : dueP A r = (1099511627776, 0) := by unfold dueP; rw [if_pos hp]
    have ed : (doP A r).1 = r := by unfold doP; rw [h0]; rfl
    rw [ed]
    exact ⟨hn, ha, hr, .inr ⟨hp, hcl⟩⟩

theorem tx_end {A : ActM} {r : RunM} {now e : Int} {n : Nat} {rd : Bool} {k : Nat} (hm : SaysOk A.says A.says.length) (h : TxI A r now e n rd k) (hk : A.says.length + 2 ≤ k) :
    n ≤ A.says.length ∧ (∀ j, j < A.says.length → (inTime A now e j ↔ j < n)) ∧ (readyIn A now e ↔ rd = true) := by
  obtain ⟨hn, ha, hr, h⟩ := h
  have hc : Closed A now e n rd := by
    rcases h with ⟨hp, hb, hs, hy, he, hk'⟩ | ⟨-, hc⟩
    · have hp' : ¬ r.part ≤ 0 := by omega
      have h0 : (dueP A r).2 = 0 := by
        rcases hk' with hk' | hk'
        · unfold pend at hk'
          rw [if_neg hp'] at hk'
          omega
        · exact hk'
      obtain ⟨s1, s2⟩ := (due_strict A r hp').1 h0
      have hsn : r.said.toNat = n := by omega
      rw [hsn, hb] at s1
      rw [hb, hy] at s2
      refine closed_of hm (fun hl hin => ?_) (fun hf hin => ?_)
      · have := s1 ⟨by omega, by omega⟩
        unfold inTime at hin; omega
      · have := s2 hf
        unfold readyIn at hin; omega
    · exact hc
  refine ⟨hn, fun j hj => ⟨fun hin => ?_, ha j⟩, fun hin => ?_, hr⟩
  · by_cases hjn : j < n
    · exact hjn
    · exact absurd hin (hc.1 j (by omega) hj)
  · cases rd
    · exact absurd hin (hc.2 rfl)
    · rfl

theorem tx_begin (A : ActM) (now told : Int) : TxI A ⟨2, 0, now, told, 0, false⟩ now (endsP A ⟨2, 0, now, told, 0, false⟩).1 0 false 0 := by
  refine ⟨Nat.zero_le _, fun j hj => absurd hj (Nat.not_lt_zero _), fun h => Bool.noConfusion h, .inl ⟨rfl, rfl, rfl, rfl, rfl, .inl ?_⟩⟩
  simp [pend]

end Go.Proofs.Ytohgnmpmledljaa
