/- Decimal: plain facts about the numbers. -/
import Derived.Test.YtkhjgfbiemllmaaDoorMh
namespace Go.Proofs.YtkhjgfbiemllmaaDoor
set_option linter.unusedSimpArgs false
set_option linter.unusedVariables false
open Go.RowKit

theorem strip_done (s N : Nat) : (strip s N).2 = 0 ∨ (strip s N).1 % 10 ≠ 0 := by
  induction s generalizing N with
  | zero => left; rfl
  | succ s ih =>
    by_cases h : N % 10 = 0
    · rw [strip_step _ _ h]; exact ih _
    · rw [strip_stop _ _ (Or.inr h)]; exact Or.inr h
theorem strip_eq (s N : Nat) : (strip s N).2 ≤ s ∧ N = (strip s N).1 * 10 ^ (s - (strip s N).2) := by
  induction s generalizing N with
  | zero => exact ⟨Nat.le_refl _, by rw [strip_stop _ _ (Or.inl rfl)]; simp⟩
  | succ s ih =>
    by_cases h : N % 10 = 0
    · rw [strip_step _ _ h]
      have := ih (N / 10)
      refine ⟨by omega, ?_⟩
      rw [show s + 1 - (strip s (N / 10)).2 = (s - (strip s (N / 10)).2) + 1 by omega, Nat.pow_succ, ← Nat.mul_assoc, ← this.2]
      omega
    · rw [strip_stop _ _ (Or.inr h)]
      exact ⟨Nat.le_refl _, by simp⟩
theorem sgn_natAbs (neg : Bool) (N : Nat) : (sgn neg N).natAbs = N := by unfold sgn; cases neg <;> simp
theorem mkD_ok {z : Int} {s : Nat} (h : (mkD z s).ok = true) : (strip s z.natAbs).1 ≤ 1000000000000000 ∧ (strip s z.natAbs).2 ≤ 6 ∧ mkD z s = ⟨sgn (decide (z < 0)) (strip s z.natAbs).1, ((strip s z.natAbs).2 : Nat), true⟩ := by
  unfold mkD at *
  by_cases hc : (strip s z.natAbs).1 ≤ 1000000000000000 ∧ (strip s z.natAbs).2 ≤ 6
  · rw [if_pos hc]; exact ⟨hc.1, hc.2, rfl⟩
  · rw [if_neg hc] at h; exact absurd h (by simp [noR])
theorem mkD_right {z : Int} {s : Nat} (h : (mkD z s).ok = true) : rightB (mkD z s).n (mkD z s).s = true := by
  obtain ⟨h1, h2, h3⟩ := mkD_ok h
  rw [h3]
  unfold rightB
  apply decide_eq_true
  have hn := sgn_natAbs (decide (z < 0)) (strip s z.natAbs).1
  simp only
  refine ⟨by omega, by omega, by omega, by omega, ?_⟩
  rcases strip_done s z.natAbs with h | h
  · left; omega
  · right
    intro e
    rw [tmod10, hn] at e
    exact h e
theorem right_zero : rightB 0 0 = true := by decide +kernel
theorem mkD_right' (z : Int) (s : Nat) : rightB (mkD z s).n (mkD z s).s = true := by
  cases h : (mkD z s).ok
  · unfold mkD at *
    by_cases hc : (strip s z.natAbs).1 ≤ 1000000000000000 ∧ (strip s z.natAbs).2 ≤ 6
    · rw [if_pos hc] at h; simp at h
    · rw [if_neg hc]; exact right_zero
  · exact mkD_right h
theorem makeD_right (n s : Int) : rightB (makeD n s).n (makeD n s).s = true := by
  unfold makeD
  split
  · exact mkD_right' _ _
  · exact right_zero
end Go.Proofs.YtkhjgfbiemllmaaDoor
