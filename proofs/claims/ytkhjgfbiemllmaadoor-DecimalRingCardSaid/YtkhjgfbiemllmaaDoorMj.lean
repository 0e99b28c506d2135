/- Decimal: the plain laws of right decimals. -/
import Derived.Test.YtkhjgfbiemllmaaDoorMi
namespace Go.Proofs.YtkhjgfbiemllmaaDoor
set_option linter.unusedSimpArgs false
set_option linter.unusedVariables false
open Go.RowKit

theorem strip_mul (j k N : Nat) (h : k = 0 ∨ N % 10 ≠ 0) : strip (k + j) (N * 10 ^ j) = (N, k) := by
  induction j with
  | zero => rw [Nat.pow_zero, Nat.mul_one, Nat.add_zero, strip_stop _ _ h]
  | succ j ih =>
    have e : N * 10 ^ (j + 1) = (N * 10 ^ j) * 10 := by rw [Nat.pow_succ, Nat.mul_assoc]
    rw [show k + (j + 1) = (k + j) + 1 by omega, strip_step _ _ (by rw [e]; omega), e, Nat.mul_div_cancel _ (by omega)]
    exact ih
theorem pow_pos10 (j : Nat) : 0 < 10 ^ j := Nat.pow_pos (by omega)
theorem powZ_pos (j : Nat) : (0 : Int) < ((10 ^ j : Nat) : Int) := by have := pow_pos10 j; omega
theorem neg_mul_pow (n : Int) (j : Nat) : decide (n * ((10 ^ j : Nat) : Int) < 0) = decide (n < 0) := by
  have hp := powZ_pos j
  apply decide_eq_decide.2
  constructor
  · intro h
    rcases Int.lt_or_le n 0 with h1 | h1
    · exact h1
    · have := Int.mul_nonneg h1 (Int.le_of_lt hp)
      omega
  · intro h
    exact Int.mul_neg_of_neg_of_pos h hp
theorem sgn_self (n : Int) : sgn (decide (n < 0)) n.natAbs = n := by
  unfold sgn
  by_cases h : n < 0
  · simp only [h, decide_true, if_true]; omega
  · simp only [h, decide_false, Bool.false_eq_true, if_false]; omega
/-- A number that is a right decimal is made as that. -/
theorem mkD_of_right (n : Int) (k s : Nat) (z : Int) (h : rightB n k = true) (hk : k ≤ s) (hz : z = n * ((10 ^ (s - k) : Nat) : Int)) : mkD z s = ⟨n, k, true⟩ := by
  have hb := rightB_bd h
  have hd : k = 0 ∨ n.natAbs % 10 ≠ 0 := by
    rcases hb.2.2.2.2 with h | h
    · left; omega
    · right; intro e; exact h ((tmod10 n).2 e)
  have hN : z.natAbs = n.natAbs * 10 ^ (s - k) := by rw [hz, Int.natAbs_mul, Int.natAbs_natCast]
  have hs := strip_mul (s - k) k n.natAbs hd
  rw [show k + (s - k) = s by omega] at hs
  unfold mkD
  rw [hN, hs, if_pos ⟨by omega, by omega⟩, hz, neg_mul_pow, sgn_self]
/-- What a made decimal says. -/
theorem mkD_eq {z : Int} {s : Nat} (h : (mkD z s).ok = true) : ∃ k : Nat, (mkD z s).s = k ∧ k ≤ s ∧ k ≤ 6 ∧ (mkD z s).n * ((10 ^ (s - k) : Nat) : Int) = z := by
  obtain ⟨h1, h2, h3⟩ := mkD_ok h
  obtain ⟨e1, e2⟩ := strip_eq s z.natAbs
  refine ⟨(strip s z.natAbs).2, by rw [h3], e1, h2, ?_⟩
  rw [h3]
  simp only
  have hs := neg_mul_pow
  by_cases hz : z < 0
  · unfold sgn
    rw [decide_eq_true hz, if_pos rfl, Int.neg_mul]
    have : ((strip s z.natAbs).1 : Int) * ((10 ^ (s - (strip s z.natAbs).2) : Nat) : Int) = z.natAbs := by rw [← Int.natCast_mul, ← e2]
    omega
  · unfold sgn
    rw [decide_eq_false hz, if_neg (by simp)]
    have : ((strip s z.natAbs).1 : Int) * ((10 ^ (s - (strip s z.natAbs).2) : Nat) : Int) = z.natAbs := by rw [← Int.natCast_mul, ← e2]
    omega
theorem mkD_ok_small (z : Int) (s : Nat) (hs : s ≤ 6) (hz : z.natAbs ≤ 1000000000000000) : (mkD z s).ok = true := by
  have := strip_le s z.natAbs
  unfold mkD
  rw [if_pos ⟨by omega, by omega⟩]
theorem unitZ_right {n s : Int} (h : rightB n s = true) : unitZ n s = n * ((10 ^ (6 - s.toNat) : Nat) : Int) := by
  unfold unitZ
  rw [h, if_pos rfl]
theorem unit_mkD {z : Int} {s : Nat} (hs : s ≤ 6) (h : (mkD z s).ok = true) : unitZ (mkD z s).n (mkD z s).s = z * ((10 ^ (6 - s) : Nat) : Int) := by
  rw [unitZ_right (mkD_right h)]
  obtain ⟨k, e1, e2, e3, e4⟩ := mkD_eq h
  clear h
  generalize mkD z s = r at *
  rw [e1, ← e4, Int.mul_assoc, ← Int.natCast_mul, ← Nat.pow_add, Int.toNat_natCast, show s - k + (6 - s) = 6 - k by omega]
theorem unit_inj {n s n' s' : Int} (h : rightB n s = true) (h' : rightB n' s' = true) (e : unitZ n s = unitZ n' s') : n = n' ∧ s = s' := by
  have b := rightB_bd h
  have b' := rightB_bd h'
  obtain ⟨k, rfl⟩ : ∃ k : Nat, s = k := ⟨s.toNat, by omega⟩
  obtain ⟨k', rfl⟩ : ∃ k : Nat, s' = k := ⟨s'.toNat, by omega⟩
  have m1 := mkD_of_right n k 6 (unitZ n k) h (by omega) (unitZ_right h)
  have m2 := mkD_of_right n' k' 6 (unitZ n' k') h' (by omega) (unitZ_right h')
  rw [e, m2] at m1
  injection m1 with q1 q2
  exact ⟨q1.symm, q2.symm⟩
theorem mkD_unit {n s : Int} (h : rightB n s = true) : mkD (unitZ n s) 6 = ⟨n, s, true⟩ := by
  have b := rightB_bd h
  obtain ⟨k, rfl⟩ : ∃ k : Nat, s = k := ⟨s.toNat, by omega⟩
  exact mkD_of_right n k 6 _ h (by omega) (unitZ_right h)
theorem right_int (m : Int) (h : m.natAbs ≤ 1000000000000000) : rightB m 0 = true := by
  unfold rightB
  exact decide_eq_true ⟨by omega, by omega, by omega, by omega, Or.inl rfl⟩
theorem unit_int (m : Int) (h : m.natAbs ≤ 1000000000000000) : unitZ m 0 = m * 1000000 := by
  rw [unitZ_right (right_int m h)]; rfl
theorem makeD_int (m : Int) (h : m.natAbs ≤ 1000000000000000) : makeD m 0 = ⟨m, 0, true⟩ := by
  unfold makeD
  rw [if_pos (by omega)]
  exact mkD_of_right m 0 0 m (right_int m h) (by omega) (by simp)
theorem addD_int (m n : Int) (h1 : m.natAbs ≤ 10000000) (h2 : n.natAbs ≤ 10000000) : addD m 0 n 0 = ⟨m + n, 0, true⟩ := by
  unfold addD
  rw [unit_int m (by omega), unit_int n (by omega)]
  exact mkD_of_right (m + n) 0 6 _ (right_int _ (by omega)) (by omega) (by rw [← Int.add_mul]; rfl)
theorem mulD_int (m n : Int) (h1 : m.natAbs ≤ 10000000) (h2 : n.natAbs ≤ 10000000) : mulD m 0 n 0 = ⟨m * n, 0, true⟩ := by
  unfold mulD
  obtain ⟨a1, a2⟩ := kn_of (right_int m (by omega))
  obtain ⟨b1, b2⟩ := kn_of (right_int n (by omega))
  rw [a1, b1, show knS m 0 = 0 by omega, show knS n 0 = 0 by omega]
  have hb : (m * n).natAbs ≤ 10000000 * 10000000 := by rw [Int.natAbs_mul]; exact Nat.mul_le_mul h1 h2
  exact mkD_of_right (m * n) 0 0 _ (right_int _ (by omega)) (by omega) (by simp)
end Go.Proofs.YtkhjgfbiemllmaaDoor
