/- Decimal: Of, Add, Sub, Mul, Right in plain numbers. -/
import Derived.Test.YtkhjgfbiemllmaaDoorLj
import Derived.Test.YtkhjgfbiemllmaaDoorMc
namespace Go.Proofs.YtkhjgfbiemllmaaDoor
open Go.RowKit

theorem of_c (n : Int) (w : World) (h1 : -9223372036854775808 ≤ n) (h2 : n ≤ 9223372036854775807) :
    Calls Tryd.prog 12 #[.int .i64 n] w fun e w' => e = .returned (.tuple #[.agg #[.int .i64 (makeD n 0).n, .int .i64 (makeD n 0).s], .bool (makeD n 0).ok]) ∧ Kb (fun _ => False) w w' := by
  have h := dof_any n w h1 h2
  rw [fitV_mkD] at h
  exact h
def addD (n1 s1 n2 s2 : Int) : DR := mkD (unitZ n1 s1 + unitZ n2 s2) 6
def subD (n1 s1 n2 s2 : Int) : DR := mkD (unitZ n1 s1 - unitZ n2 s2) 6
def mulD (n1 s1 n2 s2 : Int) : DR := mkD (knN n1 s1 * knN n2 s2) (knS n1 s1 + knS n2 s2)
theorem add_c (n1 s1 n2 s2 : Int) (w : World) (env : Env w) :
    Calls Tryd.prog 17 #[.agg #[.int .i64 n1, .int .i64 s1], .agg #[.int .i64 n2, .int .i64 s2]] w fun e w' => e = .returned (.tuple #[.agg #[.int .i64 (addD n1 s1 n2 s2).n, .int .i64 (addD n1 s1 n2 s2).s], .bool (addD n1 s1 n2 s2).ok]) ∧ Kb (fun _ => False) w w' := by
  have h := dadd_any n1 s1 n2 s2 w env
  rw [fitV_mkD] at h
  exact h
theorem sub_c (n1 s1 n2 s2 : Int) (w : World) (env : Env w) :
    Calls Tryd.prog 23 #[.agg #[.int .i64 n1, .int .i64 s1], .agg #[.int .i64 n2, .int .i64 s2]] w fun e w' => e = .returned (.tuple #[.agg #[.int .i64 (subD n1 s1 n2 s2).n, .int .i64 (subD n1 s1 n2 s2).s], .bool (subD n1 s1 n2 s2).ok]) ∧ Kb (fun _ => False) w w' := by
  have h := dsub_any n1 s1 n2 s2 w env
  rw [fitV_mkD] at h
  exact h
theorem mul_sign (a b : Int) (s : Nat) : fitV (decide (a < 0) != decide (b < 0)) (a.natAbs * b.natAbs) s = fitV (decide (a * b < 0)) (a * b).natAbs s := by
  rw [Int.natAbs_mul]
  by_cases h : a.natAbs * b.natAbs = 0
  · rw [h, fitV_zero, fitV_zero (decide (a * b < 0))]
  · have ha : a ≠ 0 := by rintro rfl; exact h (Nat.zero_mul _)
    have hb : b ≠ 0 := by rintro rfl; exact h (Nat.mul_zero _)
    have e : (decide (a < 0) != decide (b < 0)) = decide (a * b < 0) := by
      by_cases h1 : a < 0 <;> by_cases h2 : b < 0
      · have := Int.mul_pos_of_neg_of_neg h1 h2
        simp [h1, h2]; omega
      · have := Int.mul_neg_of_neg_of_pos h1 (show 0 < b by omega)
        simp [h1, h2]; omega
      · have := Int.mul_neg_of_pos_of_neg (show 0 < a by omega) h2
        simp [h1, h2]; omega
      · have := Int.mul_pos (show 0 < a by omega) (show 0 < b by omega)
        simp [h1, h2]; omega
    rw [e]
theorem mul_c (n1 s1 n2 s2 : Int) (w : World) :
    Calls Tryd.prog 19 #[.agg #[.int .i64 n1, .int .i64 s1], .agg #[.int .i64 n2, .int .i64 s2]] w fun e w' => e = .returned (.tuple #[.agg #[.int .i64 (mulD n1 s1 n2 s2).n, .int .i64 (mulD n1 s1 n2 s2).s], .bool (mulD n1 s1 n2 s2).ok]) ∧ Kb (fun _ => False) w w' := by
  have b1 := kn_bd n1 s1
  have b2 := kn_bd n2 s2
  have h := dmul_known n1 s1 n2 s2 _ _ _ _ w (knownV_kn n1 s1) (knownV_kn n2 s2) (by omega) (by omega) b1.2.2 b2.2.2
  rw [mul_sign, fitV_mkD] at h
  exact h
end Go.Proofs.YtkhjgfbiemllmaaDoor
