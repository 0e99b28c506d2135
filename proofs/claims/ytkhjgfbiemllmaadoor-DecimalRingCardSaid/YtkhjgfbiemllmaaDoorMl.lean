/- Decimal: the plain laws of rounding and of the order. -/
import Derived.Test.YtkhjgfbiemllmaaDoorMk
namespace Go.Proofs.YtkhjgfbiemllmaaDoor
set_option linter.unusedSimpArgs false
set_option linter.unusedVariables false
open Go.RowKit

/-- A number of units, rounded to multiples of P, halves away from zero. -/
def rk (P : Nat) (z : Int) : Int := if z < 0 then -(((z.natAbs + P / 2) / P * P : Nat) : Int) else (((z.natAbs + P / 2) / P * P : Nat) : Int)
theorem rk_mono (P : Nat) (a b : Int) (h : a ≤ b) : rk P a ≤ rk P b := by
  have mono : ∀ x y : Nat, x ≤ y → (x + P / 2) / P * P ≤ (y + P / 2) / P * P := fun x y hxy => Nat.mul_le_mul_right _ (Nat.div_le_div_right (by omega))
  unfold rk
  by_cases ha : a < 0
  · rw [if_pos ha]
    by_cases hb : b < 0
    · rw [if_pos hb]
      have := mono b.natAbs a.natAbs (by omega)
      omega
    · rw [if_neg hb]; omega
  · rw [if_neg ha, if_neg (by omega)]
    have := mono a.natAbs b.natAbs (by omega)
    omega
theorem rk_mul (P M : Nat) (hP : 0 < P) : (M * P + P / 2) / P * P = M * P := by
  rw [Nat.mul_comm M P, Nat.mul_add_div hP, Nat.div_eq_of_lt (by omega), Nat.add_zero, Nat.mul_comm]
theorem half_mul (j Q : Nat) (hj : 0 < j) : 10 ^ j * Q / 2 = 10 ^ j / 2 * Q := by
  obtain ⟨i, rfl⟩ : ∃ i, j = i + 1 := ⟨j - 1, by omega⟩
  have e : 10 ^ (i + 1) = 2 * (5 * 10 ^ i) := by rw [Nat.pow_succ]; omega
  rw [e, Nat.mul_assoc, Nat.mul_div_cancel_left _ (by omega), Nat.mul_div_cancel_left _ (by omega)]
theorem rnd_abs (x : Int) (p : Nat) (hp : 0 < p) : rnd x p = if x < 0 then -(((x.natAbs + p / 2) / p : Nat) : Int) else (((x.natAbs + p / 2) / p : Nat) : Int) := by
  unfold rnd
  by_cases h : x < 0
  · rw [if_pos h, if_pos h]
    rw [show x - ((p / 2 : Nat) : Int) = -((x.natAbs + p / 2 : Nat) : Int) by omega, Int.neg_tdiv]
    congr 1
  · rw [if_neg h, if_neg h]
    rw [show x + ((p / 2 : Nat) : Int) = ((x.natAbs + p / 2 : Nat) : Int) by omega]
    rfl
theorem round_spec {n s : Int} (h : rightB n s = true) (k : Nat) (hk : k ≤ 6) : (roundD n s k).ok = true ∧ rightB (roundD n s k).n (roundD n s k).s = true ∧ unitZ (roundD n s k).n (roundD n s k).s = rk (10 ^ (6 - k)) (unitZ n s) := by
  have b := rightB_bd h
  obtain ⟨k1, k2⟩ := kn_of h
  obtain ⟨c, rfl⟩ : ∃ c : Nat, s = c := ⟨s.toNat, by omega⟩
  have hkc : knS n c = c := by omega
  unfold roundD
  rw [if_pos (by omega), k1, hkc]
  have hu : unitZ n c = n * ((10 ^ (6 - c) : Nat) : Int) := by rw [unitZ_right h, Int.toNat_natCast]
  by_cases hle : (c : Int) ≤ (k : Int)
  · rw [if_pos hle]
    refine ⟨rfl, h, ?_⟩
    show unitZ n c = _
    rw [hu]
    have e : 10 ^ (6 - c) = 10 ^ (k - c) * 10 ^ (6 - k) := by rw [← Nat.pow_add]; congr 1; omega
    have hN : (n * ((10 ^ (6 - c) : Nat) : Int)).natAbs = n.natAbs * 10 ^ (k - c) * 10 ^ (6 - k) := by rw [Int.natAbs_mul, Int.natAbs_natCast, e, Nat.mul_assoc]
    unfold rk
    rw [hN, rk_mul _ _ (pow_pos10 _), ← hN]
    split <;> omega
  · rw [if_neg hle, Int.toNat_natCast]
    obtain ⟨j, rfl⟩ : ∃ j, c = k + j := ⟨c - k, by omega⟩
    rw [show k + j - k = j by omega]
    have hpb := pow_bd j (by omega)
    have hp2 : 2 ≤ 10 ^ j := by
      have : 10 ^ 1 ≤ 10 ^ j := Nat.pow_le_pow_right (by omega) (by omega)
      omega
    have hr := rnd_abs n (10 ^ j) (by omega)
    have hra : (rnd n (10 ^ j)).natAbs = (n.natAbs + 10 ^ j / 2) / 10 ^ j := by
      rw [hr]
      generalize (n.natAbs + 10 ^ j / 2) / 10 ^ j = D
      split <;> omega
    have hrb : (rnd n (10 ^ j)).natAbs ≤ 1000000000000000 := by
      rw [hra]
      have : (n.natAbs + 10 ^ j / 2) / 10 ^ j ≤ (n.natAbs + 10 ^ j / 2) / 2 := Nat.div_le_div_left hp2 (by omega)
      omega
    have hmk : makeD (rnd n (10 ^ j)) k = mkD (rnd n (10 ^ j)) k := by
      unfold makeD
      rw [if_pos (by omega), Int.toNat_natCast]
    rw [hmk]
    have hok := mkD_ok_small (rnd n (10 ^ j)) k hk hrb
    refine ⟨hok, mkD_right hok, ?_⟩
    rw [unit_mkD hk hok, hu]
    have e : 10 ^ (6 - k) = 10 ^ j * 10 ^ (6 - (k + j)) := by rw [← Nat.pow_add]; congr 1; omega
    have hN : (n * ((10 ^ (6 - (k + j)) : Nat) : Int)).natAbs = n.natAbs * 10 ^ (6 - (k + j)) := by rw [Int.natAbs_mul, Int.natAbs_natCast]
    have hs : (n * ((10 ^ (6 - (k + j)) : Nat) : Int) < 0) ↔ n < 0 := decide_eq_decide.1 (neg_mul_pow n _)
    unfold rk
    rw [hN, e, half_mul j _ (by omega), ← Nat.add_mul, Nat.mul_div_mul_right _ _ (pow_pos10 _), ← e, hr]
    by_cases hn : n < 0
    · rw [if_pos hn, if_pos (hs.2 hn), Int.neg_mul, ← Int.natCast_mul]
    · rw [if_neg hn, if_neg (fun x => hn (hs.1 x)), ← Int.natCast_mul]
theorem cmpZ_lt {a b : Int} (h : a < b) : cmpZ a b = -1 := by unfold cmpZ; rw [if_pos h]
theorem cmpZ_eq (a : Int) : cmpZ a a = 0 := by unfold cmpZ; rw [if_neg (by omega), if_neg (by omega)]
theorem cmpZ_gt {a b : Int} (h : b < a) : cmpZ a b = 1 := by unfold cmpZ; rw [if_neg (by omega), if_pos h]
theorem madeD_right (n s : Int) : rightB (madeD n s).n (madeD n s).s = true := makeD_right _ _
end Go.Proofs.YtkhjgfbiemllmaaDoor
