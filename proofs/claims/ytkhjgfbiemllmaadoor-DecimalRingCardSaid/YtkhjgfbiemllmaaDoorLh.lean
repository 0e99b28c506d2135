/- What plus computes: the sum. -/
import Derived.Test.YtkhjgfbiemllmaaDoorLg
namespace Go.Proofs.YtkhjgfbiemllmaaDoor
open Go.RowKit

theorem uniqM (M a b c d : Nat) (hb : b < M) (hd : d < M) (h : a * M + b = c * M + d) : a = c ∧ b = d := by
  have h1 : (a * M + b) / M = (c * M + d) / M := by rw [h]
  have h2 : (a * M + b) % M = (c * M + d) % M := by rw [h]
  rw [Nat.mul_comm a, Nat.mul_comm c, Nat.mul_add_div (by omega), Nat.mul_add_div (by omega), Nat.div_eq_of_lt hb, Nat.div_eq_of_lt hd] at h1
  rw [Nat.mul_comm a, Nat.mul_comm c, Nat.mul_add_mod, Nat.mul_add_mod, Nat.mod_eq_of_lt hb, Nat.mod_eq_of_lt hd] at h2
  exact ⟨by omega, h2⟩
theorem subM (M h1 l1 h2 l2 P : Nat) (hM : 0 < M) (b1 : l1 < M) (b2 : l2 < M) (hP : h1 * M + l1 = (h2 * M + l2) + P) (hPM : P / M < M) :
    (l1 + M - l2 - 0) % M = P % M ∧ (h1 + M - h2 - (if l1 < l2 + 0 then 1 else 0)) % M = P / M := by
  have hR := Nat.mod_lt P hM
  have hPd := Nat.div_add_mod' P M
  generalize P / M = Q at *
  generalize P % M = R at *
  have e : h1 * M + l1 = (h2 + Q) * M + (l2 + R) := by
    rw [Nat.add_mul]
    generalize h1 * M = x at *
    generalize h2 * M = y at *
    generalize Q * M = z at *
    omega
  by_cases hc : l2 + R < M
  · obtain ⟨u1, u2⟩ := uniqM M _ _ _ _ b1 hc e
    have hlt : ¬ l1 < l2 + 0 := by omega
    rw [if_neg hlt, show l1 + M - l2 - 0 = R + M by omega, Nat.add_mod_right, Nat.mod_eq_of_lt hR, show h1 + M - h2 - 0 = Q + M by omega, Nat.add_mod_right, Nat.mod_eq_of_lt hPM]
    exact ⟨rfl, rfl⟩
  · have e2 : h1 * M + l1 = (h2 + Q + 1) * M + (l2 + R - M) := by
      rw [e, Nat.add_mul (h2 + Q) 1 M, Nat.one_mul]
      generalize (h2 + Q) * M = x
      omega
    obtain ⟨u1, u2⟩ := uniqM M _ _ _ _ b1 (by omega) e2
    have hlt : l1 < l2 + 0 := by omega
    rw [if_pos hlt, show l1 + M - l2 - 0 = R by omega, Nat.mod_eq_of_lt hR, show h1 + M - h2 - 1 = Q + M by omega, Nat.add_mod_right, Nat.mod_eq_of_lt hPM]
    exact ⟨rfl, rfl⟩
theorem ordM (M h1 l1 h2 l2 : Nat) (b1 : l1 < M) (b2 : l2 < M) :
    decide ((if cmp3 h1 h2 = 0 then cmp3 l1 l2 else cmp3 h1 h2) < 0) = decide (h1 * M + l1 < h2 * M + l2) := by
  rcases Nat.lt_trichotomy h1 h2 with h | h | h
  · have hx : (h1 + 1) * M ≤ h2 * M := Nat.mul_le_mul_right _ h
    rw [Nat.add_mul, Nat.one_mul] at hx
    have hc : cmp3 h1 h2 = -1 := by unfold cmp3; rw [if_pos h]
    rw [hc, if_neg (by omega), decide_eq_true (by omega), decide_eq_true (by omega)]
  · subst h
    have hc : cmp3 h1 h1 = 0 := by unfold cmp3; rw [if_neg (by omega), if_neg (by omega)]
    rw [hc, if_pos rfl]
    unfold cmp3
    by_cases hl : l1 < l2
    · rw [if_pos hl, decide_eq_true (by omega), decide_eq_true (by omega)]
    · rw [if_neg hl]
      rw [decide_eq_false (p := h1 * M + l1 < h1 * M + l2) (by omega)]
      apply decide_eq_false
      split <;> omega
  · have hx : (h2 + 1) * M ≤ h1 * M := Nat.mul_le_mul_right _ h
    rw [Nat.add_mul, Nat.one_mul] at hx
    have hc : cmp3 h1 h2 = 1 := by unfold cmp3; rw [if_neg (by omega), if_pos h]
    rw [hc, if_neg (by omega), decide_eq_false (by omega), decide_eq_false (by omega)]
theorem posM (M P : Nat) (hM : 0 < M) : decide (0 < P / M ∨ 0 < P % M) = decide (0 < P) := by
  have h := Nat.div_add_mod' P M
  by_cases hp : 0 < P
  · rw [decide_eq_true hp]
    apply decide_eq_true
    by_cases hq : 0 < P % M
    · exact Or.inr hq
    · left
      apply Nat.div_pos _ hM
      have : P % M = 0 := by omega
      exact Nat.le_of_dvd hp (Nat.dvd_of_mod_eq_zero this)
  · have : P = 0 := by omega
    subst this
    simp
theorem plus_same_any (n : Bool) (P1 P2 : Nat) (w : World) (a1 : P1 / 18446744073709551616 < 4611686018427387904) (a2 : P2 / 18446744073709551616 < 4611686018427387904) (a3 : (P1 + P2) / 18446744073709551616 < 18446744073709551616) :
    Calls Tryd.prog 31 #[wideV n P1, wideV n P2] w fun e w' => e = .returned (wideV n (P1 + P2)) ∧ Kb (fun _ => False) w w' := by
  have h := add_wideM 18446744073709551616 (P1 / 18446744073709551616) (P1 % 18446744073709551616) (P2 / 18446744073709551616) (P2 % 18446744073709551616) (P1 + P2) (by decide) (by rw [Nat.div_add_mod', Nat.div_add_mod'])
  unfold wideV
  refine plus_same n _ _ _ _ _ _ _ w a1 a2 (Nat.mod_lt _ (by decide)) (Nat.mod_lt _ (by decide)) rfl ?_ ?_
  · rw [Nat.add_zero]
    exact h.2
  · rw [Nat.add_zero, h.1]
    exact Nat.mod_eq_of_lt a3
theorem ordLit (P1 P2 : Nat) : decide ((if cmp3 (P1 / 18446744073709551616) (P2 / 18446744073709551616) = 0 then cmp3 (P1 % 18446744073709551616) (P2 % 18446744073709551616) else cmp3 (P1 / 18446744073709551616) (P2 / 18446744073709551616)) < 0) = decide (P1 < P2) := by
  have h := ordM 18446744073709551616 (P1 / 18446744073709551616) (P1 % 18446744073709551616) (P2 / 18446744073709551616) (P2 % 18446744073709551616) (Nat.mod_lt _ (by decide)) (Nat.mod_lt _ (by decide))
  rw [Nat.div_add_mod', Nat.div_add_mod'] at h
  exact h
theorem lt_lit (P : Nat) (a : P / 18446744073709551616 < 4611686018427387904) : P / 18446744073709551616 < 18446744073709551616 := Nat.lt_trans a (by decide)
theorem plus_diff_any (n : Bool) (P1 P2 P : Nat) (w : World) (a1 : P1 / 18446744073709551616 < 4611686018427387904) (a2 : P2 / 18446744073709551616 < 4611686018427387904) (a3 : P / 18446744073709551616 < 18446744073709551616) (h : P1 = P2 + P) :
    Calls Tryd.prog 31 #[wideV n P1, wideV (!n) P2] w fun e w' => e = .returned (wideV (n && decide (0 < P)) P) ∧ Kb (fun _ => False) w w' := by
  have hs := subM 18446744073709551616 (P1 / 18446744073709551616) (P1 % 18446744073709551616) (P2 / 18446744073709551616) (P2 % 18446744073709551616) P (by decide) (Nat.mod_lt _ (by decide)) (Nat.mod_lt _ (by decide)) (by rw [Nat.div_add_mod', Nat.div_add_mod']; exact h) a3
  have ho := ordLit P1 P2
  rw [decide_eq_false (p := P1 < P2) (by omega)] at ho
  unfold wideV
  refine plus_diff n _ _ _ _ _ _ _ _ _ _ w (Nat.mod_lt _ (by decide)) (Nat.mod_lt _ (by decide)) (lt_lit _ a1) (lt_lit _ a2) rfl ho hs.1 rfl hs.2 rfl ?_
  rw [posM _ _ (by decide)]
theorem plus_swap_any (n : Bool) (P1 P2 P : Nat) (w : World) (a1 : P1 / 18446744073709551616 < 4611686018427387904) (a2 : P2 / 18446744073709551616 < 4611686018427387904) (a3 : P / 18446744073709551616 < 18446744073709551616) (h : P2 = P1 + P) (h0 : 0 < P) :
    Calls Tryd.prog 31 #[wideV n P1, wideV (!n) P2] w fun e w' => e = .returned (wideV (!n && decide (0 < P)) P) ∧ Kb (fun _ => False) w w' := by
  have hs := subM 18446744073709551616 (P2 / 18446744073709551616) (P2 % 18446744073709551616) (P1 / 18446744073709551616) (P1 % 18446744073709551616) P (by decide) (Nat.mod_lt _ (by decide)) (Nat.mod_lt _ (by decide)) (by rw [Nat.div_add_mod', Nat.div_add_mod']; exact h) a3
  have ho := ordLit P1 P2
  rw [decide_eq_true (p := P1 < P2) (by omega)] at ho
  unfold wideV
  refine plus_swap n _ _ _ _ _ _ _ _ _ _ w (Nat.mod_lt _ (by decide)) (Nat.mod_lt _ (by decide)) (lt_lit _ a1) (lt_lit _ a2) rfl ho hs.1 rfl hs.2 rfl ?_
  rw [posM _ _ (by decide)]
/-- A signed number as the program keeps it. -/
def wideZ (z : Int) : Value := wideV (decide (z < 0)) z.natAbs
theorem plus_any (z1 z2 : Int) (w : World) (a1 : z1.natAbs / 18446744073709551616 < 4611686018427387904) (a2 : z2.natAbs / 18446744073709551616 < 4611686018427387904) (a3 : (z1.natAbs + z2.natAbs) / 18446744073709551616 < 18446744073709551616) :
    Calls Tryd.prog 31 #[wideZ z1, wideZ z2] w fun e w' => e = .returned (wideZ (z1 + z2)) ∧ Kb (fun _ => False) w w' := by
  unfold wideZ
  by_cases hs : decide (z1 < 0) = decide (z2 < 0)
  · have h := plus_same_any (decide (z1 < 0)) z1.natAbs z2.natAbs w a1 a2 a3
    have e1 : (z1 + z2).natAbs = z1.natAbs + z2.natAbs := by
      have := decide_eq_decide.1 hs
      omega
    have e2 : decide (z1 + z2 < 0) = decide (z1 < 0) := by
      have := decide_eq_decide.1 hs
      apply decide_eq_decide.2
      omega
    rw [e1, e2, ← hs]
    exact h
  · have hn : decide (z2 < 0) = !decide (z1 < 0) := by
      revert hs
      cases decide (z1 < 0) <;> cases decide (z2 < 0) <;> simp
    have hsg : (z1 < 0 ↔ ¬ z2 < 0) := by
      by_cases h1 : z1 < 0 <;> by_cases h2 : z2 < 0 <;> simp [h1, h2] at hs ⊢
    rw [hn]
    by_cases hle : z2.natAbs ≤ z1.natAbs
    · have h := plus_diff_any (decide (z1 < 0)) z1.natAbs z2.natAbs (z1 + z2).natAbs w a1 a2 (Nat.lt_of_le_of_lt (Nat.div_le_div_right (by omega)) a3) (by omega)
      have e2 : decide (z1 + z2 < 0) = (decide (z1 < 0) && decide (0 < (z1 + z2).natAbs)) := by
        by_cases h1 : z1 < 0
        · rw [decide_eq_true h1, Bool.true_and]
          apply decide_eq_decide.2
          omega
        · rw [decide_eq_false h1, Bool.false_and]
          apply decide_eq_false
          omega
      rw [e2]
      exact h
    · have h := plus_swap_any (decide (z1 < 0)) z1.natAbs z2.natAbs (z1 + z2).natAbs w a1 a2 (Nat.lt_of_le_of_lt (Nat.div_le_div_right (by omega)) a3) (by omega) (by omega)
      have e2 : decide (z1 + z2 < 0) = (!decide (z1 < 0) && decide (0 < (z1 + z2).natAbs)) := by
        by_cases h1 : z1 < 0
        · rw [decide_eq_true h1, Bool.not_true, Bool.false_and]
          apply decide_eq_false
          omega
        · rw [decide_eq_false h1, Bool.not_false, Bool.true_and]
          apply decide_eq_decide.2
          omega
      rw [e2]
      exact h
end Go.Proofs.YtkhjgfbiemllmaaDoor
