/- The sum of two numbers of the reference, whatever their signs; Add, Sub and Cmp of the reference. Add, Sub and Cmp of the reference. Decimal: the digits of a text, in the program and in the reference. Text and Round of the reference. Round of the reference. -/
import Derived.Test.YtkhjgfbiemllmaaGreatDoorGK
import Derived.Test.YtkhjgfbiemllmaaGreatDoorGJ
namespace Go.Proofs.YtkhjgfbiemllmaaGreatDoor
set_option linter.unusedSimpArgs false
set_option linter.unusedVariables false
open Go.RowKit

theorem natS_scaled (N j : Nat) (hN : N ≤ 1000000000000000) (hj : j ≤ 12) : (natS (N * 10 ^ j)).size ≤ 1000 := by
  refine natS_le1000 _ (Nat.lt_of_le_of_lt (Nat.mul_le_mul hN (Nat.pow_le_pow_right (by omega) hj)) (by decide +kernel))
theorem natS_plain (N : Nat) (hN : N ≤ 1000000000000000) : (natS N).size ≤ 1000 := by have := natS_scaled N 0 hN (by omega); rwa [Nat.pow_zero, Nat.mul_one] at this
theorem strip_scale (t k N : Nat) : strip (t + k) (N * 10 ^ k) = strip t N := by
  induction k with
  | zero => rw [Nat.pow_zero, Nat.mul_one]; rfl
  | succ k ih =>
    have e : N * 10 ^ (k + 1) = (N * 10 ^ k) * 10 := by rw [Nat.pow_succ, Nat.mul_assoc]
    rw [show t + (k + 1) = (t + k) + 1 by omega, strip_step _ _ (by rw [e]; omega), e, Nat.mul_div_cancel _ (by omega)]
    exact ih
theorem mkD_scale (Z : Int) (t k : Nat) : mkD (Z * ((10 ^ k : Nat) : Int)) (t + k) = mkD Z t := by
  unfold mkD
  rw [Int.natAbs_mul, Int.natAbs_natCast, strip_scale, neg_mul_pow]
theorem fitV_near (neg : Bool) (Z : Int) (t : Nat) (h : Z ≠ 0 → neg = decide (Z < 0)) : fitV neg Z.natAbs t = .tuple #[.agg #[.int .i64 (mkD Z t).n, .int .i64 (mkD Z t).s], .bool (mkD Z t).ok] := by
  rw [← fitV_mkD]
  by_cases hz : Z = 0
  · subst hz
    rw [show (0 : Int).natAbs = 0 from rfl, fitV_zero, fitV_zero (decide _)]
  · rw [h hz]
theorem sgn_scale (n : Int) (j : Nat) : sgn (decide (n < 0)) (n.natAbs * 10 ^ j) = n * ((10 ^ j : Nat) : Int) := by
  have h := sgn_self n
  unfold sgn at *
  cases hd : decide (n < 0)
  · rw [hd] at h
    simp only [Bool.false_eq_true, if_false] at h ⊢
    rw [Int.natCast_mul, h]
  · rw [hd] at h
    simp only [if_true] at h ⊢
    rw [Int.natCast_mul, ← Int.neg_mul, h]
theorem sgn_not (p : Bool) (N : Nat) : sgn (!p) N = - sgn p N := by unfold sgn; cases p <;> simp
theorem sgn_same (p : Bool) (x y : Nat) : (sgn p x + sgn p y).natAbs = x + y ∧ (sgn p x + sgn p y ≠ 0 → p = decide (sgn p x + sgn p y < 0)) := by
  unfold sgn
  cases p
  · simp only [Bool.false_eq_true, if_false]
    exact ⟨by omega, fun _ => (decide_eq_false (by omega)).symm⟩
  · simp only [if_true]
    exact ⟨by omega, fun h => (decide_eq_true (by omega)).symm⟩
theorem sgn_lt (p : Bool) (x y : Nat) (hlt : x < y) : (sgn p x + sgn (!p) y).natAbs = y - x ∧ (sgn p x + sgn (!p) y ≠ 0 → (!p) = decide (sgn p x + sgn (!p) y < 0)) := by
  unfold sgn
  cases p
  · simp only [Bool.false_eq_true, if_false, Bool.not_false, if_true]
    exact ⟨by omega, fun _ => (decide_eq_true (by omega)).symm⟩
  · simp only [if_true, Bool.not_true, Bool.false_eq_true, if_false]
    exact ⟨by omega, fun h => (decide_eq_false (by omega)).symm⟩
theorem sgn_gt (p : Bool) (x y : Nat) (hlt : y < x) : (sgn p x + sgn (!p) y).natAbs = x - y ∧ (sgn p x + sgn (!p) y ≠ 0 → p = decide (sgn p x + sgn (!p) y < 0)) := by
  unfold sgn
  cases p
  · simp only [Bool.false_eq_true, if_false, Bool.not_false, if_true]
    exact ⟨by omega, fun _ => (decide_eq_false (by omega)).symm⟩
  · simp only [if_true, Bool.not_true, Bool.false_eq_true, if_false]
    exact ⟨by omega, fun h => (decide_eq_true (by omega)).symm⟩
theorem sgn_eq (p : Bool) (x y : Nat) (h : x = y) : (sgn p x + sgn (!p) y).natAbs = x - y ∧ sgn p x + sgn (!p) y = 0 := by
  subst h
  unfold sgn
  cases p
  · simp only [Bool.false_eq_true, if_false, Bool.not_false, if_true]
    exact ⟨by omega, by omega⟩
  · simp only [if_true, Bool.not_true, Bool.false_eq_true, if_false]
    exact ⟨by omega, by omega⟩
/-- The value of a sum. -/
def plusZ (p q : Bool) (A B s1 s2 : Nat) : Int := sgn p (A * 10 ^ (max s1 s2 - s1)) + sgn q (B * 10 ^ (max s1 s2 - s2))
theorem rplus_c (p q : Bool) (A B s1 s2 : Nat) (w : World) (hA : A ≤ 1000000000000000) (hB : B ≤ 1000000000000000) (h1 : s1 ≤ 6) (h2 : s2 ≤ 6) :
    Calls Tryz.prog 49 #[.agg #[.bool p, .string (natS A), .int .i64 (s1 : Nat)], .agg #[.bool q, .string (natS B), .int .i64 (s2 : Nat)]] w fun e w' =>
      (∃ neg, (plusZ p q A B s1 s2 ≠ 0 → neg = decide (plusZ p q A B s1 s2 < 0)) ∧ e = .returned (.agg #[.bool neg, .string (natS (plusZ p q A B s1 s2).natAbs), .int .i64 ((max s1 s2 : Nat) : Int)])) ∧ Kb (fun _ => False) w w' := by
  have e1 : s1 + (max s1 s2 - s1) = max s1 s2 := by omega
  have e2 : s2 + (max s1 s2 - s2) = max s1 s2 := by omega
  have hm : max (s1 : Int) (s2 : Int) = ((max s1 s2 : Nat) : Int) := by omega
  have ht : max s1 s2 ≤ 100 := by omega
  have z1 := natS_scaled A (max s1 s2 - s1) hA (by omega)
  have z2 := natS_scaled B (max s1 s2 - s2) hB (by omega)
  have y1 := natS_plain A hA
  have y2 := natS_plain B hB
  unfold plusZ
  generalize hj1 : max s1 s2 - s1 = j1 at *
  generalize hj2 : max s1 s2 - s2 = j2 at *
  generalize ht' : max s1 s2 = t at *
  by_cases hpq : p = q
  · subst hpq
    obtain ⟨q1, q2⟩ := sgn_same p (A * 10 ^ j1) (B * 10 ^ j2)
    refine (rplus_same p A B s1 s2 t j1 j2 w y1 y2 e1 e2 ht hm z1 z2).mono ?_
    rintro e w' ⟨rfl, k⟩
    exact ⟨⟨p, q2, by rw [q1]⟩, k⟩
  · obtain rfl : q = !p := by cases p <;> cases q <;> simp_all
    rcases Nat.lt_trichotomy (A * 10 ^ j1) (B * 10 ^ j2) with hlt | hlt | hlt
    · obtain ⟨q1, q2⟩ := sgn_lt p _ _ hlt
      refine (rplus_lt p A B s1 s2 t j1 j2 w y1 y2 e1 e2 ht hm z1 z2 hlt).mono ?_
      rintro e w' ⟨rfl, k⟩
      exact ⟨⟨!p, q2, by rw [q1]⟩, k⟩
    · obtain ⟨q1, q2⟩ := sgn_eq p _ _ hlt
      refine (rplus_eq p A B s1 s2 t j1 j2 w y1 y2 e1 e2 ht hm z1 z2 hlt).mono ?_
      rintro e w' ⟨rfl, k⟩
      exact ⟨⟨false, fun h => absurd q2 h, by rw [q1]⟩, k⟩
    · obtain ⟨q1, q2⟩ := sgn_gt p _ _ hlt
      refine (rplus_gt p A B s1 s2 t j1 j2 w y1 y2 e1 e2 ht hm z1 z2 hlt).mono ?_
      rintro e w' ⟨rfl, k⟩
      exact ⟨⟨p, q2, by rw [q1]⟩, k⟩
theorem plusZ_kn (n1 s1 n2 s2 : Int) (q : Bool) : plusZ (decide (knN n1 s1 < 0)) (if q then !decide (knN n2 s2 < 0) else decide (knN n2 s2 < 0)) (knN n1 s1).natAbs (knN n2 s2).natAbs (knS n1 s1) (knS n2 s2) * ((10 ^ (6 - max (knS n1 s1) (knS n2 s2)) : Nat) : Int) = if q then unitZ n1 s1 - unitZ n2 s2 else unitZ n1 s1 + unitZ n2 s2 := by
  have b1 := kn_bd n1 s1
  have b2 := kn_bd n2 s2
  have e1 : 10 ^ (6 - knS n1 s1) = 10 ^ (max (knS n1 s1) (knS n2 s2) - knS n1 s1) * 10 ^ (6 - max (knS n1 s1) (knS n2 s2)) := by rw [← Nat.pow_add]; congr 1; omega
  have e2 : 10 ^ (6 - knS n2 s2) = 10 ^ (max (knS n1 s1) (knS n2 s2) - knS n2 s2) * 10 ^ (6 - max (knS n1 s1) (knS n2 s2)) := by rw [← Nat.pow_add]; congr 1; omega
  rw [unitZ_kn, unitZ_kn, e1, e2, Int.natCast_mul, Int.natCast_mul, ← Int.mul_assoc, ← Int.mul_assoc]
  unfold plusZ
  cases q
  · simp only [Bool.false_eq_true, if_false]
    rw [sgn_scale, sgn_scale, Int.add_mul]
  · simp only [if_true]
    rw [sgn_not, sgn_scale, sgn_scale, ← Int.sub_eq_add_neg, Int.sub_mul]
theorem plusZ_mk (n1 s1 n2 s2 : Int) (q : Bool) : mkD (plusZ (decide (knN n1 s1 < 0)) (if q then !decide (knN n2 s2 < 0) else decide (knN n2 s2 < 0)) (knN n1 s1).natAbs (knN n2 s2).natAbs (knS n1 s1) (knS n2 s2)) (max (knS n1 s1) (knS n2 s2)) = if q then subD n1 s1 n2 s2 else addD n1 s1 n2 s2 := by
  have b1 := kn_bd n1 s1
  have b2 := kn_bd n2 s2
  have h := plusZ_kn n1 s1 n2 s2 q
  rw [← mkD_scale _ _ (6 - max (knS n1 s1) (knS n2 s2)), h, show max (knS n1 s1) (knS n2 s2) + (6 - max (knS n1 s1) (knS n2 s2)) = 6 by omega]
  unfold subD addD
  cases q <;> rfl
theorem plusZ_bd (p q : Bool) (A B s1 s2 : Nat) (hA : A ≤ 1000000000000000) (hB : B ≤ 1000000000000000) (h1 : s1 ≤ 6) (h2 : s2 ≤ 6) : (natS (plusZ p q A B s1 s2).natAbs).size ≤ 1000000 := by
  have m1 : A * 10 ^ (max s1 s2 - s1) ≤ 1000000000000000 * 1000000 := Nat.mul_le_mul hA (pow_bd _ (by omega)).2
  have m2 : B * 10 ^ (max s1 s2 - s2) ≤ 1000000000000000 * 1000000 := Nat.mul_le_mul hB (pow_bd _ (by omega)).2
  refine Nat.le_trans (natS_le1000 _ (Nat.lt_of_le_of_lt (show _ ≤ 2000000000000000 * 1000000 from ?_) (by decide +kernel))) (by omega)
  unfold plusZ sgn
  generalize A * 10 ^ (max s1 s2 - s1) = x at *
  generalize B * 10 ^ (max s1 s2 - s2) = y at *
  cases p <;> cases q <;> simp <;> omega
end Go.Proofs.YtkhjgfbiemllmaaGreatDoor
namespace Go.Proofs.YtkhjgfbiemllmaaGreatDoor
set_option linter.unusedSimpArgs false
set_option linter.unusedVariables false
open Go.RowKit

def bgN (n s : Int) : Bool := decide (knN n s < 0)
def bgX (n s : Int) : ByteArray := natS (knN n s).natAbs
def bgS (n s : Int) : Int := (knS n s : Nat)
theorem big_d (n s : Int) (w : World) :
    Calls Tryz.prog 33 #[.agg #[.int .i64 n, .int .i64 s]] w fun e w' => e = .returned (.agg #[.bool (bgN n s), .string (bgX n s), .int .i64 (bgS n s)]) ∧ Kb (fun _ => False) w w' := big_c n s w
def sumZ (n1 s1 n2 s2 : Int) (q : Bool) : Int := plusZ (decide (knN n1 s1 < 0)) (if q then !decide (knN n2 s2 < 0) else decide (knN n2 s2 < 0)) (knN n1 s1).natAbs (knN n2 s2).natAbs (knS n1 s1) (knS n2 s2)
def sumS (n1 s1 n2 s2 : Int) : Nat := max (knS n1 s1) (knS n2 s2)
theorem plus_d (n1 s1 n2 s2 : Int) (q r : Bool) (w : World) (hr : (if q then !bgN n2 s2 else bgN n2 s2) = r) :
    Calls Tryz.prog 49 #[.agg #[.bool (bgN n1 s1), .string (bgX n1 s1), .int .i64 (bgS n1 s1)], .agg #[.bool r, .string (bgX n2 s2), .int .i64 (bgS n2 s2)]] w fun e w' =>
      (∃ neg, (sumZ n1 s1 n2 s2 q ≠ 0 → neg = decide (sumZ n1 s1 n2 s2 q < 0)) ∧ e = .returned (.agg #[.bool neg, .string (natS (sumZ n1 s1 n2 s2 q).natAbs), .int .i64 (sumS n1 s1 n2 s2 : Nat)])) ∧ Kb (fun _ => False) w w' := by
  subst hr
  have k1 := kn_bd n1 s1
  have k2 := kn_bd n2 s2
  exact rplus_c _ _ _ _ _ _ w (show (knN n1 s1).natAbs ≤ 1000000000000000 by omega) (show (knN n2 s2).natAbs ≤ 1000000000000000 by omega) k1.2.2 k2.2.2
theorem sumZ_fit (n1 s1 n2 s2 : Int) (q : Bool) (v : DR) (h : (if q then subD n1 s1 n2 s2 else addD n1 s1 n2 s2) = v) (neg : Bool) (w : World) (hn : sumZ n1 s1 n2 s2 q ≠ 0 → neg = decide (sumZ n1 s1 n2 s2 q < 0)) :
    Calls Tryz.prog 34 #[.agg #[.bool neg, .string (natS (sumZ n1 s1 n2 s2 q).natAbs), .int .i64 (sumS n1 s1 n2 s2 : Nat)]] w fun e w' => e = .returned (.tuple #[.agg #[.int .i64 v.n, .int .i64 v.s], .bool v.ok]) ∧ Kb (fun _ => False) w w' := by
  have k1 := kn_bd n1 s1
  have k2 := kn_bd n2 s2
  refine fit_is neg _ _ _ w (show max (knS n1 s1) (knS n2 s2) ≤ 1000000 by omega) (plusZ_bd _ _ _ _ _ _ (show (knN n1 s1).natAbs ≤ 1000000000000000 by omega) (show (knN n2 s2).natAbs ≤ 1000000000000000 by omega) k1.2.2 k2.2.2) ?_
  have hm := plusZ_mk n1 s1 n2 s2 q
  rw [h] at hm
  have hf := fitV_near neg (sumZ n1 s1 n2 s2 q) (sumS n1 s1 n2 s2) hn
  rw [hf]
  unfold sumZ sumS
  rw [hm]
set_option maxHeartbeats 4000000 in
set_option maxRecDepth 100000 in
theorem radd_c (n1 s1 n2 s2 x y : Int) (b : Bool) (h : addD n1 s1 n2 s2 = ⟨x, y, b⟩) (w : World) :
    Calls Tryz.prog 21 #[.agg #[.int .i64 n1, .int .i64 s1], .agg #[.int .i64 n2, .int .i64 s2]] w fun e w' => e = .returned (.tuple #[.agg #[.int .i64 x, .int .i64 y], .bool b]) ∧ Kb (fun _ => False) w w' := by
  have HB := hid big_d
  have HP := hid (fun w => plus_d n1 s1 n2 s2 false _ w rfl)
  have HF := hid (fun neg w hn => sumZ_fit n1 s1 n2 s2 false ⟨x, y, b⟩ h neg w hn)
  generalize natS (sumZ n1 s1 n2 s2 false).natAbs = Z at *
  clear h
  go_enter Tryz.func21, Tryz.ntmps21
  go_wp2_with fail
  go_region_held3 (fun w' => w'.cell? ⟨w.heap.size, 0, none⟩ = some (.int .i64 n1) ∧ w'.cell? ⟨w.heap.size, 1, none⟩ = some (.int .i64 s1) ∧ w'.cell? ⟨w.heap.size + 1, 0, none⟩ = some (.int .i64 n2) ∧ w'.cell? ⟨w.heap.size + 1, 1, none⟩ = some (.int .i64 s2)) ((simp [go_sem]; done)) (first
    | (go_at_call 33; refine (HB.out _ _ _).mono ?_; rintro e w1 ⟨rfl, k1⟩; obtain ⟨C, m, rfl⟩ := grew_of k1; clear k1)
    | (go_at_call 49; refine (HP.out _).mono ?_; rintro e w1 ⟨⟨neg, hn, rfl⟩, k1⟩; have HN := hid hn; clear hn; obtain ⟨C, m, rfl⟩ := grew_of k1; clear k1)
    | (go_at_call 34; refine (HF.out _ _ HN.out).mono ?_; rintro e w1 ⟨rfl, k1⟩; obtain ⟨C, m, rfl⟩ := grew_of k1; clear k1))
  all_goals
    go_wp2_with fail
    exact bodyPost_ret (v := .tuple #[.agg #[.int .i64 x, .int .i64 y], .bool b]) (by simp [results, Tryz.results21, go_sem]) rfl ⟨rfl, (by repeat (with_reducible first | exact Kb.refl _ _ | exact KW.out | refine Kb.setC ?_ (by assumption) | apply Kb.drew | apply Kb.drewN | apply Kb.grew | apply Kb.alloc))⟩
set_option maxHeartbeats 4000000 in
set_option maxRecDepth 100000 in
theorem rsub_c (n1 s1 n2 s2 x y : Int) (b : Bool) (h : subD n1 s1 n2 s2 = ⟨x, y, b⟩) (w : World) :
    Calls Tryz.prog 23 #[.agg #[.int .i64 n1, .int .i64 s1], .agg #[.int .i64 n2, .int .i64 s2]] w fun e w' => e = .returned (.tuple #[.agg #[.int .i64 x, .int .i64 y], .bool b]) ∧ Kb (fun _ => False) w w' := by
  have HB := hid big_d
  obtain ⟨r, hr⟩ : ∃ r, (!bgN n2 s2) = r := ⟨_, rfl⟩
  have HP := hid (fun w => plus_d n1 s1 n2 s2 true r w hr)
  have HF := hid (fun neg w hn => sumZ_fit n1 s1 n2 s2 true ⟨x, y, b⟩ h neg w hn)
  generalize natS (sumZ n1 s1 n2 s2 true).natAbs = Z at *
  clear h
  go_enter Tryz.func23, Tryz.ntmps23
  go_wp2_with fail
  refine (HB.out _ _ _).mono ?_; rintro e w1 ⟨rfl, k1⟩; obtain ⟨C1, m, rfl⟩ := grew_of k1; clear k1
  go_wp2_with fail
  go_region_held3 (fun w' => w'.cell? ⟨w.heap.size, 0, none⟩ = some (.int .i64 n1) ∧ w'.cell? ⟨w.heap.size, 1, none⟩ = some (.int .i64 s1) ∧ w'.cell? ⟨gsz w C1 3, 0, none⟩ = some (.bool r) ∧ w'.cell? ⟨gsz w C1 3, 1, none⟩ = some (.string (bgX n2 s2)) ∧ w'.cell? ⟨gsz w C1 3, 2, none⟩ = some (.int .i64 (bgS n2 s2))) ((simp [go_sem]; done)) (first
    | (go_at_call 33; refine (HB.out _ _ _).mono ?_; rintro e w1 ⟨rfl, k1⟩; obtain ⟨C, m, rfl⟩ := grew_of k1; clear k1)
    | (go_at_call 49; refine (HP.out _).mono ?_; rintro e w1 ⟨⟨neg, hn, rfl⟩, k1⟩; have HN := hid hn; clear hn; obtain ⟨C, m, rfl⟩ := grew_of k1; clear k1)
    | (go_at_call 34; refine (HF.out _ _ HN.out).mono ?_; rintro e w1 ⟨rfl, k1⟩; obtain ⟨C, m, rfl⟩ := grew_of k1; clear k1))
  all_goals
    go_wp2_with fail
    exact bodyPost_ret (v := .tuple #[.agg #[.int .i64 x, .int .i64 y], .bool b]) (by simp [results, Tryz.results23, go_sem]) rfl ⟨rfl, (by repeat (with_reducible first | exact Kb.refl _ _ | exact KW.out | refine Kb.setC ?_ (by assumption) | apply Kb.drew | apply Kb.drewN | apply Kb.grew | apply Kb.alloc))⟩
theorem cmpZ_sub (a b : Int) (k : Nat) (Z : Int) (h : Z * ((10 ^ k : Nat) : Int) = a - b) : cmpZ a b = if Z < 0 then -1 else if Z = 0 then 0 else 1 := by
  have hp := powZ_pos k
  generalize ((10 ^ k : Nat) : Int) = P at *
  by_cases h1 : Z < 0
  · rw [if_pos h1]
    have := Int.mul_neg_of_neg_of_pos h1 hp
    exact cmpZ_lt (by omega)
  · rw [if_neg h1]
    by_cases h2 : Z = 0
    · rw [if_pos h2]
      rw [h2, Int.zero_mul] at h
      rw [show a = b by omega]
      exact cmpZ_eq b
    · rw [if_neg h2]
      have := Int.mul_pos (show 0 < Z by omega) hp
      exact cmpZ_gt (by omega)
set_option maxHeartbeats 4000000 in
set_option maxRecDepth 100000 in
theorem rcmp_c (n1 s1 n2 s2 r : Int) (h : cmpZ (unitZ n1 s1) (unitZ n2 s2) = r) (w : World) :
    Calls Tryz.prog 24 #[.agg #[.int .i64 n1, .int .i64 s1], .agg #[.int .i64 n2, .int .i64 s2]] w fun e w' => e = .returned (.int .i64 r) ∧ Kb (fun _ => False) w w' := by
  have hm := plusZ_kn n1 s1 n2 s2 true
  simp only [if_true] at hm
  have hc := cmpZ_sub _ _ _ _ hm
  rw [h] at hc
  have HB := hid big_d
  obtain ⟨q, hq⟩ : ∃ r, (!bgN n2 s2) = r := ⟨_, rfl⟩
  have HP := hid (fun w => plus_d n1 s1 n2 s2 true q w hq)
  have hs0 := natS_pos (sumZ n1 s1 n2 s2 true).natAbs
  have hc2 : r = if sumZ n1 s1 n2 s2 true < 0 then -1 else if sumZ n1 s1 n2 s2 true = 0 then 0 else 1 := hc
  clear h hm hc
  generalize sumZ n1 s1 n2 s2 true = Z at *
  have h3 : (Z = 0 ∧ r = 0 ∧ ((natS Z.natAbs).size : Int) = 0) ∨ (Z < 0 ∧ r = -1 ∧ (0 : Int) < ((natS Z.natAbs).size : Int)) ∨ (0 < Z ∧ r = 1 ∧ (0 : Int) < ((natS Z.natAbs).size : Int)) := by
    rcases Int.lt_trichotomy Z 0 with h | h | h
    · rw [if_pos h] at hc2
      exact Or.inr (Or.inl ⟨h, hc2, by have := hs0 (by omega); omega⟩)
    · rw [if_neg (by omega), if_pos h] at hc2
      exact Or.inl ⟨h, hc2, by rw [h]; rfl⟩
    · rw [if_neg (by omega), if_neg (by omega)] at hc2
      exact Or.inr (Or.inr ⟨h, hc2, by have := hs0 (by omega); omega⟩)
  clear hc2 hs0
  generalize natS Z.natAbs = ZZ at *
  rcases h3 with ⟨hz, rfl, hs⟩ | ⟨hz, rfl, hs⟩ | ⟨hz, rfl, hs⟩
  all_goals
    have HZ := hid hz
    clear hz
    go_enter Tryz.func24, Tryz.ntmps24
    go_wp2_with fail
    refine (HB.out _ _ _).mono ?_; rintro e w1 ⟨rfl, k1⟩; obtain ⟨C1, m, rfl⟩ := grew_of k1; clear k1
    go_wp2_with fail
    refine (HB.out _ _ _).mono ?_; rintro e w1 ⟨rfl, k1⟩; obtain ⟨C2, m, rfl⟩ := grew_of k1; clear k1
    go_wp2_with fail
    refine (HP.out _).mono ?_
    rintro e w1 ⟨⟨neg, hn, rfl⟩, k1⟩
    obtain ⟨C3, m, rfl⟩ := grew_of k1
    clear k1
  · clear hn
    go_wp2_with fail
    exact bodyPost_ret (v := .int .i64 0) (by simp [results, Tryz.results24, go_sem]) rfl ⟨rfl, (by repeat (with_reducible first | exact Kb.refl _ _ | exact KW.out | refine Kb.setC ?_ (by assumption) | apply Kb.drew | apply Kb.drewN | apply Kb.grew | apply Kb.alloc))⟩
  · obtain rfl : neg = true := by
      have := HZ.out
      rw [hn (by omega)]
      exact decide_eq_true (by omega)
    clear hn
    go_wp2_with fail
    exact bodyPost_ret (v := .int .i64 (-1)) (by simp [results, Tryz.results24, go_sem]) rfl ⟨rfl, (by repeat (with_reducible first | exact Kb.refl _ _ | exact KW.out | refine Kb.setC ?_ (by assumption) | apply Kb.drew | apply Kb.drewN | apply Kb.grew | apply Kb.alloc))⟩
  · obtain rfl : neg = false := by
      have := HZ.out
      rw [hn (by omega)]
      exact decide_eq_false (by omega)
    clear hn
    go_wp2_with fail
    exact bodyPost_ret (v := .int .i64 1) (by simp [results, Tryz.results24, go_sem]) rfl ⟨rfl, (by repeat (with_reducible first | exact Kb.refl _ _ | exact KW.out | refine Kb.setC ?_ (by assumption) | apply Kb.drew | apply Kb.drewN | apply Kb.grew | apply Kb.alloc))⟩
end Go.Proofs.YtkhjgfbiemllmaaGreatDoor
namespace Go.Proofs.YtkhjgfbiemllmaaGreatDoor
set_option linter.unusedSimpArgs false
set_option linter.unusedVariables false
open Go.RowKit

/-- The last c digits of a number. -/
def padR : Nat → Nat → List UInt8
  | 0, _ => []
  | c + 1, x => padR c (x / 10) ++ [UInt8.ofNat (48 + x % 10)]
theorem padR_len (c x : Nat) : (padR c x).length = c := by
  induction c generalizing x with
  | zero => rfl
  | succ c ih => rw [padR, List.length_append, ih]; rfl
theorem dec_small (x : Nat) (h : x < 10) : Lib.decDigits x = [UInt8.ofNat (48 + x)] := by rw [Lib.decDigits, dif_pos h]
theorem dec_big (x : Nat) (h : ¬ x < 10) : Lib.decDigits x = Lib.decDigits (x / 10) ++ [UInt8.ofNat (48 + x % 10)] := by rw [Lib.decDigits, dif_neg h]
theorem padL_step (x c : Nat) : padL x (c + 1) = padL (x / 10) c ++ [UInt8.ofNat (48 + x % 10)] := by
  unfold padL
  by_cases h : x < 10
  · rw [dec_small x h, Nat.div_eq_of_lt h, Nat.mod_eq_of_lt h, dec_small 0 (by omega)]
    simp only [List.length_singleton]
    rw [show c + 1 + 1 - 1 = (c + 1 - 1) + 1 by omega, List.replicate_succ', List.append_assoc, List.append_assoc]
    rfl
  · rw [dec_big x h]
    simp only [List.length_append, List.length_singleton]
    rw [show c + 1 + 1 - ((Lib.decDigits (x / 10)).length + 1) = c + 1 - (Lib.decDigits (x / 10)).length by omega, List.append_assoc]
theorem dec_ne (x : Nat) : 1 ≤ (Lib.decDigits x).length := by rw [Lib.decDigits_length]; exact Lib.nDigits_pos _
theorem padL_split (c x : Nat) : padL x c = Lib.decDigits (x / 10 ^ c) ++ padR c x := by
  induction c generalizing x with
  | zero =>
    have := dec_ne x
    unfold padL
    rw [show 0 + 1 - (Lib.decDigits x).length = 0 by omega]
    simp [padR]
  | succ c ih =>
    rw [padL_step, ih, padR, Nat.pow_succ, Nat.mul_comm, Nat.div_div_eq_div_mul, List.append_assoc]
theorem padR_mod (c x : Nat) : padR c (x % 10 ^ c) = padR c x := by
  induction c generalizing x with
  | zero => rfl
  | succ c ih =>
    have e1 : x % 10 ^ (c + 1) / 10 = x / 10 % 10 ^ c := by rw [Nat.pow_succ, Nat.mul_comm, Nat.mod_mul_right_div_self]
    have e2 : x % 10 ^ (c + 1) % 10 = x % 10 := by rw [Nat.pow_succ, Nat.mod_mul_left_mod]
    rw [padR, padR, e1, e2, ih]
theorem dec_one (c r : Nat) (h : r < 10 ^ c) : Lib.decDigits (10 ^ c + r) = 49 :: padR c r := by
  induction c generalizing r with
  | zero =>
    obtain rfl : r = 0 := by simpa using h
    rw [dec_small _ (by decide)]
    rfl
  | succ c ih =>
    have hp := pow_pos10 c
    have e : 10 ^ (c + 1) = 10 * 10 ^ c := by rw [Nat.pow_succ, Nat.mul_comm]
    rw [e] at h ⊢
    rw [dec_big _ (by omega), show (10 * 10 ^ c + r) / 10 = 10 ^ c + r / 10 by omega, show (10 * 10 ^ c + r) % 10 = r % 10 by omega, ih _ (by omega), padR]
    rfl
/-- The reference's text: the whole part, and, where there is a scale, the digits behind 1 of 10^c more than the rest. -/
theorem magL_ref (x c : Nat) : magL x c = Lib.decDigits (x / 10 ^ c) ++ (if c = 0 then [] else 46 :: (Lib.decDigits (10 ^ c + x % 10 ^ c)).drop 1) := by
  unfold magL
  by_cases h : c = 0
  · subst h
    rw [if_pos rfl, if_pos rfl, Nat.pow_zero, Nat.div_one, List.append_nil]
  · rw [if_neg h, if_neg h, dec_one c _ (Nat.mod_lt _ (pow_pos10 c)), padR_mod, padL_split]
    rw [List.length_append, padR_len, Nat.add_sub_cancel, List.take_left' rfl, List.drop_left' rfl]
    simp
end Go.Proofs.YtkhjgfbiemllmaaGreatDoor
namespace Go.Proofs.YtkhjgfbiemllmaaGreatDoor
set_option linter.unusedSimpArgs false
set_option linter.unusedVariables false
open Go.RowKit

theorem quo_n (a b : Nat) (w : World) (ha : (natS a).size ≤ 1000000) (hb : (natS b).size ≤ 1000000) (h0 : 0 < b) :
    Calls Tryz.prog 39 #[.string (natS a), .string (natS b)] w fun e w' => e = .returned (.tuple #[.string (natS (a / b)), .string (natS (a % b)), .bool true]) ∧ Kb (fun _ => False) w w' := by
  have := Quo_any (natS a) (natS b) w ha hb (by rw [sv_natS]; exact h0)
  rwa [sv_natS, sv_natS] at this
theorem dect_c (n : Nat) (w : World) (h : (natS n).size ≤ 1000000) :
    Calls Tryz.prog 42 #[.string (natS n)] w fun e w' => e = .returned (.string (strL (Lib.decDigits n))) ∧ Kb (fun _ => False) w w' := by
  have := rText_c (natS n) w h
  rwa [sv_natS] at this
theorem nat_fit (n : Nat) (h : n ≤ 1000000000000000000000) : (natS n).size ≤ 1000 := natS_le1000 _ (Nat.lt_of_le_of_lt h (by decide +kernel))
set_option maxHeartbeats 4000000 in
set_option maxRecDepth 100000 in
theorem rtext_core (n s : Int) (X : Int) (x c : Nat) (w : World) (hX : knN n s = X) (hc : knS n s = c) (hx : X.natAbs = x) (hx1 : x ≤ 1000000000000000) (hc6 : c ≤ 6) :
    Calls Tryz.prog 15 #[.agg #[.int .i64 n, .int .i64 s]] w fun e w' => e = .returned (.string (strL (textL X c))) ∧ Kb (fun _ => False) w w' := by
  have HB := hid (fun w => big_c n s w)
  unfold bigV at HB
  rw [hX, hc, hx] at HB
  have HP := hid (fun w => power_c c w (by omega))
  have hpb := pow_bd c hc6
  have HQ := hid (fun w => quo_n x (10 ^ c) w (Nat.le_trans (nat_fit x (by omega)) (by omega)) (Nat.le_trans (nat_fit (10 ^ c) (by omega)) (by omega)) hpb.1)
  have hq : x / 10 ^ c ≤ x := Nat.div_le_self _ _
  have hr : x % 10 ^ c < 10 ^ c := Nat.mod_lt _ hpb.1
  have HT := hid (fun w => dect_c (x / 10 ^ c) w (Nat.le_trans (nat_fit _ (by omega)) (by omega)))
  have HA := hid (fun w => Add_nat (10 ^ c) (x % 10 ^ c) w (Nat.le_trans (nat_fit _ (by omega)) (by omega)) (Nat.le_trans (nat_fit _ (by omega)) (by omega)))
  have HU := hid (fun w => dect_c (10 ^ c + x % 10 ^ c) w (Nat.le_trans (nat_fit _ (by omega)) (by omega)))
  have hm := magL_ref x c
  have hl := decDigits_len (x / 10 ^ c) 15 (Nat.lt_of_le_of_lt (show _ ≤ 1000000000000000 by omega) (by decide))
  have hl2 := decDigits_len (10 ^ c + x % 10 ^ c) 15 (Nat.lt_of_le_of_lt (show _ ≤ 1000000000000000 by omega) (by decide))
  rw [← strL_size] at hl hl2
  have HF := hid (show strL (textL X c) = strL (if X < 0 then [45] else []) ++ strL (Lib.decDigits (x / 10 ^ c)) ++ (if c = 0 then strL [] else (⟨#[46]⟩ : ByteArray) ++ (strL (Lib.decDigits (10 ^ c + x % 10 ^ c))).extract 1 (strL (Lib.decDigits (10 ^ c + x % 10 ^ c))).size) by
    unfold textL
    rw [hx, hm, ← app_strL, ← app_strL, ← ByteArray.append_assoc]
    congr 1
    by_cases h0 : c = 0
    · rw [if_pos h0, if_pos h0]
    · rw [if_neg h0, if_neg h0, ext_strL, show (⟨#[46]⟩ : ByteArray) = strL [46] from rfl, app_strL, strL_size, List.take_of_length_le (Nat.le_refl _)]
      rfl)
  clear hX hc hx hq hr hm hpb
  generalize natS (10 ^ c + x % 10 ^ c) = PR at *
  generalize natS (10 ^ c) = P at *
  generalize natS (x / 10 ^ c) = Q at *
  generalize natS (x % 10 ^ c) = R at *
  generalize strL (Lib.decDigits (x / 10 ^ c)) = S at *
  generalize strL (Lib.decDigits (10 ^ c + x % 10 ^ c)) = T at *
  generalize natS x = N at *
  obtain ⟨hl3, hl4⟩ := hl
  obtain ⟨hl5, hl6⟩ := hl2
  have hcc : (c : Int) = 0 ∨ (0 : Int) < (c : Int) := by omega
  by_cases hneg : X < 0
  all_goals
    first | rw [if_pos hneg] at HF | rw [if_neg hneg] at HF
    first | rw [decide_eq_true hneg] at HB | rw [decide_eq_false hneg] at HB
    clear hneg
    by_cases h0 : c = 0
    · subst h0
      rw [if_pos rfl] at HF
      clear hcc
      go_enter Tryz.func15, Tryz.ntmps15
      go_wp2_with fail
      refine (HB.out _).mono ?_; rintro e w1 ⟨rfl, k1⟩; obtain ⟨C1, m, rfl⟩ := grew_of k1; clear k1
      go_wp2_with fail
      refine (HP.out _).mono ?_; rintro e w1 ⟨rfl, k1⟩; obtain ⟨C2, m, rfl⟩ := grew_of k1; clear k1
      go_wp2_with fail
      refine (HQ.out _).mono ?_; rintro e w1 ⟨rfl, k1⟩; obtain ⟨C3, m, rfl⟩ := grew_of k1; clear k1
      go_wp2_with fail
      refine (HT.out _).mono ?_; rintro e w1 ⟨rfl, k1⟩; obtain ⟨C4, m, rfl⟩ := grew_of k1; clear k1
      go_wp2_with fail
      go_ret
      refine ⟨congrArg (fun x => Ending.returned (.string x)) ?_, (by repeat (with_reducible first | exact Kb.refl _ _ | exact KW.out | refine Kb.setC ?_ (by assumption) | apply Kb.drew | apply Kb.drewN | apply Kb.grew | apply Kb.alloc))⟩
      rw [HF.out]
      apply ba_eq
      simp [ByteArray.data_append, strL]
    · rw [if_neg h0] at HF
      have hc1 : (0 : Int) < (c : Int) := by omega
      clear hcc h0
      go_enter Tryz.func15, Tryz.ntmps15
      go_wp2_with fail
      refine (HB.out _).mono ?_; rintro e w1 ⟨rfl, k1⟩; obtain ⟨C1, m, rfl⟩ := grew_of k1; clear k1
      go_wp2_with fail
      refine (HP.out _).mono ?_; rintro e w1 ⟨rfl, k1⟩; obtain ⟨C2, m, rfl⟩ := grew_of k1; clear k1
      go_wp2_with fail
      refine (HQ.out _).mono ?_; rintro e w1 ⟨rfl, k1⟩; obtain ⟨C3, m, rfl⟩ := grew_of k1; clear k1
      go_wp2_with fail
      refine (HT.out _).mono ?_; rintro e w1 ⟨rfl, k1⟩; obtain ⟨C4, m, rfl⟩ := grew_of k1; clear k1
      go_wp2_with fail
      refine (HA.out _).mono ?_; rintro e w1 ⟨rfl, k1⟩; obtain ⟨C5, m, rfl⟩ := grew_of k1; clear k1
      go_wp2_with fail
      refine (HU.out _).mono ?_; rintro e w1 ⟨rfl, k1⟩; obtain ⟨C6, m, rfl⟩ := grew_of k1; clear k1
      go_wp2_with fail
      go_ret
      refine ⟨congrArg (fun x => Ending.returned (.string x)) ?_, (by repeat (with_reducible first | exact Kb.refl _ _ | exact KW.out | refine Kb.setC ?_ (by assumption) | apply Kb.drew | apply Kb.drewN | apply Kb.grew | apply Kb.alloc))⟩
      rw [HF.out]
      apply ba_eq
      simp [ByteArray.data_append, strL]
theorem rtext_c (n s : Int) (w : World) :
    Calls Tryz.prog 15 #[.agg #[.int .i64 n, .int .i64 s]] w fun e w' => e = .returned (.string (textS n s)) ∧ Kb (fun _ => False) w w' := by
  have hb := kn_bd n s
  exact rtext_core n s _ _ _ w rfl rfl rfl (by omega) hb.2.2
theorem kn_right (n s : Int) : rightB (knN n s) (knS n s : Nat) = true := by
  cases h : rightB n s
  · unfold knN knS
    rw [h]
    exact right_zero
  · obtain ⟨h1, h2⟩ := kn_of h
    rw [h1, h2, h]
theorem mkD_kn (n s : Int) : mkD (knN n s) (knS n s) = ⟨knN n s, (knS n s : Nat), true⟩ := mkD_of_right _ _ _ _ (kn_right n s) (Nat.le_refl _) (by simp)
theorem rnd_twice (x : Int) (j : Nat) (hj : 0 < j) : (x.natAbs * 2 + 10 ^ j) / (10 ^ j * 2) = (rnd x (10 ^ j)).natAbs ∧ (rnd x (10 ^ j) ≠ 0 → decide (x < 0) = decide (rnd x (10 ^ j) < 0)) := by
  have hr := rnd_abs x (10 ^ j) (pow_pos10 j)
  obtain ⟨i, rfl⟩ : ∃ i, j = i + 1 := ⟨j - 1, by omega⟩
  have hp := pow_pos10 i
  have e : 10 ^ (i + 1) = 2 * (5 * 10 ^ i) := by rw [Nat.pow_succ]; omega
  have e2 : (x.natAbs * 2 + 10 ^ (i + 1)) / (10 ^ (i + 1) * 2) = (x.natAbs + 10 ^ (i + 1) / 2) / 10 ^ (i + 1) := by
    rw [show x.natAbs * 2 + 10 ^ (i + 1) = (x.natAbs + 10 ^ (i + 1) / 2) * 2 by omega, Nat.mul_div_mul_right _ _ (by omega)]
  rw [e2]
  generalize (x.natAbs + 10 ^ (i + 1) / 2) / 10 ^ (i + 1) = D at *
  rw [hr]
  by_cases hx : x < 0
  · rw [if_pos hx, decide_eq_true hx]
    exact ⟨by omega, fun h => (decide_eq_true (by omega)).symm⟩
  · rw [if_neg hx, decide_eq_false hx]
    exact ⟨by omega, fun h => (decide_eq_false (by omega)).symm⟩
end Go.Proofs.YtkhjgfbiemllmaaGreatDoor
namespace Go.Proofs.YtkhjgfbiemllmaaGreatDoor
set_option linter.unusedSimpArgs false
set_option linter.unusedVariables false
open Go.RowKit

set_option maxHeartbeats 4000000 in
set_option maxRecDepth 100000 in
theorem rround_c (n s k x y : Int) (b : Bool) (h : roundD n s k = ⟨x, y, b⟩) (w : World) :
    Calls Tryz.prog 13 #[.agg #[.int .i64 n, .int .i64 s], .int .i64 k] w fun e w' => e = .returned (.tuple #[.agg #[.int .i64 x, .int .i64 y], .bool b]) ∧ Kb (fun _ => False) w w' := by
  by_cases hk : 0 ≤ k ∧ k ≤ 6
  · have kb := kn_bd n s
    have HB := hid (fun w => big_c n s w)
    unfold bigV at HB
    unfold roundD at h
    rw [if_pos hk] at h
    obtain ⟨hk1, hk2⟩ := hk
    obtain ⟨k, rfl⟩ : ∃ j : Nat, k = j := ⟨k.toNat, by omega⟩
    by_cases hle : (knS n s : Int) ≤ (k : Int)
    · rw [if_pos hle] at h
      have HF := hid (fun w => fit_is (decide (knN n s < 0)) (knN n s).natAbs (knS n s) (.tuple #[.agg #[.int .i64 x, .int .i64 y], .bool b]) w (by omega) (Nat.le_trans (nat_fit _ (by omega)) (by omega)) (by rw [fitV_mkD, mkD_kn, h]))
      clear kb h
      generalize knS n s = S1 at *
      generalize natS (knN n s).natAbs = X at *
      generalize decide (knN n s < 0) = p at *
      go_enter Tryz.func13, Tryz.ntmps13
      go_wp2_with fail
      refine (HB.out _).mono ?_; rintro e w1 ⟨rfl, k1⟩; obtain ⟨C1, m, rfl⟩ := grew_of k1; clear k1
      go_wp2_with fail
      refine (HF.out _).mono ?_; rintro e w1 ⟨rfl, k1⟩; obtain ⟨C2, m, rfl⟩ := grew_of k1; clear k1
      go_wp2_with fail
      exact bodyPost_ret (v := .tuple #[.agg #[.int .i64 x, .int .i64 y], .bool b]) (by simp [results, Tryz.results13, go_sem]) rfl ⟨rfl, (by repeat (with_reducible first | exact Kb.refl _ _ | exact KW.out | refine Kb.setC ?_ (by assumption) | apply Kb.drew | apply Kb.drewN | apply Kb.grew | apply Kb.alloc))⟩
    · rw [if_neg hle] at h
      rw [Int.toNat_natCast] at h
      obtain ⟨j, hj⟩ : ∃ j, knS n s = k + j := ⟨knS n s - k, by omega⟩
      rw [hj, show k + j - k = j by omega] at h
      have hj0 : 0 < j := by omega
      have hpb := pow_bd j (by omega)
      obtain ⟨r1, r2⟩ := rnd_twice (knN n s) j hj0
      have hmk : mkD (rnd (knN n s) (10 ^ j)) k = ⟨x, y, b⟩ := by
        rw [← h]
        unfold makeD
        rw [if_pos (by omega), Int.toNat_natCast]
      have hrb := rnd_bd (knN n s) (10 ^ j) kb.1 kb.2.1 hpb.2
      have HF := hid (fun w => fit_is (decide (knN n s < 0)) (((knN n s).natAbs * 2 + 10 ^ j) / (10 ^ j * 2)) k (.tuple #[.agg #[.int .i64 x, .int .i64 y], .bool b]) w (by omega) (by rw [r1]; exact Nat.le_trans (nat_fit _ (by omega)) (by omega)) (by rw [r1, fitV_near _ _ _ r2, hmk]))
      have HP := hid (fun w => power_c j w (by omega))
      have HO := hid (fun z w h => Of_lit z 2 w h (by omega))
      have H1 := hid (fun w => mul_c2 (knN n s).natAbs 2 w (nat_fit _ (by omega)) (by decide))
      have HA := hid (fun w => Add_nat ((knN n s).natAbs * 2) (10 ^ j) w (Nat.le_trans (nat_fit _ (by omega)) (by omega)) (Nat.le_trans (nat_fit _ (by omega)) (by omega)))
      have H2 := hid (fun w => mul_c2 (10 ^ j) 2 w (nat_fit _ (by omega)) (by decide))
      have HQ := hid (fun w => quo_n ((knN n s).natAbs * 2 + 10 ^ j) (10 ^ j * 2) w (Nat.le_trans (nat_fit _ (by omega)) (by omega)) (Nat.le_trans (nat_fit _ (by omega)) (by omega)) (by omega))
      have kb3 := kb.2.2
      clear h r1 r2 hmk hrb kb hpb hle
      generalize knS n s = c at *
      generalize natS (((knN n s).natAbs * 2 + 10 ^ j) / (10 ^ j * 2)) = V1 at *
      generalize natS (((knN n s).natAbs * 2 + 10 ^ j) % (10 ^ j * 2)) = V2 at *
      generalize natS ((knN n s).natAbs * 2 + 10 ^ j) = V3 at *
      generalize natS (10 ^ j * 2) = V4 at *
      generalize natS ((knN n s).natAbs * 2) = V5 at *
      generalize natS (10 ^ j) = V6 at *
      generalize natS (knN n s).natAbs = X at *
      generalize natS 2 = V7 at *
      generalize decide (knN n s < 0) = p at *
      have c1 : decide (c ≤ k) = false := decide_eq_false (by omega)
      have E1 := hid (show IntKind.i64.wrap ((c : Int) - (k : Int)) = (j : Int) by rw [IntWalk.i64_in _ (by omega)]; omega)
      clear hj
      go_enter Tryz.func13, Tryz.ntmps13
      go_wp2_with fail
      refine (HB.out _).mono ?_; rintro e w1 ⟨rfl, k1⟩; obtain ⟨C1, m, rfl⟩ := grew_of k1; clear k1
      have e1 := E1.out
      go_wp2_with fail
      refine (HP.out _).mono ?_; rintro e w1 ⟨rfl, k1⟩; obtain ⟨C2, m, rfl⟩ := grew_of k1; clear k1
      go_wp2_with fail
      go_region_held3 (fun w' => w'.cell? ⟨gsz w C1 2, 0, none⟩ = some (.bool p) ∧ w'.cell? ⟨gsz w C1 2, 1, none⟩ = some (.string X) ∧ w'.cell? ⟨gsz w C1 2, 2, none⟩ = some (.int .i64 (c : Int))) ((simp [go_sem]; done)) (first
        | (go_at_call 38; refine (HO.out _ _ (by omega)).mono ?_; rintro e w1 ⟨rfl, k1⟩; obtain ⟨C, m, rfl⟩ := grew_of k1; clear k1)
        | (go_at_call 35; refine (H1.out _).mono ?_; rintro e w1 ⟨rfl, k1⟩; obtain ⟨C, m, rfl⟩ := grew_of k1; clear k1)
        | (go_at_call 37; refine (HA.out _).mono ?_; rintro e w1 ⟨rfl, k1⟩; obtain ⟨C, m, rfl⟩ := grew_of k1; clear k1))
      go_wp2_with fail
      refine (HO.out _ _ (by omega)).mono ?_; rintro e w1 ⟨rfl, k1⟩; obtain ⟨C6, m, rfl⟩ := grew_of k1; clear k1
      go_wp2_with fail
      refine (H2.out _).mono ?_; rintro e w1 ⟨rfl, k1⟩; obtain ⟨C7, m, rfl⟩ := grew_of k1; clear k1
      go_wp2_with fail
      refine (HQ.out _).mono ?_; rintro e w1 ⟨rfl, k1⟩; obtain ⟨C8, m, rfl⟩ := grew_of k1; clear k1
      go_wp2_with fail
      refine (HF.out _).mono ?_; rintro e w1 ⟨rfl, k1⟩; obtain ⟨C9, m, rfl⟩ := grew_of k1; clear k1
      go_wp2_with fail
      exact bodyPost_ret (v := .tuple #[.agg #[.int .i64 x, .int .i64 y], .bool b]) (by simp [results, Tryz.results13, go_sem]) rfl ⟨rfl, (by repeat (with_reducible first | exact Kb.refl _ _ | exact KW.out | refine Kb.setC ?_ (by assumption) | apply Kb.drew | apply Kb.drewN | apply Kb.grew | apply Kb.alloc))⟩
  · unfold roundD at h
    rw [if_neg hk] at h
    unfold noR at h
    injection h with h1 h2 h3
    subst h1 h2 h3
    have c1 : k < 0 ∨ (¬ k < 0 ∧ 6 < k) := by omega
    rcases c1 with c1 | ⟨c1, c2⟩
    all_goals
      go_enter Tryz.func13, Tryz.ntmps13
      go_wp2_with fail
      exact bodyPost_ret (v := .tuple #[.agg #[.int .i64 0, .int .i64 0], .bool false]) (by simp [results, Tryz.results13, go_sem]) rfl ⟨rfl, (by repeat (with_reducible first | exact Kb.refl _ _ | exact KW.out | refine Kb.setC ?_ (by assumption) | apply Kb.drew | apply Kb.drewN | apply Kb.grew | apply Kb.alloc))⟩
end Go.Proofs.YtkhjgfbiemllmaaGreatDoor
