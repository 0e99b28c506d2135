/- Decimal: plain facts about the numbers. Decimal: the plain laws of right decimals. Decimal: what Text writes is read again. Decimal: the plain laws of rounding and of the order. -/
import Derived.Test.YtkhjgfbiemllmaaGreatDoorGI
import Derived.Lib.IndexBytes
namespace Go.Proofs.YtkhjgfbiemllmaaGreatDoor
set_option linter.unusedSimpArgs false
set_option linter.unusedVariables false
open Go.RowKit

theorem strip_done (s N : Nat) : (strip s N).2 = 0 ∨ (strip s N).1 % 10 ≠ 0 := by
  induction s generalizing N with
  | zero => left; rfl
  | succ s ih =>
    by_cases h : N % 10 = 0
    · rw [strip_step _ _ h]; exact ih _
    · rw [strip_stop _ _ (Or.inr h)]; exact Or.inr h
theorem strip_eq (s N : Nat) : (strip s N).2 ≤ s ∧ N = (strip s N).1 * 10 ^ (s - (strip s N).2) := by
  induction s generalizing N with
  | zero => exact ⟨Nat.le_refl _, by rw [strip_stop _ _ (Or.inl rfl)]; simp⟩
  | succ s ih =>
    by_cases h : N % 10 = 0
    · rw [strip_step _ _ h]
      have := ih (N / 10)
      refine ⟨by omega, ?_⟩
      rw [show s + 1 - (strip s (N / 10)).2 = (s - (strip s (N / 10)).2) + 1 by omega, Nat.pow_succ, ← Nat.mul_assoc, ← this.2]
      omega
    · rw [strip_stop _ _ (Or.inr h)]
      exact ⟨Nat.le_refl _, by simp⟩
theorem sgn_natAbs (neg : Bool) (N : Nat) : (sgn neg N).natAbs = N := by unfold sgn; cases neg <;> simp
theorem mkD_ok {z : Int} {s : Nat} (h : (mkD z s).ok = true) : (strip s z.natAbs).1 ≤ 1000000000000000 ∧ (strip s z.natAbs).2 ≤ 6 ∧ mkD z s = ⟨sgn (decide (z < 0)) (strip s z.natAbs).1, ((strip s z.natAbs).2 : Nat), true⟩ := by
  unfold mkD at *
  by_cases hc : (strip s z.natAbs).1 ≤ 1000000000000000 ∧ (strip s z.natAbs).2 ≤ 6
  · rw [if_pos hc]; exact ⟨hc.1, hc.2, rfl⟩
  · rw [if_neg hc] at h; exact absurd h (by simp [noR])
theorem mkD_right {z : Int} {s : Nat} (h : (mkD z s).ok = true) : rightB (mkD z s).n (mkD z s).s = true := by
  obtain ⟨h1, h2, h3⟩ := mkD_ok h
  rw [h3]
  unfold rightB
  apply decide_eq_true
  have hn := sgn_natAbs (decide (z < 0)) (strip s z.natAbs).1
  simp only
  refine ⟨by omega, by omega, by omega, by omega, ?_⟩
  rcases strip_done s z.natAbs with h | h
  · left; omega
  · right
    intro e
    rw [tmod10, hn] at e
    exact h e
theorem right_zero : rightB 0 0 = true := by decide +kernel
theorem mkD_right' (z : Int) (s : Nat) : rightB (mkD z s).n (mkD z s).s = true := by
  cases h : (mkD z s).ok
  · unfold mkD at *
    by_cases hc : (strip s z.natAbs).1 ≤ 1000000000000000 ∧ (strip s z.natAbs).2 ≤ 6
    · rw [if_pos hc] at h; simp at h
    · rw [if_neg hc]; exact right_zero
  · exact mkD_right h
theorem makeD_right (n s : Int) : rightB (makeD n s).n (makeD n s).s = true := by
  unfold makeD
  split
  · exact mkD_right' _ _
  · exact right_zero
end Go.Proofs.YtkhjgfbiemllmaaGreatDoor
namespace Go.Proofs.YtkhjgfbiemllmaaGreatDoor
set_option linter.unusedSimpArgs false
set_option linter.unusedVariables false
open Go.RowKit

theorem strip_mul (j k N : Nat) (h : k = 0 ∨ N % 10 ≠ 0) : strip (k + j) (N * 10 ^ j) = (N, k) := by
  induction j with
  | zero => rw [Nat.pow_zero, Nat.mul_one, Nat.add_zero, strip_stop _ _ h]
  | succ j ih =>
    have e : N * 10 ^ (j + 1) = (N * 10 ^ j) * 10 := by rw [Nat.pow_succ, Nat.mul_assoc]
    rw [show k + (j + 1) = (k + j) + 1 by omega, strip_step _ _ (by rw [e]; omega), e, Nat.mul_div_cancel _ (by omega)]
    exact ih
theorem pow_pos10 (j : Nat) : 0 < 10 ^ j := Nat.pow_pos (by omega)
theorem powZ_pos (j : Nat) : (0 : Int) < ((10 ^ j : Nat) : Int) := by have := pow_pos10 j; omega
theorem neg_mul_pow (n : Int) (j : Nat) : decide (n * ((10 ^ j : Nat) : Int) < 0) = decide (n < 0) := by
  have hp := powZ_pos j
  apply decide_eq_decide.2
  constructor
  · intro h
    rcases Int.lt_or_le n 0 with h1 | h1
    · exact h1
    · have := Int.mul_nonneg h1 (Int.le_of_lt hp)
      omega
  · intro h
    exact Int.mul_neg_of_neg_of_pos h hp
theorem sgn_self (n : Int) : sgn (decide (n < 0)) n.natAbs = n := by
  unfold sgn
  by_cases h : n < 0
  · simp only [h, decide_true, if_true]; omega
  · simp only [h, decide_false, Bool.false_eq_true, if_false]; omega
/-- A number that is a right decimal is made as that. -/
theorem mkD_of_right (n : Int) (k s : Nat) (z : Int) (h : rightB n k = true) (hk : k ≤ s) (hz : z = n * ((10 ^ (s - k) : Nat) : Int)) : mkD z s = ⟨n, k, true⟩ := by
  have hb := rightB_bd h
  have hd : k = 0 ∨ n.natAbs % 10 ≠ 0 := by
    rcases hb.2.2.2.2 with h | h
    · left; omega
    · right; intro e; exact h ((tmod10 n).2 e)
  have hN : z.natAbs = n.natAbs * 10 ^ (s - k) := by rw [hz, Int.natAbs_mul, Int.natAbs_natCast]
  have hs := strip_mul (s - k) k n.natAbs hd
  rw [show k + (s - k) = s by omega] at hs
  unfold mkD
  rw [hN, hs, if_pos ⟨by omega, by omega⟩, hz, neg_mul_pow, sgn_self]
/-- What a made decimal says. -/
theorem mkD_eq {z : Int} {s : Nat} (h : (mkD z s).ok = true) : ∃ k : Nat, (mkD z s).s = k ∧ k ≤ s ∧ k ≤ 6 ∧ (mkD z s).n * ((10 ^ (s - k) : Nat) : Int) = z := by
  obtain ⟨h1, h2, h3⟩ := mkD_ok h
  obtain ⟨e1, e2⟩ := strip_eq s z.natAbs
  refine ⟨(strip s z.natAbs).2, by rw [h3], e1, h2, ?_⟩
  rw [h3]
  simp only
  have hs := neg_mul_pow
  by_cases hz : z < 0
  · unfold sgn
    rw [decide_eq_true hz, if_pos rfl, Int.neg_mul]
    have : ((strip s z.natAbs).1 : Int) * ((10 ^ (s - (strip s z.natAbs).2) : Nat) : Int) = z.natAbs := by rw [← Int.natCast_mul, ← e2]
    omega
  · unfold sgn
    rw [decide_eq_false hz, if_neg (by simp)]
    have : ((strip s z.natAbs).1 : Int) * ((10 ^ (s - (strip s z.natAbs).2) : Nat) : Int) = z.natAbs := by rw [← Int.natCast_mul, ← e2]
    omega
theorem mkD_ok_small (z : Int) (s : Nat) (hs : s ≤ 6) (hz : z.natAbs ≤ 1000000000000000) : (mkD z s).ok = true := by
  have := strip_le s z.natAbs
  unfold mkD
  rw [if_pos ⟨by omega, by omega⟩]
theorem unitZ_right {n s : Int} (h : rightB n s = true) : unitZ n s = n * ((10 ^ (6 - s.toNat) : Nat) : Int) := by
  unfold unitZ
  rw [h, if_pos rfl]
theorem unit_mkD {z : Int} {s : Nat} (hs : s ≤ 6) (h : (mkD z s).ok = true) : unitZ (mkD z s).n (mkD z s).s = z * ((10 ^ (6 - s) : Nat) : Int) := by
  rw [unitZ_right (mkD_right h)]
  obtain ⟨k, e1, e2, e3, e4⟩ := mkD_eq h
  clear h
  generalize mkD z s = r at *
  rw [e1, ← e4, Int.mul_assoc, ← Int.natCast_mul, ← Nat.pow_add, Int.toNat_natCast, show s - k + (6 - s) = 6 - k by omega]
theorem unit_inj {n s n' s' : Int} (h : rightB n s = true) (h' : rightB n' s' = true) (e : unitZ n s = unitZ n' s') : n = n' ∧ s = s' := by
  have b := rightB_bd h
  have b' := rightB_bd h'
  obtain ⟨k, rfl⟩ : ∃ k : Nat, s = k := ⟨s.toNat, by omega⟩
  obtain ⟨k', rfl⟩ : ∃ k : Nat, s' = k := ⟨s'.toNat, by omega⟩
  have m1 := mkD_of_right n k 6 (unitZ n k) h (by omega) (unitZ_right h)
  have m2 := mkD_of_right n' k' 6 (unitZ n' k') h' (by omega) (unitZ_right h')
  rw [e, m2] at m1
  injection m1 with q1 q2
  exact ⟨q1.symm, q2.symm⟩
theorem mkD_unit {n s : Int} (h : rightB n s = true) : mkD (unitZ n s) 6 = ⟨n, s, true⟩ := by
  have b := rightB_bd h
  obtain ⟨k, rfl⟩ : ∃ k : Nat, s = k := ⟨s.toNat, by omega⟩
  exact mkD_of_right n k 6 _ h (by omega) (unitZ_right h)
theorem right_int (m : Int) (h : m.natAbs ≤ 1000000000000000) : rightB m 0 = true := by
  unfold rightB
  exact decide_eq_true ⟨by omega, by omega, by omega, by omega, Or.inl rfl⟩
theorem unit_int (m : Int) (h : m.natAbs ≤ 1000000000000000) : unitZ m 0 = m * 1000000 := by
  rw [unitZ_right (right_int m h)]; rfl
theorem makeD_int (m : Int) (h : m.natAbs ≤ 1000000000000000) : makeD m 0 = ⟨m, 0, true⟩ := by
  unfold makeD
  rw [if_pos (by omega)]
  exact mkD_of_right m 0 0 m (right_int m h) (by omega) (by simp)
theorem addD_int (m n : Int) (h1 : m.natAbs ≤ 10000000) (h2 : n.natAbs ≤ 10000000) : addD m 0 n 0 = ⟨m + n, 0, true⟩ := by
  unfold addD
  rw [unit_int m (by omega), unit_int n (by omega)]
  exact mkD_of_right (m + n) 0 6 _ (right_int _ (by omega)) (by omega) (by rw [← Int.add_mul]; rfl)
theorem mulD_int (m n : Int) (h1 : m.natAbs ≤ 10000000) (h2 : n.natAbs ≤ 10000000) : mulD m 0 n 0 = ⟨m * n, 0, true⟩ := by
  unfold mulD
  obtain ⟨a1, a2⟩ := kn_of (right_int m (by omega))
  obtain ⟨b1, b2⟩ := kn_of (right_int n (by omega))
  rw [a1, b1, show knS m 0 = 0 by omega, show knS n 0 = 0 by omega]
  have hb : (m * n).natAbs ≤ 10000000 * 10000000 := by rw [Int.natAbs_mul]; exact Nat.mul_le_mul h1 h2
  exact mkD_of_right (m * n) 0 0 _ (right_int _ (by omega)) (by omega) (by simp)
end Go.Proofs.YtkhjgfbiemllmaaGreatDoor
namespace Go.Proofs.YtkhjgfbiemllmaaGreatDoor
set_option linter.unusedSimpArgs false
set_option linter.unusedVariables false
open Go.RowKit

def IsDig (l : List UInt8) : Prop := ∀ b ∈ l, 48 ≤ b.toNat ∧ b.toNat ≤ 57
def dvl (a : Nat) (l : List UInt8) : Nat := l.foldl (fun a b => a * 10 + (b.toNat - 48)) a
theorem dvl_nil (a : Nat) : dvl a [] = a := rfl
theorem dvl_cons (a : Nat) (b : UInt8) (l : List UInt8) : dvl a (b :: l) = dvl (a * 10 + (b.toNat - 48)) l := by unfold dvl; rw [List.foldl_cons]
theorem dvl_append (a : Nat) (l m : List UInt8) : dvl a (l ++ m) = dvl (dvl a l) m := by unfold dvl; rw [List.foldl_append]
theorem dvl_ge (a : Nat) (l : List UInt8) : a ≤ dvl a l := by
  induction l generalizing a with
  | nil => exact Nat.le_refl _
  | cons b l ih => rw [dvl_cons]; have := ih (a * 10 + (b.toNat - 48)); omega
theorem parse_dig (l : List UInt8) (a : Nat) (h : IsDig l) (hv : dvl a l < 1000000000000000000) : Lib.parseUint10 a l = .ok (dvl a l) := by
  induction l generalizing a with
  | nil => rfl
  | cons b l ih =>
    have hb := h b (by simp)
    rw [dvl_cons] at hv ⊢
    have hg := dvl_ge (a * 10 + (b.toNat - 48)) l
    unfold Lib.parseUint10
    rw [if_pos hb, if_neg (by omega), if_neg (by omega)]
    exact ih _ (fun x hx => h x (List.mem_cons_of_mem _ hx)) hv
theorem dig_byte (d : Nat) (h : d < 10) : (UInt8.ofNat (48 + d)).toNat = 48 + d := by rw [UInt8.toNat_ofNat']; omega
theorem decDigits_dig (n : Nat) : IsDig (Lib.decDigits n) := by
  induction n using Nat.strongRecOn with
  | ind n ih =>
    intro b hb
    unfold Lib.decDigits at hb
    split at hb
    · rw [List.mem_singleton] at hb
      subst hb
      rw [dig_byte n (by omega)]; omega
    · rw [List.mem_append, List.mem_singleton] at hb
      rcases hb with hb | rfl
      · exact ih (n / 10) (by omega) b hb
      · rw [dig_byte _ (by omega)]; omega
theorem dvl_dec (n : Nat) : dvl 0 (Lib.decDigits n) = n := by
  induction n using Nat.strongRecOn with
  | ind n ih =>
    unfold Lib.decDigits
    split
    · rw [dvl_cons, dvl_nil, dig_byte n (by omega)]; omega
    · rw [dvl_append, ih (n / 10) (by omega), dvl_cons, dvl_nil, dig_byte _ (by omega)]; omega
theorem dvl_zeros (j : Nat) (l : List UInt8) : dvl 0 (List.replicate j 48 ++ l) = dvl 0 l := by
  induction j with
  | zero => rfl
  | succ j ih => rw [List.replicate_succ, List.cons_append, dvl_cons]; exact ih
theorem padL_dig (x c : Nat) : IsDig (padL x c) := by
  intro b hb
  unfold padL at hb
  rw [List.mem_append] at hb
  rcases hb with hb | hb
  · rw [(List.mem_replicate.1 hb).2]; decide
  · exact decDigits_dig x b hb
theorem dvl_pad (x c : Nat) : dvl 0 (padL x c) = x := by unfold padL; rw [dvl_zeros, dvl_dec]
theorem padL_len (x c : Nat) : c + 1 ≤ (padL x c).length ∧ 1 ≤ (padL x c).length := by
  unfold padL
  rw [List.length_append, List.length_replicate]
  omega
theorem indexByte_none (l : List UInt8) (h : ∀ b ∈ l, b ≠ 46) : Lib.index l [46] = -1 := by
  apply Lib.index_none
  intro j _
  unfold Lib.occAt
  cases hd : l.drop j with
  | nil => rfl
  | cons b r =>
    have hb : b ∈ l := List.mem_of_mem_drop (i := j) (by rw [hd]; simp)
    have := h b hb
    simp [List.isPrefixOf]
    exact fun e => this e.symm
theorem index_dot (a b : List UInt8) (h : ∀ x ∈ a, x ≠ 46) : Lib.index (a ++ 46 :: b) [46] = (a.length : Int) := by
  apply Lib.index_first
  · simp
  · unfold Lib.occAt
    rw [List.drop_left' rfl]
    simp [List.isPrefixOf]
  · intro j hj
    unfold Lib.occAt
    rw [List.drop_append_of_le_length (by omega)]
    cases hd : a.drop j with
    | nil => have := congrArg List.length hd; simp at this; omega
    | cons c r =>
      have hb : c ∈ a := List.mem_of_mem_drop (i := j) (by rw [hd]; simp)
      have := h c hb
      simp [List.isPrefixOf]
      exact fun e => this e.symm
theorem cut_none (l : List UInt8) (h : ∀ b ∈ l, b ≠ 46) : Lib.cut l [46] = (l, [], false) := by
  unfold Lib.cut
  rw [indexByte_none l h, if_neg (by omega)]
theorem cut_dot (a b : List UInt8) (h : ∀ x ∈ a, x ≠ 46) : Lib.cut (a ++ 46 :: b) [46] = (a, b, true) := by
  unfold Lib.cut
  rw [index_dot a b h, if_pos (by omega)]
  simp
theorem dig_ne (l : List UInt8) (h : IsDig l) (k : Nat) (hk : k < 48) : ∀ b ∈ l, b ≠ UInt8.ofNat k := by
  intro b hb e
  have h1 := h b hb
  rw [e, UInt8.toNat_ofNat'] at h1
  omega
/-- A signed row of digits is read. -/
theorem atoi_dig (X : Int) (l : List UInt8) (h : IsDig l) (h1 : 1 ≤ l.length) (hv : dvl 0 l = X.natAbs) (hb : X.natAbs < 1000000000000000000) : Lib.atoiAll ((if X < 0 then [45] else []) ++ l) = .ok X := by
  have hp := parse_dig l 0 h (by omega)
  have hm : Lib.parseMag l = .ok X.natAbs := by
    unfold Lib.parseMag
    rw [if_neg (by intro e; rw [e] at h1; simp at h1), hp, hv]
  by_cases hX : X < 0
  · rw [if_pos hX]
    show Lib.atoiAll (45 :: l) = _
    rw [Lib.atoiAll_minus, hm]
    show (if 9223372036854775808 < X.natAbs then _ else Lib.NumEnd.ok (-(X.natAbs : Int))) = _
    rw [if_neg (by omega)]
    congr 1
    omega
  · rw [if_neg hX, List.nil_append]
    cases l with
    | nil => simp at h1
    | cons c r =>
      have hc := h c (by simp)
      rw [Lib.atoiAll_plain c r (by omega) (by omega), hm]
      show (if 9223372036854775808 ≤ X.natAbs then _ else Lib.NumEnd.ok (X.natAbs : Int)) = _
      rw [if_neg (by omega)]
      congr 1
      omega
theorem sign_ne (X : Int) : ∀ b ∈ (if X < 0 then [45] else [] : List UInt8), b ≠ 46 := by
  intro b hb
  split at hb
  · rw [List.mem_singleton] at hb; subst hb; decide
  · cases hb
theorem parse_text {n s : Int} (h : rightB n s = true) : parseD (textS n s) = ⟨n, s, true⟩ := by
  have b := rightB_bd h
  obtain ⟨k1, k2⟩ := kn_of h
  obtain ⟨c, rfl⟩ : ∃ c : Nat, s = c := ⟨s.toNat, by omega⟩
  have hkc : knS n c = c := by omega
  have hmk : makeD n c = ⟨n, c, true⟩ := by
    unfold makeD
    rw [if_pos (by omega), Int.toNat_natCast]
    exact mkD_of_right n c c n h (Nat.le_refl _) (by simp)
  obtain ⟨p, q, f, hcut, hat, hlen⟩ : ∃ p q f, Lib.cut (textS n c).data.toList [46] = (p, q, f) ∧ Lib.atoiAll (p ++ q) = .ok n ∧ q.length = c := by
    have ht : (textS n c).data.toList = (if n < 0 then [45] else []) ++ magL n.natAbs c := by
      unfold textS
      rw [strL_list, k1, hkc]
      rfl
    rw [ht]
    unfold magL
    by_cases h0 : c = 0
    · subst h0
      rw [if_pos rfl]
      refine ⟨_, _, _, cut_none _ ?_, ?_, rfl⟩
      · intro x hx
        rw [List.mem_append] at hx
        rcases hx with hx | hx
        · exact sign_ne n x hx
        · exact dig_ne _ (decDigits_dig _) 46 (by omega) x hx
      · rw [List.append_nil]
        exact atoi_dig n _ (decDigits_dig _) (by rw [Lib.decDigits_length]; exact Lib.nDigits_pos _) (dvl_dec _) (by omega)
    · rw [if_neg h0]
      have hl := padL_len n.natAbs c
      have hd := padL_dig n.natAbs c
      have hv := dvl_pad n.natAbs c
      generalize padL n.natAbs c = P at *
      rw [List.append_assoc, List.singleton_append, ← List.append_assoc]
      refine ⟨_, _, _, cut_dot _ _ ?_, ?_, ?_⟩
      · intro x hx
        rw [List.mem_append] at hx
        rcases hx with hx | hx
        · exact sign_ne n x hx
        · exact dig_ne _ hd 46 (by omega) x (List.mem_of_mem_take hx)
      · rw [List.append_assoc, List.take_append_drop]
        exact atoi_dig n P hd hl.2 hv (by omega)
      · rw [List.length_drop]; omega
  unfold parseD
  rw [hcut]
  simp only [hat, hlen, hmk, and_self, if_true]
end Go.Proofs.YtkhjgfbiemllmaaGreatDoor
namespace Go.Proofs.YtkhjgfbiemllmaaGreatDoor
set_option linter.unusedSimpArgs false
set_option linter.unusedVariables false
open Go.RowKit

/-- A number of units, rounded to multiples of P, halves away from zero. -/
def rk (P : Nat) (z : Int) : Int := if z < 0 then -(((z.natAbs + P / 2) / P * P : Nat) : Int) else (((z.natAbs + P / 2) / P * P : Nat) : Int)
theorem rk_mono (P : Nat) (a b : Int) (h : a ≤ b) : rk P a ≤ rk P b := by
  have mono : ∀ x y : Nat, x ≤ y → (x + P / 2) / P * P ≤ (y + P / 2) / P * P := fun x y hxy => Nat.mul_le_mul_right _ (Nat.div_le_div_right (by omega))
  unfold rk
  by_cases ha : a < 0
  · rw [if_pos ha]
    by_cases hb : b < 0
    · rw [if_pos hb]
      have := mono b.natAbs a.natAbs (by omega)
      omega
    · rw [if_neg hb]; omega
  · rw [if_neg ha, if_neg (by omega)]
    have := mono a.natAbs b.natAbs (by omega)
    omega
theorem rk_mul (P M : Nat) (hP : 0 < P) : (M * P + P / 2) / P * P = M * P := by
  rw [Nat.mul_comm M P, Nat.mul_add_div hP, Nat.div_eq_of_lt (by omega), Nat.add_zero, Nat.mul_comm]
theorem half_mul (j Q : Nat) (hj : 0 < j) : 10 ^ j * Q / 2 = 10 ^ j / 2 * Q := by
  obtain ⟨i, rfl⟩ : ∃ i, j = i + 1 := ⟨j - 1, by omega⟩
  have e : 10 ^ (i + 1) = 2 * (5 * 10 ^ i) := by rw [Nat.pow_succ]; omega
  rw [e, Nat.mul_assoc, Nat.mul_div_cancel_left _ (by omega), Nat.mul_div_cancel_left _ (by omega)]
theorem rnd_abs (x : Int) (p : Nat) (hp : 0 < p) : rnd x p = if x < 0 then -(((x.natAbs + p / 2) / p : Nat) : Int) else (((x.natAbs + p / 2) / p : Nat) : Int) := by
  unfold rnd
  by_cases h : x < 0
  · rw [if_pos h, if_pos h]
    rw [show x - ((p / 2 : Nat) : Int) = -((x.natAbs + p / 2 : Nat) : Int) by omega, Int.neg_tdiv]
    congr 1
  · rw [if_neg h, if_neg h]
    rw [show x + ((p / 2 : Nat) : Int) = ((x.natAbs + p / 2 : Nat) : Int) by omega]
    rfl
theorem round_spec {n s : Int} (h : rightB n s = true) (k : Nat) (hk : k ≤ 6) : (roundD n s k).ok = true ∧ rightB (roundD n s k).n (roundD n s k).s = true ∧ unitZ (roundD n s k).n (roundD n s k).s = rk (10 ^ (6 - k)) (unitZ n s) := by
  have b := rightB_bd h
  obtain ⟨k1, k2⟩ := kn_of h
  obtain ⟨c, rfl⟩ : ∃ c : Nat, s = c := ⟨s.toNat, by omega⟩
  have hkc : knS n c = c := by omega
  unfold roundD
  rw [if_pos (by omega), k1, hkc]
  have hu : unitZ n c = n * ((10 ^ (6 - c) : Nat) : Int) := by rw [unitZ_right h, Int.toNat_natCast]
  by_cases hle : (c : Int) ≤ (k : Int)
  · rw [if_pos hle]
    refine ⟨rfl, h, ?_⟩
    show unitZ n c = _
    rw [hu]
    have e : 10 ^ (6 - c) = 10 ^ (k - c) * 10 ^ (6 - k) := by rw [← Nat.pow_add]; congr 1; omega
    have hN : (n * ((10 ^ (6 - c) : Nat) : Int)).natAbs = n.natAbs * 10 ^ (k - c) * 10 ^ (6 - k) := by rw [Int.natAbs_mul, Int.natAbs_natCast, e, Nat.mul_assoc]
    unfold rk
    rw [hN, rk_mul _ _ (pow_pos10 _), ← hN]
    split <;> omega
  · rw [if_neg hle, Int.toNat_natCast]
    obtain ⟨j, rfl⟩ : ∃ j, c = k + j := ⟨c - k, by omega⟩
    rw [show k + j - k = j by omega]
    have hpb := pow_bd j (by omega)
    have hp2 : 2 ≤ 10 ^ j := by
      have : 10 ^ 1 ≤ 10 ^ j := Nat.pow_le_pow_right (by omega) (by omega)
      omega
    have hr := rnd_abs n (10 ^ j) (by omega)
    have hra : (rnd n (10 ^ j)).natAbs = (n.natAbs + 10 ^ j / 2) / 10 ^ j := by
      rw [hr]
      generalize (n.natAbs + 10 ^ j / 2) / 10 ^ j = D
      split <;> omega
    have hrb : (rnd n (10 ^ j)).natAbs ≤ 1000000000000000 := by
      rw [hra]
      have : (n.natAbs + 10 ^ j / 2) / 10 ^ j ≤ (n.natAbs + 10 ^ j / 2) / 2 := Nat.div_le_div_left hp2 (by omega)
      omega
    have hmk : makeD (rnd n (10 ^ j)) k = mkD (rnd n (10 ^ j)) k := by
      unfold makeD
      rw [if_pos (by omega), Int.toNat_natCast]
    rw [hmk]
    have hok := mkD_ok_small (rnd n (10 ^ j)) k hk hrb
    refine ⟨hok, mkD_right hok, ?_⟩
    rw [unit_mkD hk hok, hu]
    have e : 10 ^ (6 - k) = 10 ^ j * 10 ^ (6 - (k + j)) := by rw [← Nat.pow_add]; congr 1; omega
    have hN : (n * ((10 ^ (6 - (k + j)) : Nat) : Int)).natAbs = n.natAbs * 10 ^ (6 - (k + j)) := by rw [Int.natAbs_mul, Int.natAbs_natCast]
    have hs : (n * ((10 ^ (6 - (k + j)) : Nat) : Int) < 0) ↔ n < 0 := decide_eq_decide.1 (neg_mul_pow n _)
    unfold rk
    rw [hN, e, half_mul j _ (by omega), ← Nat.add_mul, Nat.mul_div_mul_right _ _ (pow_pos10 _), ← e, hr]
    by_cases hn : n < 0
    · rw [if_pos hn, if_pos (hs.2 hn), Int.neg_mul, ← Int.natCast_mul]
    · rw [if_neg hn, if_neg (fun x => hn (hs.1 x)), ← Int.natCast_mul]
theorem cmpZ_lt {a b : Int} (h : a < b) : cmpZ a b = -1 := by unfold cmpZ; rw [if_pos h]
theorem cmpZ_eq (a : Int) : cmpZ a a = 0 := by unfold cmpZ; rw [if_neg (by omega), if_neg (by omega)]
theorem cmpZ_gt {a b : Int} (h : b < a) : cmpZ a b = 1 := by unfold cmpZ; rw [if_neg (by omega), if_pos h]
theorem madeD_right (n s : Int) : rightB (madeD n s).n (madeD n s).s = true := makeD_right _ _
end Go.Proofs.YtkhjgfbiemllmaaGreatDoor
