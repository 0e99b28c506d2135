/- Decimals as plain numbers; Make, Of, Made in that form. -/
import Derived.Test.YtkhjgfbiemllmaaDoorDe
import Derived.Test.YtkhjgfbiemllmaaDoorEx
namespace Go.Proofs.YtkhjgfbiemllmaaDoor
open Go.RowKit

/-- A decimal, and whether it fitted. -/
structure DR where
  n : Int
  s : Int
  ok : Bool
def noR : DR := ⟨0, 0, false⟩
/-- z over 10^s as a right decimal, if it fits. -/
def mkD (z : Int) (s : Nat) : DR := if (strip s z.natAbs).1 ≤ 1000000000000000 ∧ (strip s z.natAbs).2 ≤ 6 then ⟨sgn (decide (z < 0)) (strip s z.natAbs).1, ((strip s z.natAbs).2 : Nat), true⟩ else noR
theorem fitV_mkD (z : Int) (s : Nat) : fitV (decide (z < 0)) z.natAbs s = .tuple #[.agg #[.int .i64 (mkD z s).n, .int .i64 (mkD z s).s], .bool (mkD z s).ok] := by
  unfold mkD
  by_cases h : (strip s z.natAbs).1 ≤ 1000000000000000 ∧ (strip s z.natAbs).2 ≤ 6
  · rw [if_pos h, fitV_yes _ _ _ h.1 h.2]
    rfl
  · rw [if_neg h, fitV_no]
    · rfl
    · omega
theorem strip_zero (s : Nat) : strip s 0 = (0, 0) := by
  induction s with
  | zero => rfl
  | succ s ih => rw [strip, if_pos (by omega)]; exact ih
theorem fitV_zero (neg : Bool) (s : Nat) : fitV neg 0 s = fitV false 0 s := by
  rw [fitV_yes _ _ _ (by rw [strip_zero]; omega) (by rw [strip_zero]; omega), fitV_yes _ _ _ (by rw [strip_zero]; omega) (by rw [strip_zero]; omega), strip_zero]
  cases neg <;> rfl
/-- Make at any int and scale. -/
def makeD (n s : Int) : DR := if 0 ≤ s ∧ s ≤ 18 then mkD n s.toNat else noR
theorem make_c (n s : Int) (w : World) (h1 : -9223372036854775808 ≤ n) (h2 : n ≤ 9223372036854775807) :
    Calls Tryd.prog 9 #[.int .i64 n, .int .i64 s] w fun e w' => e = .returned (.tuple #[.agg #[.int .i64 (makeD n s).n, .int .i64 (makeD n s).s], .bool (makeD n s).ok]) ∧ Kb (fun _ => False) w w' := by
  unfold makeD
  by_cases h : 0 ≤ s ∧ s ≤ 18
  · rw [if_pos h, ← fitV_mkD]
    have := dmake_in n s.toNat w h1 h2 (by omega)
    rwa [show ((s.toNat : Nat) : Int) = s by omega] at this
  · rw [if_neg h]
    exact dmake_out n s w (by omega)
theorem rmake_c (n s : Int) (w : World) (h1 : -9223372036854775808 ≤ n) (h2 : n ≤ 9223372036854775807) :
    Calls Tryd.prog 10 #[.int .i64 n, .int .i64 s] w fun e w' => e = .returned (.tuple #[.agg #[.int .i64 (makeD n s).n, .int .i64 (makeD n s).s], .bool (makeD n s).ok]) ∧ Kb (fun _ => False) w w' := by
  unfold makeD
  by_cases h : 0 ≤ s ∧ s ≤ 18
  · rw [if_pos h, ← fitV_mkD]
    have := rmake_in n s.toNat w h1 h2 (by omega)
    rwa [show ((s.toNat : Nat) : Int) = s by omega] at this
  · rw [if_neg h]
    exact rmake_out n s w (by omega)
/-- The modulus of the reference. -/
def modZ (n m : Int) : Int := (n.tmod m + m).tmod m
theorem tmod_bd (n m : Int) (hm : 0 < m) : -m < n.tmod m ∧ n.tmod m < m := by
  have h1 := Int.natAbs_tmod n m
  have h2 := Nat.mod_lt n.natAbs (show 0 < m.natAbs by omega)
  omega
theorem modZ_bd (n m : Int) (hm : 0 < m) : 0 ≤ modZ n m ∧ modZ n m < m := by
  have h := tmod_bd n m hm
  unfold modZ
  rw [Int.tmod_eq_emod_of_nonneg (by omega)]
  exact ⟨Int.emod_nonneg _ (by omega), Int.emod_lt_of_pos _ hm⟩
set_option maxHeartbeats 1000000 in
theorem mod_c (n m : Int) (w : World) (h1 : 0 < m) (h2 : m ≤ 1000000) :
    Calls Tryd.prog 8 #[.int .i64 n, .int .i64 m] w fun e w' => e = .returned (.int .i64 (modZ n m)) ∧ w' = w := by
  have hb := tmod_bd n m h1
  have hz : (m == 0) = false := by rw [beq_eq_false_iff_ne]; omega
  obtain ⟨t, ht⟩ : ∃ t, n.tmod m = t := ⟨_, rfl⟩
  have e0 : (if m = -1 then 0 else n.tmod m) = t := by rw [if_neg (by omega), ht]
  rw [show modZ n m = (t + m) % m by unfold modZ; rw [ht, Int.tmod_eq_emod_of_nonneg (by omega)]]
  rw [ht] at hb
  obtain ⟨hb1, hb2⟩ := hb
  go_enter Tryd.func8, Tryd.ntmps8
  go_wp2_with fail
  go_ret
  exact ⟨rfl, rfl⟩
set_option maxHeartbeats 1000000 in
theorem rof_c (n : Int) (w : World) (h1 : -9223372036854775808 ≤ n) (h2 : n ≤ 9223372036854775807) :
    Calls Tryd.prog 13 #[.int .i64 n] w fun e w' => e = .returned (.tuple #[.agg #[.int .i64 (makeD n 0).n, .int .i64 (makeD n 0).s], .bool (makeD n 0).ok]) ∧ Kb (fun _ => False) w w' := by
  go_enter Tryd.func13, Tryd.ntmps13
  go_wp2_with fail
  refine (rmake_c n 0 _ h1 h2).mono ?_
  rintro e w1 ⟨rfl, k1⟩
  obtain ⟨C, m, rfl⟩ := grew_of k1
  clear k1
  go_wp2_with fail
  exact bodyPost_ret (v := .tuple #[.agg #[.int .i64 (makeD n 0).n, .int .i64 (makeD n 0).s], .bool (makeD n 0).ok]) (by simp [results, Tryd.results13, go_sem]) rfl ⟨rfl, by repeat (first | exact Kb.refl _ _ | apply Kb.drew | apply Kb.grew | apply Kb.alloc)⟩
/-- What Made gives. -/
def madeD (n s : Int) : DR := makeD (n.tmod 1000000000000001) (modZ s 7)
set_option maxHeartbeats 1000000 in
theorem made_c (n s : Int) (w : World) :
    Calls Tryd.prog 15 #[.int .i64 n, .int .i64 s] w fun e w' => e = .returned (.agg #[.int .i64 (madeD n s).n, .int .i64 (madeD n s).s]) ∧ Kb (fun _ => False) w w' := by
  have hb := tmod_bd n 1000000000000001 (by omega)
  unfold madeD
  obtain ⟨t, ht⟩ : ∃ t, n.tmod 1000000000000001 = t := ⟨_, rfl⟩
  rw [ht] at hb ⊢
  obtain ⟨hb1, hb2⟩ := hb
  go_enter Tryd.func15, Tryd.ntmps15
  go_wp2_with fail
  refine (mod_c s 7 _ (by omega) (by omega)).mono ?_
  rintro e w1 ⟨rfl, rfl⟩
  go_wp2_with fail
  refine (rmake_c t (modZ s 7) _ (by omega) (by omega)).mono ?_
  rintro e w1 ⟨rfl, k1⟩
  obtain ⟨C, m, rfl⟩ := grew_of k1
  clear k1
  go_wp2_with fail
  exact bodyPost_ret (v := .agg #[.int .i64 (makeD t (modZ s 7)).n, .int .i64 (makeD t (modZ s 7)).s]) (by simp [results, Tryd.results15, go_sem]) rfl ⟨rfl, by repeat (first | exact Kb.refl _ _ | apply Kb.drew | apply Kb.grew | apply Kb.alloc)⟩
end Go.Proofs.YtkhjgfbiemllmaaDoor
