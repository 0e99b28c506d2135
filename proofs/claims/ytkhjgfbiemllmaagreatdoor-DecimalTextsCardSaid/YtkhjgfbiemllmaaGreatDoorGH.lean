/- Decimals as plain numbers; Make, Of, Made in that form. Decimal: known and Round in plain numbers. Decimal: units and Cmp in plain numbers. Decimal: Of, Add, Sub, Mul, Right in plain numbers. -/
import Derived.Test.YtkhjgfbiemllmaaGreatDoorGD
import Derived.Test.YtkhjgfbiemllmaaGreatDoorGC
import Derived.Test.YtkhjgfbiemllmaaGreatDoorGF
import Derived.Test.YtkhjgfbiemllmaaGreatDoorGG
import Derived.Deep.RegionHeld3
import Derived.Deep.DrawnRows
namespace Go.Proofs.YtkhjgfbiemllmaaGreatDoor
open Go.RowKit

/-- A decimal, and whether it fitted. -/
structure DR where
  n : Int
  s : Int
  ok : Bool
def noR : DR := ⟨0, 0, false⟩
/-- z over 10^s as a right decimal, if it fits. -/
def mkD (z : Int) (s : Nat) : DR := if (strip s z.natAbs).1 ≤ 1000000000000000 ∧ (strip s z.natAbs).2 ≤ 6 then ⟨sgn (decide (z < 0)) (strip s z.natAbs).1, ((strip s z.natAbs).2 : Nat), true⟩ else noR
theorem fitV_mkD (z : Int) (s : Nat) : fitV (decide (z < 0)) z.natAbs s = .tuple #[.agg #[.int .i64 (mkD z s).n, .int .i64 (mkD z s).s], .bool (mkD z s).ok] := by
  unfold mkD
  by_cases h : (strip s z.natAbs).1 ≤ 1000000000000000 ∧ (strip s z.natAbs).2 ≤ 6
  · rw [if_pos h, fitV_yes _ _ _ h.1 h.2]
    rfl
  · rw [if_neg h, fitV_no]
    · rfl
    · omega
theorem strip_zero (s : Nat) : strip s 0 = (0, 0) := by
  induction s with
  | zero => rfl
  | succ s ih => rw [strip, if_pos (by omega)]; exact ih
theorem fitV_zero (neg : Bool) (s : Nat) : fitV neg 0 s = fitV false 0 s := by
  rw [fitV_yes _ _ _ (by rw [strip_zero]; omega) (by rw [strip_zero]; omega), fitV_yes _ _ _ (by rw [strip_zero]; omega) (by rw [strip_zero]; omega), strip_zero]
  cases neg <;> rfl
/-- Make at any int and scale. -/
def makeD (n s : Int) : DR := if 0 ≤ s ∧ s ≤ 18 then mkD n s.toNat else noR
theorem make_c (n s : Int) (w : World) (h1 : -9223372036854775808 ≤ n) (h2 : n ≤ 9223372036854775807) :
    Calls Tryz.prog 25 #[.int .i64 n, .int .i64 s] w fun e w' => e = .returned (.tuple #[.agg #[.int .i64 (makeD n s).n, .int .i64 (makeD n s).s], .bool (makeD n s).ok]) ∧ Kb (fun _ => False) w w' := by
  unfold makeD
  by_cases h : 0 ≤ s ∧ s ≤ 18
  · rw [if_pos h, ← fitV_mkD]
    have := dmake_in n s.toNat w h1 h2 (by omega)
    rwa [show ((s.toNat : Nat) : Int) = s by omega] at this
  · rw [if_neg h]
    exact dmake_out n s w (by omega)
theorem rmake_c (n s : Int) (w : World) (h1 : -9223372036854775808 ≤ n) (h2 : n ≤ 9223372036854775807) :
    Calls Tryz.prog 29 #[.int .i64 n, .int .i64 s] w fun e w' => e = .returned (.tuple #[.agg #[.int .i64 (makeD n s).n, .int .i64 (makeD n s).s], .bool (makeD n s).ok]) ∧ Kb (fun _ => False) w w' := by
  unfold makeD
  by_cases h : 0 ≤ s ∧ s ≤ 18
  · rw [if_pos h, ← fitV_mkD]
    have := rmake_in n s.toNat w h1 h2 (by omega)
    rwa [show ((s.toNat : Nat) : Int) = s by omega] at this
  · rw [if_neg h]
    exact rmake_out n s w (by omega)
/-- The modulus of the reference. -/
def modZ (n m : Int) : Int := (n.tmod m + m).tmod m
theorem tmod_bd (n m : Int) (hm : 0 < m) : -m < n.tmod m ∧ n.tmod m < m := by
  have h1 := Int.natAbs_tmod n m
  have h2 := Nat.mod_lt n.natAbs (show 0 < m.natAbs by omega)
  omega
theorem modZ_bd (n m : Int) (hm : 0 < m) : 0 ≤ modZ n m ∧ modZ n m < m := by
  have h := tmod_bd n m hm
  unfold modZ
  rw [Int.tmod_eq_emod_of_nonneg (by omega)]
  exact ⟨Int.emod_nonneg _ (by omega), Int.emod_lt_of_pos _ hm⟩
set_option maxHeartbeats 1000000 in
theorem mod_c (n m : Int) (w : World) (h1 : 0 < m) (h2 : m ≤ 1000000) :
    Calls Tryz.prog 11 #[.int .i64 n, .int .i64 m] w fun e w' => e = .returned (.int .i64 (modZ n m)) ∧ w' = w := by
  have hb := tmod_bd n m h1
  have hz : (m == 0) = false := by rw [beq_eq_false_iff_ne]; omega
  obtain ⟨t, ht⟩ : ∃ t, n.tmod m = t := ⟨_, rfl⟩
  have e0 : (if m = -1 then 0 else n.tmod m) = t := by rw [if_neg (by omega), ht]
  rw [show modZ n m = (t + m) % m by unfold modZ; rw [ht, Int.tmod_eq_emod_of_nonneg (by omega)]]
  rw [ht] at hb
  obtain ⟨hb1, hb2⟩ := hb
  go_enter Tryz.func11, Tryz.ntmps11
  go_wp2_with fail
  go_ret
  exact ⟨rfl, rfl⟩
/-- What Made gives. -/
def madeD (n s : Int) : DR := makeD (n.tmod 1000000000000001) (modZ s 7)
set_option maxHeartbeats 1000000 in
theorem made_c (n s : Int) (w : World) :
    Calls Tryz.prog 8 #[.int .i64 n, .int .i64 s] w fun e w' => e = .returned (.agg #[.int .i64 (madeD n s).n, .int .i64 (madeD n s).s]) ∧ Kb (fun _ => False) w w' := by
  have hb := tmod_bd n 1000000000000001 (by omega)
  unfold madeD
  obtain ⟨t, ht⟩ : ∃ t, n.tmod 1000000000000001 = t := ⟨_, rfl⟩
  rw [ht] at hb ⊢
  obtain ⟨hb1, hb2⟩ := hb
  go_enter Tryz.func8, Tryz.ntmps8
  go_wp2_with fail
  refine (mod_c s 7 _ (by omega) (by omega)).mono ?_
  rintro e w1 ⟨rfl, rfl⟩
  go_wp2_with fail
  refine (rmake_c t (modZ s 7) _ (by omega) (by omega)).mono ?_
  rintro e w1 ⟨rfl, k1⟩
  obtain ⟨C, m, rfl⟩ := grew_of k1
  clear k1
  go_wp2_with fail
  exact bodyPost_ret (v := .agg #[.int .i64 (makeD t (modZ s 7)).n, .int .i64 (makeD t (modZ s 7)).s]) (by simp [results, Tryz.results8, go_sem]) rfl ⟨rfl, by repeat (first | exact Kb.refl _ _ | apply Kb.drew | apply Kb.grew | apply Kb.alloc)⟩
end Go.Proofs.YtkhjgfbiemllmaaGreatDoor
namespace Go.Proofs.YtkhjgfbiemllmaaGreatDoor
open Go.RowKit

def knN (n s : Int) : Int := if rightB n s then n else 0
def knS (n s : Int) : Nat := if rightB n s then s.toNat else 0
theorem rightB_bd {n s : Int} (h : rightB n s = true) : 0 ≤ s ∧ s ≤ 6 ∧ -1000000000000000 ≤ n ∧ n ≤ 1000000000000000 ∧ (s = 0 ∨ n.tmod 10 ≠ 0) := of_decide_eq_true h
theorem kn_bd (n s : Int) : -1000000000000000 ≤ knN n s ∧ knN n s ≤ 1000000000000000 ∧ knS n s ≤ 6 := by
  unfold knN knS
  cases h : rightB n s
  · simp
  · have := rightB_bd h
    simp only [if_true]
    omega
theorem kn_of {n s : Int} (h : rightB n s = true) : knN n s = n ∧ (knS n s : Int) = s := by
  have := rightB_bd h
  unfold knN knS
  rw [h]
  exact ⟨if_pos rfl, by rw [if_pos rfl]; omega⟩
theorem knownV_kn (n s : Int) : knownV n s = .agg #[.int .i64 (knN n s), .int .i64 (knS n s : Nat)] := by
  unfold knownV
  cases h : rightB n s
  · unfold knN knS; rw [h]; rfl
  · obtain ⟨h1, h2⟩ := kn_of h
    rw [h1, h2]
    rfl
theorem known_c (n s : Int) (w : World) : Calls Tryz.prog 30 #[.agg #[.int .i64 n, .int .i64 s]] w fun e w' => e = .returned (.agg #[.int .i64 (knN n s), .int .i64 (knS n s : Nat)]) ∧ Kb (fun _ => False) w w' := by
  rw [← knownV_kn]
  exact known_any n s w
/-- Half a unit away from zero, then cut. -/
def rnd (x : Int) (p : Nat) : Int := (if x < 0 then x - ((p / 2 : Nat) : Int) else x + ((p / 2 : Nat) : Int)).tdiv (p : Int)
def roundD (n s k : Int) : DR :=
  if 0 ≤ k ∧ k ≤ 6 then (if (knS n s : Int) ≤ k then ⟨knN n s, (knS n s : Nat), true⟩ else makeD (rnd (knN n s) (10 ^ (knS n s - k.toNat))) k) else noR
theorem pow_bd (j : Nat) (h : j ≤ 6) : 1 ≤ 10 ^ j ∧ 10 ^ j ≤ 1000000 := ⟨Nat.one_le_pow _ _ (by omega), Nat.pow_le_pow_right (n := 10) (by omega) h⟩
theorem rnd_bd (x : Int) (p : Nat) (h1 : -1000000000000000 ≤ x) (h2 : x ≤ 1000000000000000) (hp : p ≤ 1000000) : -2000000000000000 ≤ rnd x p ∧ rnd x p ≤ 2000000000000000 := by
  unfold rnd
  have h3 : p / 2 ≤ 500000 := by omega
  generalize p / 2 = q at *
  split <;>
  · rename_i h
    have h := Int.natAbs_tdiv_le_natAbs (if x < 0 then x - (q : Int) else x + (q : Int)) (p : Int)
    simp only [*, if_true, if_false] at h
    omega
set_option maxHeartbeats 2000000 in
theorem round_c (n s k : Int) (w : World) (env : Env w) :
    Calls Tryz.prog 12 #[.agg #[.int .i64 n, .int .i64 s], .int .i64 k] w fun e w' => e = .returned (.tuple #[.agg #[.int .i64 (roundD n s k).n, .int .i64 (roundD n s k).s], .bool (roundD n s k).ok]) ∧ Kb (fun _ => False) w w' := by
  obtain ⟨x, hx⟩ : ∃ x, knN n s = x := ⟨_, rfl⟩
  obtain ⟨c, hc⟩ : ∃ c, knS n s = c := ⟨_, rfl⟩
  have hb := kn_bd n s
  rw [hx, hc] at hb
  obtain ⟨hb1, hb2, hb3⟩ := hb
  have HK := hid (fun w => known_c n s w)
  rw [hx, hc] at HK
  unfold roundD
  rw [hx, hc]
  clear hx hc
  by_cases hk : 0 ≤ k ∧ k ≤ 6
  · rw [if_pos hk]
    obtain ⟨hk1, hk2⟩ := hk
    obtain ⟨k, rfl⟩ : ∃ j : Nat, k = j := ⟨k.toNat, by omega⟩
    have hg : 0 < w.heap.size := World.block_lt_of_cell? w _ (env.pow 0 (by omega))
    by_cases hle : (c : Int) ≤ (k : Int)
    · rw [if_pos hle]
      have c1 : decide (c ≤ k) = true := decide_eq_true (by omega)
      have EN := hid env
      clear env
      go_enter Tryz.func12, Tryz.ntmps12
      go_wp2_with fail
      refine (HK.out _).mono ?_
      rintro e w1 ⟨rfl, k1⟩
      obtain ⟨C, m, rfl⟩ := grew_of k1
      clear k1
      go_wp2_with fail
      exact bodyPost_ret (v := .tuple #[.agg #[.int .i64 x, .int .i64 (c : Nat)], .bool true]) (by simp [results, Tryz.results12, go_sem]) rfl ⟨rfl, by repeat (first | exact Kb.refl _ _ | apply Kb.drew | apply Kb.grew | apply Kb.alloc)⟩
    · rw [if_neg hle]
      have c1 : decide (c ≤ k) = false := decide_eq_false (by omega)
      obtain ⟨j, rfl⟩ : ∃ j, c = k + j := ⟨c - k, by omega⟩
      have hp := env.pow j (by omega)
      rw [show k + j - ((k : Nat) : Int).toNat = j by simp]
      have hpb := pow_bd j (by omega)
      have hrb := rnd_bd x (10 ^ j) hb1 hb2 hpb.2
      unfold rnd at hrb ⊢
      obtain ⟨p, hpp⟩ : ∃ p, 10 ^ j = p := ⟨_, rfl⟩
      rw [hpp] at hp hpb hrb ⊢
      obtain ⟨hp1, hp2⟩ := hpb
      have EN := hid env
      clear env hpp
      have e1 : ((k + j : Nat) : Int) - (k : Int) = (j : Int) := by omega
      have e2 : (((k + j : Nat) : Int) - (k : Int)).toNat = j := by omega
      have E1 := hid e1
      clear e1 e2
      have hj0 : (0 : Int) ≤ (j : Int) := by omega
      have hj1 : (j : Int) < 19 := by omega
      have hpz : ((p : Int) == 0) = false := by rw [beq_eq_false_iff_ne]; omega
      have hpn : ((p : Int) == -1) = false := by rw [beq_eq_false_iff_ne]; omega
      obtain ⟨q, hq⟩ : ∃ q, p / 2 = q := ⟨_, rfl⟩
      have hqi : (p : Int) / 2 = (q : Int) := by omega
      have hq1 : q ≤ 500000 := by omega
      rw [hq] at hrb ⊢
      have HQ := hid hq
      have HQI := hid hqi
      clear hq hqi
      have hg0 : 0 ≤ w.heap.size := by omega
      have r1 : decide ((0 : Int) ≤ (j : Int)) = true := decide_eq_true hj0
      have r2 : decide ((j : Int) < 19) = true := decide_eq_true hj1
      by_cases hx : x < 0
      · rw [if_pos hx] at hrb ⊢
        obtain ⟨z, hz⟩ : ∃ z, (x - (q : Int)).tdiv (p : Int) = z := ⟨_, rfl⟩
        rw [hz] at hrb ⊢
        obtain ⟨hr1, hr2⟩ := hrb
        have hz2 : (x + -(q : Int)).tdiv (p : Int) = z := by rw [← hz]; rfl
        have HZ := hid hz2
        clear hz hz2
        have c2 : decide (x < 0) = true := decide_eq_true hx
        have c3 := fun w => make_c z (k : Int) w (by omega) (by omega)
        have C3 := hid c3
        have a1 : IntKind.i64.wrap (-(q : Int)) = -(q : Int) := IntWalk.i64_in _ (by omega)
        have a2 : IntKind.i64.wrap (x + -(q : Int)) = x + -(q : Int) := IntWalk.i64_in _ (by omega)
        have a3 : IntKind.i64.wrap z = z := IntWalk.i64_in _ (by omega)
        clear c3
        go_enter Tryz.func12, Tryz.ntmps12
        go_wp2_with fail
        refine (HK.out _).mono ?_
        rintro e w1 ⟨rfl, k1⟩
        obtain ⟨C, m, rfl⟩ := grew_of k1
        clear k1
        have e1 := E1.out
        go_wp2_with fail
        rw [show (x + -((p : Int) / 2)).tdiv (p : Int) = z by rw [HQI.out]; exact HZ.out]
        refine (C3.out _).mono ?_
        rintro e w1 ⟨rfl, k1⟩
        obtain ⟨C, m, rfl⟩ := grew_of k1
        clear k1
        go_wp2_with fail
        exact bodyPost_ret (v := .tuple #[.agg #[.int .i64 (makeD z k).n, .int .i64 (makeD z k).s], .bool (makeD z k).ok]) (by simp [results, Tryz.results12, go_sem]) rfl ⟨rfl, by repeat (first | exact Kb.refl _ _ | apply Kb.drew | apply Kb.grew | apply Kb.alloc)⟩
      · rw [if_neg hx] at hrb ⊢
        obtain ⟨z, hz⟩ : ∃ z, (x + (q : Int)).tdiv (p : Int) = z := ⟨_, rfl⟩
        rw [hz] at hrb ⊢
        obtain ⟨hr1, hr2⟩ := hrb
        have HZ := hid hz
        have c2 : decide (x < 0) = false := decide_eq_false hx
        have c3 := fun w => make_c z (k : Int) w (by omega) (by omega)
        have C3 := hid c3
        have a2 : IntKind.i64.wrap (x + (q : Int)) = x + (q : Int) := IntWalk.i64_in _ (by omega)
        have a3 : IntKind.i64.wrap z = z := IntWalk.i64_in _ (by omega)
        clear c3 hz
        go_enter Tryz.func12, Tryz.ntmps12
        go_wp2_with fail
        refine (HK.out _).mono ?_
        rintro e w1 ⟨rfl, k1⟩
        obtain ⟨C, m, rfl⟩ := grew_of k1
        clear k1
        have e1 := E1.out
        go_wp2_with fail
        rw [show (x + ((p : Int) / 2)) / (p : Int) = z by rw [HQI.out, ← HZ.out, Int.tdiv_eq_ediv_of_nonneg (by omega)]]
        refine (C3.out _).mono ?_
        rintro e w1 ⟨rfl, k1⟩
        obtain ⟨C, m, rfl⟩ := grew_of k1
        clear k1
        go_wp2_with fail
        exact bodyPost_ret (v := .tuple #[.agg #[.int .i64 (makeD z k).n, .int .i64 (makeD z k).s], .bool (makeD z k).ok]) (by simp [results, Tryz.results12, go_sem]) rfl ⟨rfl, by repeat (first | exact Kb.refl _ _ | apply Kb.drew | apply Kb.grew | apply Kb.alloc)⟩
  · rw [if_neg hk]
    have c1 : k < 0 ∨ (¬ k < 0 ∧ 6 < k) := by omega
    rcases c1 with c1 | ⟨c1, c2⟩
    all_goals
      go_enter Tryz.func12, Tryz.ntmps12
      go_wp2_with fail
      exact bodyPost_ret (v := .tuple #[.agg #[.int .i64 0, .int .i64 0], .bool false]) (by simp [results, Tryz.results12, go_sem]) rfl ⟨rfl, by repeat (first | exact Kb.refl _ _ | apply Kb.drew | apply Kb.grew | apply Kb.alloc)⟩
end Go.Proofs.YtkhjgfbiemllmaaGreatDoor
namespace Go.Proofs.YtkhjgfbiemllmaaGreatDoor
open Go.RowKit

def uHi (z : Int) : Nat := z.natAbs / 18446744073709551616
def uLo (z : Int) : Nat := z.natAbs % 18446744073709551616
theorem unitZ_kn (n s : Int) : unitZ n s = knN n s * ((10 ^ (6 - knS n s) : Nat) : Int) := by
  unfold unitZ knN knS
  cases h : rightB n s
  · simp
  · simp
theorem unitZ_bd (n s : Int) : (unitZ n s).natAbs ≤ 1000000000000000000000 := by
  rw [unitZ_kn, Int.natAbs_mul]
  have h := kn_bd n s
  have h2 : (10 ^ (6 - knS n s) : Nat) ≤ 1000000 := (pow_bd _ (by omega)).2
  have h3 : (knN n s).natAbs * ((10 ^ (6 - knS n s) : Nat) : Int).natAbs ≤ 1000000000000000 * 1000000 := Nat.mul_le_mul (by omega) (by rw [Int.natAbs_natCast]; exact h2)
  omega
theorem uHi_lt (n s : Int) : uHi (unitZ n s) < 55 := by
  have := unitZ_bd n s
  unfold uHi
  omega
theorem uLo_lt (z : Int) : uLo z < 18446744073709551616 := Nat.mod_lt _ (by decide)
theorem units_c (n s : Int) (w : World) (env : Env w) :
    Calls Tryz.prog 45 #[.agg #[.int .i64 n, .int .i64 s]] w fun e w' => e = .returned (.agg #[.bool (decide (unitZ n s < 0)), .int .u64 (uHi (unitZ n s) : Nat), .int .u64 (uLo (unitZ n s) : Nat)]) ∧ Kb (fun _ => False) w w' := by
  have h := units_any n s w env
  have e : unitsV n s = .agg #[.bool (decide (unitZ n s < 0)), .int .u64 (uHi (unitZ n s) : Nat), .int .u64 (uLo (unitZ n s) : Nat)] := by
    unfold unitsV uHi uLo
    unfold unitZ
    cases hr : rightB n s
    · simp
      rfl
    · have hp : 0 < ((10 ^ (6 - s.toNat) : Nat) : Int) := by have := (pow_bd (6 - s.toNat) (by omega)).1; omega
      have hn : (n * ((10 ^ (6 - s.toNat) : Nat) : Int)).natAbs = n.natAbs * 10 ^ (6 - s.toNat) := by rw [Int.natAbs_mul, Int.natAbs_natCast]
      have hd : decide (n * ((10 ^ (6 - s.toNat) : Nat) : Int) < 0) = decide (n < 0) := by
        apply decide_eq_decide.2
        constructor
        · intro h
          rcases Int.lt_or_le n 0 with h1 | h1
          · exact h1
          · have := Int.mul_nonneg h1 (Int.le_of_lt hp)
            omega
        · intro h
          exact Int.mul_neg_of_neg_of_pos h hp
      rw [if_pos rfl, if_pos rfl, hn, hd]
      rfl
  rw [← e]
  exact h
def cmpZ (a b : Int) : Int := if a < b then -1 else if b < a then 1 else 0
theorem ord_is (z1 z2 : Int) : (if cmp3 (uHi z1) (uHi z2) = 0 then cmp3 (uLo z1) (uLo z2) else cmp3 (uHi z1) (uHi z2)) = cmpZ (z1.natAbs : Nat) (z2.natAbs : Nat) := by
  have h1 := Nat.div_add_mod' z1.natAbs 18446744073709551616
  have h2 := Nat.div_add_mod' z2.natAbs 18446744073709551616
  have l1 := uLo_lt z1
  have l2 := uLo_lt z2
  unfold uHi uLo at *
  generalize 18446744073709551616 = M at *
  generalize z1.natAbs / M = a at *
  generalize z1.natAbs % M = b at *
  generalize z2.natAbs / M = c at *
  generalize z2.natAbs % M = d at *
  rw [← h1, ← h2]
  clear h1 h2
  rcases Nat.lt_trichotomy a c with h | h | h
  · have hx : (a + 1) * M ≤ c * M := Nat.mul_le_mul_right _ h
    rw [Nat.add_mul, Nat.one_mul] at hx
    have e1 : cmp3 a c = -1 := by unfold cmp3; rw [if_pos h]
    rw [e1, if_neg (by omega)]
    unfold cmpZ
    rw [if_pos (by omega)]
  · subst h
    have e1 : cmp3 a a = 0 := by unfold cmp3; rw [if_neg (by omega), if_neg (by omega)]
    rw [e1, if_pos rfl]
    unfold cmp3 cmpZ
    generalize a * M = x
    by_cases q1 : b < d
    · rw [if_pos q1, if_pos (by omega)]
    · rw [if_neg q1]
      by_cases q2 : d < b
      · rw [if_pos q2, if_neg (by omega), if_pos (by omega)]
      · rw [if_neg q2, if_neg (by omega), if_neg (by omega)]
  · have hx : (c + 1) * M ≤ a * M := Nat.mul_le_mul_right _ h
    rw [Nat.add_mul, Nat.one_mul] at hx
    have e1 : cmp3 a c = 1 := by unfold cmp3; rw [if_neg (by omega), if_pos h]
    rw [e1, if_neg (by omega)]
    unfold cmpZ
    rw [if_neg (by omega), if_pos (by omega)]
theorem cmpZ_bd (a b : Int) : -1 ≤ cmpZ a b ∧ cmpZ a b ≤ 1 := by
  unfold cmpZ
  split
  · omega
  · split <;> omega
theorem zero_hl (z : Int) : z = 0 ↔ uHi z = 0 ∧ uLo z = 0 := by
  have h := Nat.div_add_mod' z.natAbs 18446744073709551616
  unfold uHi uLo
  constructor
  · rintro rfl; exact ⟨rfl, rfl⟩
  · rintro ⟨h1, h2⟩
    rw [h1, h2, Nat.zero_mul] at h
    exact Int.natAbs_eq_zero.1 h.symm
theorem beq0 (n : Nat) (h : n = 0) : ((n : Int) == 0) = true := by rw [h]; rfl
theorem bne0 (n : Nat) (h : n ≠ 0) : ((n : Int) == 0) = false := by rw [beq_eq_false_iff_ne]; omega
theorem zero_cases (z1 z2 : Int) : ((z1 ≠ 0 ∨ z2 ≠ 0) ∧ (((uHi z1 : Nat) : Int) == 0) = false) ∨ ((z1 ≠ 0 ∨ z2 ≠ 0) ∧ (((uHi z1 : Nat) : Int) == 0) = true ∧ (((uLo z1 : Nat) : Int) == 0) = false) ∨
    ((z1 ≠ 0 ∨ z2 ≠ 0) ∧ (((uHi z1 : Nat) : Int) == 0) = true ∧ (((uLo z1 : Nat) : Int) == 0) = true ∧ (((uHi z2 : Nat) : Int) == 0) = false) ∨
    ((z1 ≠ 0 ∨ z2 ≠ 0) ∧ (((uHi z1 : Nat) : Int) == 0) = true ∧ (((uLo z1 : Nat) : Int) == 0) = true ∧ (((uHi z2 : Nat) : Int) == 0) = true ∧ (((uLo z2 : Nat) : Int) == 0) = false) ∨
    ((z1 = 0 ∧ z2 = 0) ∧ (((uHi z1 : Nat) : Int) == 0) = true ∧ (((uLo z1 : Nat) : Int) == 0) = true ∧ (((uHi z2 : Nat) : Int) == 0) = true ∧ (((uLo z2 : Nat) : Int) == 0) = true) := by
  have e1 := zero_hl z1
  have e2 := zero_hl z2
  by_cases h1 : uHi z1 = 0
  · by_cases h2 : uLo z1 = 0
    · by_cases h3 : uHi z2 = 0
      · by_cases h4 : uLo z2 = 0
        · exact Or.inr (Or.inr (Or.inr (Or.inr ⟨⟨e1.2 ⟨h1, h2⟩, e2.2 ⟨h3, h4⟩⟩, beq0 _ h1, beq0 _ h2, beq0 _ h3, beq0 _ h4⟩)))
        · exact Or.inr (Or.inr (Or.inr (Or.inl ⟨Or.inr (fun h => h4 (e2.1 h).2), beq0 _ h1, beq0 _ h2, beq0 _ h3, bne0 _ h4⟩)))
      · exact Or.inr (Or.inr (Or.inl ⟨Or.inr (fun h => h3 (e2.1 h).1), beq0 _ h1, beq0 _ h2, bne0 _ h3⟩))
    · exact Or.inr (Or.inl ⟨Or.inl (fun h => h2 (e1.1 h).2), beq0 _ h1, bne0 _ h2⟩)
  · exact Or.inl ⟨Or.inl (fun h => h1 (e1.1 h).1), bne0 _ h1⟩
attribute [local go_sem ↓] Go.wp_at_zero Go.wp_at_succ
set_option maxHeartbeats 4000000 in
set_option maxRecDepth 100000 in
theorem cmp_c (n1 s1 n2 s2 : Int) (w : World) (env : Env w) :
    Calls Tryz.prog 17 #[.agg #[.int .i64 n1, .int .i64 s1], .agg #[.int .i64 n2, .int .i64 s2]] w fun e w' => e = .returned (.int .i64 (cmpZ (unitZ n1 s1) (unitZ n2 s2))) ∧ Kb (fun _ => False) w w' := by
  have EN := hid env
  clear env
  go_enter Tryz.func17, Tryz.ntmps17
  go_wp2_with fail
  go_cut [5, 6] (fun v5 v6 wx => ∃ b5 b6 : Nat, v5 = .pointer (some ⟨b5, 0, none⟩) ∧ v6 = .pointer (some ⟨b6, 0, none⟩) ∧ wx.cell? ⟨b5, 0, none⟩ = some (.bool (decide (unitZ n1 s1 < 0))) ∧ wx.cell? ⟨b5, 1, none⟩ = some (.int .u64 (uHi (unitZ n1 s1) : Nat)) ∧ wx.cell? ⟨b5, 2, none⟩ = some (.int .u64 (uLo (unitZ n1 s1) : Nat)) ∧ wx.cell? ⟨b6, 0, none⟩ = some (.bool (decide (unitZ n2 s2 < 0))) ∧ wx.cell? ⟨b6, 1, none⟩ = some (.int .u64 (uHi (unitZ n2 s2) : Nat)) ∧ wx.cell? ⟨b6, 2, none⟩ = some (.int .u64 (uLo (unitZ n2 s2) : Nat)) ∧ Hid (Kb (fun _ => False) w wx))
  case first =>
    go_region_held3 (fun w' => w'.cell? ⟨w.heap.size, 0, none⟩ = some (.int .i64 n1) ∧ w'.cell? ⟨w.heap.size, 1, none⟩ = some (.int .i64 s1) ∧ w'.cell? ⟨w.heap.size + 1, 0, none⟩ = some (.int .i64 n2) ∧ w'.cell? ⟨w.heap.size + 1, 1, none⟩ = some (.int .i64 s2)) (first | go_keep | (simp [go_sem]; done)) (first
      | (go_at_call 45; refine (units_c _ _ _ (EN.out.kb (by repeat (with_reducible first | exact Kb.refl _ _ | exact KW.out | refine Kb.setC ?_ (by assumption) | apply Kb.drew | apply Kb.drewN | apply Kb.grew | apply Kb.alloc)))).mono ?_; rintro e w1 ⟨rfl, k1⟩; obtain ⟨C, m, rfl⟩ := grew_of k1; clear k1))
    all_goals
      go_wp2_with fail
      go_meet
      exact ⟨_, _, rfl, rfl, by simp [go_sem], by simp [go_sem], by simp [go_sem], by simp [go_sem], by simp [go_sem], by simp [go_sem], hid (by repeat (with_reducible first | exact Kb.refl _ _ | exact KW.out | refine Kb.setC ?_ (by assumption) | apply Kb.drew | apply Kb.drewN | apply Kb.grew | apply Kb.alloc))⟩
  case rest =>
    obtain ⟨b5, b6, rfl, rfl, a0, a1, a2, d0, d1, d2, hK⟩ := hcut
    have L1 := hid (uLo_lt (unitZ n1 s1))
    have L2 := hid (uLo_lt (unitZ n2 s2))
    have H1 := hid (uHi_lt n1 s1)
    have H2 := hid (uHi_lt n2 s2)
    have HO := hid (ord_is (unitZ n1 s1) (unitZ n2 s2))
    clear EN
    have bl5 := World.block_lt_of_cell? _ _ a0
    have bl6 := World.block_lt_of_cell? _ _ d0
    go_wp2_with fail
    go_region_held3 (fun w' => w'.cell? ⟨b5, 1, none⟩ = some (.int .u64 (uHi (unitZ n1 s1) : Nat)) ∧ w'.cell? ⟨b5, 2, none⟩ = some (.int .u64 (uLo (unitZ n1 s1) : Nat)) ∧ w'.cell? ⟨b6, 1, none⟩ = some (.int .u64 (uHi (unitZ n2 s2) : Nat)) ∧ w'.cell? ⟨b6, 2, none⟩ = some (.int .u64 (uLo (unitZ n2 s2) : Nat))) (first | go_keep | (simp [go_sem, *]; done)) (first
      | (go_at_call 47; refine (compare_any _ _ _ (by first | exact Nat.lt_trans H1.out (by decide) | exact L1.out) (by first | exact Nat.lt_trans H2.out (by decide) | exact L2.out)).mono ?_; rintro e w' ⟨rfl, rfl⟩)
      | (go_at_call 46; refine (or_is _ (cmp3 (uHi (unitZ n1 s1)) (uHi (unitZ n2 s2))) (cmp3 (uLo (unitZ n1 s1)) (uLo (unitZ n2 s2))) (cmpZ ((unitZ n1 s1).natAbs : Nat) ((unitZ n2 s2).natAbs : Nat)) _ (by simp [go_sem]) (by simp [go_sem]) HO.out).mono ?_; rintro e w' ⟨rfl, rfl⟩))
    have cz := cmpZ_bd ((unitZ n1 s1).natAbs : Nat) ((unitZ n2 s2).natAbs : Nat)
    obtain ⟨cz1, cz2⟩ := cz
    clear HO L1 L2 H1 H2
    have hzz := zero_cases (unitZ n1 s1) (unitZ n2 s2)
    by_cases p1 : (unitZ n1 s1) < 0
    all_goals by_cases p2 : (unitZ n2 s2) < 0
    all_goals rcases hzz with ⟨hz, q1⟩ | ⟨hz, q1, q2⟩ | ⟨hz, q1, q2, q3⟩ | ⟨hz, q1, q2, q3, q4⟩ | ⟨hz, q1, q2, q3, q4⟩
    all_goals first | (exfalso; omega) | skip
    all_goals
      have HZ := hid hz
      clear hz
      have P1 := hid p1
      have P2 := hid p2
      first | (have s1 : decide ((unitZ n1 s1) < 0) = true := decide_eq_true p1; clear p1) | (have s1 : decide ((unitZ n1 s1) < 0) = false := decide_eq_false p1; clear p1)
      first | (have s2 : decide ((unitZ n2 s2) < 0) = true := decide_eq_true p2; clear p2) | (have s2 : decide ((unitZ n2 s2) < 0) = false := decide_eq_false p2; clear p2)
      go_wp2_with fail
      go_ret
      refine ⟨congrArg (fun x => Ending.returned (.int .i64 x)) ?_, (by repeat (first | exact hK.out | apply Kb.drew | apply Kb.alloc))⟩
      have p1 := P1.out
      have p2 := P2.out
      have hz := HZ.out
      clear HZ P1 P2
      unfold cmpZ
      repeat' split
      all_goals omega
end Go.Proofs.YtkhjgfbiemllmaaGreatDoor
namespace Go.Proofs.YtkhjgfbiemllmaaGreatDoor
open Go.RowKit

theorem of_c (n : Int) (w : World) (h1 : -9223372036854775808 ≤ n) (h2 : n ≤ 9223372036854775807) :
    Calls Tryz.prog 28 #[.int .i64 n] w fun e w' => e = .returned (.tuple #[.agg #[.int .i64 (makeD n 0).n, .int .i64 (makeD n 0).s], .bool (makeD n 0).ok]) ∧ Kb (fun _ => False) w w' := by
  have h := dof_any n w h1 h2
  rw [fitV_mkD] at h
  exact h
def addD (n1 s1 n2 s2 : Int) : DR := mkD (unitZ n1 s1 + unitZ n2 s2) 6
def subD (n1 s1 n2 s2 : Int) : DR := mkD (unitZ n1 s1 - unitZ n2 s2) 6
def mulD (n1 s1 n2 s2 : Int) : DR := mkD (knN n1 s1 * knN n2 s2) (knS n1 s1 + knS n2 s2)
theorem add_c (n1 s1 n2 s2 : Int) (w : World) (env : Env w) :
    Calls Tryz.prog 20 #[.agg #[.int .i64 n1, .int .i64 s1], .agg #[.int .i64 n2, .int .i64 s2]] w fun e w' => e = .returned (.tuple #[.agg #[.int .i64 (addD n1 s1 n2 s2).n, .int .i64 (addD n1 s1 n2 s2).s], .bool (addD n1 s1 n2 s2).ok]) ∧ Kb (fun _ => False) w w' := by
  have h := dadd_any n1 s1 n2 s2 w env
  rw [fitV_mkD] at h
  exact h
theorem sub_c (n1 s1 n2 s2 : Int) (w : World) (env : Env w) :
    Calls Tryz.prog 22 #[.agg #[.int .i64 n1, .int .i64 s1], .agg #[.int .i64 n2, .int .i64 s2]] w fun e w' => e = .returned (.tuple #[.agg #[.int .i64 (subD n1 s1 n2 s2).n, .int .i64 (subD n1 s1 n2 s2).s], .bool (subD n1 s1 n2 s2).ok]) ∧ Kb (fun _ => False) w w' := by
  have h := dsub_any n1 s1 n2 s2 w env
  rw [fitV_mkD] at h
  exact h
theorem mul_sign (a b : Int) (s : Nat) : fitV (decide (a < 0) != decide (b < 0)) (a.natAbs * b.natAbs) s = fitV (decide (a * b < 0)) (a * b).natAbs s := by
  rw [Int.natAbs_mul]
  by_cases h : a.natAbs * b.natAbs = 0
  · rw [h, fitV_zero, fitV_zero (decide (a * b < 0))]
  · have ha : a ≠ 0 := by rintro rfl; exact h (Nat.zero_mul _)
    have hb : b ≠ 0 := by rintro rfl; exact h (Nat.mul_zero _)
    have e : (decide (a < 0) != decide (b < 0)) = decide (a * b < 0) := by
      by_cases h1 : a < 0 <;> by_cases h2 : b < 0
      · have := Int.mul_pos_of_neg_of_neg h1 h2
        simp [h1, h2]; omega
      · have := Int.mul_neg_of_neg_of_pos h1 (show 0 < b by omega)
        simp [h1, h2]; omega
      · have := Int.mul_neg_of_pos_of_neg (show 0 < a by omega) h2
        simp [h1, h2]; omega
      · have := Int.mul_pos (show 0 < a by omega) (show 0 < b by omega)
        simp [h1, h2]; omega
    rw [e]
theorem mul_c (n1 s1 n2 s2 : Int) (w : World) :
    Calls Tryz.prog 9 #[.agg #[.int .i64 n1, .int .i64 s1], .agg #[.int .i64 n2, .int .i64 s2]] w fun e w' => e = .returned (.tuple #[.agg #[.int .i64 (mulD n1 s1 n2 s2).n, .int .i64 (mulD n1 s1 n2 s2).s], .bool (mulD n1 s1 n2 s2).ok]) ∧ Kb (fun _ => False) w w' := by
  have b1 := kn_bd n1 s1
  have b2 := kn_bd n2 s2
  have h := dmul_known n1 s1 n2 s2 _ _ _ _ w (knownV_kn n1 s1) (knownV_kn n2 s2) (by omega) (by omega) b1.2.2 b2.2.2
  rw [mul_sign, fitV_mkD] at h
  exact h
end Go.Proofs.YtkhjgfbiemllmaaGreatDoor
