/- The numbers of decimals, in the reference. Powers of ten, in the reference. Numbers at another scale, in the reference. Sums of numbers, in the reference. Differences of numbers, in the reference. Products, in the reference. -/
import Derived.Test.YtkhjgfbiemllmaaGreatDoorGE
import Derived.Test.YtkhjgfbiemllmaaGreatDoorGH
namespace Go.Proofs.YtkhjgfbiemllmaaGreatDoor
set_option linter.unusedSimpArgs false
set_option linter.unusedVariables false
open Go.RowKit

/-- The reference's number. -/
def bigV (neg : Bool) (N s : Nat) : Value := .agg #[.bool neg, .string (natS N), .int .i64 (s : Nat)]
set_option maxHeartbeats 1000000 in
theorem big_c (n s : Int) (w : World) :
    Calls Tryz.prog 33 #[.agg #[.int .i64 n, .int .i64 s]] w fun e w' => e = .returned (bigV (decide (knN n s < 0)) (knN n s).natAbs (knS n s)) ∧ Kb (fun _ => False) w w' := by
  unfold knN knS
  have HR := hid (fun w => rright_any n s w)
  by_cases hr : rightB n s = true
  · rw [hr] at HR
    rw [if_pos hr, if_pos hr]
    have hb := rightB_bd hr
    have hs : ((s.toNat : Nat) : Int) = s := by omega
    have HN := hid (fun w => natural_any n w (by omega) (by omega))
    unfold bigV
    rw [hs]
    generalize natS n.natAbs = Z at *
    clear hb hs hr
    go_enter Tryz.func33, Tryz.ntmps33
    go_wp2_with fail
    refine (HR.out _).mono ?_; rintro e w1 ⟨rfl, k1⟩; obtain ⟨C1, m, rfl⟩ := grew_of k1; clear k1
    go_wp2_with fail
    go_region_held3 (fun w' => w'.cell? ⟨w.heap.size, 0, none⟩ = some (.int .i64 n) ∧ w'.cell? ⟨w.heap.size, 1, none⟩ = some (.int .i64 s)) ((simp [go_sem]; done)) (first
      | (go_at_call 50; refine (HN.out _).mono ?_; rintro e w1 ⟨rfl, k1⟩; obtain ⟨C, m, rfl⟩ := grew_of k1; clear k1))
    all_goals
      go_wp2_with fail
      exact bodyPost_ret (v := .agg #[.bool (decide (n < 0)), .string Z, .int .i64 s]) (by simp [results, Tryz.results33, go_sem]) rfl ⟨rfl, (by repeat (with_reducible first | exact Kb.refl _ _ | exact KW.out | refine Kb.setC ?_ (by assumption) | apply Kb.drew | apply Kb.drewN | apply Kb.grew | apply Kb.alloc))⟩
  · have hr' : rightB n s = false := by simpa using hr
    rw [hr'] at HR
    rw [if_neg hr, if_neg hr]
    have hz : bigV (decide ((0 : Int) < 0)) (0 : Int).natAbs 0 = .agg #[.bool false, .string ⟨#[]⟩, .int .i64 0] := rfl
    rw [hz]
    clear hr hr' hz
    go_enter Tryz.func33, Tryz.ntmps33
    go_wp2_with fail
    refine (HR.out _).mono ?_; rintro e w1 ⟨rfl, k1⟩; obtain ⟨C1, m, rfl⟩ := grew_of k1; clear k1
    go_wp2_with fail
    exact bodyPost_ret (v := .agg #[.bool false, .string ⟨#[]⟩, .int .i64 0]) (by simp [results, Tryz.results33, go_sem]) rfl ⟨rfl, (by repeat (with_reducible first | exact Kb.refl _ _ | exact KW.out | refine Kb.setC ?_ (by assumption) | apply Kb.drew | apply Kb.drewN | apply Kb.grew | apply Kb.alloc))⟩
theorem natS_le1000 (n : Nat) (h : n < 256 ^ 1000) : (natS n).size ≤ 1000 := (natS_len n 1000).2 h
theorem ten_small (k : Nat) (h : k ≤ 100) : 10 ^ k < 256 ^ 1000 :=
  Nat.lt_of_le_of_lt (Nat.pow_le_pow_right (by omega) h) (by decide +kernel)
theorem m10_c (n : Nat) (w : World) (h : (natS n).size ≤ 1000) :
    Calls Tryz.prog 35 #[.string (natS n), .string (natS 10)] w fun e w' => e = .returned (.string (natS (n * 10))) ∧ Kb (fun _ => False) w w' := by
  have := Mul_any (natS n) (natS 10) w (by omega) (by decide)
  rwa [sv_natS, sv_natS] at this
end Go.Proofs.YtkhjgfbiemllmaaGreatDoor
namespace Go.Proofs.YtkhjgfbiemllmaaGreatDoor
set_option linter.unusedSimpArgs false
set_option linter.unusedVariables false
open Go.RowKit

set_option maxHeartbeats 2000000 in
set_option maxRecDepth 100000 in
theorem power_c (n : Nat) (w : World) (h : n ≤ 100) :
    Calls Tryz.prog 36 #[.int .i64 n] w fun e w' => e = .returned (.string (natS (10 ^ n))) ∧ Kb (fun _ => False) w w' := by
  have HO := hid (fun z w => Of_any z w)
  have HM := hid (fun k (hk : k ≤ 100) w => m10_c (10 ^ k) w (natS_le1000 _ (ten_small k hk)))
  go_enter Tryz.func36, Tryz.ntmps36
  go_wp2_with fail
  refine (HO.out _ _ (by omega)).mono ?_; rintro e w1 ⟨rfl, k1⟩; obtain ⟨C1, m, rfl⟩ := grew_of k1; clear k1
  go_wp2_with fail
  generalize hW : grew w C1 m = W
  have KW := hid (show Kb (fun _ => False) w W by subst hW; exact (by repeat (with_reducible first | exact Kb.refl _ _ | exact KW.out | refine Kb.setC ?_ (by assumption) | apply Kb.drew | apply Kb.drewN | apply Kb.grew | apply Kb.alloc)))
  clear hW
  go_loopw [3, 4] (fun ov kv wr => ∃ k : Nat, ov = .string (natS (10 ^ k)) ∧ kv = .int .i64 k ∧ k ≤ n ∧ Hid (Kb (fun _ => False) w wr)) (fun _ kv _ => n - (intOf kv).toNat)
  case atStart => exact ⟨0, by rw [Nat.pow_zero], rfl, by omega, KW⟩
  case round =>
    obtain ⟨k, rfl, rfl, hk, KW⟩ := hrel
    by_cases hl : k < n
    · have hk2 : k ≤ 100 := by omega
      have HP := hid (Nat.pow_succ (n := 10) (m := k)).symm
      go_wp2_with fail
      refine (HO.out _ _ (by omega)).mono ?_; rintro e w1 ⟨rfl, k1⟩; obtain ⟨C2, m, rfl⟩ := grew_of k1; clear k1
      go_wp2_with fail
      refine (HM.out k hk2 _).mono ?_; rintro e w1 ⟨rfl, k1⟩; obtain ⟨C3, m, rfl⟩ := grew_of k1; clear k1
      go_wp2_with fail
      refine ⟨⟨k + 1, ?_, ?_, by omega, hid (by repeat (with_reducible first | exact Kb.refl _ _ | exact KW.out | refine Kb.setC ?_ (by assumption) | apply Kb.drew | apply Kb.drewN | apply Kb.grew | apply Kb.alloc))⟩, ?_⟩
      · rw [← HP.out]
      · simp [go_sem]
      · simp [intOf]; omega
    · have he : k = n := by omega
      subst he
      go_wp2_with fail
      exact bodyPost_ret (v := .string (natS (10 ^ k))) (by simp [results, Tryz.results36, go_sem]) rfl ⟨rfl, (by repeat (with_reducible first | exact Kb.refl _ _ | exact KW.out | refine Kb.setC ?_ (by assumption) | apply Kb.drew | apply Kb.drewN | apply Kb.grew | apply Kb.alloc))⟩
end Go.Proofs.YtkhjgfbiemllmaaGreatDoor
namespace Go.Proofs.YtkhjgfbiemllmaaGreatDoor
set_option linter.unusedSimpArgs false
set_option linter.unusedVariables false
open Go.RowKit

theorem mul_c2 (a b : Nat) (w : World) (ha : (natS a).size ≤ 1000) (hb : (natS b).size ≤ 1000) :
    Calls Tryz.prog 35 #[.string (natS a), .string (natS b)] w fun e w' => e = .returned (.string (natS (a * b))) ∧ Kb (fun _ => False) w w' := by
  have := Mul_any (natS a) (natS b) w (by omega) (by omega)
  rwa [sv_natS, sv_natS] at this
set_option maxHeartbeats 2000000 in
theorem wider_c (neg : Bool) (N s t j : Nat) (w : World) (hN : (natS N).size ≤ 1000) (hs : s + j = t) (ht : t ≤ 100) :
    Calls Tryz.prog 77 #[.agg #[.bool neg, .string (natS N), .int .i64 (s : Nat)], .int .i64 (t : Nat)] w fun e w' => e = .returned (.agg #[.bool neg, .string (natS (N * 10 ^ j)), .int .i64 (t : Nat)]) ∧ Kb (fun _ => False) w w' := by
  have e1 : IntKind.i64.wrap ((t : Int) - (s : Int)) = (j : Int) := by rw [IntWalk.i64_in _ (by omega)]; omega
  have HP := hid (fun w => power_c j w (by omega))
  have HM := hid (fun w => mul_c2 N (10 ^ j) w hN (natS_le1000 _ (ten_small j (by omega))))
  clear hs ht hN
  generalize natS (N * 10 ^ j) = Z at *
  generalize natS (10 ^ j) = Y at *
  generalize natS N = X at *
  go_enter Tryz.func77, Tryz.ntmps77
  go_wp2_with fail
  go_region_held3 (fun w' => w'.cell? ⟨w.heap.size, 0, none⟩ = some (.bool neg) ∧ w'.cell? ⟨w.heap.size, 1, none⟩ = some (.string X) ∧ w'.cell? ⟨w.heap.size, 2, none⟩ = some (.int .i64 s)) ((simp [go_sem]; done)) (first
    | (go_at_call 36; refine (HP.out _).mono ?_; rintro e w1 ⟨rfl, k1⟩; obtain ⟨C, m, rfl⟩ := grew_of k1; clear k1)
    | (go_at_call 35; refine (HM.out _).mono ?_; rintro e w1 ⟨rfl, k1⟩; obtain ⟨C, m, rfl⟩ := grew_of k1; clear k1))
  all_goals
    go_wp2_with fail
    exact bodyPost_ret (v := .agg #[.bool neg, .string Z, .int .i64 t]) (by simp [results, Tryz.results77, go_sem]) rfl ⟨rfl, (by repeat (with_reducible first | exact Kb.refl _ _ | exact KW.out | refine Kb.setC ?_ (by assumption) | apply Kb.drew | apply Kb.drewN | apply Kb.grew | apply Kb.alloc))⟩
end Go.Proofs.YtkhjgfbiemllmaaGreatDoor
namespace Go.Proofs.YtkhjgfbiemllmaaGreatDoor
set_option linter.unusedSimpArgs false
set_option linter.unusedVariables false
open Go.RowKit

set_option maxHeartbeats 4000000 in
set_option maxRecDepth 100000 in
theorem rplus_same (neg : Bool) (A B s1 s2 t j1 j2 : Nat) (w : World) (hA : (natS A).size ≤ 1000) (hB : (natS B).size ≤ 1000) (h1 : s1 + j1 = t) (h2 : s2 + j2 = t) (ht : t ≤ 100) (hm : max (s1 : Int) (s2 : Int) = t)
    (hA2 : (natS (A * 10 ^ j1)).size ≤ 1000) (hB2 : (natS (B * 10 ^ j2)).size ≤ 1000) :
    Calls Tryz.prog 49 #[.agg #[.bool neg, .string (natS A), .int .i64 (s1 : Nat)], .agg #[.bool neg, .string (natS B), .int .i64 (s2 : Nat)]] w fun e w' => e = .returned (.agg #[.bool neg, .string (natS (A * 10 ^ j1 + B * 10 ^ j2)), .int .i64 (t : Nat)]) ∧ Kb (fun _ => False) w w' := by
  have HX := hid (fun w => wider_c neg A s1 t j1 w hA h1 ht)
  have HY := hid (fun w => wider_c neg B s2 t j2 w hB h2 ht)
  have HA := hid (fun w => Add_nat (A * 10 ^ j1) (B * 10 ^ j2) w (by omega) (by omega))
  clear hA hB h1 h2 ht hA2 hB2
  generalize natS (A * 10 ^ j1 + B * 10 ^ j2) = Z at *
  generalize natS (A * 10 ^ j1) = X at *
  generalize natS (B * 10 ^ j2) = Y at *
  generalize natS A = P at *
  generalize natS B = Q at *
  go_enter Tryz.func49, Tryz.ntmps49
  go_wp2_with fail
  refine (HX.out _).mono ?_; rintro e w1 ⟨rfl, k1⟩; obtain ⟨C1, m, rfl⟩ := grew_of k1; clear k1
  go_wp2_with fail
  refine (HY.out _).mono ?_; rintro e w1 ⟨rfl, k1⟩; obtain ⟨C2, m, rfl⟩ := grew_of k1; clear k1
  go_wp2_with fail
  go_region_held3 (fun w' => w'.cell? ⟨gsz w C1 3, 0, none⟩ = some (.bool neg) ∧ w'.cell? ⟨gsz w C1 3, 1, none⟩ = some (.string X) ∧ w'.cell? ⟨gsz w C1 3, 2, none⟩ = some (.int .i64 t) ∧ w'.cell? ⟨gsz w (C1 ++ C2) 4, 1, none⟩ = some (.string Y)) ((simp [go_sem]; done)) (first
    | (go_at_call 37; refine (HA.out _).mono ?_; rintro e w1 ⟨rfl, k1⟩; obtain ⟨C, m, rfl⟩ := grew_of k1; clear k1))
  all_goals
    go_wp2_with fail
    exact bodyPost_ret (v := .agg #[.bool neg, .string Z, .int .i64 t]) (by simp [results, Tryz.results49, go_sem]) rfl ⟨rfl, (by repeat (with_reducible first | exact Kb.refl _ _ | exact KW.out | refine Kb.setC ?_ (by assumption) | apply Kb.drew | apply Kb.drewN | apply Kb.grew | apply Kb.alloc))⟩
end Go.Proofs.YtkhjgfbiemllmaaGreatDoor
namespace Go.Proofs.YtkhjgfbiemllmaaGreatDoor
set_option linter.unusedSimpArgs false
set_option linter.unusedVariables false
open Go.RowKit

theorem sub_c2 (a b : Nat) (w : World) (ha : (natS a).size ≤ 1000) (hb : (natS b).size ≤ 1000) (h : b ≤ a) :
    Calls Tryz.prog 79 #[.string (natS a), .string (natS b)] w fun e w' => e = .returned (.tuple #[.string (natS (a - b)), .bool true]) ∧ Kb (fun _ => False) w w' := by
  have := rSub_c (natS a) (natS b) w (by omega) (by omega)
  rw [sv_natS, sv_natS] at this
  rwa [show decide (b ≤ a) = true by simpa using h] at this
theorem cmp_c2 (a b : Nat) (r : Int) (w : World) (ha : (natS a).size ≤ 1000) (hb : (natS b).size ≤ 1000) (h : ncmp a b = r) :
    Calls Tryz.prog 78 #[.string (natS a), .string (natS b)] w fun e w' => e = .returned (.int .i64 r) ∧ w' = w := by
  have := rCmp_c (natS a) (natS b) w (by omega) (by omega)
  rwa [sv_natS, sv_natS, h] at this
set_option maxHeartbeats 4000000 in
set_option maxRecDepth 100000 in
theorem rplus_gt (p : Bool) (A B s1 s2 t j1 j2 : Nat) (w : World) (hA : (natS A).size ≤ 1000) (hB : (natS B).size ≤ 1000) (h1 : s1 + j1 = t) (h2 : s2 + j2 = t) (ht : t ≤ 100) (hm : max (s1 : Int) (s2 : Int) = t)
    (hA2 : (natS (A * 10 ^ j1)).size ≤ 1000) (hB2 : (natS (B * 10 ^ j2)).size ≤ 1000) (hlt : B * 10 ^ j2 < A * 10 ^ j1) :
    Calls Tryz.prog 49 #[.agg #[.bool p, .string (natS A), .int .i64 (s1 : Nat)], .agg #[.bool (!p), .string (natS B), .int .i64 (s2 : Nat)]] w fun e w' => e = .returned (.agg #[.bool (p), .string (natS (A * 10 ^ j1 - B * 10 ^ j2)), .int .i64 (t : Nat)]) ∧ Kb (fun _ => False) w w' := by
  have HX := hid (fun w => wider_c p A s1 t j1 w hA h1 ht)
  have HY := hid (fun w => wider_c (!p) B s2 t j2 w hB h2 ht)
  have HC := hid (fun w => cmp_c2 (A * 10 ^ j1) (B * 10 ^ j2) (1) w hA2 hB2 (by unfold ncmp; rw [if_neg (by omega)]; split <;> omega))
  have HS := hid (fun w => sub_c2 (A * 10 ^ j1) (B * 10 ^ j2) w hA2 hB2 (by omega))
  have hz : ((0 : Int) < ((natS (A * 10 ^ j1 - B * 10 ^ j2)).size : Int)) := by have := natS_pos (A * 10 ^ j1 - B * 10 ^ j2) (by omega); omega
  have hz2 : 0 < (natS (A * 10 ^ j1 - B * 10 ^ j2)).size := natS_pos _ (by omega)
  clear hA hB h1 h2 ht hA2 hB2 hlt
  generalize natS (A * 10 ^ j1 - B * 10 ^ j2) = Z at *
  generalize natS (A * 10 ^ j1) = X at *
  generalize natS (B * 10 ^ j2) = Y at *
  generalize natS A = P at *
  generalize natS B = Q at *
  cases p
  all_goals
    go_enter Tryz.func49, Tryz.ntmps49
    go_wp2_with fail
    refine (HX.out _).mono ?_; rintro e w1 ⟨rfl, k1⟩; obtain ⟨C1, m, rfl⟩ := grew_of k1; clear k1
    go_wp2_with fail
    refine (HY.out _).mono ?_; rintro e w1 ⟨rfl, k1⟩; obtain ⟨C2, m, rfl⟩ := grew_of k1; clear k1
    go_wp2_with fail
    refine (HC.out _).mono ?_; rintro e w1 ⟨rfl, rfl⟩
    go_wp2_with fail
    refine (HS.out _).mono ?_; rintro e w1 ⟨rfl, k1⟩; obtain ⟨C3, m, rfl⟩ := grew_of k1; clear k1
    go_wp2_with fail
    first
    | exact bodyPost_ret (v := .agg #[.bool true, .string Z, .int .i64 t]) (by simp [results, Tryz.results49, go_sem]) rfl ⟨rfl, (by repeat (with_reducible first | exact Kb.refl _ _ | exact KW.out | refine Kb.setC ?_ (by assumption) | apply Kb.drew | apply Kb.drewN | apply Kb.grew | apply Kb.alloc))⟩
    | exact bodyPost_ret (v := .agg #[.bool false, .string Z, .int .i64 t]) (by simp [results, Tryz.results49, go_sem]) rfl ⟨rfl, (by repeat (with_reducible first | exact Kb.refl _ _ | exact KW.out | refine Kb.setC ?_ (by assumption) | apply Kb.drew | apply Kb.drewN | apply Kb.grew | apply Kb.alloc))⟩
set_option maxHeartbeats 4000000 in
set_option maxRecDepth 100000 in
theorem rplus_eq (p : Bool) (A B s1 s2 t j1 j2 : Nat) (w : World) (hA : (natS A).size ≤ 1000) (hB : (natS B).size ≤ 1000) (h1 : s1 + j1 = t) (h2 : s2 + j2 = t) (ht : t ≤ 100) (hm : max (s1 : Int) (s2 : Int) = t)
    (hA2 : (natS (A * 10 ^ j1)).size ≤ 1000) (hB2 : (natS (B * 10 ^ j2)).size ≤ 1000) (hlt : A * 10 ^ j1 = B * 10 ^ j2) :
    Calls Tryz.prog 49 #[.agg #[.bool p, .string (natS A), .int .i64 (s1 : Nat)], .agg #[.bool (!p), .string (natS B), .int .i64 (s2 : Nat)]] w fun e w' => e = .returned (.agg #[.bool (false), .string (natS (A * 10 ^ j1 - B * 10 ^ j2)), .int .i64 (t : Nat)]) ∧ Kb (fun _ => False) w w' := by
  have HX := hid (fun w => wider_c p A s1 t j1 w hA h1 ht)
  have HY := hid (fun w => wider_c (!p) B s2 t j2 w hB h2 ht)
  have HC := hid (fun w => cmp_c2 (A * 10 ^ j1) (B * 10 ^ j2) (0) w hA2 hB2 (by unfold ncmp; rw [if_neg (by omega)]; split <;> omega))
  have HS := hid (fun w => sub_c2 (A * 10 ^ j1) (B * 10 ^ j2) w hA2 hB2 (by omega))
  have hz : (((natS (A * 10 ^ j1 - B * 10 ^ j2)).size : Int) = 0) := by rw [hlt, Nat.sub_self]; rfl
  clear hA hB h1 h2 ht hA2 hB2 hlt
  generalize natS (A * 10 ^ j1 - B * 10 ^ j2) = Z at *
  generalize natS (A * 10 ^ j1) = X at *
  generalize natS (B * 10 ^ j2) = Y at *
  generalize natS A = P at *
  generalize natS B = Q at *
  cases p
  all_goals
    go_enter Tryz.func49, Tryz.ntmps49
    go_wp2_with fail
    refine (HX.out _).mono ?_; rintro e w1 ⟨rfl, k1⟩; obtain ⟨C1, m, rfl⟩ := grew_of k1; clear k1
    go_wp2_with fail
    refine (HY.out _).mono ?_; rintro e w1 ⟨rfl, k1⟩; obtain ⟨C2, m, rfl⟩ := grew_of k1; clear k1
    go_wp2_with fail
    refine (HC.out _).mono ?_; rintro e w1 ⟨rfl, rfl⟩
    go_wp2_with fail
    refine (HS.out _).mono ?_; rintro e w1 ⟨rfl, k1⟩; obtain ⟨C3, m, rfl⟩ := grew_of k1; clear k1
    go_wp2_with fail
    first
    | exact bodyPost_ret (v := .agg #[.bool true, .string Z, .int .i64 t]) (by simp [results, Tryz.results49, go_sem]) rfl ⟨rfl, (by repeat (with_reducible first | exact Kb.refl _ _ | exact KW.out | refine Kb.setC ?_ (by assumption) | apply Kb.drew | apply Kb.drewN | apply Kb.grew | apply Kb.alloc))⟩
    | exact bodyPost_ret (v := .agg #[.bool false, .string Z, .int .i64 t]) (by simp [results, Tryz.results49, go_sem]) rfl ⟨rfl, (by repeat (with_reducible first | exact Kb.refl _ _ | exact KW.out | refine Kb.setC ?_ (by assumption) | apply Kb.drew | apply Kb.drewN | apply Kb.grew | apply Kb.alloc))⟩
set_option maxHeartbeats 4000000 in
set_option maxRecDepth 100000 in
theorem rplus_lt (p : Bool) (A B s1 s2 t j1 j2 : Nat) (w : World) (hA : (natS A).size ≤ 1000) (hB : (natS B).size ≤ 1000) (h1 : s1 + j1 = t) (h2 : s2 + j2 = t) (ht : t ≤ 100) (hm : max (s1 : Int) (s2 : Int) = t)
    (hA2 : (natS (A * 10 ^ j1)).size ≤ 1000) (hB2 : (natS (B * 10 ^ j2)).size ≤ 1000) (hlt : A * 10 ^ j1 < B * 10 ^ j2) :
    Calls Tryz.prog 49 #[.agg #[.bool p, .string (natS A), .int .i64 (s1 : Nat)], .agg #[.bool (!p), .string (natS B), .int .i64 (s2 : Nat)]] w fun e w' => e = .returned (.agg #[.bool (!p), .string (natS (B * 10 ^ j2 - A * 10 ^ j1)), .int .i64 (t : Nat)]) ∧ Kb (fun _ => False) w w' := by
  have HX := hid (fun w => wider_c p A s1 t j1 w hA h1 ht)
  have HY := hid (fun w => wider_c (!p) B s2 t j2 w hB h2 ht)
  have HC := hid (fun w => cmp_c2 (A * 10 ^ j1) (B * 10 ^ j2) (-1) w hA2 hB2 (by unfold ncmp; rw [if_pos (by omega)]))
  have HS := hid (fun w => sub_c2 (B * 10 ^ j2) (A * 10 ^ j1) w hB2 hA2 (by omega))
  have hz : ((0 : Int) < ((natS (B * 10 ^ j2 - A * 10 ^ j1)).size : Int)) := by have := natS_pos (B * 10 ^ j2 - A * 10 ^ j1) (by omega); omega
  have hz2 : 0 < (natS (B * 10 ^ j2 - A * 10 ^ j1)).size := natS_pos _ (by omega)
  clear hA hB h1 h2 ht hA2 hB2 hlt
  generalize natS (B * 10 ^ j2 - A * 10 ^ j1) = Z at *
  generalize natS (A * 10 ^ j1) = X at *
  generalize natS (B * 10 ^ j2) = Y at *
  generalize natS A = P at *
  generalize natS B = Q at *
  cases p
  all_goals
    go_enter Tryz.func49, Tryz.ntmps49
    go_wp2_with fail
    refine (HX.out _).mono ?_; rintro e w1 ⟨rfl, k1⟩; obtain ⟨C1, m, rfl⟩ := grew_of k1; clear k1
    go_wp2_with fail
    refine (HY.out _).mono ?_; rintro e w1 ⟨rfl, k1⟩; obtain ⟨C2, m, rfl⟩ := grew_of k1; clear k1
    go_wp2_with fail
    refine (HC.out _).mono ?_; rintro e w1 ⟨rfl, rfl⟩
    go_wp2_with fail
    refine (HS.out _).mono ?_; rintro e w1 ⟨rfl, k1⟩; obtain ⟨C3, m, rfl⟩ := grew_of k1; clear k1
    go_wp2_with fail
    first
    | exact bodyPost_ret (v := .agg #[.bool true, .string Z, .int .i64 t]) (by simp [results, Tryz.results49, go_sem]) rfl ⟨rfl, (by repeat (with_reducible first | exact Kb.refl _ _ | exact KW.out | refine Kb.setC ?_ (by assumption) | apply Kb.drew | apply Kb.drewN | apply Kb.grew | apply Kb.alloc))⟩
    | exact bodyPost_ret (v := .agg #[.bool false, .string Z, .int .i64 t]) (by simp [results, Tryz.results49, go_sem]) rfl ⟨rfl, (by repeat (with_reducible first | exact Kb.refl _ _ | exact KW.out | refine Kb.setC ?_ (by assumption) | apply Kb.drew | apply Kb.drewN | apply Kb.grew | apply Kb.alloc))⟩
end Go.Proofs.YtkhjgfbiemllmaaGreatDoor
namespace Go.Proofs.YtkhjgfbiemllmaaGreatDoor
set_option linter.unusedSimpArgs false
set_option linter.unusedVariables false
open Go.RowKit

theorem kn_small (n s : Int) : (natS (knN n s).natAbs).size ≤ 1000 := by
  have := natS_small (knN n s).natAbs (by have := kn_bd n s; omega)
  omega
set_option maxHeartbeats 4000000 in
set_option maxRecDepth 100000 in
theorem rmul_v (n1 s1 n2 s2 : Int) (v : Value) (w : World) (x y : Int) (b : Bool) (hv : v = .tuple #[.agg #[.int .i64 x, .int .i64 y], .bool b])
    (h : fitV (decide (knN n1 s1 < 0) != decide (knN n2 s2 < 0)) ((knN n1 s1).natAbs * (knN n2 s2).natAbs) (knS n1 s1 + knS n2 s2) = v) :
    Calls Tryz.prog 10 #[.agg #[.int .i64 n1, .int .i64 s1], .agg #[.int .i64 n2, .int .i64 s2]] w fun e w' => e = .returned v ∧ Kb (fun _ => False) w w' := by
  subst hv
  have k1 := kn_bd n1 s1
  have k2 := kn_bd n2 s2
  have hp : ((natS ((knN n1 s1).natAbs * (knN n2 s2).natAbs)).size) ≤ 1000000 :=
    Nat.le_trans (natS_mono _ _ (Nat.mul_le_mul (show (knN n1 s1).natAbs ≤ 1000000000000000 by omega) (show (knN n2 s2).natAbs ≤ 1000000000000000 by omega))) (Nat.le_trans (natS_le1000 _ (by decide +kernel)) (by omega))
  have HF := hid (fun w => fit_is _ _ (knS n1 s1 + knS n2 s2) _ w (by omega) hp h)
  have H1 := hid (fun w => big_c n1 s1 w)
  have H2 := hid (fun w => big_c n2 s2 w)
  have HM := hid (fun w => mul_c2 _ _ w (kn_small n1 s1) (kn_small n2 s2))
  have e1 : IntKind.i64.wrap (((knS n1 s1 : Nat) : Int) + ((knS n2 s2 : Nat) : Int)) = ((knS n1 s1 + knS n2 s2 : Nat) : Int) := by rw [IntWalk.i64_in _ (by omega)]; omega
  clear k1 k2 hp h
  unfold bigV at H1 H2
  generalize knS n1 s1 + knS n2 s2 = S3 at *
  generalize knS n1 s1 = S1 at *
  generalize knS n2 s2 = S2 at *
  generalize natS ((knN n1 s1).natAbs * (knN n2 s2).natAbs) = Z at *
  generalize natS (knN n1 s1).natAbs = X at *
  generalize natS (knN n2 s2).natAbs = Y at *
  generalize decide (knN n1 s1 < 0) = p at *
  generalize decide (knN n2 s2 < 0) = q at *
  go_enter Tryz.func10, Tryz.ntmps10
  go_wp2_with fail
  refine (H1.out _).mono ?_; rintro e w1 ⟨rfl, k1⟩; obtain ⟨C1, m, rfl⟩ := grew_of k1; clear k1
  go_wp2_with fail
  refine (H2.out _).mono ?_; rintro e w1 ⟨rfl, k1⟩; obtain ⟨C2, m, rfl⟩ := grew_of k1; clear k1
  go_wp2_with fail
  go_region_held3 (fun w' => w'.cell? ⟨gsz w C1 3, 0, none⟩ = some (.bool (p)) ∧ w'.cell? ⟨gsz w C1 3, 1, none⟩ = some (.string X) ∧ w'.cell? ⟨gsz w C1 3, 2, none⟩ = some (.int .i64 S1) ∧ w'.cell? ⟨gsz w (C1 ++ C2) 4, 0, none⟩ = some (.bool (q)) ∧ w'.cell? ⟨gsz w (C1 ++ C2) 4, 1, none⟩ = some (.string Y) ∧ w'.cell? ⟨gsz w (C1 ++ C2) 4, 2, none⟩ = some (.int .i64 S2)) ((simp [go_sem]; done)) (first
    | (go_at_call 35; refine (HM.out _).mono ?_; rintro e w1 ⟨rfl, k1⟩; obtain ⟨C, m, rfl⟩ := grew_of k1; clear k1)
    | (go_at_call 34; refine (HF.out _).mono ?_; rintro e w1 ⟨rfl, k1⟩; obtain ⟨C, m, rfl⟩ := grew_of k1; clear k1))
  all_goals
    go_wp2_with fail
    exact bodyPost_ret (v := .tuple #[.agg #[.int .i64 x, .int .i64 y], .bool b]) (by simp [results, Tryz.results10, go_sem]) rfl ⟨rfl, (by repeat (with_reducible first | exact Kb.refl _ _ | exact KW.out | refine Kb.setC ?_ (by assumption) | apply Kb.drew | apply Kb.drewN | apply Kb.grew | apply Kb.alloc))⟩
end Go.Proofs.YtkhjgfbiemllmaaGreatDoor
