/- Decimal: known and Round in plain numbers. -/
import Derived.Test.YtkhjgfbiemllmaaDoorLb
import Derived.Test.YtkhjgfbiemllmaaDoorMa
namespace Go.Proofs.YtkhjgfbiemllmaaDoor
open Go.RowKit

def knN (n s : Int) : Int := if rightB n s then n else 0
def knS (n s : Int) : Nat := if rightB n s then s.toNat else 0
theorem rightB_bd {n s : Int} (h : rightB n s = true) : 0 ≤ s ∧ s ≤ 6 ∧ -1000000000000000 ≤ n ∧ n ≤ 1000000000000000 ∧ (s = 0 ∨ n.tmod 10 ≠ 0) := of_decide_eq_true h
theorem kn_bd (n s : Int) : -1000000000000000 ≤ knN n s ∧ knN n s ≤ 1000000000000000 ∧ knS n s ≤ 6 := by
  unfold knN knS
  cases h : rightB n s
  · simp
  · have := rightB_bd h
    simp only [if_true]
    omega
theorem kn_of {n s : Int} (h : rightB n s = true) : knN n s = n ∧ (knS n s : Int) = s := by
  have := rightB_bd h
  unfold knN knS
  rw [h]
  exact ⟨if_pos rfl, by rw [if_pos rfl]; omega⟩
theorem knownV_kn (n s : Int) : knownV n s = .agg #[.int .i64 (knN n s), .int .i64 (knS n s : Nat)] := by
  unfold knownV
  cases h : rightB n s
  · unfold knN knS; rw [h]; rfl
  · obtain ⟨h1, h2⟩ := kn_of h
    rw [h1, h2]
    rfl
theorem known_c (n s : Int) (w : World) : Calls Tryd.prog 25 #[.agg #[.int .i64 n, .int .i64 s]] w fun e w' => e = .returned (.agg #[.int .i64 (knN n s), .int .i64 (knS n s : Nat)]) ∧ Kb (fun _ => False) w w' := by
  rw [← knownV_kn]
  exact known_any n s w
/-- Half a unit away from zero, then cut. -/
def rnd (x : Int) (p : Nat) : Int := (if x < 0 then x - ((p / 2 : Nat) : Int) else x + ((p / 2 : Nat) : Int)).tdiv (p : Int)
def roundD (n s k : Int) : DR :=
  if 0 ≤ k ∧ k ≤ 6 then (if (knS n s : Int) ≤ k then ⟨knN n s, (knS n s : Nat), true⟩ else makeD (rnd (knN n s) (10 ^ (knS n s - k.toNat))) k) else noR
theorem pow_bd (j : Nat) (h : j ≤ 6) : 1 ≤ 10 ^ j ∧ 10 ^ j ≤ 1000000 := ⟨Nat.one_le_pow _ _ (by omega), Nat.pow_le_pow_right (n := 10) (by omega) h⟩
theorem rnd_bd (x : Int) (p : Nat) (h1 : -1000000000000000 ≤ x) (h2 : x ≤ 1000000000000000) (hp : p ≤ 1000000) : -2000000000000000 ≤ rnd x p ∧ rnd x p ≤ 2000000000000000 := by
  unfold rnd
  have h3 : p / 2 ≤ 500000 := by omega
  generalize p / 2 = q at *
  split <;>
  · rename_i h
    have h := Int.natAbs_tdiv_le_natAbs (if x < 0 then x - (q : Int) else x + (q : Int)) (p : Int)
    simp only [*, if_true, if_false] at h
    omega
set_option maxHeartbeats 2000000 in
theorem round_c (n s k : Int) (w : World) (env : Env w) :
    Calls Tryd.prog 18 #[.agg #[.int .i64 n, .int .i64 s], .int .i64 k] w fun e w' => e = .returned (.tuple #[.agg #[.int .i64 (roundD n s k).n, .int .i64 (roundD n s k).s], .bool (roundD n s k).ok]) ∧ Kb (fun _ => False) w w' := by
  obtain ⟨x, hx⟩ : ∃ x, knN n s = x := ⟨_, rfl⟩
  obtain ⟨c, hc⟩ : ∃ c, knS n s = c := ⟨_, rfl⟩
  have hb := kn_bd n s
  rw [hx, hc] at hb
  obtain ⟨hb1, hb2, hb3⟩ := hb
  have HK := hid (fun w => known_c n s w)
  rw [hx, hc] at HK
  unfold roundD
  rw [hx, hc]
  clear hx hc
  by_cases hk : 0 ≤ k ∧ k ≤ 6
  · rw [if_pos hk]
    obtain ⟨hk1, hk2⟩ := hk
    obtain ⟨k, rfl⟩ : ∃ j : Nat, k = j := ⟨k.toNat, by omega⟩
    have hg : 0 < w.heap.size := World.block_lt_of_cell? w _ (env.pow 0 (by omega))
    by_cases hle : (c : Int) ≤ (k : Int)
    · rw [if_pos hle]
      have c1 : decide (c ≤ k) = true := decide_eq_true (by omega)
      have EN := hid env
      clear env
      go_enter Tryd.func18, Tryd.ntmps18
      go_wp2_with fail
      refine (HK.out _).mono ?_
      rintro e w1 ⟨rfl, k1⟩
      obtain ⟨C, m, rfl⟩ := grew_of k1
      clear k1
      go_wp2_with fail
      exact bodyPost_ret (v := .tuple #[.agg #[.int .i64 x, .int .i64 (c : Nat)], .bool true]) (by simp [results, Tryd.results18, go_sem]) rfl ⟨rfl, by repeat (first | exact Kb.refl _ _ | apply Kb.drew | apply Kb.grew | apply Kb.alloc)⟩
    · rw [if_neg hle]
      have c1 : decide (c ≤ k) = false := decide_eq_false (by omega)
      obtain ⟨j, rfl⟩ : ∃ j, c = k + j := ⟨c - k, by omega⟩
      have hp := env.pow j (by omega)
      rw [show k + j - ((k : Nat) : Int).toNat = j by simp]
      have hpb := pow_bd j (by omega)
      have hrb := rnd_bd x (10 ^ j) hb1 hb2 hpb.2
      unfold rnd at hrb ⊢
      obtain ⟨p, hpp⟩ : ∃ p, 10 ^ j = p := ⟨_, rfl⟩
      rw [hpp] at hp hpb hrb ⊢
      obtain ⟨hp1, hp2⟩ := hpb
      have EN := hid env
      clear env hpp
      have e1 : ((k + j : Nat) : Int) - (k : Int) = (j : Int) := by omega
      have e2 : (((k + j : Nat) : Int) - (k : Int)).toNat = j := by omega
      have E1 := hid e1
      clear e1 e2
      have hj0 : (0 : Int) ≤ (j : Int) := by omega
      have hj1 : (j : Int) < 19 := by omega
      have hpz : ((p : Int) == 0) = false := by rw [beq_eq_false_iff_ne]; omega
      have hpn : ((p : Int) == -1) = false := by rw [beq_eq_false_iff_ne]; omega
      obtain ⟨q, hq⟩ : ∃ q, p / 2 = q := ⟨_, rfl⟩
      have hqi : (p : Int) / 2 = (q : Int) := by omega
      have hq1 : q ≤ 500000 := by omega
      rw [hq] at hrb ⊢
      have HQ := hid hq
      have HQI := hid hqi
      clear hq hqi
      have hg0 : 0 ≤ w.heap.size := by omega
      have r1 : decide ((0 : Int) ≤ (j : Int)) = true := decide_eq_true hj0
      have r2 : decide ((j : Int) < 19) = true := decide_eq_true hj1
      by_cases hx : x < 0
      · rw [if_pos hx] at hrb ⊢
        obtain ⟨z, hz⟩ : ∃ z, (x - (q : Int)).tdiv (p : Int) = z := ⟨_, rfl⟩
        rw [hz] at hrb ⊢
        obtain ⟨hr1, hr2⟩ := hrb
        have hz2 : (x + -(q : Int)).tdiv (p : Int) = z := by rw [← hz]; rfl
        have HZ := hid hz2
        clear hz hz2
        have c2 : decide (x < 0) = true := decide_eq_true hx
        have c3 := fun w => make_c z (k : Int) w (by omega) (by omega)
        have C3 := hid c3
        have a1 : IntKind.i64.wrap (-(q : Int)) = -(q : Int) := IntWalk.i64_in _ (by omega)
        have a2 : IntKind.i64.wrap (x + -(q : Int)) = x + -(q : Int) := IntWalk.i64_in _ (by omega)
        have a3 : IntKind.i64.wrap z = z := IntWalk.i64_in _ (by omega)
        clear c3
        go_enter Tryd.func18, Tryd.ntmps18
        go_wp2_with fail
        refine (HK.out _).mono ?_
        rintro e w1 ⟨rfl, k1⟩
        obtain ⟨C, m, rfl⟩ := grew_of k1
        clear k1
        have e1 := E1.out
        go_wp2_with fail
        rw [show (x + -((p : Int) / 2)).tdiv (p : Int) = z by rw [HQI.out]; exact HZ.out]
        refine (C3.out _).mono ?_
        rintro e w1 ⟨rfl, k1⟩
        obtain ⟨C, m, rfl⟩ := grew_of k1
        clear k1
        go_wp2_with fail
        exact bodyPost_ret (v := .tuple #[.agg #[.int .i64 (makeD z k).n, .int .i64 (makeD z k).s], .bool (makeD z k).ok]) (by simp [results, Tryd.results18, go_sem]) rfl ⟨rfl, by repeat (first | exact Kb.refl _ _ | apply Kb.drew | apply Kb.grew | apply Kb.alloc)⟩
      · rw [if_neg hx] at hrb ⊢
        obtain ⟨z, hz⟩ : ∃ z, (x + (q : Int)).tdiv (p : Int) = z := ⟨_, rfl⟩
        rw [hz] at hrb ⊢
        obtain ⟨hr1, hr2⟩ := hrb
        have HZ := hid hz
        have c2 : decide (x < 0) = false := decide_eq_false hx
        have c3 := fun w => make_c z (k : Int) w (by omega) (by omega)
        have C3 := hid c3
        have a2 : IntKind.i64.wrap (x + (q : Int)) = x + (q : Int) := IntWalk.i64_in _ (by omega)
        have a3 : IntKind.i64.wrap z = z := IntWalk.i64_in _ (by omega)
        clear c3 hz
        go_enter Tryd.func18, Tryd.ntmps18
        go_wp2_with fail
        refine (HK.out _).mono ?_
        rintro e w1 ⟨rfl, k1⟩
        obtain ⟨C, m, rfl⟩ := grew_of k1
        clear k1
        have e1 := E1.out
        go_wp2_with fail
        rw [show (x + ((p : Int) / 2)) / (p : Int) = z by rw [HQI.out, ← HZ.out, Int.tdiv_eq_ediv_of_nonneg (by omega)]]
        refine (C3.out _).mono ?_
        rintro e w1 ⟨rfl, k1⟩
        obtain ⟨C, m, rfl⟩ := grew_of k1
        clear k1
        go_wp2_with fail
        exact bodyPost_ret (v := .tuple #[.agg #[.int .i64 (makeD z k).n, .int .i64 (makeD z k).s], .bool (makeD z k).ok]) (by simp [results, Tryd.results18, go_sem]) rfl ⟨rfl, by repeat (first | exact Kb.refl _ _ | apply Kb.drew | apply Kb.grew | apply Kb.alloc)⟩
  · rw [if_neg hk]
    have c1 : k < 0 ∨ (¬ k < 0 ∧ 6 < k) := by omega
    rcases c1 with c1 | ⟨c1, c2⟩
    all_goals
      go_enter Tryd.func18, Tryd.ntmps18
      go_wp2_with fail
      exact bodyPost_ret (v := .tuple #[.agg #[.int .i64 0, .int .i64 0], .bool false]) (by simp [results, Tryd.results18, go_sem]) rfl ⟨rfl, by repeat (first | exact Kb.refl _ _ | apply Kb.drew | apply Kb.grew | apply Kb.alloc)⟩
end Go.Proofs.YtkhjgfbiemllmaaDoor
