/- Decimal: units and Cmp in plain numbers. -/
import Derived.Test.YtkhjgfbiemllmaaDoorLi
import Derived.Test.YtkhjgfbiemllmaaDoorMb
import Derived.Deep.RegionHeld3
import Derived.Deep.DrawnRows
namespace Go.Proofs.YtkhjgfbiemllmaaDoor
open Go.RowKit

def uHi (z : Int) : Nat := z.natAbs / 18446744073709551616
def uLo (z : Int) : Nat := z.natAbs % 18446744073709551616
theorem unitZ_kn (n s : Int) : unitZ n s = knN n s * ((10 ^ (6 - knS n s) : Nat) : Int) := by
  unfold unitZ knN knS
  cases h : rightB n s
  · simp
  · simp
theorem unitZ_bd (n s : Int) : (unitZ n s).natAbs ≤ 1000000000000000000000 := by
  rw [unitZ_kn, Int.natAbs_mul]
  have h := kn_bd n s
  have h2 : (10 ^ (6 - knS n s) : Nat) ≤ 1000000 := (pow_bd _ (by omega)).2
  have h3 : (knN n s).natAbs * ((10 ^ (6 - knS n s) : Nat) : Int).natAbs ≤ 1000000000000000 * 1000000 := Nat.mul_le_mul (by omega) (by rw [Int.natAbs_natCast]; exact h2)
  omega
theorem uHi_lt (n s : Int) : uHi (unitZ n s) < 55 := by
  have := unitZ_bd n s
  unfold uHi
  omega
theorem uLo_lt (z : Int) : uLo z < 18446744073709551616 := Nat.mod_lt _ (by decide)
theorem units_c (n s : Int) (w : World) (env : Env w) :
    Calls Tryd.prog 28 #[.agg #[.int .i64 n, .int .i64 s]] w fun e w' => e = .returned (.agg #[.bool (decide (unitZ n s < 0)), .int .u64 (uHi (unitZ n s) : Nat), .int .u64 (uLo (unitZ n s) : Nat)]) ∧ Kb (fun _ => False) w w' := by
  have h := units_any n s w env
  have e : unitsV n s = .agg #[.bool (decide (unitZ n s < 0)), .int .u64 (uHi (unitZ n s) : Nat), .int .u64 (uLo (unitZ n s) : Nat)] := by
    unfold unitsV uHi uLo
    unfold unitZ
    cases hr : rightB n s
    · simp
      rfl
    · have hp : 0 < ((10 ^ (6 - s.toNat) : Nat) : Int) := by have := (pow_bd (6 - s.toNat) (by omega)).1; omega
      have hn : (n * ((10 ^ (6 - s.toNat) : Nat) : Int)).natAbs = n.natAbs * 10 ^ (6 - s.toNat) := by rw [Int.natAbs_mul, Int.natAbs_natCast]
      have hd : decide (n * ((10 ^ (6 - s.toNat) : Nat) : Int) < 0) = decide (n < 0) := by
        apply decide_eq_decide.2
        constructor
        · intro h
          rcases Int.lt_or_le n 0 with h1 | h1
          · exact h1
          · have := Int.mul_nonneg h1 (Int.le_of_lt hp)
            omega
        · intro h
          exact Int.mul_neg_of_neg_of_pos h hp
      rw [if_pos rfl, if_pos rfl, hn, hd]
      rfl
  rw [← e]
  exact h
def cmpZ (a b : Int) : Int := if a < b then -1 else if b < a then 1 else 0
theorem ord_is (z1 z2 : Int) : (if cmp3 (uHi z1) (uHi z2) = 0 then cmp3 (uLo z1) (uLo z2) else cmp3 (uHi z1) (uHi z2)) = cmpZ (z1.natAbs : Nat) (z2.natAbs : Nat) := by
  have h1 := Nat.div_add_mod' z1.natAbs 18446744073709551616
  have h2 := Nat.div_add_mod' z2.natAbs 18446744073709551616
  have l1 := uLo_lt z1
  have l2 := uLo_lt z2
  unfold uHi uLo at *
  generalize 18446744073709551616 = M at *
  generalize z1.natAbs / M = a at *
  generalize z1.natAbs % M = b at *
  generalize z2.natAbs / M = c at *
  generalize z2.natAbs % M = d at *
  rw [← h1, ← h2]
  clear h1 h2
  rcases Nat.lt_trichotomy a c with h | h | h
  · have hx : (a + 1) * M ≤ c * M := Nat.mul_le_mul_right _ h
    rw [Nat.add_mul, Nat.one_mul] at hx
    have e1 : cmp3 a c = -1 := by unfold cmp3; rw [if_pos h]
    rw [e1, if_neg (by omega)]
    unfold cmpZ
    rw [if_pos (by omega)]
  · subst h
    have e1 : cmp3 a a = 0 := by unfold cmp3; rw [if_neg (by omega), if_neg (by omega)]
    rw [e1, if_pos rfl]
    unfold cmp3 cmpZ
    generalize a * M = x
    by_cases q1 : b < d
    · rw [if_pos q1, if_pos (by omega)]
    · rw [if_neg q1]
      by_cases q2 : d < b
      · rw [if_pos q2, if_neg (by omega), if_pos (by omega)]
      · rw [if_neg q2, if_neg (by omega), if_neg (by omega)]
  · have hx : (c + 1) * M ≤ a * M := Nat.mul_le_mul_right _ h
    rw [Nat.add_mul, Nat.one_mul] at hx
    have e1 : cmp3 a c = 1 := by unfold cmp3; rw [if_neg (by omega), if_pos h]
    rw [e1, if_neg (by omega)]
    unfold cmpZ
    rw [if_neg (by omega), if_pos (by omega)]
theorem cmpZ_bd (a b : Int) : -1 ≤ cmpZ a b ∧ cmpZ a b ≤ 1 := by
  unfold cmpZ
  split
  · omega
  · split <;> omega
theorem zero_hl (z : Int) : z = 0 ↔ uHi z = 0 ∧ uLo z = 0 := by
  have h := Nat.div_add_mod' z.natAbs 18446744073709551616
  unfold uHi uLo
  constructor
  · rintro rfl; exact ⟨rfl, rfl⟩
  · rintro ⟨h1, h2⟩
    rw [h1, h2, Nat.zero_mul] at h
    exact Int.natAbs_eq_zero.1 h.symm
theorem beq0 (n : Nat) (h : n = 0) : ((n : Int) == 0) = true := by rw [h]; rfl
theorem bne0 (n : Nat) (h : n ≠ 0) : ((n : Int) == 0) = false := by rw [beq_eq_false_iff_ne]; omega
theorem zero_cases (z1 z2 : Int) : ((z1 ≠ 0 ∨ z2 ≠ 0) ∧ (((uHi z1 : Nat) : Int) == 0) = false) ∨ ((z1 ≠ 0 ∨ z2 ≠ 0) ∧ (((uHi z1 : Nat) : Int) == 0) = true ∧ (((uLo z1 : Nat) : Int) == 0) = false) ∨
    ((z1 ≠ 0 ∨ z2 ≠ 0) ∧ (((uHi z1 : Nat) : Int) == 0) = true ∧ (((uLo z1 : Nat) : Int) == 0) = true ∧ (((uHi z2 : Nat) : Int) == 0) = false) ∨
    ((z1 ≠ 0 ∨ z2 ≠ 0) ∧ (((uHi z1 : Nat) : Int) == 0) = true ∧ (((uLo z1 : Nat) : Int) == 0) = true ∧ (((uHi z2 : Nat) : Int) == 0) = true ∧ (((uLo z2 : Nat) : Int) == 0) = false) ∨
    ((z1 = 0 ∧ z2 = 0) ∧ (((uHi z1 : Nat) : Int) == 0) = true ∧ (((uLo z1 : Nat) : Int) == 0) = true ∧ (((uHi z2 : Nat) : Int) == 0) = true ∧ (((uLo z2 : Nat) : Int) == 0) = true) := by
  have e1 := zero_hl z1
  have e2 := zero_hl z2
  by_cases h1 : uHi z1 = 0
  · by_cases h2 : uLo z1 = 0
    · by_cases h3 : uHi z2 = 0
      · by_cases h4 : uLo z2 = 0
        · exact Or.inr (Or.inr (Or.inr (Or.inr ⟨⟨e1.2 ⟨h1, h2⟩, e2.2 ⟨h3, h4⟩⟩, beq0 _ h1, beq0 _ h2, beq0 _ h3, beq0 _ h4⟩)))
        · exact Or.inr (Or.inr (Or.inr (Or.inl ⟨Or.inr (fun h => h4 (e2.1 h).2), beq0 _ h1, beq0 _ h2, beq0 _ h3, bne0 _ h4⟩)))
      · exact Or.inr (Or.inr (Or.inl ⟨Or.inr (fun h => h3 (e2.1 h).1), beq0 _ h1, beq0 _ h2, bne0 _ h3⟩))
    · exact Or.inr (Or.inl ⟨Or.inl (fun h => h2 (e1.1 h).2), beq0 _ h1, bne0 _ h2⟩)
  · exact Or.inl ⟨Or.inl (fun h => h1 (e1.1 h).1), bne0 _ h1⟩
attribute [local go_sem ↓] Go.wp_at_zero Go.wp_at_succ
set_option maxHeartbeats 4000000 in
set_option maxRecDepth 100000 in
theorem cmp_c (n1 s1 n2 s2 : Int) (w : World) (env : Env w) :
    Calls Tryd.prog 16 #[.agg #[.int .i64 n1, .int .i64 s1], .agg #[.int .i64 n2, .int .i64 s2]] w fun e w' => e = .returned (.int .i64 (cmpZ (unitZ n1 s1) (unitZ n2 s2))) ∧ Kb (fun _ => False) w w' := by
  have EN := hid env
  clear env
  go_enter Tryd.func16, Tryd.ntmps16
  go_wp2_with fail
  go_cut [5, 6] (fun v5 v6 wx => ∃ b5 b6 : Nat, v5 = .pointer (some ⟨b5, 0, none⟩) ∧ v6 = .pointer (some ⟨b6, 0, none⟩) ∧ wx.cell? ⟨b5, 0, none⟩ = some (.bool (decide (unitZ n1 s1 < 0))) ∧ wx.cell? ⟨b5, 1, none⟩ = some (.int .u64 (uHi (unitZ n1 s1) : Nat)) ∧ wx.cell? ⟨b5, 2, none⟩ = some (.int .u64 (uLo (unitZ n1 s1) : Nat)) ∧ wx.cell? ⟨b6, 0, none⟩ = some (.bool (decide (unitZ n2 s2 < 0))) ∧ wx.cell? ⟨b6, 1, none⟩ = some (.int .u64 (uHi (unitZ n2 s2) : Nat)) ∧ wx.cell? ⟨b6, 2, none⟩ = some (.int .u64 (uLo (unitZ n2 s2) : Nat)) ∧ Hid (Kb (fun _ => False) w wx))
  case first =>
    go_region_held3 (fun w' => w'.cell? ⟨w.heap.size, 0, none⟩ = some (.int .i64 n1) ∧ w'.cell? ⟨w.heap.size, 1, none⟩ = some (.int .i64 s1) ∧ w'.cell? ⟨w.heap.size + 1, 0, none⟩ = some (.int .i64 n2) ∧ w'.cell? ⟨w.heap.size + 1, 1, none⟩ = some (.int .i64 s2)) (first | go_keep | (simp [go_sem]; done)) (first
      | (go_at_call 28; refine (units_c _ _ _ (EN.out.kb (by repeat (with_reducible first | exact Kb.refl _ _ | exact KW.out | refine Kb.setC ?_ (by assumption) | apply Kb.drew | apply Kb.drewN | apply Kb.grew | apply Kb.alloc)))).mono ?_; rintro e w1 ⟨rfl, k1⟩; obtain ⟨C, m, rfl⟩ := grew_of k1; clear k1))
    all_goals
      go_wp2_with fail
      go_meet
      exact ⟨_, _, rfl, rfl, by simp [go_sem], by simp [go_sem], by simp [go_sem], by simp [go_sem], by simp [go_sem], by simp [go_sem], hid (by repeat (with_reducible first | exact Kb.refl _ _ | exact KW.out | refine Kb.setC ?_ (by assumption) | apply Kb.drew | apply Kb.drewN | apply Kb.grew | apply Kb.alloc))⟩
  case rest =>
    obtain ⟨b5, b6, rfl, rfl, a0, a1, a2, d0, d1, d2, hK⟩ := hcut
    have L1 := hid (uLo_lt (unitZ n1 s1))
    have L2 := hid (uLo_lt (unitZ n2 s2))
    have H1 := hid (uHi_lt n1 s1)
    have H2 := hid (uHi_lt n2 s2)
    have HO := hid (ord_is (unitZ n1 s1) (unitZ n2 s2))
    clear EN
    have bl5 := World.block_lt_of_cell? _ _ a0
    have bl6 := World.block_lt_of_cell? _ _ d0
    go_wp2_with fail
    go_region_held3 (fun w' => w'.cell? ⟨b5, 1, none⟩ = some (.int .u64 (uHi (unitZ n1 s1) : Nat)) ∧ w'.cell? ⟨b5, 2, none⟩ = some (.int .u64 (uLo (unitZ n1 s1) : Nat)) ∧ w'.cell? ⟨b6, 1, none⟩ = some (.int .u64 (uHi (unitZ n2 s2) : Nat)) ∧ w'.cell? ⟨b6, 2, none⟩ = some (.int .u64 (uLo (unitZ n2 s2) : Nat))) (first | go_keep | (simp [go_sem, *]; done)) (first
      | (go_at_call 30; refine (compare_any _ _ _ (by first | exact Nat.lt_trans H1.out (by decide) | exact L1.out) (by first | exact Nat.lt_trans H2.out (by decide) | exact L2.out)).mono ?_; rintro e w' ⟨rfl, rfl⟩)
      | (go_at_call 29; refine (or_is _ (cmp3 (uHi (unitZ n1 s1)) (uHi (unitZ n2 s2))) (cmp3 (uLo (unitZ n1 s1)) (uLo (unitZ n2 s2))) (cmpZ ((unitZ n1 s1).natAbs : Nat) ((unitZ n2 s2).natAbs : Nat)) _ (by simp [go_sem]) (by simp [go_sem]) HO.out).mono ?_; rintro e w' ⟨rfl, rfl⟩))
    have cz := cmpZ_bd ((unitZ n1 s1).natAbs : Nat) ((unitZ n2 s2).natAbs : Nat)
    obtain ⟨cz1, cz2⟩ := cz
    clear HO L1 L2 H1 H2
    have hzz := zero_cases (unitZ n1 s1) (unitZ n2 s2)
    by_cases p1 : (unitZ n1 s1) < 0
    all_goals by_cases p2 : (unitZ n2 s2) < 0
    all_goals rcases hzz with ⟨hz, q1⟩ | ⟨hz, q1, q2⟩ | ⟨hz, q1, q2, q3⟩ | ⟨hz, q1, q2, q3, q4⟩ | ⟨hz, q1, q2, q3, q4⟩
    all_goals first | (exfalso; omega) | skip
    all_goals
      have HZ := hid hz
      clear hz
      have P1 := hid p1
      have P2 := hid p2
      first | (have s1 : decide ((unitZ n1 s1) < 0) = true := decide_eq_true p1; clear p1) | (have s1 : decide ((unitZ n1 s1) < 0) = false := decide_eq_false p1; clear p1)
      first | (have s2 : decide ((unitZ n2 s2) < 0) = true := decide_eq_true p2; clear p2) | (have s2 : decide ((unitZ n2 s2) < 0) = false := decide_eq_false p2; clear p2)
      go_wp2_with fail
      go_ret
      refine ⟨congrArg (fun x => Ending.returned (.int .i64 x)) ?_, (by repeat (first | exact hK.out | apply Kb.drew | apply Kb.alloc))⟩
      have p1 := P1.out
      have p2 := P2.out
      have hz := HZ.out
      clear HZ P1 P2
      unfold cmpZ
      repeat' split
      all_goals omega
end Go.Proofs.YtkhjgfbiemllmaaDoor
