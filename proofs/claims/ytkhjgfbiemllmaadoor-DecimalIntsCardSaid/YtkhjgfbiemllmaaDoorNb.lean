/- The walk of DecimalInts. -/
import Derived.Test.YtkhjgfbiemllmaaDoorMk
namespace Go.Proofs.YtkhjgfbiemllmaaDoor
set_option linter.unusedSimpArgs false
set_option linter.unusedVariables false
open Go.RowKit

theorem cmp_int (m n : Int) (h1 : m.natAbs ≤ 10000000) (h2 : n.natAbs ≤ 10000000) : cmpZ (unitZ m 0) (unitZ n 0) = cmpZ m n := by
  rw [unit_int m (by omega), unit_int n (by omega)]
  unfold cmpZ
  by_cases h : m < n
  · rw [if_pos h, if_pos (by omega)]
  · rw [if_neg h, if_neg (by omega)]
    by_cases h' : n < m
    · rw [if_pos h', if_pos (by omega)]
    · rw [if_neg h', if_neg (by omega)]
theorem textS_size (n s : Int) : (textS n s).size ≤ 1000000 := by
  have hb := kn_bd n s
  unfold textS textL magL padL
  rw [strL_size]
  have hl := decDigits_len (knN n s).natAbs 15 (Nat.lt_of_le_of_lt (show (knN n s).natAbs ≤ 1000000000000000 by omega) (by decide))
  have h2 : (if knN n s < 0 then [45] else [] : List UInt8).length ≤ 1 := by split <;> simp
  rw [List.length_append]
  by_cases h0 : knS n s = 0
  · rw [if_pos h0]; omega
  · rw [if_neg h0]
    simp only [List.length_append, List.length_take, List.length_drop, List.length_replicate, List.length_singleton]
    omega
set_option maxHeartbeats 8000000 in
set_option maxRecDepth 100000 in
theorem ints_core (m n M N r : Int) (b : Bool) (w : World) (env : Env w) (hM : m.tmod 10000000 = M) (hN : n.tmod 10000000 = N) (hr : cmpZ M N = r) (hb : decide (M < N) = b) (hrb : decide (r < 0) = b) :
    Calls Tryd.prog 5 #[.int .i64 m, .int .i64 n] w fun e w' => e = .returned (.bool true) ∧ Kb (fun _ => False) w w' := by
  have bM := tmod_bd m 10000000 (by omega)
  have bN := tmod_bd n 10000000 (by omega)
  rw [hM] at bM
  rw [hN] at bN
  obtain ⟨bM1, bM2⟩ := bM
  obtain ⟨bN1, bN2⟩ := bN
  have hP : (M * N).natAbs ≤ 10000000 * 10000000 := by rw [Int.natAbs_mul]; exact Nat.mul_le_mul (by omega) (by omega)
  obtain ⟨P, hPP⟩ : ∃ P, M * N = P := ⟨_, rfl⟩
  have vm := mulD_int M N (by omega) (by omega)
  have vs := addD_int M N (by omega) (by omega)
  obtain ⟨S, hS⟩ : ∃ S, M + N = S := ⟨_, rfl⟩
  have H1 := hid (fun w => of_is M M 0 true (makeD_int M (by omega)) w (by omega) (by omega))
  have H2 := hid (fun w => of_is N N 0 true (makeD_int N (by omega)) w (by omega) (by omega))
  rw [hPP] at vm hP
  rw [hS] at vs
  have H3 := hid (fun w env => add_is M 0 N 0 S 0 true vs w env)
  have H4 := hid (fun w => mul_is M 0 N 0 P 0 true vm w)
  have H5 := hid (fun w env => text_c P 0 w env)
  have H6 := hid (fun w env => parse_is (textS P 0) P 0 true (parse_text (right_int P (by omega))) w env (textS_size _ _))
  have H7 := hid (fun w env => cmp_is M 0 N 0 r (by rw [cmp_int M N (by omega) (by omega)]; exact hr) w env)
  have e1 : IntKind.i64.wrap (M + N) = S := by rw [hS]; exact IntWalk.i64_in _ (by omega)
  have e2 : IntKind.i64.wrap (M * N) = P := by rw [hPP]; exact IntWalk.i64_in _ (by omega)
  have HMN := hid (And.intro hM (And.intro hN (And.intro hr (And.intro hb (And.intro hrb (And.intro hS hPP))))))
  have EN := hid env
  generalize textS P 0 = T at *
  have hsr : -1 ≤ r ∧ r ≤ 1 := by rw [← hr]; exact cmpZ_bd _ _
  clear env hr hS hPP vm vs
  cases b
  all_goals
    go_enter Tryd.func5, Tryd.ntmps5
    go_wp2_with fail
    refine (sanity_c _ (EN.out.kb (by repeat (with_reducible first | exact Kb.refl _ _ | exact KW.out | refine Kb.setC ?_ (by assumption) | apply Kb.drew | apply Kb.drewN | apply Kb.grew | apply Kb.alloc)))).mono ?_; rintro e w1 ⟨rfl, k1⟩; obtain ⟨C1, m, rfl⟩ := grew_of k1; clear k1
    go_wp2_with fail
    refine (H1.out _).mono ?_; rintro e w1 ⟨rfl, k1⟩; obtain ⟨C2, m, rfl⟩ := grew_of k1; clear k1
    go_wp2_with fail
    refine (H2.out _).mono ?_; rintro e w1 ⟨rfl, k1⟩; obtain ⟨C3, m, rfl⟩ := grew_of k1; clear k1
    go_wp2_with fail
    refine (H3.out _ (EN.out.kb (by repeat (with_reducible first | exact Kb.refl _ _ | exact KW.out | refine Kb.setC ?_ (by assumption) | apply Kb.drew | apply Kb.drewN | apply Kb.grew | apply Kb.alloc)))).mono ?_; rintro e w1 ⟨rfl, k1⟩; obtain ⟨C4, m, rfl⟩ := grew_of k1; clear k1
    go_wp2_with fail
    refine (H4.out _).mono ?_; rintro e w1 ⟨rfl, k1⟩; obtain ⟨C5, m, rfl⟩ := grew_of k1; clear k1
    go_wp2_with fail
    go_region_held3 (fun w' => w'.cell? ⟨gsz w (C1 ++ (C2 ++ (C3 ++ C4))) 2, 0, none⟩ = some (.int .i64 S) ∧ w'.cell? ⟨gsz w (C1 ++ (C2 ++ (C3 ++ C4))) 2, 1, none⟩ = some (.int .i64 0) ∧ w'.cell? ⟨gsz w (C1 ++ (C2 ++ (C3 ++ (C4 ++ C5)))) 3, 0, none⟩ = some (.int .i64 P) ∧ w'.cell? ⟨gsz w (C1 ++ (C2 ++ (C3 ++ (C4 ++ C5)))) 3, 1, none⟩ = some (.int .i64 0)) ((simp [go_sem]; done)) (first | (go_at_call 20; refine (d_c _ _ _).mono ?_; rintro e w1 ⟨rfl, k1⟩; obtain ⟨C, m, rfl⟩ := grew_of k1; clear k1))
    go_wp2_with fail
    refine (H5.out _ (EN.out.kb (by repeat (with_reducible first | exact Kb.refl _ _ | exact KW.out | refine Kb.setC ?_ (by assumption) | apply Kb.drew | apply Kb.drewN | apply Kb.grew | apply Kb.alloc)))).mono ?_; rintro e w1 ⟨rfl, k1⟩; obtain ⟨C6, m, rfl⟩ := grew_of k1; clear k1
    go_wp2_with fail
    refine (H6.out _ (EN.out.kb (by repeat (with_reducible first | exact Kb.refl _ _ | exact KW.out | refine Kb.setC ?_ (by assumption) | apply Kb.drew | apply Kb.drewN | apply Kb.grew | apply Kb.alloc)))).mono ?_; rintro e w1 ⟨rfl, k1⟩; obtain ⟨C7, m, rfl⟩ := grew_of k1; clear k1
    go_wp2_with fail
    refine (H7.out _ (EN.out.kb (by repeat (with_reducible first | exact Kb.refl _ _ | exact KW.out | refine Kb.setC ?_ (by assumption) | apply Kb.drew | apply Kb.drewN | apply Kb.grew | apply Kb.alloc)))).mono ?_; rintro e w1 ⟨rfl, k1⟩; obtain ⟨C8, m, rfl⟩ := grew_of k1; clear k1
    go_wp2_with fail
    go_ret
    exact ⟨rfl, (by repeat (with_reducible first | exact Kb.refl _ _ | exact KW.out | refine Kb.setC ?_ (by assumption) | apply Kb.drew | apply Kb.drewN | apply Kb.grew | apply Kb.alloc))⟩
theorem ints_c (m n : Int) (w : World) (env : Env w) :
    Calls Tryd.prog 5 #[.int .i64 m, .int .i64 n] w fun e w' => e = .returned (.bool true) ∧ Kb (fun _ => False) w w' := by
  have hb := cmpZ_bd (m.tmod 10000000) (n.tmod 10000000)
  refine ints_core m n _ _ (cmpZ (m.tmod 10000000) (n.tmod 10000000)) (decide (m.tmod 10000000 < n.tmod 10000000)) w env rfl rfl rfl rfl ?_
  apply decide_eq_decide.2
  unfold cmpZ
  by_cases h : m.tmod 10000000 < n.tmod 10000000
  · rw [if_pos h]; omega
  · rw [if_neg h]
    split <;> omega
end Go.Proofs.YtkhjgfbiemllmaaDoor
