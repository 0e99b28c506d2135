/- Decimal: sanity. -/
import Derived.Test.YtkhjgfbiemllmaaDoorMg
import Derived.Deep.RegionHeld3
namespace Go.Proofs.YtkhjgfbiemllmaaDoor
set_option linter.unusedSimpArgs false
set_option linter.unusedVariables false
open Go.RowKit

theorem make_is (n s x y : Int) (b : Bool) (h : makeD n s = ⟨x, y, b⟩) (w : World) (h1 : -9223372036854775808 ≤ n) (h2 : n ≤ 9223372036854775807) :
    Calls Tryd.prog 9 #[.int .i64 n, .int .i64 s] w fun e w' => e = .returned (.tuple #[.agg #[.int .i64 x, .int .i64 y], .bool b]) ∧ Kb (fun _ => False) w w' := by
  have := make_c n s w h1 h2
  rwa [h] at this
theorem of_is (n x y : Int) (b : Bool) (h : makeD n 0 = ⟨x, y, b⟩) (w : World) (h1 : -9223372036854775808 ≤ n) (h2 : n ≤ 9223372036854775807) :
    Calls Tryd.prog 12 #[.int .i64 n] w fun e w' => e = .returned (.tuple #[.agg #[.int .i64 x, .int .i64 y], .bool b]) ∧ Kb (fun _ => False) w w' := by
  have := of_c n w h1 h2
  rwa [h] at this
theorem add_is (n1 s1 n2 s2 x y : Int) (b : Bool) (h : addD n1 s1 n2 s2 = ⟨x, y, b⟩) (w : World) (env : Env w) :
    Calls Tryd.prog 17 #[.agg #[.int .i64 n1, .int .i64 s1], .agg #[.int .i64 n2, .int .i64 s2]] w fun e w' => e = .returned (.tuple #[.agg #[.int .i64 x, .int .i64 y], .bool b]) ∧ Kb (fun _ => False) w w' := by
  have := add_c n1 s1 n2 s2 w env
  rwa [h] at this
theorem mul_is (n1 s1 n2 s2 x y : Int) (b : Bool) (h : mulD n1 s1 n2 s2 = ⟨x, y, b⟩) (w : World) :
    Calls Tryd.prog 19 #[.agg #[.int .i64 n1, .int .i64 s1], .agg #[.int .i64 n2, .int .i64 s2]] w fun e w' => e = .returned (.tuple #[.agg #[.int .i64 x, .int .i64 y], .bool b]) ∧ Kb (fun _ => False) w w' := by
  have := mul_c n1 s1 n2 s2 w
  rwa [h] at this
theorem round_is (n s k x y : Int) (b : Bool) (h : roundD n s k = ⟨x, y, b⟩) (w : World) (env : Env w) :
    Calls Tryd.prog 18 #[.agg #[.int .i64 n, .int .i64 s], .int .i64 k] w fun e w' => e = .returned (.tuple #[.agg #[.int .i64 x, .int .i64 y], .bool b]) ∧ Kb (fun _ => False) w w' := by
  have := round_c n s k w env
  rwa [h] at this
theorem parse_is (s : ByteArray) (x y : Int) (b : Bool) (h : parseD s = ⟨x, y, b⟩) (w : World) (env : Env w) (hs : s.size ≤ 1000000) :
    Calls Tryd.prog 21 #[.string s] w fun e w' => e = .returned (.tuple #[.agg #[.int .i64 x, .int .i64 y], .bool b]) ∧ Kb (fun _ => False) w w' := by
  have := parse_c s w env hs
  rwa [h] at this
theorem text_is (n s : Int) (t : ByteArray) (h : textS n s = t) (w : World) (env : Env w) :
    Calls Tryd.prog 22 #[.agg #[.int .i64 n, .int .i64 s]] w fun e w' => e = .returned (.string t) ∧ Kb (fun _ => False) w w' := by
  have := text_c n s w env
  rwa [h] at this
theorem cmp_is (n1 s1 n2 s2 r : Int) (h : cmpZ (unitZ n1 s1) (unitZ n2 s2) = r) (w : World) (env : Env w) :
    Calls Tryd.prog 16 #[.agg #[.int .i64 n1, .int .i64 s1], .agg #[.int .i64 n2, .int .i64 s2]] w fun e w' => e = .returned (.int .i64 r) ∧ Kb (fun _ => False) w w' := by
  have := cmp_c n1 s1 n2 s2 w env
  rwa [h] at this
theorem gives_yes (n s : Int) (w : World) :
    Calls Tryd.prog 24 #[.agg #[.int .i64 n, .int .i64 s], .bool true, .agg #[.int .i64 n, .int .i64 s]] w fun e w' => e = .returned (.bool true) ∧ Kb (fun _ => False) w w' := by
  have := gives_c n s true n s w
  rwa [show givesB n s true n s = true by simp [givesB]] at this
theorem v1 : makeD 1500 3 = ⟨15, 1, true⟩ := by kernel_rfl
theorem v2 : makeD (-5) 1 = ⟨-5, 1, true⟩ := by kernel_rfl
theorem v3 : makeD 1 7 = ⟨0, 0, false⟩ := by kernel_rfl
theorem v4 : addD 1 1 2 1 = ⟨3, 1, true⟩ := by kernel_rfl
theorem v5 : mulD 15 1 4 1 = ⟨6, 1, true⟩ := by kernel_rfl
theorem v6 : mulD 1 3 1 4 = ⟨0, 0, false⟩ := by kernel_rfl
theorem v7 : roundD 2345 3 2 = ⟨235, 2, true⟩ := by kernel_rfl
theorem v8 : roundD (-2345) 3 2 = ⟨-235, 2, true⟩ := by kernel_rfl
theorem v9 : roundD 25 1 0 = ⟨3, 0, true⟩ := by kernel_rfl
theorem v10 : parseD ⟨#[49, 46, 53, 48]⟩ = ⟨0, 0, false⟩ := by kernel_rfl
theorem v11 : parseD ⟨#[45, 48]⟩ = ⟨0, 0, false⟩ := by kernel_rfl
theorem v12 : makeD 1000000000000001 0 = ⟨0, 0, false⟩ := by kernel_rfl
theorem v13 : textS (-5) 2 = ⟨#[45, 48, 46, 48, 53]⟩ := by kernel_rfl
theorem v14 : cmpZ (unitZ 1 1) (unitZ 2 2) = 1 := by kernel_rfl
attribute [local go_sem ↓] Go.wp_at_zero Go.wp_at_succ
set_option maxHeartbeats 8000000 in
set_option maxRecDepth 100000 in
theorem sanity_c (w : World) (env : Env w) :
    Calls Tryd.prog 7 #[] w fun e w' => e = .returned (.bool true) ∧ Kb (fun _ => False) w w' := by
  have EN := hid env
  clear env
  go_enter Tryd.func7, Tryd.ntmps7
  go_wp2_with fail
  refine (make_is _ _ _ _ _ v1 _ (by decide) (by decide)).mono ?_; rintro e w1 ⟨rfl, k1⟩; obtain ⟨C1, m, rfl⟩ := grew_of k1; clear k1
  go_wp2_with fail
  refine (make_is _ _ _ _ _ v2 _ (by decide) (by decide)).mono ?_; rintro e w1 ⟨rfl, k1⟩; obtain ⟨C2, m, rfl⟩ := grew_of k1; clear k1
  go_wp2_with fail
  refine (make_is _ _ _ _ _ v3 _ (by decide) (by decide)).mono ?_; rintro e w1 ⟨rfl, k1⟩; obtain ⟨C3, m, rfl⟩ := grew_of k1; clear k1
  go_wp2_with fail
  go_region_held3 (fun w' => w'.cell? ⟨gsz w C1 0, 0, none⟩ = some (.int .i64 (15)) ∧ w'.cell? ⟨gsz w C1 0, 1, none⟩ = some (.int .i64 1) ∧ w'.cell? ⟨gsz w (C1 ++ C2) 1, 0, none⟩ = some (.int .i64 (-5)) ∧ w'.cell? ⟨gsz w (C1 ++ C2) 1, 1, none⟩ = some (.int .i64 1)) ((simp [go_sem]; done)) (first
    | (go_at_call 20; refine (d_c _ _ _).mono ?_; rintro e w1 ⟨rfl, k1⟩; obtain ⟨C, m, rfl⟩ := grew_of k1; clear k1)
    | (go_at_call 24; refine (gives_yes _ _ _).mono ?_; rintro e w1 ⟨rfl, k1⟩; obtain ⟨C, m, rfl⟩ := grew_of k1; clear k1)
    | (go_at_call 22; refine (text_is _ _ _ v13 _ (EN.out.kb (by repeat (with_reducible first | exact Kb.refl _ _ | exact KW.out | refine Kb.setC ?_ (by assumption) | apply Kb.drew | apply Kb.drewN | apply Kb.grew | apply Kb.alloc)))).mono ?_; rintro e w1 ⟨rfl, k1⟩; obtain ⟨C, m, rfl⟩ := grew_of k1; clear k1)
    | (go_at_call 16; refine (cmp_is _ _ _ _ _ v14 _ (EN.out.kb (by repeat (with_reducible first | exact Kb.refl _ _ | exact KW.out | refine Kb.setC ?_ (by assumption) | apply Kb.drew | apply Kb.drewN | apply Kb.grew | apply Kb.alloc)))).mono ?_; rintro e w1 ⟨rfl, k1⟩; obtain ⟨C, m, rfl⟩ := grew_of k1; clear k1))
  go_upto_region 6 with fail
  have g1 : w.heap.size ≤ gsz w C1 0 := by unfold gsz; omega
  have g3 : w.heap.size ≤ gsz w (C1 ++ C2) 1 := by unfold gsz; omega
  have g4 : gsz w C1 0 ≠ gsz w (C1 ++ C2) 1 := by unfold gsz; simp; omega
  generalize hW : grew _ _ _ = W
  have KW := hid (show Kb (fun _ => False) w W by subst hW; exact (by repeat (with_reducible first | exact Kb.refl _ _ | exact KW.out | refine Kb.setC ?_ (by assumption) | apply Kb.drew | apply Kb.drewN | apply Kb.grew | apply Kb.alloc)))
  have p0 : W.cell? ⟨gsz w C1 0, 0, none⟩ = some (.int .i64 (15)) := by subst hW; simp [go_sem]
  have p1 : W.frozen? ⟨gsz w C1 0, 0, none⟩ = false := by subst hW; simp [go_sem]
  have p2 : W.cell? ⟨gsz w C1 0, 1, none⟩ = some (.int .i64 (1)) := by subst hW; simp [go_sem]
  have p3 : W.frozen? ⟨gsz w C1 0, 1, none⟩ = false := by subst hW; simp [go_sem]
  have p4 : gsz w C1 0 < W.heap.size := by subst hW; simp [go_sem]
  have p5 : W.cell? ⟨gsz w (C1 ++ C2) 1, 0, none⟩ = some (.int .i64 (-5)) := by subst hW; simp [go_sem]
  have p6 : W.frozen? ⟨gsz w (C1 ++ C2) 1, 0, none⟩ = false := by subst hW; simp [go_sem]
  have p7 : W.cell? ⟨gsz w (C1 ++ C2) 1, 1, none⟩ = some (.int .i64 (1)) := by subst hW; simp [go_sem]
  have p8 : W.frozen? ⟨gsz w (C1 ++ C2) 1, 1, none⟩ = false := by subst hW; simp [go_sem]
  have p9 : gsz w (C1 ++ C2) 1 < W.heap.size := by subst hW; simp [go_sem]
  clear hW
  generalize gsz w C1 0 = b1 at *
  generalize gsz w (C1 ++ C2) 1 = b3 at *
  go_wp2_with fail
  refine (d_c _ _ _).mono ?_; rintro e w1 ⟨rfl, k1⟩; obtain ⟨C4, m, rfl⟩ := grew_of k1; clear k1
  go_wp2_with fail
  refine (d_c _ _ _).mono ?_; rintro e w1 ⟨rfl, k1⟩; obtain ⟨C5, m, rfl⟩ := grew_of k1; clear k1
  go_wp2_with fail
  refine (add_is _ _ _ _ _ _ _ v4 _ (EN.out.kb (by repeat (with_reducible first | exact Kb.refl _ _ | exact KW.out | refine Kb.setC ?_ (by assumption) | apply Kb.drew | apply Kb.drewN | apply Kb.grew | apply Kb.alloc)))).mono ?_; rintro e w1 ⟨rfl, k1⟩; obtain ⟨C6, m, rfl⟩ := grew_of k1; clear k1
  go_wp2_with fail
  refine (d_c _ _ _).mono ?_; rintro e w1 ⟨rfl, k1⟩; obtain ⟨C7, m, rfl⟩ := grew_of k1; clear k1
  go_wp2_with fail
  refine (d_c _ _ _).mono ?_; rintro e w1 ⟨rfl, k1⟩; obtain ⟨C8, m, rfl⟩ := grew_of k1; clear k1
  go_wp2_with fail
  refine (mul_is _ _ _ _ _ _ _ v5 _).mono ?_; rintro e w1 ⟨rfl, k1⟩; obtain ⟨C9, m, rfl⟩ := grew_of k1; clear k1
  go_wp2_with fail
  refine (d_c _ _ _).mono ?_; rintro e w1 ⟨rfl, k1⟩; obtain ⟨C10, m, rfl⟩ := grew_of k1; clear k1
  go_wp2_with fail
  refine (d_c _ _ _).mono ?_; rintro e w1 ⟨rfl, k1⟩; obtain ⟨C11, m, rfl⟩ := grew_of k1; clear k1
  go_wp2_with fail
  refine (mul_is _ _ _ _ _ _ _ v6 _).mono ?_; rintro e w1 ⟨rfl, k1⟩; obtain ⟨C12, m, rfl⟩ := grew_of k1; clear k1
  go_wp2_with fail
  go_region_held3 (fun w' => w'.cell? ⟨b1, 0, none⟩ = some (.int .i64 (3)) ∧ w'.cell? ⟨b1, 1, none⟩ = some (.int .i64 1) ∧ w'.cell? ⟨b3, 0, none⟩ = some (.int .i64 (6)) ∧ w'.cell? ⟨b3, 1, none⟩ = some (.int .i64 1)) ((simp [go_sem, g4, g4.symm, p0, p1, p2, p3, p4, p5, p6, p7, p8, p9]; done)) (first
    | (go_at_call 20; refine (d_c _ _ _).mono ?_; rintro e w1 ⟨rfl, k1⟩; obtain ⟨C, m, rfl⟩ := grew_of k1; clear k1)
    | (go_at_call 24; refine (gives_yes _ _ _).mono ?_; rintro e w1 ⟨rfl, k1⟩; obtain ⟨C, m, rfl⟩ := grew_of k1; clear k1)
    | (go_at_call 22; refine (text_is _ _ _ v13 _ (EN.out.kb (by repeat (with_reducible first | exact Kb.refl _ _ | exact KW.out | refine Kb.setC ?_ (by assumption) | apply Kb.drew | apply Kb.drewN | apply Kb.grew | apply Kb.alloc)))).mono ?_; rintro e w1 ⟨rfl, k1⟩; obtain ⟨C, m, rfl⟩ := grew_of k1; clear k1)
    | (go_at_call 16; refine (cmp_is _ _ _ _ _ v14 _ (EN.out.kb (by repeat (with_reducible first | exact Kb.refl _ _ | exact KW.out | refine Kb.setC ?_ (by assumption) | apply Kb.drew | apply Kb.drewN | apply Kb.grew | apply Kb.alloc)))).mono ?_; rintro e w1 ⟨rfl, k1⟩; obtain ⟨C, m, rfl⟩ := grew_of k1; clear k1))
  go_upto_region 11 with fail
  generalize hW : grew _ _ _ = W2
  have KW := hid (show Kb (fun _ => False) w W2 by subst hW; exact (by repeat (with_reducible first | exact Kb.refl _ _ | exact KW.out | refine Kb.setC ?_ (by assumption) | apply Kb.drew | apply Kb.drewN | apply Kb.grew | apply Kb.alloc)))
  have q0 : W2.cell? ⟨b1, 0, none⟩ = some (.int .i64 (3)) := by subst hW; simp [go_sem, g4, g4.symm, p0, p1, p2, p3, p4, p5, p6, p7, p8, p9]
  have q1 : W2.frozen? ⟨b1, 0, none⟩ = false := by subst hW; simp [go_sem, g4, g4.symm, p0, p1, p2, p3, p4, p5, p6, p7, p8, p9]
  have q2 : W2.cell? ⟨b1, 1, none⟩ = some (.int .i64 (1)) := by subst hW; simp [go_sem, g4, g4.symm, p0, p1, p2, p3, p4, p5, p6, p7, p8, p9]
  have q3 : W2.frozen? ⟨b1, 1, none⟩ = false := by subst hW; simp [go_sem, g4, g4.symm, p0, p1, p2, p3, p4, p5, p6, p7, p8, p9]
  have q4 : b1 < W2.heap.size := by subst hW; simp [go_sem, g4, g4.symm, p0, p1, p2, p3, p4, p5, p6, p7, p8, p9]
  have q5 : W2.cell? ⟨b3, 0, none⟩ = some (.int .i64 (6)) := by subst hW; simp [go_sem, g4, g4.symm, p0, p1, p2, p3, p4, p5, p6, p7, p8, p9]
  have q6 : W2.frozen? ⟨b3, 0, none⟩ = false := by subst hW; simp [go_sem, g4, g4.symm, p0, p1, p2, p3, p4, p5, p6, p7, p8, p9]
  have q7 : W2.cell? ⟨b3, 1, none⟩ = some (.int .i64 (1)) := by subst hW; simp [go_sem, g4, g4.symm, p0, p1, p2, p3, p4, p5, p6, p7, p8, p9]
  have q8 : W2.frozen? ⟨b3, 1, none⟩ = false := by subst hW; simp [go_sem, g4, g4.symm, p0, p1, p2, p3, p4, p5, p6, p7, p8, p9]
  have q9 : b3 < W2.heap.size := by subst hW; simp [go_sem, g4, g4.symm, p0, p1, p2, p3, p4, p5, p6, p7, p8, p9]
  clear hW
  go_wp2_with fail
  refine (d_c _ _ _).mono ?_; rintro e w1 ⟨rfl, k1⟩; obtain ⟨C13, m, rfl⟩ := grew_of k1; clear k1
  go_wp2_with fail
  refine (round_is _ _ _ _ _ _ v7 _ (EN.out.kb (by repeat (with_reducible first | exact Kb.refl _ _ | exact KW.out | refine Kb.setC ?_ (by assumption) | apply Kb.drew | apply Kb.drewN | apply Kb.grew | apply Kb.alloc)))).mono ?_; rintro e w1 ⟨rfl, k1⟩; obtain ⟨C14, m, rfl⟩ := grew_of k1; clear k1
  go_wp2_with fail
  refine (d_c _ _ _).mono ?_; rintro e w1 ⟨rfl, k1⟩; obtain ⟨C15, m, rfl⟩ := grew_of k1; clear k1
  go_wp2_with fail
  refine (round_is _ _ _ _ _ _ v8 _ (EN.out.kb (by repeat (with_reducible first | exact Kb.refl _ _ | exact KW.out | refine Kb.setC ?_ (by assumption) | apply Kb.drew | apply Kb.drewN | apply Kb.grew | apply Kb.alloc)))).mono ?_; rintro e w1 ⟨rfl, k1⟩; obtain ⟨C16, m, rfl⟩ := grew_of k1; clear k1
  go_wp2_with fail
  refine (d_c _ _ _).mono ?_; rintro e w1 ⟨rfl, k1⟩; obtain ⟨C17, m, rfl⟩ := grew_of k1; clear k1
  go_wp2_with fail
  refine (round_is _ _ _ _ _ _ v9 _ (EN.out.kb (by repeat (with_reducible first | exact Kb.refl _ _ | exact KW.out | refine Kb.setC ?_ (by assumption) | apply Kb.drew | apply Kb.drewN | apply Kb.grew | apply Kb.alloc)))).mono ?_; rintro e w1 ⟨rfl, k1⟩; obtain ⟨C18, m, rfl⟩ := grew_of k1; clear k1
  go_wp2_with fail
  refine (parse_is _ _ _ _ v10 _ (EN.out.kb (by repeat (with_reducible first | exact Kb.refl _ _ | exact KW.out | refine Kb.setC ?_ (by assumption) | apply Kb.drew | apply Kb.drewN | apply Kb.grew | apply Kb.alloc))) (by decide)).mono ?_; rintro e w1 ⟨rfl, k1⟩; obtain ⟨C19, m, rfl⟩ := grew_of k1; clear k1
  go_wp2_with fail
  refine (parse_is _ _ _ _ v11 _ (EN.out.kb (by repeat (with_reducible first | exact Kb.refl _ _ | exact KW.out | refine Kb.setC ?_ (by assumption) | apply Kb.drew | apply Kb.drewN | apply Kb.grew | apply Kb.alloc))) (by decide)).mono ?_; rintro e w1 ⟨rfl, k1⟩; obtain ⟨C20, m, rfl⟩ := grew_of k1; clear k1
  go_wp2_with fail
  refine (of_is _ _ _ _ v12 _ (by decide) (by decide)).mono ?_; rintro e w1 ⟨rfl, k1⟩; obtain ⟨C21, m, rfl⟩ := grew_of k1; clear k1
  go_upto_region 17 with fail
  have g7 : b1 < W2.heap.size := by assumption
  have g8 : b3 < W2.heap.size := by assumption
  have g9 : b1 ≠ gsz W2 (C13 ++ (C14 ++ (C15 ++ (C16 ++ (C17 ++ C18))))) 0 := by unfold gsz; omega
  have g10 : b3 ≠ gsz W2 (C13 ++ (C14 ++ (C15 ++ (C16 ++ (C17 ++ C18))))) 0 := by unfold gsz; omega
  generalize hW : World.alloc _ _ = W3
  have KW := hid (show Kb (fun _ => False) w W3 by subst hW; exact (by repeat (with_reducible first | exact Kb.refl _ _ | exact KW.out | refine Kb.setC ?_ (by assumption) | apply Kb.drew | apply Kb.drewN | apply Kb.grew | apply Kb.alloc)))
  have r0 : W3.cell? ⟨b1, 0, none⟩ = some (.int .i64 (235)) := by subst hW; simp [go_sem, g4, g4.symm, g9, g10, g9.symm, g10.symm, q0, q1, q2, q3, q4, q5, q6, q7, q8, q9]
  have r1 : W3.frozen? ⟨b1, 0, none⟩ = false := by subst hW; simp [go_sem, g4, g4.symm, g9, g10, g9.symm, g10.symm, q0, q1, q2, q3, q4, q5, q6, q7, q8, q9]
  have r2 : W3.cell? ⟨b1, 1, none⟩ = some (.int .i64 (2)) := by subst hW; simp [go_sem, g4, g4.symm, g9, g10, g9.symm, g10.symm, q0, q1, q2, q3, q4, q5, q6, q7, q8, q9]
  have r3 : W3.frozen? ⟨b1, 1, none⟩ = false := by subst hW; simp [go_sem, g4, g4.symm, g9, g10, g9.symm, g10.symm, q0, q1, q2, q3, q4, q5, q6, q7, q8, q9]
  have r4 : b1 < W3.heap.size := by subst hW; simp [go_sem, g4, g4.symm, g9, g10, g9.symm, g10.symm, q0, q1, q2, q3, q4, q5, q6, q7, q8, q9]
  have r5 : W3.cell? ⟨b3, 0, none⟩ = some (.int .i64 (-235)) := by subst hW; simp [go_sem, g4, g4.symm, g9, g10, g9.symm, g10.symm, q0, q1, q2, q3, q4, q5, q6, q7, q8, q9]
  have r6 : W3.frozen? ⟨b3, 0, none⟩ = false := by subst hW; simp [go_sem, g4, g4.symm, g9, g10, g9.symm, g10.symm, q0, q1, q2, q3, q4, q5, q6, q7, q8, q9]
  have r7 : W3.cell? ⟨b3, 1, none⟩ = some (.int .i64 (2)) := by subst hW; simp [go_sem, g4, g4.symm, g9, g10, g9.symm, g10.symm, q0, q1, q2, q3, q4, q5, q6, q7, q8, q9]
  have r8 : W3.frozen? ⟨b3, 1, none⟩ = false := by subst hW; simp [go_sem, g4, g4.symm, g9, g10, g9.symm, g10.symm, q0, q1, q2, q3, q4, q5, q6, q7, q8, q9]
  have r9 : b3 < W3.heap.size := by subst hW; simp [go_sem, g4, g4.symm, g9, g10, g9.symm, g10.symm, q0, q1, q2, q3, q4, q5, q6, q7, q8, q9]
  have r10 : W3.cell? ⟨gsz W2 (C13 ++ (C14 ++ (C15 ++ (C16 ++ (C17 ++ C18))))) 0, 0, none⟩ = some (.int .i64 (3)) := by subst hW; simp [go_sem, g4, g4.symm, g9, g10, g9.symm, g10.symm, q0, q1, q2, q3, q4, q5, q6, q7, q8, q9]
  have r11 : W3.frozen? ⟨gsz W2 (C13 ++ (C14 ++ (C15 ++ (C16 ++ (C17 ++ C18))))) 0, 0, none⟩ = false := by subst hW; simp [go_sem, g4, g4.symm, g9, g10, g9.symm, g10.symm, q0, q1, q2, q3, q4, q5, q6, q7, q8, q9]
  have r12 : W3.cell? ⟨gsz W2 (C13 ++ (C14 ++ (C15 ++ (C16 ++ (C17 ++ C18))))) 0, 1, none⟩ = some (.int .i64 (0)) := by subst hW; simp [go_sem, g4, g4.symm, g9, g10, g9.symm, g10.symm, q0, q1, q2, q3, q4, q5, q6, q7, q8, q9]
  have r13 : W3.frozen? ⟨gsz W2 (C13 ++ (C14 ++ (C15 ++ (C16 ++ (C17 ++ C18))))) 0, 1, none⟩ = false := by subst hW; simp [go_sem, g4, g4.symm, g9, g10, g9.symm, g10.symm, q0, q1, q2, q3, q4, q5, q6, q7, q8, q9]
  have r14 : gsz W2 (C13 ++ (C14 ++ (C15 ++ (C16 ++ (C17 ++ C18))))) 0 < W3.heap.size := by subst hW; simp [go_sem, g4, g4.symm, g9, g10, g9.symm, g10.symm, q0, q1, q2, q3, q4, q5, q6, q7, q8, q9]
  clear hW
  generalize gsz W2 (C13 ++ (C14 ++ (C15 ++ (C16 ++ (C17 ++ C18))))) 0 = b7 at *
  go_region_held3 (fun w' => w'.cell? ⟨b1, 0, none⟩ = some (.int .i64 (235)) ∧ w'.cell? ⟨b1, 1, none⟩ = some (.int .i64 2) ∧ w'.cell? ⟨b3, 0, none⟩ = some (.int .i64 (-235)) ∧ w'.cell? ⟨b3, 1, none⟩ = some (.int .i64 2) ∧ w'.cell? ⟨b7, 0, none⟩ = some (.int .i64 (3)) ∧ w'.cell? ⟨b7, 1, none⟩ = some (.int .i64 0)) ((simp [go_sem, r0, r1, r2, r3, r4, r5, r6, r7, r8, r9, r10, r11, r12, r13, r14]; done)) (first
    | (go_at_call 20; refine (d_c _ _ _).mono ?_; rintro e w1 ⟨rfl, k1⟩; obtain ⟨C, m, rfl⟩ := grew_of k1; clear k1)
    | (go_at_call 24; refine (gives_yes _ _ _).mono ?_; rintro e w1 ⟨rfl, k1⟩; obtain ⟨C, m, rfl⟩ := grew_of k1; clear k1)
    | (go_at_call 22; refine (text_is _ _ _ v13 _ (EN.out.kb (by repeat (with_reducible first | exact Kb.refl _ _ | exact KW.out | refine Kb.setC ?_ (by assumption) | apply Kb.drew | apply Kb.drewN | apply Kb.grew | apply Kb.alloc)))).mono ?_; rintro e w1 ⟨rfl, k1⟩; obtain ⟨C, m, rfl⟩ := grew_of k1; clear k1)
    | (go_at_call 16; refine (cmp_is _ _ _ _ _ v14 _ (EN.out.kb (by repeat (with_reducible first | exact Kb.refl _ _ | exact KW.out | refine Kb.setC ?_ (by assumption) | apply Kb.drew | apply Kb.drewN | apply Kb.grew | apply Kb.alloc)))).mono ?_; rintro e w1 ⟨rfl, k1⟩; obtain ⟨C, m, rfl⟩ := grew_of k1; clear k1))
  go_wp2_with fail
  go_ret
  exact ⟨rfl, (by repeat (with_reducible first | exact Kb.refl _ _ | exact KW.out | refine Kb.setC ?_ (by assumption) | apply Kb.drew | apply Kb.drewN | apply Kb.grew | apply Kb.alloc))⟩
end Go.Proofs.YtkhjgfbiemllmaaDoor
