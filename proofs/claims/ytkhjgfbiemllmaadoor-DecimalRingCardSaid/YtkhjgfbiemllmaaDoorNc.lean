/- The walk of DecimalOrder. -/
import Derived.Test.YtkhjgfbiemllmaaDoorMl
namespace Go.Proofs.YtkhjgfbiemllmaaDoor
set_option linter.unusedSimpArgs false
set_option linter.unusedVariables false
open Go.RowKit

theorem idx0 (q0 q1 q2 q3 q4 q5 : Int) (w : World) : (Instr.index 33 (.agg #[.int .i64 q0, .int .i64 q1, .int .i64 q2, .int .i64 q3, .int .i64 q4, .int .i64 q5]) (.int .i64 0)).run Tryd.prog w = .ok (.agg #[.int .i64 q0, .int .i64 q1]) w := by kernel_rfl
theorem idx1 (q0 q1 q2 q3 q4 q5 : Int) (w : World) : (Instr.index 33 (.agg #[.int .i64 q0, .int .i64 q1, .int .i64 q2, .int .i64 q3, .int .i64 q4, .int .i64 q5]) (.int .i64 1)).run Tryd.prog w = .ok (.agg #[.int .i64 q2, .int .i64 q3]) w := by kernel_rfl
theorem idx2 (q0 q1 q2 q3 q4 q5 : Int) (w : World) : (Instr.index 33 (.agg #[.int .i64 q0, .int .i64 q1, .int .i64 q2, .int .i64 q3, .int .i64 q4, .int .i64 q5]) (.int .i64 2)).run Tryd.prog w = .ok (.agg #[.int .i64 q4, .int .i64 q5]) w := by kernel_rfl
set_option maxHeartbeats 16000000 in
set_option maxRecDepth 100000 in
theorem order_core (q0 q1 q2 q3 q4 q5 : Int) (sc k7 : Nat) (An As Bn Bs Cn Cs r1 r2 r3 r4 : Int) (x y X Y : DR) (w : World) (env : Env w) (hA : madeD q0 q1 = ⟨An, As, true⟩) (hB : madeD q2 q3 = ⟨Bn, Bs, true⟩) (hC : madeD q4 q5 = ⟨Cn, Cs, true⟩)
    (h7 : (sc : Int) % 7 = (k7 : Int)) (c1 : cmpZ (unitZ An As) (unitZ Bn Bs) = r1) (c2 : cmpZ (unitZ Bn Bs) (unitZ An As) = -r1) (b1 : -1 ≤ r1) (b2 : r1 ≤ 1) (heq : r1 = 0 → An = Bn ∧ As = Bs) (hne : r1 ≠ 0 → ¬ (An = Bn ∧ As = Bs))
    (c3 : cmpZ (unitZ Bn Bs) (unitZ Cn Cs) = r2) (c4 : cmpZ (unitZ An As) (unitZ Cn Cs) = r3) (htr : r1 ≤ 0 → r2 ≤ 0 → r3 ≤ 0) (hx : addD An As Cn Cs = x) (hy : addD Bn Bs Cn Cs = y) (c5 : x.ok = true → y.ok = true → cmpZ (unitZ x.n x.s) (unitZ y.n y.s) = r1)
    (hX : roundD An As k7 = X) (hY : roundD Bn Bs k7 = Y) (oX : X.ok = true) (oY : Y.ok = true) (c6 : cmpZ (unitZ X.n X.s) (unitZ Y.n Y.s) = r4) (b3 : -1 ≤ r4) (b4 : r4 ≤ 1) (hm : 0 ≤ r4 * r1) :
    Calls Tryd.prog 4 #[.agg #[.int .i64 q0, .int .i64 q1, .int .i64 q2, .int .i64 q3, .int .i64 q4, .int .i64 q5], .int .u8 sc] w fun e w' => e = .returned (.bool true) ∧ Kb (fun _ => False) w w' := by
  have H1 := hid (fun w => made_c q0 q1 w)
  have H2 := hid (fun w => made_c q2 q3 w)
  have H3 := hid (fun w => made_c q4 q5 w)
  rw [hA] at H1
  rw [hB] at H2
  rw [hC] at H3
  simp only at H1 H2 H3
  have CAB := hid (fun w env => cmp_is An As Bn Bs r1 c1 w env)
  have CBA := hid (fun w env => cmp_is Bn Bs An As (-r1) c2 w env)
  have CBC := hid (fun w env => cmp_is Bn Bs Cn Cs r2 c3 w env)
  have CAC := hid (fun w env => cmp_is An As Cn Cs r3 c4 w env)
  have AX := hid (fun w env => add_c An As Cn Cs w env)
  have AY := hid (fun w env => add_c Bn Bs Cn Cs w env)
  rw [hx] at AX
  rw [hy] at AY
  have RX := hid (fun w env => round_c An As k7 w env)
  have RY := hid (fun w env => round_c Bn Bs k7 w env)
  rw [hX, oX] at RX
  rw [hY, oY] at RY
  have CXY := hid (fun w env h h' => cmp_is x.n x.s y.n y.s r1 (c5 h h') w env)
  have CR := hid (fun w env => cmp_is X.n X.s Y.n Y.s r4 c6 w env)
  have EN := hid env
  have i0 := idx0 q0 q1 q2 q3 q4 q5
  have i1 := idx1 q0 q1 q2 q3 q4 q5
  have i2 := idx2 q0 q1 q2 q3 q4 q5
  have HEQ := hid heq
  have HNE := hid hne
  have HTR := hid htr
  have HM := hid hm
  have H7 := hid h7
  clear env hA hB hC c1 c2 c3 c4 c5 c6 hx hy hX hY oX oY heq hne htr hm h7
  go_enter Tryd.func4, Tryd.ntmps4
  go_wp2_with fail
  refine (sanity_c _ (EN.out.kb (by repeat (with_reducible first | exact Kb.refl _ _ | exact KW.out | refine Kb.setC ?_ (by assumption) | apply Kb.drew | apply Kb.drewN | apply Kb.grew | apply Kb.alloc)))).mono ?_; rintro e w1 ⟨rfl, k1⟩; obtain ⟨C1, m, rfl⟩ := grew_of k1; clear k1
  go_wp2_with fail
  refine wp_loop_rounds 4 ?_
  rw [rounds_succ]
  go_wp2_with fail
  refine (H1.out _).mono ?_; rintro e w1 ⟨rfl, k1⟩; obtain ⟨C2, m, rfl⟩ := grew_of k1; clear k1
  go_wp2_with fail
  rw [rounds_succ]
  go_wp2_with fail
  refine (H2.out _).mono ?_; rintro e w1 ⟨rfl, k1⟩; obtain ⟨C3, m, rfl⟩ := grew_of k1; clear k1
  go_wp2_with fail
  rw [rounds_succ]
  go_wp2_with fail
  refine (H3.out _).mono ?_; rintro e w1 ⟨rfl, k1⟩; obtain ⟨C4, m, rfl⟩ := grew_of k1; clear k1
  go_wp2_with fail
  rw [rounds_succ]
  go_wp2_with fail
  clear i0 i1 i2
  go_cut [9, 10, 11] (fun v9 v10 v11 wx => ∃ b9 b10 b11 : Nat, v9 = .pointer (some ⟨b9, 0, none⟩) ∧ v10 = .pointer (some ⟨b10, 0, none⟩) ∧ v11 = .pointer (some ⟨b11, 0, none⟩) ∧ wx.cell? ⟨b9, 0, none⟩ = some (.int .i64 An) ∧ wx.cell? ⟨b9, 1, none⟩ = some (.int .i64 As) ∧ wx.cell? ⟨b10, 0, none⟩ = some (.int .i64 Bn) ∧ wx.cell? ⟨b10, 1, none⟩ = some (.int .i64 Bs) ∧ wx.cell? ⟨b11, 0, none⟩ = some (.int .i64 Cn) ∧ wx.cell? ⟨b11, 1, none⟩ = some (.int .i64 Cs) ∧ Hid (Kb (fun _ => False) w wx))
  case first =>
    go_region_held3 (fun w' => w'.cell? ⟨gsz w C1 1, 0, none⟩ = some (.int .i64 An) ∧ w'.cell? ⟨gsz w C1 1, 1, none⟩ = some (.int .i64 As) ∧ w'.cell? ⟨gsz w C1 1, 2, none⟩ = some (.int .i64 Bn) ∧ w'.cell? ⟨gsz w C1 1, 3, none⟩ = some (.int .i64 Bs) ∧ w'.cell? ⟨gsz w C1 1, 4, none⟩ = some (.int .i64 Cn) ∧ w'.cell? ⟨gsz w C1 1, 5, none⟩ = some (.int .i64 Cs)) ((simp [go_sem]; done)) (fail)
    all_goals
      go_wp2_with fail
      go_meet
      exact ⟨_, _, _, rfl, rfl, rfl, by simp [go_sem], by simp [go_sem], by simp [go_sem], by simp [go_sem], by simp [go_sem], by simp [go_sem], hid (by repeat (with_reducible first | exact Kb.refl _ _ | exact KW.out | refine Kb.setC ?_ (by assumption) | apply Kb.drew | apply Kb.drewN | apply Kb.grew | apply Kb.alloc))⟩
  case rest =>
  obtain ⟨b9, b10, b11, rfl, rfl, rfl, n0, n1, n2, n3, n4, n5, KW⟩ := hcut
  have l0 := World.block_lt_of_cell? _ _ n0
  have l1 := World.block_lt_of_cell? _ _ n2
  have l2 := World.block_lt_of_cell? _ _ n4
  obtain ⟨w1, rfl⟩ : ∃ w1 : World, w1 = wc := ⟨_, rfl⟩
  go_wp2_with fail
  refine (CAB.out _ (EN.out.kb (by repeat (with_reducible first | exact Kb.refl _ _ | exact KW.out | refine Kb.setC ?_ (by assumption) | apply Kb.drew | apply Kb.drewN | apply Kb.grew | apply Kb.alloc)))).mono ?_; rintro e w1 ⟨rfl, k1⟩; obtain ⟨D1, m, rfl⟩ := grew_of k1; clear k1
  go_upto_region 10 with fail
  go_cut [61] (fun v wx => v = .bool false ∧ Hid (Kb (fun _ => False) w1 wx))
  case first =>
    have h3 : r1 = -1 ∨ r1 = 0 ∨ r1 = 1 := by omega
    rcases h3 with rfl | rfl | rfl
    · by_cases hn : An = Bn
      · subst hn
        have hs : ¬ As = Bs := fun e => HNE.out (by omega) ⟨rfl, e⟩
        go_wp2_with fail
        refine (CBA.out _ (EN.out.kb (by repeat (with_reducible first | exact Kb.refl _ _ | exact KW.out | refine Kb.setC ?_ (by assumption) | apply Kb.drew | apply Kb.drewN | apply Kb.grew | apply Kb.alloc)))).mono ?_; rintro e w1 ⟨rfl, k1⟩; obtain ⟨D2, m, rfl⟩ := grew_of k1; clear k1
        go_wp2_with fail
        all_goals
          go_meet
          exact ⟨rfl, hid (by repeat (with_reducible first | exact Kb.refl _ _ | exact KW.out | refine Kb.setC ?_ (by assumption) | apply Kb.drew | apply Kb.drewN | apply Kb.grew | apply Kb.alloc))⟩
      · go_wp2_with fail
        refine (CBA.out _ (EN.out.kb (by repeat (with_reducible first | exact Kb.refl _ _ | exact KW.out | refine Kb.setC ?_ (by assumption) | apply Kb.drew | apply Kb.drewN | apply Kb.grew | apply Kb.alloc)))).mono ?_; rintro e w1 ⟨rfl, k1⟩; obtain ⟨D2, m, rfl⟩ := grew_of k1; clear k1
        go_wp2_with fail
        all_goals
          go_meet
          exact ⟨rfl, hid (by repeat (with_reducible first | exact Kb.refl _ _ | exact KW.out | refine Kb.setC ?_ (by assumption) | apply Kb.drew | apply Kb.drewN | apply Kb.grew | apply Kb.alloc))⟩
    · obtain ⟨e1, e2⟩ := HEQ.out rfl
      subst e1 e2
      go_wp2_with fail
      refine (CBA.out _ (EN.out.kb (by repeat (with_reducible first | exact Kb.refl _ _ | exact KW.out | refine Kb.setC ?_ (by assumption) | apply Kb.drew | apply Kb.drewN | apply Kb.grew | apply Kb.alloc)))).mono ?_; rintro e w1 ⟨rfl, k1⟩; obtain ⟨D2, m, rfl⟩ := grew_of k1; clear k1
      go_wp2_with fail
      all_goals
        go_meet
        exact ⟨rfl, hid (by repeat (with_reducible first | exact Kb.refl _ _ | exact KW.out | refine Kb.setC ?_ (by assumption) | apply Kb.drew | apply Kb.drewN | apply Kb.grew | apply Kb.alloc))⟩
    · by_cases hn : An = Bn
      · subst hn
        have hs : ¬ As = Bs := fun e => HNE.out (by omega) ⟨rfl, e⟩
        go_wp2_with fail
        refine (CBA.out _ (EN.out.kb (by repeat (with_reducible first | exact Kb.refl _ _ | exact KW.out | refine Kb.setC ?_ (by assumption) | apply Kb.drew | apply Kb.drewN | apply Kb.grew | apply Kb.alloc)))).mono ?_; rintro e w1 ⟨rfl, k1⟩; obtain ⟨D2, m, rfl⟩ := grew_of k1; clear k1
        go_wp2_with fail
        all_goals
          go_meet
          exact ⟨rfl, hid (by repeat (with_reducible first | exact Kb.refl _ _ | exact KW.out | refine Kb.setC ?_ (by assumption) | apply Kb.drew | apply Kb.drewN | apply Kb.grew | apply Kb.alloc))⟩
      · go_wp2_with fail
        refine (CBA.out _ (EN.out.kb (by repeat (with_reducible first | exact Kb.refl _ _ | exact KW.out | refine Kb.setC ?_ (by assumption) | apply Kb.drew | apply Kb.drewN | apply Kb.grew | apply Kb.alloc)))).mono ?_; rintro e w1 ⟨rfl, k1⟩; obtain ⟨D2, m, rfl⟩ := grew_of k1; clear k1
        go_wp2_with fail
        all_goals
          go_meet
          exact ⟨rfl, hid (by repeat (with_reducible first | exact Kb.refl _ _ | exact KW.out | refine Kb.setC ?_ (by assumption) | apply Kb.drew | apply Kb.drewN | apply Kb.grew | apply Kb.alloc))⟩
  case rest =>
  obtain ⟨rfl, k⟩ := hcut
  have n0 := k.out.cell n0 (by simp)
  have n1 := k.out.cell n1 (by simp)
  have n2 := k.out.cell n2 (by simp)
  have n3 := k.out.cell n3 (by simp)
  have n4 := k.out.cell n4 (by simp)
  have n5 := k.out.cell n5 (by simp)
  have l0 := Nat.lt_of_lt_of_le l0 k.out.size
  have l1 := Nat.lt_of_lt_of_le l1 k.out.size
  have l2 := Nat.lt_of_lt_of_le l2 k.out.size
  have KW := hid (KW.out.trans k.out)
  clear k
  obtain ⟨w2, rfl⟩ : ∃ w2 : World, w2 = wc := ⟨_, rfl⟩
  clear HEQ HNE CAB CBA
  go_upto_region 12 with fail
  go_cut [75] (fun v wx => v = .bool false ∧ Hid (Kb (fun _ => False) w2 wx))
  case first =>
    have h3 : r1 = 1 ∨ r1 ≤ 0 := by omega
    rcases h3 with rfl | h3
    · go_wp2_with fail
      all_goals
        go_meet
        exact ⟨rfl, hid (by repeat (with_reducible first | exact Kb.refl _ _ | exact KW.out | refine Kb.setC ?_ (by assumption) | apply Kb.drew | apply Kb.drewN | apply Kb.grew | apply Kb.alloc))⟩
    · have d1 : decide (r1 ≤ 0) = true := decide_eq_true h3
      by_cases h4 : r2 ≤ 0
      · have d2 : decide (r2 ≤ 0) = true := decide_eq_true h4
        have d3 : decide (0 < r3) = false := decide_eq_false (by have := HTR.out h3 h4; omega)
        go_wp2_with fail
        refine (CBC.out _ (EN.out.kb (by repeat (with_reducible first | exact Kb.refl _ _ | exact KW.out | refine Kb.setC ?_ (by assumption) | apply Kb.drew | apply Kb.drewN | apply Kb.grew | apply Kb.alloc)))).mono ?_; rintro e w1 ⟨rfl, k1⟩; obtain ⟨D1, m, rfl⟩ := grew_of k1; clear k1
        go_wp2_with fail
        refine (CAC.out _ (EN.out.kb (by repeat (with_reducible first | exact Kb.refl _ _ | exact KW.out | refine Kb.setC ?_ (by assumption) | apply Kb.drew | apply Kb.drewN | apply Kb.grew | apply Kb.alloc)))).mono ?_; rintro e w1 ⟨rfl, k1⟩; obtain ⟨D2, m, rfl⟩ := grew_of k1; clear k1
        go_wp2_with fail
        all_goals
          go_meet
          exact ⟨rfl, hid (by repeat (with_reducible first | exact Kb.refl _ _ | exact KW.out | refine Kb.setC ?_ (by assumption) | apply Kb.drew | apply Kb.drewN | apply Kb.grew | apply Kb.alloc))⟩
      · have d2 : decide (r2 ≤ 0) = false := decide_eq_false h4
        go_wp2_with fail
        refine (CBC.out _ (EN.out.kb (by repeat (with_reducible first | exact Kb.refl _ _ | exact KW.out | refine Kb.setC ?_ (by assumption) | apply Kb.drew | apply Kb.drewN | apply Kb.grew | apply Kb.alloc)))).mono ?_; rintro e w1 ⟨rfl, k1⟩; obtain ⟨D1, m, rfl⟩ := grew_of k1; clear k1
        go_wp2_with fail
        all_goals
          go_meet
          exact ⟨rfl, hid (by repeat (with_reducible first | exact Kb.refl _ _ | exact KW.out | refine Kb.setC ?_ (by assumption) | apply Kb.drew | apply Kb.drewN | apply Kb.grew | apply Kb.alloc))⟩
  case rest =>
  obtain ⟨rfl, k⟩ := hcut
  have n0 := k.out.cell n0 (by simp)
  have n1 := k.out.cell n1 (by simp)
  have n2 := k.out.cell n2 (by simp)
  have n3 := k.out.cell n3 (by simp)
  have n4 := k.out.cell n4 (by simp)
  have n5 := k.out.cell n5 (by simp)
  have l0 := Nat.lt_of_lt_of_le l0 k.out.size
  have l1 := Nat.lt_of_lt_of_le l1 k.out.size
  have l2 := Nat.lt_of_lt_of_le l2 k.out.size
  have KW := hid (KW.out.trans k.out)
  clear k
  obtain ⟨w3, rfl⟩ : ∃ w3 : World, w3 = wc := ⟨_, rfl⟩
  clear HTR CBC CAC
  go_wp2_with fail
  refine (AX.out _ (EN.out.kb (by repeat (with_reducible first | exact Kb.refl _ _ | exact KW.out | refine Kb.setC ?_ (by assumption) | apply Kb.drew | apply Kb.drewN | apply Kb.grew | apply Kb.alloc)))).mono ?_; rintro e w1 ⟨rfl, k1⟩; obtain ⟨D1, m, rfl⟩ := grew_of k1; clear k1
  go_wp2_with fail
  refine (AY.out _ (EN.out.kb (by repeat (with_reducible first | exact Kb.refl _ _ | exact KW.out | refine Kb.setC ?_ (by assumption) | apply Kb.drew | apply Kb.drewN | apply Kb.grew | apply Kb.alloc)))).mono ?_; rintro e w1 ⟨rfl, k1⟩; obtain ⟨D2, m, rfl⟩ := grew_of k1; clear k1
  go_upto_region 16 with fail
  have g13 : w.heap.size ≤ gsz w3 D1 0 := by have := KW.out.size; unfold gsz; omega
  have g15 : w.heap.size ≤ gsz w3 (D1 ++ D2) 1 := by have := KW.out.size; unfold gsz; omega
  have z1 : gsz w3 D1 0 ≠ gsz w3 (D1 ++ D2) 1 := by unfold gsz; simp; omega
  have z2 : b10 ≠ gsz w3 D1 0 := by unfold gsz; omega
  have z3 : b10 ≠ gsz w3 (D1 ++ D2) 1 := by unfold gsz; omega
  have z4 : b9 ≠ gsz w3 D1 0 := by unfold gsz; omega
  have z5 : b9 ≠ gsz w3 (D1 ++ D2) 1 := by unfold gsz; omega
  generalize hW : World.alloc _ _ = W4
  have k := hid (show Kb (fun _ => False) w3 W4 by subst hW; exact (by repeat (with_reducible first | exact Kb.refl _ _ | exact KW.out | refine Kb.setC ?_ (by assumption) | apply Kb.drew | apply Kb.drewN | apply Kb.grew | apply Kb.alloc)))
  have p0 : W4.cell? ⟨gsz w3 D1 0, 0, none⟩ = some (.int .i64 x.n) := by subst hW; simp [go_sem]
  have p1 : W4.cell? ⟨gsz w3 D1 0, 1, none⟩ = some (.int .i64 x.s) := by subst hW; simp [go_sem]
  have p2 : W4.cell? ⟨gsz w3 (D1 ++ D2) 1, 0, none⟩ = some (.int .i64 y.n) := by subst hW; simp [go_sem]
  have p3 : W4.cell? ⟨gsz w3 (D1 ++ D2) 1, 1, none⟩ = some (.int .i64 y.s) := by subst hW; simp [go_sem]
  have f0 : W4.frozen? ⟨gsz w3 D1 0, 0, none⟩ = false := by subst hW; simp [go_sem]
  have f1 : W4.frozen? ⟨gsz w3 D1 0, 1, none⟩ = false := by subst hW; simp [go_sem]
  have f2 : W4.frozen? ⟨gsz w3 (D1 ++ D2) 1, 0, none⟩ = false := by subst hW; simp [go_sem]
  have f3 : W4.frozen? ⟨gsz w3 (D1 ++ D2) 1, 1, none⟩ = false := by subst hW; simp [go_sem]
  have l3 := World.block_lt_of_cell? _ _ p0
  have l4 := World.block_lt_of_cell? _ _ p2
  clear hW
  have n0 := k.out.cell n0 (by simp)
  have n1 := k.out.cell n1 (by simp)
  have n2 := k.out.cell n2 (by simp)
  have n3 := k.out.cell n3 (by simp)
  have n4 := k.out.cell n4 (by simp)
  have n5 := k.out.cell n5 (by simp)
  have l0 := Nat.lt_of_lt_of_le l0 k.out.size
  have l1 := Nat.lt_of_lt_of_le l1 k.out.size
  have l2 := Nat.lt_of_lt_of_le l2 k.out.size
  have KW := hid (KW.out.trans k.out)
  clear k
  generalize gsz w3 D1 0 = b13 at *
  generalize gsz w3 (D1 ++ D2) 1 = b15 at *
  go_cut [14, 16, 98] (fun _ _ v wx => v = .bool false ∧ Hid (Kb (fun _ => False) W4 wx))
  case first =>
    cases hxo : x.ok
    · go_wp2_with fail
      all_goals
        go_meet
        exact ⟨rfl, hid (by repeat (with_reducible first | exact Kb.refl _ _ | exact KW.out | refine Kb.setC ?_ (by assumption) | apply Kb.drew | apply Kb.drewN | apply Kb.grew | apply Kb.alloc))⟩
    · cases hyo : y.ok
      · go_wp2_with fail
        all_goals
          go_meet
          exact ⟨rfl, hid (by repeat (with_reducible first | exact Kb.refl _ _ | exact KW.out | refine Kb.setC ?_ (by assumption) | apply Kb.drew | apply Kb.drewN | apply Kb.grew | apply Kb.alloc))⟩
      · have CX := hid (fun w env => CXY.out w env hxo hyo)
        go_wp2_with fail
        refine (CX.out _ (EN.out.kb (by repeat (with_reducible first | exact Kb.refl _ _ | exact KW.out | refine Kb.setC ?_ (by assumption) | apply Kb.drew | apply Kb.drewN | apply Kb.grew | apply Kb.alloc)))).mono ?_; rintro e w1 ⟨rfl, k1⟩; obtain ⟨E1, m, rfl⟩ := grew_of k1; clear k1
        go_wp2_with fail
        all_goals
          go_meet
          exact ⟨rfl, hid (by repeat (with_reducible first | exact Kb.refl _ _ | exact KW.out | refine Kb.setC ?_ (by assumption) | apply Kb.drew | apply Kb.drewN | apply Kb.grew | apply Kb.alloc))⟩
  case rest =>
  obtain ⟨rfl, k⟩ := hcut
  have n0 := k.out.cell n0 (by simp)
  have n1 := k.out.cell n1 (by simp)
  have n2 := k.out.cell n2 (by simp)
  have n3 := k.out.cell n3 (by simp)
  have n4 := k.out.cell n4 (by simp)
  have n5 := k.out.cell n5 (by simp)
  have l0 := Nat.lt_of_lt_of_le l0 k.out.size
  have l1 := Nat.lt_of_lt_of_le l1 k.out.size
  have l2 := Nat.lt_of_lt_of_le l2 k.out.size
  have KW := hid (KW.out.trans k.out)
  have p0 := k.out.cell p0 (by simp)
  have p1 := k.out.cell p1 (by simp)
  have p2 := k.out.cell p2 (by simp)
  have p3 := k.out.cell p3 (by simp)
  have f0 := (k.out.frozen (p := ⟨b13, 0, none⟩) l3 (by simp)).trans f0
  have f1 := (k.out.frozen (p := ⟨b13, 1, none⟩) l3 (by simp)).trans f1
  have f2 := (k.out.frozen (p := ⟨b15, 0, none⟩) l4 (by simp)).trans f2
  have f3 := (k.out.frozen (p := ⟨b15, 1, none⟩) l4 (by simp)).trans f3
  have l3 := Nat.lt_of_lt_of_le l3 k.out.size
  have l4 := Nat.lt_of_lt_of_le l4 k.out.size
  clear k CXY AX AY
  obtain ⟨w5, rfl⟩ : ∃ w5 : World, w5 = wc := ⟨_, rfl⟩
  have e7 := H7.out
  go_wp2_with fail
  refine (RX.out _ (EN.out.kb (by repeat (with_reducible first | exact Kb.refl _ _ | exact KW.out | refine Kb.setC ?_ (by assumption) | apply Kb.drew | apply Kb.drewN | apply Kb.grew | apply Kb.alloc)))).mono ?_; rintro e w1 ⟨rfl, k1⟩; obtain ⟨E1, m, rfl⟩ := grew_of k1; clear k1
  go_wp2_with fail
  refine (RY.out _ (EN.out.kb (by repeat (with_reducible first | exact Kb.refl _ _ | exact KW.out | refine Kb.setC ?_ (by assumption) | apply Kb.drew | apply Kb.drewN | apply Kb.grew | apply Kb.alloc)))).mono ?_; rintro e w1 ⟨rfl, k1⟩; obtain ⟨E2, m, rfl⟩ := grew_of k1; clear k1
  go_wp2_with fail
  refine (CR.out _ (EN.out.kb (by repeat (with_reducible first | exact Kb.refl _ _ | exact KW.out | refine Kb.setC ?_ (by assumption) | apply Kb.drew | apply Kb.drewN | apply Kb.grew | apply Kb.alloc)))).mono ?_; rintro e w1 ⟨rfl, k1⟩; obtain ⟨E3, m, rfl⟩ := grew_of k1; clear k1
  have hm := HM.out
  have h3 : r1 = -1 ∨ r1 = 0 ∨ r1 = 1 := by omega
  have h4 : r4 = -1 ∨ r4 = 0 ∨ r4 = 1 := by omega
  clear HM
  rcases h3 with rfl | rfl | rfl
  all_goals rcases h4 with rfl | rfl | rfl
  all_goals first | (exfalso; omega) | skip
  all_goals
    clear hm
    go_wp2_with fail
    all_goals
      go_ret
      exact ⟨rfl, (by repeat (with_reducible first | exact Kb.refl _ _ | exact KW.out | refine Kb.setC ?_ (by assumption) | apply Kb.drew | apply Kb.drewN | apply Kb.grew | apply Kb.alloc))⟩
theorem madeD_ok (n s : Int) : madeD n s = ⟨(madeD n s).n, (madeD n s).s, true⟩ := by
  have hb := modZ_bd s 7 (by omega)
  have ht := tmod_bd n 1000000000000001 (by omega)
  have hok : (madeD n s).ok = true := by
    unfold madeD makeD
    rw [if_pos (by omega)]
    exact mkD_ok_small _ _ (by omega) (by omega)
  cases hm : madeD n s with
  | mk a b c => rw [hm] at hok; simp only at hok; rw [hok]
theorem order_c (q0 q1 q2 q3 q4 q5 : Int) (sc : Nat) (w : World) (env : Env w) :
    Calls Tryd.prog 4 #[.agg #[.int .i64 q0, .int .i64 q1, .int .i64 q2, .int .i64 q3, .int .i64 q4, .int .i64 q5], .int .u8 sc] w fun e w' => e = .returned (.bool true) ∧ Kb (fun _ => False) w w' := by
  have rA := madeD_right q0 q1
  have rB := madeD_right q2 q3
  have rC := madeD_right q4 q5
  have mA := madeD_ok q0 q1
  have mB := madeD_ok q2 q3
  have mC := madeD_ok q4 q5
  generalize (madeD q0 q1).n = An at *
  generalize (madeD q0 q1).s = As at *
  generalize (madeD q2 q3).n = Bn at *
  generalize (madeD q2 q3).s = Bs at *
  generalize (madeD q4 q5).n = Cn at *
  generalize (madeD q4 q5).s = Cs at *
  obtain ⟨oX, tX, uX⟩ := round_spec rA (sc % 7) (by omega)
  obtain ⟨oY, tY, uY⟩ := round_spec rB (sc % 7) (by omega)
  have hb := cmpZ_bd (unitZ An As) (unitZ Bn Bs)
  have hb4 := cmpZ_bd (unitZ (roundD An As (sc % 7 : Nat)).n (roundD An As (sc % 7 : Nat)).s) (unitZ (roundD Bn Bs (sc % 7 : Nat)).n (roundD Bn Bs (sc % 7 : Nat)).s)
  refine order_core q0 q1 q2 q3 q4 q5 sc (sc % 7) An As Bn Bs Cn Cs _ _ _ _ _ _ _ _ w env mA mB mC (by omega) rfl ?_ hb.1 hb.2 ?_ ?_ rfl rfl ?_ rfl rfl ?_ rfl rfl oX oY rfl hb4.1 hb4.2 ?_
  · unfold cmpZ
    repeat' split
    all_goals omega
  · intro h
    have e : unitZ An As = unitZ Bn Bs := by
      unfold cmpZ at h
      split at h
      · omega
      · split at h <;> omega
    exact unit_inj rA rB e
  · intro h ⟨e1, e2⟩
    rw [e1, e2, cmpZ_eq] at h
    exact h rfl
  · unfold cmpZ
    repeat' split
    all_goals omega
  · intro h1 h2
    unfold addD at h1 h2 ⊢
    rw [unit_mkD (by omega) h1, unit_mkD (by omega) h2]
    unfold cmpZ
    simp only [Nat.sub_self, Nat.pow_zero]
    repeat' split
    all_goals omega
  · rw [uX, uY]
    have m1 := rk_mono (10 ^ (6 - sc % 7)) (unitZ An As) (unitZ Bn Bs)
    have m2 := rk_mono (10 ^ (6 - sc % 7)) (unitZ Bn Bs) (unitZ An As)
    unfold cmpZ
    repeat' split
    all_goals first | omega | (simp; done)
end Go.Proofs.YtkhjgfbiemllmaaDoor
