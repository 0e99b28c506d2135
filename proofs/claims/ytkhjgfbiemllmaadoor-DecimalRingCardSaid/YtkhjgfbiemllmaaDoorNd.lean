/- The walk of DecimalRing. -/
import Derived.Test.YtkhjgfbiemllmaaDoorNc
namespace Go.Proofs.YtkhjgfbiemllmaaDoor
set_option linter.unusedSimpArgs false
set_option linter.unusedVariables false
open Go.RowKit

theorem sub_is (n1 s1 n2 s2 x y : Int) (b : Bool) (h : subD n1 s1 n2 s2 = ⟨x, y, b⟩) (w : World) (env : Env w) :
    Calls Tryd.prog 23 #[.agg #[.int .i64 n1, .int .i64 s1], .agg #[.int .i64 n2, .int .i64 s2]] w fun e w' => e = .returned (.tuple #[.agg #[.int .i64 x, .int .i64 y], .bool b]) ∧ Kb (fun _ => False) w w' := by
  have := sub_c n1 s1 n2 s2 w env
  rwa [h] at this
set_option maxHeartbeats 16000000 in
set_option maxRecDepth 100000 in
theorem ring_core (q0 q1 q2 q3 q4 q5 t0 t1 t2 t3 t4 t5 An As Bn Bs Cn Cs ABn ABs BCn BCs Xn Xs : Int) (M N O Q : DR) (w : World) (env : Env w) (e0 : q0.tmod 1000000 = t0) (e1 : q1.tmod 3 = t1) (e2 : q2.tmod 1000000 = t2) (e3 : q3.tmod 3 = t3) (e4 : q4.tmod 1000000 = t4) (e5 : q5.tmod 3 = t5)
    (hA : madeD t0 t1 = ⟨An, As, true⟩) (hB : madeD t2 t3 = ⟨Bn, Bs, true⟩) (hC : madeD t4 t5 = ⟨Cn, Cs, true⟩) (hAB : addD An As Bn Bs = ⟨ABn, ABs, true⟩) (hBA : addD Bn Bs An As = ⟨ABn, ABs, true⟩) (hBC : addD Bn Bs Cn Cs = ⟨BCn, BCs, true⟩)
    (hX : addD ABn ABs Cn Cs = ⟨Xn, Xs, true⟩) (hY : addD An As BCn BCs = ⟨Xn, Xs, true⟩) (hS : subD ABn ABs Bn Bs = ⟨An, As, true⟩) (hM : mulD An As BCn BCs = M) (hN : mulD An As Bn Bs = N) (hO : mulD An As Cn Cs = O) (hR : mulD Bn Bs An As = N)
    (hQ : addD N.n N.s O.n O.s = Q) (heq : M.ok = true → N.ok = true → O.ok = true → Q.ok = true → M.n = Q.n ∧ M.s = Q.s) :
    Calls Tryd.prog 6 #[.agg #[.int .i64 q0, .int .i64 q1, .int .i64 q2, .int .i64 q3, .int .i64 q4, .int .i64 q5]] w fun e w' => e = .returned (.bool true) ∧ Kb (fun _ => False) w w' := by
  have H1 := hid (fun w => made_c t0 t1 w)
  have H2 := hid (fun w => made_c t2 t3 w)
  have H3 := hid (fun w => made_c t4 t5 w)
  rw [hA] at H1
  rw [hB] at H2
  rw [hC] at H3
  simp only at H1 H2 H3
  have G1 := hid (fun w env => add_is _ _ _ _ _ _ _ hAB w env)
  have G2 := hid (fun w env => add_is _ _ _ _ _ _ _ hBA w env)
  have G3 := hid (fun w env => add_is _ _ _ _ _ _ _ hBC w env)
  have G4 := hid (fun w env => add_is _ _ _ _ _ _ _ hX w env)
  have G5 := hid (fun w env => add_is _ _ _ _ _ _ _ hY w env)
  have G6 := hid (fun w env => sub_is _ _ _ _ _ _ _ hS w env)
  have G7 := hid (fun w => mul_is _ _ _ _ M.n M.s M.ok hM w)
  have G8 := hid (fun w => mul_is _ _ _ _ N.n N.s N.ok hN w)
  have G9 := hid (fun w => mul_is _ _ _ _ O.n O.s O.ok hO w)
  have G10 := hid (fun w => mul_is _ _ _ _ N.n N.s N.ok hR w)
  have G11 := hid (fun w env => add_is _ _ _ _ Q.n Q.s Q.ok hQ w env)
  have EN := hid env
  have i0 := idx0 q0 q1 q2 q3 q4 q5
  have i1 := idx1 q0 q1 q2 q3 q4 q5
  have i2 := idx2 q0 q1 q2 q3 q4 q5
  have HEQ := hid heq
  clear env hA hB hC hAB hBA hBC hX hY hS hM hN hO hR hQ heq
  go_enter Tryd.func6, Tryd.ntmps6
  go_wp2_with fail
  refine (sanity_c _ (EN.out.kb (by repeat (with_reducible first | exact Kb.refl _ _ | exact KW.out | refine Kb.setC ?_ (by assumption) | apply Kb.drew | apply Kb.drewN | apply Kb.grew | apply Kb.alloc)))).mono ?_; rintro e w1 ⟨rfl, k1⟩; obtain ⟨C1, m, rfl⟩ := grew_of k1; clear k1
  go_wp2_with fail
  refine wp_loop_rounds 4 ?_
  rw [rounds_succ]
  go_wp2_with fail
  refine (H1.out _).mono ?_; rintro e w1 ⟨rfl, k1⟩; obtain ⟨C2, m, rfl⟩ := grew_of k1; clear k1
  go_wp2_with fail
  rw [rounds_succ]
  go_wp2_with fail
  refine (H2.out _).mono ?_; rintro e w1 ⟨rfl, k1⟩; obtain ⟨C3, m, rfl⟩ := grew_of k1; clear k1
  go_wp2_with fail
  rw [rounds_succ]
  go_wp2_with fail
  refine (H3.out _).mono ?_; rintro e w1 ⟨rfl, k1⟩; obtain ⟨C4, m, rfl⟩ := grew_of k1; clear k1
  go_wp2_with fail
  rw [rounds_succ]
  go_wp2_with fail
  clear i0 i1 i2
  go_cut [7, 8, 9] (fun v7 v8 v9 wx => ∃ b7 b8 b9 : Nat, v7 = .pointer (some ⟨b7, 0, none⟩) ∧ v8 = .pointer (some ⟨b8, 0, none⟩) ∧ v9 = .pointer (some ⟨b9, 0, none⟩) ∧ wx.cell? ⟨b7, 0, none⟩ = some (.int .i64 An) ∧ wx.cell? ⟨b7, 1, none⟩ = some (.int .i64 As) ∧ wx.cell? ⟨b8, 0, none⟩ = some (.int .i64 Bn) ∧ wx.cell? ⟨b8, 1, none⟩ = some (.int .i64 Bs) ∧ wx.cell? ⟨b9, 0, none⟩ = some (.int .i64 Cn) ∧ wx.cell? ⟨b9, 1, none⟩ = some (.int .i64 Cs) ∧ Hid (Kb (fun _ => False) w wx))
  case first =>
    go_region_held3 (fun w' => w'.cell? ⟨gsz w C1 1, 0, none⟩ = some (.int .i64 An) ∧ w'.cell? ⟨gsz w C1 1, 1, none⟩ = some (.int .i64 As) ∧ w'.cell? ⟨gsz w C1 1, 2, none⟩ = some (.int .i64 Bn) ∧ w'.cell? ⟨gsz w C1 1, 3, none⟩ = some (.int .i64 Bs) ∧ w'.cell? ⟨gsz w C1 1, 4, none⟩ = some (.int .i64 Cn) ∧ w'.cell? ⟨gsz w C1 1, 5, none⟩ = some (.int .i64 Cs)) ((simp [go_sem]; done)) (fail)
    all_goals
      go_wp2_with fail
      go_meet
      exact ⟨_, _, _, rfl, rfl, rfl, by simp [go_sem], by simp [go_sem], by simp [go_sem], by simp [go_sem], by simp [go_sem], by simp [go_sem], hid (by repeat (with_reducible first | exact Kb.refl _ _ | exact KW.out | refine Kb.setC ?_ (by assumption) | apply Kb.drew | apply Kb.drewN | apply Kb.grew | apply Kb.alloc))⟩
  case rest =>
  obtain ⟨b7, b8, b9, rfl, rfl, rfl, n0, n1, n2, n3, n4, n5, KW⟩ := hcut
  have l0 := World.block_lt_of_cell? _ _ n0
  have l1 := World.block_lt_of_cell? _ _ n2
  have l2 := World.block_lt_of_cell? _ _ n4
  obtain ⟨w1, rfl⟩ : ∃ w1 : World, w1 = wc := ⟨_, rfl⟩
  clear e0 e1 e2 e3 e4 e5
  go_wp2_with fail
  refine (G1.out _ (EN.out.kb (by repeat (with_reducible first | exact Kb.refl _ _ | exact KW.out | refine Kb.setC ?_ (by assumption) | apply Kb.drew | apply Kb.drewN | apply Kb.grew | apply Kb.alloc)))).mono ?_; rintro e w1 ⟨rfl, k1⟩; obtain ⟨D1, m, rfl⟩ := grew_of k1; clear k1
  go_wp2_with fail
  refine (G2.out _ (EN.out.kb (by repeat (with_reducible first | exact Kb.refl _ _ | exact KW.out | refine Kb.setC ?_ (by assumption) | apply Kb.drew | apply Kb.drewN | apply Kb.grew | apply Kb.alloc)))).mono ?_; rintro e w1 ⟨rfl, k1⟩; obtain ⟨D2, m, rfl⟩ := grew_of k1; clear k1
  go_wp2_with fail
  refine (G3.out _ (EN.out.kb (by repeat (with_reducible first | exact Kb.refl _ _ | exact KW.out | refine Kb.setC ?_ (by assumption) | apply Kb.drew | apply Kb.drewN | apply Kb.grew | apply Kb.alloc)))).mono ?_; rintro e w1 ⟨rfl, k1⟩; obtain ⟨D3, m, rfl⟩ := grew_of k1; clear k1
  go_wp2_with fail
  refine (G4.out _ (EN.out.kb (by repeat (with_reducible first | exact Kb.refl _ _ | exact KW.out | refine Kb.setC ?_ (by assumption) | apply Kb.drew | apply Kb.drewN | apply Kb.grew | apply Kb.alloc)))).mono ?_; rintro e w1 ⟨rfl, k1⟩; obtain ⟨D4, m, rfl⟩ := grew_of k1; clear k1
  go_wp2_with fail
  refine (G5.out _ (EN.out.kb (by repeat (with_reducible first | exact Kb.refl _ _ | exact KW.out | refine Kb.setC ?_ (by assumption) | apply Kb.drew | apply Kb.drewN | apply Kb.grew | apply Kb.alloc)))).mono ?_; rintro e w1 ⟨rfl, k1⟩; obtain ⟨D5, m, rfl⟩ := grew_of k1; clear k1
  go_wp2_with fail
  refine (G6.out _ (EN.out.kb (by repeat (with_reducible first | exact Kb.refl _ _ | exact KW.out | refine Kb.setC ?_ (by assumption) | apply Kb.drew | apply Kb.drewN | apply Kb.grew | apply Kb.alloc)))).mono ?_; rintro e w1 ⟨rfl, k1⟩; obtain ⟨D6, m, rfl⟩ := grew_of k1; clear k1
  go_upto_region 17 with fail
  generalize hW : World.alloc _ _ = W4
  have k := hid (show Kb (fun _ => False) w1 W4 by subst hW; exact (by repeat (with_reducible first | exact Kb.refl _ _ | exact KW.out | refine Kb.setC ?_ (by assumption) | apply Kb.drew | apply Kb.drewN | apply Kb.grew | apply Kb.alloc)))
  have p0 : W4.cell? ⟨gsz w1 (D1 ++ (D2 ++ D3)) 2, 0, none⟩ = some (.int .i64 BCn) := by subst hW; simp [go_sem]
  have p1 : W4.cell? ⟨gsz w1 (D1 ++ (D2 ++ D3)) 2, 1, none⟩ = some (.int .i64 BCs) := by subst hW; simp [go_sem]
  have l3 := World.block_lt_of_cell? _ _ p0
  clear hW
  have n0 := k.out.cell n0 (by simp)
  have n1 := k.out.cell n1 (by simp)
  have n2 := k.out.cell n2 (by simp)
  have n3 := k.out.cell n3 (by simp)
  have n4 := k.out.cell n4 (by simp)
  have n5 := k.out.cell n5 (by simp)
  have l0 := Nat.lt_of_lt_of_le l0 k.out.size
  have l1 := Nat.lt_of_lt_of_le l1 k.out.size
  have l2 := Nat.lt_of_lt_of_le l2 k.out.size
  have KW := hid (KW.out.trans k.out)
  clear k
  generalize gsz w1 (D1 ++ (D2 ++ D3)) 2 = b14 at *
  go_wp2_with fail
  refine (G7.out _).mono ?_; rintro e w1 ⟨rfl, k1⟩; obtain ⟨E1, m, rfl⟩ := grew_of k1; clear k1
  go_wp2_with fail
  refine (G8.out _).mono ?_; rintro e w1 ⟨rfl, k1⟩; obtain ⟨E2, m, rfl⟩ := grew_of k1; clear k1
  go_wp2_with fail
  refine (G9.out _).mono ?_; rintro e w1 ⟨rfl, k1⟩; obtain ⟨E3, m, rfl⟩ := grew_of k1; clear k1
  go_wp2_with fail
  refine (G10.out _).mono ?_; rintro e w1 ⟨rfl, k1⟩; obtain ⟨E4, m, rfl⟩ := grew_of k1; clear k1
  go_wp2_with fail
  refine (G11.out _ (EN.out.kb (by repeat (with_reducible first | exact Kb.refl _ _ | exact KW.out | refine Kb.setC ?_ (by assumption) | apply Kb.drew | apply Kb.drewN | apply Kb.grew | apply Kb.alloc)))).mono ?_; rintro e w1 ⟨rfl, k1⟩; obtain ⟨E5, m, rfl⟩ := grew_of k1; clear k1
  cases hM : M.ok
  · go_wp2_with fail
    all_goals
      go_ret
      exact ⟨rfl, (by repeat (with_reducible first | exact Kb.refl _ _ | exact KW.out | refine Kb.setC ?_ (by assumption) | apply Kb.drew | apply Kb.drewN | apply Kb.grew | apply Kb.alloc))⟩
  · cases hN : N.ok
    · go_wp2_with fail
      all_goals
        go_ret
        exact ⟨rfl, (by repeat (with_reducible first | exact Kb.refl _ _ | exact KW.out | refine Kb.setC ?_ (by assumption) | apply Kb.drew | apply Kb.drewN | apply Kb.grew | apply Kb.alloc))⟩
    · cases hO : O.ok
      · go_wp2_with fail
        all_goals
          go_ret
          exact ⟨rfl, (by repeat (with_reducible first | exact Kb.refl _ _ | exact KW.out | refine Kb.setC ?_ (by assumption) | apply Kb.drew | apply Kb.drewN | apply Kb.grew | apply Kb.alloc))⟩
      · cases hQ : Q.ok
        · go_wp2_with fail
          all_goals
            go_ret
            exact ⟨rfl, (by repeat (with_reducible first | exact Kb.refl _ _ | exact KW.out | refine Kb.setC ?_ (by assumption) | apply Kb.drew | apply Kb.drewN | apply Kb.grew | apply Kb.alloc))⟩
        · obtain ⟨u1, u2⟩ := HEQ.out hM hN hO hQ
          rw [← u1, ← u2]
          clear u1 u2
          go_wp2_with fail
          all_goals
            go_ret
            exact ⟨rfl, (by repeat (with_reducible first | exact Kb.refl _ _ | exact KW.out | refine Kb.setC ?_ (by assumption) | apply Kb.drew | apply Kb.drewN | apply Kb.grew | apply Kb.alloc))⟩
theorem dr_eta (r : DR) (h : r.ok = true) : r = ⟨r.n, r.s, true⟩ := by
  cases r
  simp only at h
  rw [h]
theorem madeD_unit (n s : Int) (hn : n.natAbs ≤ 999999) : (unitZ (madeD n s).n (madeD n s).s).natAbs ≤ 1000000000000 := by
  have hb := modZ_bd s 7 (by omega)
  have ht : (n.tmod 1000000000000001).natAbs ≤ 999999 := by
    rw [Int.natAbs_tmod]
    exact Nat.le_trans (Nat.mod_le _ _) hn
  unfold madeD makeD
  rw [if_pos (by omega)]
  have hok := mkD_ok_small (n.tmod 1000000000000001) (modZ s 7).toNat (by omega) (by omega)
  rw [unit_mkD (by omega) hok, Int.natAbs_mul, Int.natAbs_natCast]
  have hp := (pow_bd (6 - (modZ s 7).toNat) (by omega)).2
  have := Nat.mul_le_mul ht hp
  omega
theorem add_unit {n1 s1 n2 s2 : Int} (h : (unitZ n1 s1).natAbs + (unitZ n2 s2).natAbs ≤ 1000000000000000) : (addD n1 s1 n2 s2).ok = true ∧ rightB (addD n1 s1 n2 s2).n (addD n1 s1 n2 s2).s = true ∧ unitZ (addD n1 s1 n2 s2).n (addD n1 s1 n2 s2).s = unitZ n1 s1 + unitZ n2 s2 := by
  have hok : (addD n1 s1 n2 s2).ok = true := mkD_ok_small _ 6 (by omega) (by omega)
  refine ⟨hok, mkD_right hok, ?_⟩
  unfold addD
  rw [unit_mkD (by omega) hok]
  simp
theorem mul_unit {n1 s1 n2 s2 : Int} (h1 : rightB n1 s1 = true) (h2 : rightB n2 s2 = true) (hok : (mulD n1 s1 n2 s2).ok = true) : rightB (mulD n1 s1 n2 s2).n (mulD n1 s1 n2 s2).s = true ∧ unitZ (mulD n1 s1 n2 s2).n (mulD n1 s1 n2 s2).s * 1000000 = unitZ n1 s1 * unitZ n2 s2 := by
  have hr : rightB (mulD n1 s1 n2 s2).n (mulD n1 s1 n2 s2).s = true := mkD_right hok
  refine ⟨hr, ?_⟩
  obtain ⟨k, e1, e2, e3, e4⟩ := mkD_eq hok
  obtain ⟨a1, a2⟩ := kn_of h1
  obtain ⟨b1, b2⟩ := kn_of h2
  have ha := (kn_bd n1 s1).2.2
  have hb := (kn_bd n2 s2).2.2
  have hD : mulD n1 s1 n2 s2 = mkD (n1 * n2) (knS n1 s1 + knS n2 s2) := by unfold mulD; rw [a1, b1]
  rw [a1, b1] at e1 e4
  rw [← hD] at e1 e4
  rw [unitZ_right hr, unitZ_right h1, unitZ_right h2, e1, Int.toNat_natCast]
  clear hD hr hok
  generalize (mulD n1 s1 n2 s2).n = m at *
  rw [show s1.toNat = knS n1 s1 by omega, show s2.toNat = knS n2 s2 by omega]
  generalize knS n1 s1 = p at *
  generalize knS n2 s2 = q at *
  have c1 : n1 * ((10 ^ (6 - p) : Nat) : Int) * (n2 * ((10 ^ (6 - q) : Nat) : Int)) = (n1 * n2) * ((10 ^ (6 - p) * 10 ^ (6 - q) : Nat) : Int) := by
    rw [Int.natCast_mul]
    generalize ((10 ^ (6 - p) : Nat) : Int) = u
    generalize ((10 ^ (6 - q) : Nat) : Int) = v
    rw [Int.mul_assoc, Int.mul_assoc, ← Int.mul_assoc u n2 v, Int.mul_comm u n2, Int.mul_assoc n2 u v]
  have hL : m * ((10 ^ (6 - k) : Nat) : Int) * 1000000 = m * ((10 ^ (6 - k) * 10 ^ 6 : Nat) : Int) := by rw [Int.mul_assoc, Int.natCast_mul]; rfl
  have hE : 10 ^ (6 - k) * 10 ^ 6 = 10 ^ (p + q - k) * (10 ^ (6 - p) * 10 ^ (6 - q)) := by
    rw [← Nat.pow_add, ← Nat.pow_add, ← Nat.pow_add]
    congr 1
    omega
  rw [hL, hE, Int.natCast_mul (10 ^ (p + q - k)), ← Int.mul_assoc, e4, c1]
theorem ring_c (q0 q1 q2 q3 q4 q5 : Int) (w : World) (env : Env w) :
    Calls Tryd.prog 6 #[.agg #[.int .i64 q0, .int .i64 q1, .int .i64 q2, .int .i64 q3, .int .i64 q4, .int .i64 q5]] w fun e w' => e = .returned (.bool true) ∧ Kb (fun _ => False) w w' := by
  have bA := tmod_bd q0 1000000 (by omega)
  have bB := tmod_bd q2 1000000 (by omega)
  have bC := tmod_bd q4 1000000 (by omega)
  have rA := madeD_right (q0.tmod 1000000) (q1.tmod 3)
  have rB := madeD_right (q2.tmod 1000000) (q3.tmod 3)
  have rC := madeD_right (q4.tmod 1000000) (q5.tmod 3)
  have mA := madeD_ok (q0.tmod 1000000) (q1.tmod 3)
  have mB := madeD_ok (q2.tmod 1000000) (q3.tmod 3)
  have mC := madeD_ok (q4.tmod 1000000) (q5.tmod 3)
  have uA := madeD_unit (q0.tmod 1000000) (q1.tmod 3) (by omega)
  have uB := madeD_unit (q2.tmod 1000000) (q3.tmod 3) (by omega)
  have uC := madeD_unit (q4.tmod 1000000) (q5.tmod 3) (by omega)
  generalize (madeD (q0.tmod 1000000) (q1.tmod 3)).n = An at *
  generalize (madeD (q0.tmod 1000000) (q1.tmod 3)).s = As at *
  generalize (madeD (q2.tmod 1000000) (q3.tmod 3)).n = Bn at *
  generalize (madeD (q2.tmod 1000000) (q3.tmod 3)).s = Bs at *
  generalize (madeD (q4.tmod 1000000) (q5.tmod 3)).n = Cn at *
  generalize (madeD (q4.tmod 1000000) (q5.tmod 3)).s = Cs at *
  obtain ⟨k1, k2, k3⟩ := add_unit (n1 := An) (s1 := As) (n2 := Bn) (s2 := Bs) (by omega)
  obtain ⟨j1, j2, j3⟩ := add_unit (n1 := Bn) (s1 := Bs) (n2 := Cn) (s2 := Cs) (by omega)
  have eAB := dr_eta _ k1
  have eBC := dr_eta _ j1
  have eBA : addD Bn Bs An As = addD An As Bn Bs := by unfold addD; rw [Int.add_comm]
  have eR : mulD Bn Bs An As = mulD An As Bn Bs := by unfold mulD; rw [Int.mul_comm, Nat.add_comm]
  have eX : addD (addD An As Bn Bs).n (addD An As Bn Bs).s Cn Cs = mkD (unitZ An As + unitZ Bn Bs + unitZ Cn Cs) 6 := by
    show mkD (unitZ (addD An As Bn Bs).n (addD An As Bn Bs).s + unitZ Cn Cs) 6 = _
    rw [k3]
  have eY : addD An As (addD Bn Bs Cn Cs).n (addD Bn Bs Cn Cs).s = mkD (unitZ An As + unitZ Bn Bs + unitZ Cn Cs) 6 := by
    show mkD (unitZ An As + unitZ (addD Bn Bs Cn Cs).n (addD Bn Bs Cn Cs).s) 6 = _
    rw [j3, Int.add_assoc]
  have eS : subD (addD An As Bn Bs).n (addD An As Bn Bs).s Bn Bs = ⟨An, As, true⟩ := by
    show mkD (unitZ (addD An As Bn Bs).n (addD An As Bn Bs).s - unitZ Bn Bs) 6 = _
    rw [k3, show unitZ An As + unitZ Bn Bs - unitZ Bn Bs = unitZ An As by omega]
    exact mkD_unit rA
  have hx := dr_eta _ (mkD_ok_small (unitZ An As + unitZ Bn Bs + unitZ Cn Cs) 6 (by omega) (by omega))
  refine ring_core q0 q1 q2 q3 q4 q5 _ _ _ _ _ _ An As Bn Bs Cn Cs _ _ _ _ _ _ _ _ _ _ w env rfl rfl rfl rfl rfl rfl mA mB mC eAB (eBA.trans eAB) eBC (eX.trans hx) (eY.trans hx) eS rfl rfl rfl eR rfl ?_
  intro oM oN oO oQ
  obtain ⟨r1, v1⟩ := mul_unit rA j2 oM
  obtain ⟨r2, v2⟩ := mul_unit rA rB oN
  obtain ⟨r3, v3⟩ := mul_unit rA rC oO
  have r4 := mkD_right oQ
  have v4 := unit_mkD (by omega) oQ
  change unitZ (addD (mulD An As Bn Bs).n (mulD An As Bn Bs).s (mulD An As Cn Cs).n (mulD An As Cn Cs).s).n (addD (mulD An As Bn Bs).n (mulD An As Bn Bs).s (mulD An As Cn Cs).n (mulD An As Cn Cs).s).s = _ at v4
  refine unit_inj r1 r4 ?_
  rw [v4]
  rw [j3, Int.mul_add, ← v2, ← v3] at v1
  simp only [Nat.sub_self, Nat.pow_zero]
  omega
end Go.Proofs.YtkhjgfbiemllmaaDoor
