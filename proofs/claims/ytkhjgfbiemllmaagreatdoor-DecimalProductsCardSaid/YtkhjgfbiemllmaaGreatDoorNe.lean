/- The walk of DecimalProducts. -/
import Derived.Test.YtkhjgfbiemllmaaGreatDoorGL
import Derived.Deep.RegionHeld3
namespace Go.Proofs.YtkhjgfbiemllmaaGreatDoor
set_option linter.unusedSimpArgs false
set_option linter.unusedVariables false
open Go.RowKit

theorem rmul_c (n1 s1 n2 s2 : Int) (w : World) :
    Calls Tryz.prog 10 #[.agg #[.int .i64 n1, .int .i64 s1], .agg #[.int .i64 n2, .int .i64 s2]] w fun e w' => e = .returned (.tuple #[.agg #[.int .i64 (mulD n1 s1 n2 s2).n, .int .i64 (mulD n1 s1 n2 s2).s], .bool (mulD n1 s1 n2 s2).ok]) ∧ Kb (fun _ => False) w w' := by
  refine rmul_v n1 s1 n2 s2 _ w _ _ _ rfl ?_
  rw [mul_sign, fitV_mkD]
  rfl
/-- The pairs that are tried. -/
def pq (n1 s1 n2 s2 : Int) (X Y U V : DR) (j : Nat) : Int :=
  if j = 0 then n1 else if j = 1 then s1 else if j = 2 then n2 else if j = 3 then s2
  else if j = 4 then X.n else if j = 5 then X.s else if j = 6 then Y.n else if j = 7 then Y.s
  else if j = 8 then X.n else if j = 9 then X.s else if j = 10 then n2 else if j = 11 then s2
  else if j = 12 then U.n else if j = 13 then U.s else if j = 14 then V.n else V.s
attribute [local go_sem ↓] Go.wp_at_zero Go.wp_at_succ
set_option maxHeartbeats 8000000 in
set_option maxRecDepth 100000 in
theorem products_c (n1 s1 n2 s2 q0 q1 q2 q3 : Int) (w : World) (env : Env w) :
    Calls Tryz.prog 3 #[.agg #[.int .i64 n1, .int .i64 s1], .agg #[.int .i64 n2, .int .i64 s2], .agg #[.int .i64 q0, .int .i64 q1, .int .i64 q2, .int .i64 q3]] w fun e w' => e = .returned (.bool true) ∧ Kb (fun _ => False) w w' := by
  have EN := hid env
  have HD := hid made_c
  have HM := hid mul_c
  have HR := hid rmul_c
  have b0 := tmod_bd q0 1000000 (by omega)
  have b2 := tmod_bd q2 1000000 (by omega)
  clear env
  obtain ⟨t0, ht0⟩ : ∃ t, q0.tmod 1000000 = t := ⟨_, rfl⟩
  obtain ⟨t2, ht2⟩ : ∃ t, q2.tmod 1000000 = t := ⟨_, rfl⟩
  rw [ht0] at b0
  rw [ht2] at b2
  have w0 : IntKind.i64.wrap t0 = t0 := IntWalk.i64_in _ (by omega)
  have w2 : IntKind.i64.wrap t2 = t2 := IntWalk.i64_in _ (by omega)
  obtain ⟨b01, b02⟩ := b0
  obtain ⟨b21, b22⟩ := b2
  go_enter Tryz.func3, Tryz.ntmps3
  go_upto_region 2 with fail
  refine (sanity_c _ (EN.out.kb (by repeat (with_reducible first | exact Kb.refl _ _ | exact KW.out | refine Kb.setC ?_ (by assumption) | apply Kb.drew | apply Kb.drewN | apply Kb.grew | apply Kb.alloc)))).mono ?_; rintro e w1 ⟨rfl, k1⟩; obtain ⟨C1, m, rfl⟩ := grew_of k1; clear k1
  go_upto_region 2 with fail
  go_cut [8, 9] (fun v8 v9 wx => ∃ b8 b9 : Nat, v8 = .pointer (some ⟨b8, 0, none⟩) ∧ v9 = .pointer (some ⟨b9, 0, none⟩) ∧ wx.cell? ⟨b8, 0, none⟩ = some (.int .i64 (madeD q0 q1).n) ∧ wx.cell? ⟨b8, 1, none⟩ = some (.int .i64 (madeD q0 q1).s) ∧ wx.cell? ⟨b9, 0, none⟩ = some (.int .i64 (madeD q2 q3).n) ∧ wx.cell? ⟨b9, 1, none⟩ = some (.int .i64 (madeD q2 q3).s) ∧
    wx.cell? ⟨w.heap.size, 0, none⟩ = some (.int .i64 n1) ∧ wx.cell? ⟨w.heap.size, 1, none⟩ = some (.int .i64 s1) ∧ wx.cell? ⟨w.heap.size + 1, 0, none⟩ = some (.int .i64 n2) ∧ wx.cell? ⟨w.heap.size + 1, 1, none⟩ = some (.int .i64 s2) ∧
    wx.cell? ⟨w.heap.size + 1 + 1, 0, none⟩ = some (.int .i64 q0) ∧ wx.cell? ⟨w.heap.size + 1 + 1, 1, none⟩ = some (.int .i64 q1) ∧ wx.cell? ⟨w.heap.size + 1 + 1, 2, none⟩ = some (.int .i64 q2) ∧ wx.cell? ⟨w.heap.size + 1 + 1, 3, none⟩ = some (.int .i64 q3) ∧ Hid (Kb (fun _ => False) w wx))
  case first =>
    go_region_held3 (fun w' => w'.cell? ⟨w.heap.size + 1 + 1, 0, none⟩ = some (.int .i64 q0) ∧ w'.cell? ⟨w.heap.size + 1 + 1, 1, none⟩ = some (.int .i64 q1) ∧ w'.cell? ⟨w.heap.size + 1 + 1, 2, none⟩ = some (.int .i64 q2) ∧ w'.cell? ⟨w.heap.size + 1 + 1, 3, none⟩ = some (.int .i64 q3)) ((simp [go_sem]; done)) (first
      | (go_at_call 8; refine (HD.out _ _ _).mono ?_; rintro e w1 ⟨rfl, k1⟩; obtain ⟨C, m, rfl⟩ := grew_of k1; clear k1))
    all_goals
      go_wp2_with fail
      go_meet
      exact ⟨_, _, rfl, rfl, by simp [go_sem], by simp [go_sem], by simp [go_sem], by simp [go_sem], by simp [go_sem], by simp [go_sem], by simp [go_sem], by simp [go_sem], by simp [go_sem], by simp [go_sem], by simp [go_sem], by simp [go_sem], hid (by repeat (with_reducible first | exact Kb.refl _ _ | exact KW.out | refine Kb.setC ?_ (by assumption) | apply Kb.drew | apply Kb.drewN | apply Kb.grew | apply Kb.alloc))⟩
  case rest =>
  obtain ⟨b8, b9, rfl, rfl, x0, x1, y0, y1, a0, a1, c0, c1, d0, d1, d2, d3, KW⟩ := hcut
  have l8 := World.block_lt_of_cell? _ _ x0
  have l9 := World.block_lt_of_cell? _ _ y0
  have la := World.block_lt_of_cell? _ _ a0
  have lc := World.block_lt_of_cell? _ _ c0
  have ld := World.block_lt_of_cell? _ _ d0
  obtain ⟨X, hX⟩ : ∃ X, madeD q0 q1 = X := ⟨_, rfl⟩
  obtain ⟨Y, hY⟩ : ∃ X, madeD q2 q3 = X := ⟨_, rfl⟩
  rw [hX] at x0 x1
  rw [hY] at y0 y1
  clear hX hY
  go_upto_region 3 with fail
  go_cut [49, 50, 51] (fun v49 v50 v51 wx => ∃ bs : Nat, v49 = .slice (some ⟨bs, 0, none⟩) 4 4 ∧ v50 = .int .i64 4 ∧ v51 = .int .i64 0 ∧ Hid (∀ j, j < 16 → wx.cell? ⟨bs, j, none⟩ = some (.int .i64 (pq n1 s1 n2 s2 X Y (madeD t0 q1) (madeD t2 q3) j))) ∧ Hid (Kb (fun _ => False) w wx))
  case first =>
    go_region_held3 (fun w' => w'.cell? ⟨w.heap.size, 0, none⟩ = some (.int .i64 n1) ∧ w'.cell? ⟨w.heap.size, 1, none⟩ = some (.int .i64 s1) ∧ w'.cell? ⟨w.heap.size + 1, 0, none⟩ = some (.int .i64 n2) ∧ w'.cell? ⟨w.heap.size + 1, 1, none⟩ = some (.int .i64 s2) ∧ w'.cell? ⟨b8, 0, none⟩ = some (.int .i64 X.n) ∧ w'.cell? ⟨b8, 1, none⟩ = some (.int .i64 X.s) ∧ w'.cell? ⟨b9, 0, none⟩ = some (.int .i64 Y.n) ∧ w'.cell? ⟨b9, 1, none⟩ = some (.int .i64 Y.s) ∧ w'.cell? ⟨w.heap.size + 1 + 1, 0, none⟩ = some (.int .i64 q0) ∧ w'.cell? ⟨w.heap.size + 1 + 1, 1, none⟩ = some (.int .i64 q1) ∧ w'.cell? ⟨w.heap.size + 1 + 1, 2, none⟩ = some (.int .i64 q2) ∧ w'.cell? ⟨w.heap.size + 1 + 1, 3, none⟩ = some (.int .i64 q3)) ((simp [go_sem, x0, x1, y0, y1, a0, a1, c0, c1, d0, d1, d2, d3, l8, l9, la, lc, ld]; done)) (first
      | (go_at_call 8; refine (HD.out _ _ _).mono ?_; rintro e w1 ⟨rfl, k1⟩; obtain ⟨C, m, rfl⟩ := grew_of k1; clear k1))
    all_goals
      go_wp2_with fail
      go_meet
      refine ⟨_, rfl, rfl, rfl, ?_, hid (by repeat (with_reducible first | exact Kb.refl _ _ | exact KW.out | refine Kb.setC ?_ (by assumption) | apply Kb.drew | apply Kb.drewN | apply Kb.grew | apply Kb.alloc))⟩
      intro j hj
      obtain rfl | rfl | rfl | rfl | rfl | rfl | rfl | rfl | rfl | rfl | rfl | rfl | rfl | rfl | rfl | rfl : j = 0 ∨ j = 1 ∨ j = 2 ∨ j = 3 ∨ j = 4 ∨ j = 5 ∨ j = 6 ∨ j = 7 ∨ j = 8 ∨ j = 9 ∨ j = 10 ∨ j = 11 ∨ j = 12 ∨ j = 13 ∨ j = 14 ∨ j = 15 := by omega
      all_goals simp [go_sem, pq]
  case rest =>
  obtain ⟨bs, rfl, rfl, rfl, hc, KW⟩ := hcut
  clear x0 x1 y0 y1 a0 a1 c0 c1 d0 d1 d2 d3 l8 l9 la lc ld
  generalize madeD t0 q1 = U at *
  generalize madeD t2 q3 = V at *
  obtain ⟨P, hP⟩ : ∃ P, pq n1 s1 n2 s2 X Y U V = P := ⟨_, rfl⟩
  rw [hP] at hc
  clear hP
  obtain ⟨wo, rfl⟩ : ∃ wo : World, wo = wc := ⟨_, rfl⟩
  go_wp2_with fail
  go_loopw [51] (fun iv wr => ∃ i : Nat, iv = .int .i64 i ∧ i ≤ 4 ∧ Hid (∀ j, j < 16 → wr.cell? ⟨bs, j, none⟩ = some (.int .i64 (P j))) ∧ Hid (Kb (fun _ => False) w wr)) (fun iv _ => 4 - (intOf iv).toNat)
  case atStart => exact ⟨0, rfl, by omega, hc, KW⟩
  case round =>
    obtain ⟨i, rfl, hi, hc, KW⟩ := hrel
    by_cases hlt : i < 4
    · have e0 := hc.out (i * 4) (by omega)
      have e1 := hc.out (i * 4 + 1) (by omega)
      have e2 := hc.out (i * 4 + 2) (by omega)
      have e3 := hc.out (i * 4 + 3) (by omega)
      have lb := World.block_lt_of_cell? _ _ e0
      go_wp2_with fail
      refine (HM.out _ _ _ _ _).mono ?_; rintro e w1 ⟨rfl, k1⟩; obtain ⟨D1, m, rfl⟩ := grew_of k1; clear k1
      go_wp2_with fail
      refine (HR.out _ _ _ _ _).mono ?_; rintro e w1 ⟨rfl, k1⟩; obtain ⟨D2, m, rfl⟩ := grew_of k1; clear k1
      go_wp2_with fail
      generalize hW : World.alloc _ _ = W'
      have k : Kb (fun _ => False) wr W' := by subst hW; exact (by repeat (with_reducible first | exact Kb.refl _ _ | exact KW.out | refine Kb.setC ?_ (by assumption) | apply Kb.drew | apply Kb.drewN | apply Kb.grew | apply Kb.alloc))
      exact ⟨⟨i + 1, by go_num, by omega, fun j hj => k.cell (hc.out j hj) (by simp), KW.out.trans k⟩, by simp [intOf]; omega⟩
    · go_wp2_with fail
      go_ret
      exact ⟨rfl, KW.out⟩
end Go.Proofs.YtkhjgfbiemllmaaGreatDoor
