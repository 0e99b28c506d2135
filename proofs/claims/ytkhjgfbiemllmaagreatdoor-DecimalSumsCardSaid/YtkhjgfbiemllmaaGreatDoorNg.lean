/- The walk of DecimalSums. -/
import Derived.Test.YtkhjgfbiemllmaaGreatDoorGL
import Derived.Deep.RegionHeld3
namespace Go.Proofs.YtkhjgfbiemllmaaGreatDoor
set_option linter.unusedSimpArgs false
set_option linter.unusedVariables false
open Go.RowKit

def ps (n1 s1 n2 s2 : Int) (X Y : DR) (j : Nat) : Int :=
  if j = 0 then n1 else if j = 1 then s1 else if j = 2 then n2 else if j = 3 then s2
  else if j = 4 then X.n else if j = 5 then X.s else if j = 6 then Y.n else if j = 7 then Y.s
  else if j = 8 then X.n else if j = 9 then X.s else if j = 10 then n2 else if j = 11 then s2
  else if j = 12 then n1 else if j = 13 then s1 else if j = 14 then Y.n else if j = 15 then Y.s
  else if j = 16 then X.n else if j = 17 then X.s else if j = 18 then X.n else X.s
attribute [local go_sem ↓] Go.wp_at_zero Go.wp_at_succ
set_option maxHeartbeats 8000000 in
set_option maxRecDepth 100000 in
theorem sums_c (n1 s1 n2 s2 q0 q1 q2 q3 : Int) (w : World) (env : Env w) :
    Calls Tryz.prog 6 #[.agg #[.int .i64 n1, .int .i64 s1], .agg #[.int .i64 n2, .int .i64 s2], .agg #[.int .i64 q0, .int .i64 q1, .int .i64 q2, .int .i64 q3]] w fun e w' => e = .returned (.bool true) ∧ Kb (fun _ => False) w w' := by
  have EN := hid env
  have HD := hid made_c
  have HA := hid add_c
  have HS := hid sub_c
  have HC := hid cmp_c
  have RA := hid (fun a b c d w => radd_c a b c d (addD a b c d).n (addD a b c d).s (addD a b c d).ok rfl w)
  have RS := hid (fun a b c d w => rsub_c a b c d (subD a b c d).n (subD a b c d).s (subD a b c d).ok rfl w)
  have RC := hid (fun a b c d w => rcmp_c a b c d (cmpZ (unitZ a b) (unitZ c d)) rfl w)
  clear env
  go_enter Tryz.func6, Tryz.ntmps6
  go_upto_region 2 with fail
  refine (sanity_c _ (EN.out.kb (by repeat (with_reducible first | exact Kb.refl _ _ | exact KW.out | refine Kb.setC ?_ (by assumption) | apply Kb.drew | apply Kb.drewN | apply Kb.grew | apply Kb.alloc)))).mono ?_; rintro e w1 ⟨rfl, k1⟩; obtain ⟨C1, m, rfl⟩ := grew_of k1; clear k1
  go_upto_region 2 with fail
  go_cut [8, 9] (fun v8 v9 wx => ∃ b8 b9 : Nat, v8 = .pointer (some ⟨b8, 0, none⟩) ∧ v9 = .pointer (some ⟨b9, 0, none⟩) ∧ wx.cell? ⟨b8, 0, none⟩ = some (.int .i64 (madeD q0 q1).n) ∧ wx.cell? ⟨b8, 1, none⟩ = some (.int .i64 (madeD q0 q1).s) ∧ wx.cell? ⟨b9, 0, none⟩ = some (.int .i64 (madeD q2 q3).n) ∧ wx.cell? ⟨b9, 1, none⟩ = some (.int .i64 (madeD q2 q3).s) ∧
    wx.cell? ⟨w.heap.size, 0, none⟩ = some (.int .i64 n1) ∧ wx.cell? ⟨w.heap.size, 1, none⟩ = some (.int .i64 s1) ∧ wx.cell? ⟨w.heap.size + 1, 0, none⟩ = some (.int .i64 n2) ∧ wx.cell? ⟨w.heap.size + 1, 1, none⟩ = some (.int .i64 s2) ∧ Hid (Kb (fun _ => False) w wx))
  case first =>
    go_region_held3 (fun w' => w'.cell? ⟨w.heap.size + 1 + 1, 0, none⟩ = some (.int .i64 q0) ∧ w'.cell? ⟨w.heap.size + 1 + 1, 1, none⟩ = some (.int .i64 q1) ∧ w'.cell? ⟨w.heap.size + 1 + 1, 2, none⟩ = some (.int .i64 q2) ∧ w'.cell? ⟨w.heap.size + 1 + 1, 3, none⟩ = some (.int .i64 q3)) ((simp [go_sem]; done)) (first
      | (go_at_call 8; refine (HD.out _ _ _).mono ?_; rintro e w1 ⟨rfl, k1⟩; obtain ⟨C, m, rfl⟩ := grew_of k1; clear k1))
    all_goals
      go_wp2_with fail
      go_meet
      exact ⟨_, _, rfl, rfl, by simp [go_sem], by simp [go_sem], by simp [go_sem], by simp [go_sem], by simp [go_sem], by simp [go_sem], by simp [go_sem], by simp [go_sem], hid (by repeat (with_reducible first | exact Kb.refl _ _ | exact KW.out | refine Kb.setC ?_ (by assumption) | apply Kb.drew | apply Kb.drewN | apply Kb.grew | apply Kb.alloc))⟩
  case rest =>
  obtain ⟨b8, b9, rfl, rfl, x0, x1, y0, y1, a0, a1, c0, c1, KW⟩ := hcut
  have l8 := World.block_lt_of_cell? _ _ x0
  have l9 := World.block_lt_of_cell? _ _ y0
  have la := World.block_lt_of_cell? _ _ a0
  have lc := World.block_lt_of_cell? _ _ c0
  obtain ⟨X, hX⟩ : ∃ X, madeD q0 q1 = X := ⟨_, rfl⟩
  obtain ⟨Y, hY⟩ : ∃ X, madeD q2 q3 = X := ⟨_, rfl⟩
  rw [hX] at x0 x1
  rw [hY] at y0 y1
  clear hX hY
  go_wp2_with fail
  generalize hW : World.alloc _ _ = W
  have KW := hid (show Kb (fun _ => False) w W by subst hW; exact (by repeat (with_reducible first | exact Kb.refl _ _ | exact KW.out | refine Kb.setC ?_ (by assumption) | apply Kb.drew | apply Kb.drewN | apply Kb.grew | apply Kb.alloc)))
  have hc := hid (show ∀ j, j < 20 → W.cell? ⟨wc.heap.size, j, none⟩ = some (.int .i64 (ps n1 s1 n2 s2 X Y j)) by
    intro j hj
    subst hW
    obtain rfl | rfl | rfl | rfl | rfl | rfl | rfl | rfl | rfl | rfl | rfl | rfl | rfl | rfl | rfl | rfl | rfl | rfl | rfl | rfl : j = 0 ∨ j = 1 ∨ j = 2 ∨ j = 3 ∨ j = 4 ∨ j = 5 ∨ j = 6 ∨ j = 7 ∨ j = 8 ∨ j = 9 ∨ j = 10 ∨ j = 11 ∨ j = 12 ∨ j = 13 ∨ j = 14 ∨ j = 15 ∨ j = 16 ∨ j = 17 ∨ j = 18 ∨ j = 19 := by omega
    all_goals simp [go_sem, ps])
  clear hW x0 x1 y0 y1 a0 a1 c0 c1 l8 l9 la lc
  obtain ⟨P, hP⟩ : ∃ P, ps n1 s1 n2 s2 X Y = P := ⟨_, rfl⟩
  rw [hP] at hc
  clear hP
  generalize wc.heap.size = bs at *
  go_loopw [48] (fun iv wr => ∃ i : Nat, iv = .int .i64 i ∧ i ≤ 5 ∧ Hid (∀ j, j < 20 → wr.cell? ⟨bs, j, none⟩ = some (.int .i64 (P j))) ∧ Hid (Kb (fun _ => False) w wr)) (fun iv _ => 5 - (intOf iv).toNat)
  case atStart => exact ⟨0, rfl, by omega, hc, KW⟩
  case round =>
    obtain ⟨i, rfl, hi, hc, KW⟩ := hrel
    by_cases hlt : i < 5
    · have e0 := hc.out (i * 4) (by omega)
      have e1 := hc.out (i * 4 + 1) (by omega)
      have e2 := hc.out (i * 4 + 2) (by omega)
      have e3 := hc.out (i * 4 + 3) (by omega)
      have lb := World.block_lt_of_cell? _ _ e0
      generalize P (i * 4) = m1 at *
      generalize P (i * 4 + 1) = k1 at *
      generalize P (i * 4 + 2) = m2 at *
      generalize P (i * 4 + 3) = k2 at *
      go_wp2_with fail
      refine (HA.out _ _ _ _ _ (EN.out.kb (by repeat (with_reducible first | exact Kb.refl _ _ | exact KW.out | refine Kb.setC ?_ (by assumption) | apply Kb.drew | apply Kb.drewN | apply Kb.grew | apply Kb.alloc)))).mono ?_; rintro e w1 ⟨rfl, k1⟩; obtain ⟨D1, m, rfl⟩ := grew_of k1; clear k1
      go_wp2_with fail
      refine (RA.out _ _ _ _ _).mono ?_; rintro e w1 ⟨rfl, k1⟩; obtain ⟨D2, m, rfl⟩ := grew_of k1; clear k1
      go_wp2_with fail
      refine (HS.out _ _ _ _ _ (EN.out.kb (by repeat (with_reducible first | exact Kb.refl _ _ | exact KW.out | refine Kb.setC ?_ (by assumption) | apply Kb.drew | apply Kb.drewN | apply Kb.grew | apply Kb.alloc)))).mono ?_; rintro e w1 ⟨rfl, k1⟩; obtain ⟨D3, m, rfl⟩ := grew_of k1; clear k1
      go_wp2_with fail
      refine (RS.out _ _ _ _ _).mono ?_; rintro e w1 ⟨rfl, k1⟩; obtain ⟨D4, m, rfl⟩ := grew_of k1; clear k1
      go_wp2_with fail
      go_region_held3 (fun w' => w'.cell? ⟨wr.heap.size, 0, none⟩ = some (.int .i64 (m1)) ∧ w'.cell? ⟨wr.heap.size, 1, none⟩ = some (.int .i64 (k1)) ∧ w'.cell? ⟨wr.heap.size, 2, none⟩ = some (.int .i64 (m2)) ∧ w'.cell? ⟨wr.heap.size, 3, none⟩ = some (.int .i64 (k2)) ∧ w'.cell? ⟨gsz wr D1 1, 0, none⟩ = some (.int .i64 ((addD m1 k1 m2 k2).n)) ∧ w'.cell? ⟨gsz wr D1 1, 1, none⟩ = some (.int .i64 ((addD m1 k1 m2 k2).s)) ∧ w'.cell? ⟨gsz wr (D1 ++ D2) 2, 0, none⟩ = some (.int .i64 ((addD m1 k1 m2 k2).n)) ∧ w'.cell? ⟨gsz wr (D1 ++ D2) 2, 1, none⟩ = some (.int .i64 ((addD m1 k1 m2 k2).s)) ∧ w'.cell? ⟨gsz wr (D1 ++ (D2 ++ D3)) 3, 0, none⟩ = some (.int .i64 ((subD m1 k1 m2 k2).n)) ∧ w'.cell? ⟨gsz wr (D1 ++ (D2 ++ D3)) 3, 1, none⟩ = some (.int .i64 ((subD m1 k1 m2 k2).s)) ∧ w'.cell? ⟨gsz wr (D1 ++ (D2 ++ (D3 ++ D4))) 4, 0, none⟩ = some (.int .i64 ((subD m1 k1 m2 k2).n)) ∧ w'.cell? ⟨gsz wr (D1 ++ (D2 ++ (D3 ++ D4))) 4, 1, none⟩ = some (.int .i64 ((subD m1 k1 m2 k2).s))) ((simp [go_sem]; done)) (first
        | (go_at_call 17; refine (HC.out _ _ _ _ _ (EN.out.kb (by repeat (with_reducible first | exact Kb.refl _ _ | exact KW.out | refine Kb.setC ?_ (by assumption) | apply Kb.drew | apply Kb.drewN | apply Kb.grew | apply Kb.alloc)))).mono ?_; rintro e w1 ⟨rfl, k1⟩; obtain ⟨C, m, rfl⟩ := grew_of k1; clear k1)
        | (go_at_call 24; refine (RC.out _ _ _ _ _).mono ?_; rintro e w1 ⟨rfl, k1⟩; obtain ⟨C, m, rfl⟩ := grew_of k1; clear k1))
      all_goals
        go_wp2_with fail
        generalize hW : grew _ _ _ = W'
        have k : Kb (fun _ => False) wr W' := by subst hW; exact (by repeat (with_reducible first | exact Kb.refl _ _ | exact KW.out | refine Kb.setC ?_ (by assumption) | apply Kb.drew | apply Kb.drewN | apply Kb.grew | apply Kb.alloc))
        exact ⟨⟨i + 1, by go_num, by omega, fun j hj => k.cell (hc.out j hj) (by simp), KW.out.trans k⟩, by simp [intOf]; omega⟩
    · go_wp2_with fail
      go_ret
      exact ⟨rfl, KW.out⟩
end Go.Proofs.YtkhjgfbiemllmaaGreatDoor
