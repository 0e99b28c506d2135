/- The walk of DecimalMakes. -/
import Derived.Test.YtkhjgfbiemllmaaDoorMi
namespace Go.Proofs.YtkhjgfbiemllmaaDoor
set_option linter.unusedSimpArgs false
set_option linter.unusedVariables false
open Go.RowKit

def ks (s : Int) (j : Nat) : Int := if j = 0 then s else if j = 1 then modZ s 20 else if j = 2 then 0 else 18
attribute [local go_sem ↓] Go.wp_at_zero Go.wp_at_succ
set_option maxHeartbeats 8000000 in
set_option maxRecDepth 100000 in
theorem makes_c (n s an asc : Int) (w : World) (env : Env w) (h1 : -9223372036854775808 ≤ n) (h2 : n ≤ 9223372036854775807) :
    Calls Tryd.prog 3 #[.int .i64 n, .int .i64 s, .agg #[.int .i64 an, .int .i64 asc]] w fun e w' => e = .returned (.bool true) ∧ Kb (fun _ => False) w w' := by
  have EN := hid env
  have HM := hid (fun k w => make_c n k w h1 h2)
  have HR := hid (fun k w => rmake_c n k w h1 h2)
  have HO := hid (fun w => of_c n w h1 h2)
  have HRO := hid (fun w => rof_c n w h1 h2)
  have HG := hid (makeD_right n)
  clear env
  go_enter Tryd.func3, Tryd.ntmps3
  go_wp2_with fail
  refine (sanity_c _ (EN.out.kb (by repeat (with_reducible first | exact Kb.refl _ _ | exact KW.out | refine Kb.setC ?_ (by assumption) | apply Kb.drew | apply Kb.drewN | apply Kb.grew | apply Kb.alloc)))).mono ?_; rintro e w1 ⟨rfl, k1⟩; obtain ⟨C1, m, rfl⟩ := grew_of k1; clear k1
  go_wp2_with fail
  refine (mod_c s 20 _ (by omega) (by omega)).mono ?_; rintro e w1 ⟨rfl, rfl⟩
  go_wp2_with fail
  generalize hW : World.alloc _ _ = W
  have KW := hid (show Kb (fun _ => False) w W by subst hW; exact (by repeat (with_reducible first | exact Kb.refl _ _ | exact KW.out | refine Kb.setC ?_ (by assumption) | apply Kb.drew | apply Kb.drewN | apply Kb.grew | apply Kb.alloc)))
  have hc := hid (show ∀ j, j < 4 → W.cell? ⟨gsz w C1 1, j, none⟩ = some (.int .i64 (ks s j)) by
    intro j hj
    subst hW
    obtain rfl | rfl | rfl | rfl : j = 0 ∨ j = 1 ∨ j = 2 ∨ j = 3 := by omega
    all_goals simp [go_sem, ks])
  have a0 : W.cell? ⟨w.heap.size, 0, none⟩ = some (.int .i64 an) := by subst hW; simp [go_sem]
  have a1 : W.cell? ⟨w.heap.size, 1, none⟩ = some (.int .i64 asc) := by subst hW; simp [go_sem]
  have l0 : w.heap.size < W.heap.size := by subst hW; simp [go_sem]
  have l1 : gsz w C1 1 < W.heap.size := by subst hW; simp [go_sem]
  clear hW
  generalize gsz w C1 1 = bs at *
  have A0 := hid a0
  have A1 := hid a1
  clear a0 a1
  go_loopw [24] (fun iv wr => ∃ i : Nat, iv = .int .i64 i ∧ i ≤ 4 ∧ Hid (Kb (fun _ => False) w wr) ∧ Hid (bs < wr.heap.size) ∧ Hid (w.heap.size < wr.heap.size) ∧ Hid (∀ j, j < 4 → wr.cell? ⟨bs, j, none⟩ = some (.int .i64 (ks s j))) ∧ Hid (wr.cell? ⟨w.heap.size, 0, none⟩ = some (.int .i64 an)) ∧ Hid (wr.cell? ⟨w.heap.size, 1, none⟩ = some (.int .i64 asc))) (fun iv _ => 4 - (intOf iv).toNat)
  case atStart => exact ⟨0, rfl, by omega, KW, l1, l0, hc, A0, A1⟩
  case round =>
    obtain ⟨i, rfl, hi, KW, l1, l0, hc, a0, a1⟩ := hrel
    clear A0 A1
    by_cases hlt : i < 4
    · have c0 := hc.out i hlt
      have l1' := l1.out
      have l0' := l0.out
      have hr := makeD_right n (ks s i)
      have HRT := hid (fun w => right_is _ _ true w hr)
      clear hr
      cases hok : (makeD n (ks s i)).ok
      · go_wp2_with fail
        refine (HM.out _ _).mono ?_; rintro e w1 ⟨rfl, k1⟩; obtain ⟨D1, m, rfl⟩ := grew_of k1; clear k1
        go_wp2_with fail
        refine (HR.out _ _).mono ?_; rintro e w1 ⟨rfl, k1⟩; obtain ⟨D2, m, rfl⟩ := grew_of k1; clear k1
        go_wp2_with fail
        generalize hW : World.alloc _ _ = W'
        have k : Kb (fun _ => False) wr W' := by subst hW; exact (by repeat (with_reducible first | exact Kb.refl _ _ | exact KW.out | refine Kb.setC ?_ (by assumption) | apply Kb.drew | apply Kb.drewN | apply Kb.grew | apply Kb.alloc))
        exact ⟨⟨i + 1, by go_num, by omega, KW.out.trans k, Nat.lt_of_lt_of_le l1.out k.size, Nat.lt_of_lt_of_le l0.out k.size, fun j hj => k.cell (hc.out j hj) (by simp), k.cell a0.out (by simp), k.cell a1.out (by simp)⟩, by simp [intOf]; omega⟩
      · go_wp2_with fail
        refine (HM.out _ _).mono ?_; rintro e w1 ⟨rfl, k1⟩; obtain ⟨D1, m, rfl⟩ := grew_of k1; clear k1
        go_wp2_with fail
        refine (HR.out _ _).mono ?_; rintro e w1 ⟨rfl, k1⟩; obtain ⟨D2, m, rfl⟩ := grew_of k1; clear k1
        go_wp2_with fail
        refine (HRT.out _).mono ?_; rintro e w1 ⟨rfl, k1⟩; obtain ⟨D3, m, rfl⟩ := grew_of k1; clear k1
        go_wp2_with fail
        generalize hW : grew _ _ _ = W'
        have k : Kb (fun _ => False) wr W' := by subst hW; exact (by repeat (with_reducible first | exact Kb.refl _ _ | exact KW.out | refine Kb.setC ?_ (by assumption) | apply Kb.drew | apply Kb.drewN | apply Kb.grew | apply Kb.alloc))
        exact ⟨⟨i + 1, by go_num, by omega, KW.out.trans k, Nat.lt_of_lt_of_le l1.out k.size, Nat.lt_of_lt_of_le l0.out k.size, fun j hj => k.cell (hc.out j hj) (by simp), k.cell a0.out (by simp), k.cell a1.out (by simp)⟩, by simp [intOf]; omega⟩
    · have l0' := l0.out
      have HRA := hid (fun w => right_any an asc w)
      have HRB := hid (fun w => rright_any an asc w)
      have a0' := a0.out
      have a1' := a1.out
      go_wp2_with fail
      refine (HO.out _).mono ?_; rintro e w1 ⟨rfl, k1⟩; obtain ⟨D1, m, rfl⟩ := grew_of k1; clear k1
      go_wp2_with fail
      refine (HRO.out _).mono ?_; rintro e w1 ⟨rfl, k1⟩; obtain ⟨D2, m, rfl⟩ := grew_of k1; clear k1
      go_wp2_with fail
      go_region_held3 (fun w' => w'.cell? ⟨w.heap.size, 0, none⟩ = some (.int .i64 an) ∧ w'.cell? ⟨w.heap.size, 1, none⟩ = some (.int .i64 asc) ∧ w'.cell? ⟨gsz wr D1 0, 0, none⟩ = some (.int .i64 (makeD n 0).n) ∧ w'.cell? ⟨gsz wr D1 0, 1, none⟩ = some (.int .i64 (makeD n 0).s) ∧ w'.cell? ⟨gsz wr (D1 ++ D2) 1, 0, none⟩ = some (.int .i64 (makeD n 0).n) ∧ w'.cell? ⟨gsz wr (D1 ++ D2) 1, 1, none⟩ = some (.int .i64 (makeD n 0).s)) ((simp [go_sem, a0', a1', l0']; done)) (first
        | (go_at_call 11; refine (HRA.out _).mono ?_; rintro e w1 ⟨rfl, k1⟩; obtain ⟨C, m, rfl⟩ := grew_of k1; clear k1)
        | (go_at_call 14; refine (HRB.out _).mono ?_; rintro e w1 ⟨rfl, k1⟩; obtain ⟨C, m, rfl⟩ := grew_of k1; clear k1))
      all_goals
        go_wp2_with fail
        go_ret
        exact ⟨by simp, (by repeat (with_reducible first | exact Kb.refl _ _ | exact KW.out | refine Kb.setC ?_ (by assumption) | apply Kb.drew | apply Kb.drewN | apply Kb.grew | apply Kb.alloc))⟩
end Go.Proofs.YtkhjgfbiemllmaaDoor
