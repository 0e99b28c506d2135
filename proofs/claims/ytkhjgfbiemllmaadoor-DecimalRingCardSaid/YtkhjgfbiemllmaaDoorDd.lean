/- The walks of the reference's Mod, Make, Of and Made. -/
import Derived.Test.YtkhjgfbiemllmaaDoorDc
namespace Go.Proofs.YtkhjgfbiemllmaaDoor
open Go.RowKit

theorem mod_mod (n m : Int) (hm : 0 < m) : (n.tmod m + m).tmod m = n % m := by
  have h1 := Int.lt_tmod_of_pos n hm
  rw [Int.tmod_eq_emod_of_nonneg (by omega), Int.add_emod_right, Int.tmod_def, Int.sub_mul_emod_self_left]
set_option maxHeartbeats 1000000 in
theorem mod_any (n m : Int) (w : World) (hm : 0 < m) (hm2 : m ≤ 1000) :
    Calls Tryd.prog 8 #[.int .i64 n, .int .i64 m] w fun e w' => e = .returned (.int .i64 (n % m)) ∧ w' = w := by
  have h1 := Int.lt_tmod_of_pos n hm
  have h2 := Int.tmod_lt_of_pos n hm
  have h0 : (m == 0) = false := by rw [beq_eq_false_iff_ne]; omega
  have HR := hid (mod_mod n m hm)
  have e1 : IntKind.i64.wrap (n.tmod m) = n.tmod m := IntWalk.i64_in _ (by omega)
  go_enter Tryd.func8, Tryd.ntmps8
  go_wp2_with fail
  go_ret
  refine ⟨?_, rfl⟩
  rw [← HR.out]
  have h3 : 0 ≤ n.tmod m + m := by omega
  first
    | rfl
    | (rw [Int.tmod_eq_emod_of_nonneg h3]; rfl)
set_option maxHeartbeats 1000000 in
theorem rmake_out (n s : Int) (w : World) (h : s < 0 ∨ 18 < s) :
    Calls Tryd.prog 10 #[.int .i64 n, .int .i64 s] w fun e w' => e = .returned noDec ∧ Kb (fun _ => False) w w' := by
  rcases h with h | h
  · go_enter Tryd.func10, Tryd.ntmps10
    go_wp2_with fail
    exact bodyPost_ret (v := noDec) (by simp [results, Tryd.results10, go_sem, noDec]) rfl ⟨rfl, (Kb.refl _ _).alloc _⟩
  · have h' : ¬ s < 0 := by omega
    go_enter Tryd.func10, Tryd.ntmps10
    go_wp2_with fail
    exact bodyPost_ret (v := noDec) (by simp [results, Tryd.results10, go_sem, noDec]) rfl ⟨rfl, (Kb.refl _ _).alloc _⟩
theorem fitV_form (neg : Bool) (N s : Nat) : ∃ x y : Int, ∃ b : Bool, fitV neg N s = .tuple #[.agg #[.int .i64 x, .int .i64 y], .bool b] := by
  unfold fitV
  split
  · exact ⟨_, _, _, rfl⟩
  · exact ⟨_, _, _, rfl⟩
theorem fit_is (neg : Bool) (N s : Nat) (v : Value) (w : World) (hs : s ≤ 1000000) (hN : (natS N).size ≤ 1000000) (hv : fitV neg N s = v) :
    Calls Tryd.prog 26 #[.agg #[.bool neg, .string (natS N), .int .i64 s]] w fun e w' => e = .returned v ∧ Kb (fun _ => False) w w' := by
  subst hv
  exact fit_any neg N s w hs hN
set_option maxHeartbeats 1000000 in
theorem rmake_in (n : Int) (s : Nat) (w : World) (h1 : -9223372036854775808 ≤ n) (h2 : n ≤ 9223372036854775807) (hs : s ≤ 18) :
    Calls Tryd.prog 10 #[.int .i64 n, .int .i64 s] w fun e w' => e = .returned (fitV (decide (n < 0)) n.natAbs s) ∧ Kb (fun _ => False) w w' := by
  obtain ⟨x, y, b, hv⟩ := fitV_form (decide (n < 0)) n.natAbs s
  rw [hv]
  have HV := hid hv
  have hsz : (natS n.natAbs).size ≤ 1000000 := Nat.le_trans (natS_small _ (by omega)) (by omega)
  have HSZ := hid hsz
  clear hv hsz
  go_enter Tryd.func10, Tryd.ntmps10
  go_wp2_with fail
  generalize hW : World.alloc _ _ = W
  have kW : Kb (fun _ => False) w W := by subst hW; exact (Kb.refl _ _).alloc _
  have rW : W.heap[w.heap.size]? = some (.cells #[.int .i64 0, .int .i64 0] 23 (0, 0)) := by subst hW; exact heap_alloc_new w _
  clear hW
  refine (natural_any n W h1 h2).mono ?_
  rintro e w1 ⟨rfl, k1⟩
  go_wp2_with fail
  refine (fit_is (decide (n < 0)) n.natAbs s _ w1 (by omega) HSZ.out HV.out).mono ?_
  rintro e w2 ⟨rfl, k2⟩
  have R1 := (k1.trans k2).heap rW (by simp)
  have r0 := cell_of_heap R1 0
  have r1 := cell_of_heap R1 1
  have q0 := frozen_of_heap R1 0
  have q1 := frozen_of_heap R1 1
  have hbl := block_lt R1
  simp only [List.getElem?_toArray, List.getElem?_cons_succ, List.getElem?_cons_zero] at r0 r1
  have K2 := hid ((kW.trans k1).trans k2)
  clear kW rW k1 k2 R1
  go_wp2_with fail
  refine bodyPost_ret (v := .tuple #[.agg #[.int .i64 x, .int .i64 y], .bool b]) (by simp [results, Tryd.results10, go_sem, r0, r1]) rfl ⟨rfl, ?_⟩
  exact Kb.setCell (Kb.setCell K2.out (Or.inr (Nat.le_refl _)) _) (Or.inr (Nat.le_refl _)) _
end Go.Proofs.YtkhjgfbiemllmaaDoor
