/- The walks of Of, Mul, Add64, Sub64, plus of the same sign. -/
import Derived.Test.YtkhjgfbiemllmaaDoorLd
import Derived.Shelf.Spec.BitsCarry
namespace Go.Proofs.YtkhjgfbiemllmaaDoor
open Go.RowKit

theorem dmake_is (n s : Int) (k : Nat) (x y : Int) (b : Bool) (w : World) (hs : s = k) (h1 : -9223372036854775808 ≤ n) (h2 : n ≤ 9223372036854775807) (hk : k ≤ 18) (h : fitV (decide (n < 0)) n.natAbs k = .tuple #[.agg #[.int .i64 x, .int .i64 y], .bool b]) :
    Calls Tryd.prog 9 #[.int .i64 n, .int .i64 s] w fun e w' => e = .returned (.tuple #[.agg #[.int .i64 x, .int .i64 y], .bool b]) ∧ Kb (fun _ => False) w w' := by
  subst hs
  rw [← h]
  exact dmake_in n k w h1 h2 hk
theorem wide_small_is (neg : Bool) (hi lo P : Nat) (s : Int) (k : Nat) (x y : Int) (b : Bool) (w : World) (hhi : hi < 18446744073709551616) (hlo : lo < 18446744073709551616) (hs : s = k) (hk : k ≤ 1000) (hP : hi * 18446744073709551616 + lo = P)
    (h : fitV neg P k = .tuple #[.agg #[.int .i64 x, .int .i64 y], .bool b]) :
    Calls Tryd.prog 32 #[.agg #[.bool neg, .int .u64 hi, .int .u64 lo], .int .i64 s] w fun e w' => e = .returned (.tuple #[.agg #[.int .i64 x, .int .i64 y], .bool b]) ∧ Kb (fun _ => False) w w' := by
  subst hs
  rw [← h]
  exact wide_small neg hi lo k P w hhi hlo hk hP
set_option maxHeartbeats 1000000 in
theorem dof_any (n : Int) (w : World) (h1 : -9223372036854775808 ≤ n) (h2 : n ≤ 9223372036854775807) :
    Calls Tryd.prog 12 #[.int .i64 n] w fun e w' => e = .returned (fitV (decide (n < 0)) n.natAbs 0) ∧ Kb (fun _ => False) w w' := by
  obtain ⟨x, y, b, hv⟩ := fitV_form (decide (n < 0)) n.natAbs 0
  rw [hv]
  have HV := hid hv
  clear hv
  go_enter Tryd.func12, Tryd.ntmps12
  go_wp2_with fail
  generalize hW : World.alloc _ _ = W
  have kW : Kb (fun _ => False) w W := by subst hW; exact (Kb.refl _ _).alloc _
  have rW : W.heap[w.heap.size]? = some (.cells #[.int .i64 0, .int .i64 0] 23 (0, 0)) := by subst hW; exact heap_alloc_new w _
  refine (dmake_is n 0 0 x y b W rfl h1 h2 (by omega) HV.out).mono ?_
  rintro e w1 ⟨rfl, k1⟩
  have R1 := k1.heap rW (by simp)
  have r0 := cell_of_heap R1 0
  have r1 := cell_of_heap R1 1
  have q0 := frozen_of_heap R1 0
  have q1 := frozen_of_heap R1 1
  have hbl := block_lt R1
  simp only [List.getElem?_toArray, List.getElem?_cons_succ, List.getElem?_cons_zero] at r0 r1
  have K1 := hid (kW.trans k1)
  clear hW kW rW k1 R1
  go_wp2_with fail
  refine bodyPost_ret (v := .tuple #[.agg #[.int .i64 x, .int .i64 y], .bool b]) (by simp [results, Tryd.results12, go_sem, r0, r1]) rfl ⟨rfl, ?_⟩
  exact Kb.setCell (Kb.setCell K1.out (Or.inr (Nat.le_refl _)) _) (Or.inr (Nat.le_refl _)) _
theorem run_Add64 (x y c : Nat) (hx : x < 18446744073709551616) (hy : y < 18446744073709551616) (hc : c ≤ 1) (w : World) :
    (callFunc 43 #[.int .u64 x, .int .u64 y, .int .u64 c]).run Tryd.prog w =
      .ok (.value (.tuple #[.int .u64 (((x + y + c) % 18446744073709551616 : Nat) : Int), .int .u64 (((x + y + c) / 18446744073709551616 : Nat) : Int)])) w := by
  rw [run_callFunc_extern Tryd.func43 (by kernel_rfl) (by kernel_rfl) (by kernel_rfl) (e := add64Entry) (by kernel_rfl), run_add64 x y c (by omega) (by omega) (by omega) (by omega)]
  simp only [Result.andThen]
  congr 5 <;> omega
theorem run_Sub64 (x y c : Nat) (hc : c ≤ 1) (w : World) :
    (callFunc 44 #[.int .u64 x, .int .u64 y, .int .u64 c]).run Tryd.prog w =
      .ok (.value (.tuple #[.int .u64 (((x + 18446744073709551616 - y - c) % 18446744073709551616 : Nat) : Int), .int .u64 ((if x < y + c then 1 else 0 : Nat) : Int)])) w := by
  rw [run_callFunc_extern Tryd.func44 (by kernel_rfl) (by kernel_rfl) (by kernel_rfl) (e := sub64Entry) (by kernel_rfl), run_sub64 x y c hc]
  rfl
end Go.Proofs.YtkhjgfbiemllmaaDoor
