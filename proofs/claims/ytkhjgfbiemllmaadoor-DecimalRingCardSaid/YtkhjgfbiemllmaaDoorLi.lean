/- The walk of Add. -/
import Derived.Test.YtkhjgfbiemllmaaDoorLh
namespace Go.Proofs.YtkhjgfbiemllmaaDoor
open Go.RowKit

/-- The millionths of a decimal (0, if it is not right). -/
def unitZ (n s : Int) : Int := if rightB n s then n * ((10 ^ (6 - s.toNat) : Nat) : Int) else 0
theorem unitsV_is (n s : Int) : unitsV n s = wideZ (unitZ n s) := by
  unfold unitsV unitZ wideZ
  cases rightB n s
  · rfl
  · have hp : (0 : Int) < ((10 ^ (6 - s.toNat) : Nat) : Int) := by
      have := Nat.pow_pos (n := 6 - s.toNat) (show 0 < 10 by omega)
      omega
    simp only [if_true]
    rw [Int.natAbs_mul, Int.natAbs_natCast]
    congr 1
    apply decide_eq_decide.2
    constructor
    · intro h; exact Int.mul_neg_of_neg_of_pos h hp
    · intro h
      apply Classical.byContradiction
      intro h2
      have := Int.mul_nonneg (show 0 ≤ n by omega) (Int.le_of_lt hp)
      omega
theorem unitZ_le (n s : Int) : (unitZ n s).natAbs ≤ 1000000000000000 * 1000000 := by
  unfold unitZ
  cases hr : rightB n s
  · simp
  · unfold rightB at hr
    simp only [decide_eq_true_eq] at hr
    simp only [if_true]
    rw [Int.natAbs_mul, Int.natAbs_natCast]
    refine Nat.mul_le_mul (by omega) ?_
    have : 10 ^ (6 - s.toNat) ≤ 10 ^ 6 := Nat.pow_le_pow_right (by omega) (by omega)
    exact this
theorem plus_u (n1 s1 n2 s2 : Int) (w : World) :
    Calls Tryd.prog 31 #[unitsV n1 s1, unitsV n2 s2] w fun e w' => e = .returned (wideZ (unitZ n1 s1 + unitZ n2 s2)) ∧ Kb (fun _ => False) w w' := by
  rw [unitsV_is, unitsV_is]
  have h1 := unitZ_le n1 s1
  have h2 := unitZ_le n2 s2
  have e : 1000000000000000 * 1000000 = 1000000000000000000000 := by decide
  rw [e] at h1 h2
  refine plus_any _ _ w (Nat.div_lt_of_lt_mul (Nat.lt_of_le_of_lt h1 (by decide))) (Nat.div_lt_of_lt_mul (Nat.lt_of_le_of_lt h2 (by decide))) (Nat.div_lt_of_lt_mul (Nat.lt_of_le_of_lt (Nat.add_le_add h1 h2) (by decide)))
theorem small_u (z : Int) (P : Nat) (s : Int) (k : Nat) (x y : Int) (b : Bool) (w : World) (hP : z.natAbs = P) (hb : P / 18446744073709551616 < 18446744073709551616) (hs : s = k) (hk : k ≤ 1000) (h : fitV (decide (z < 0)) z.natAbs k = .tuple #[.agg #[.int .i64 x, .int .i64 y], .bool b]) :
    Calls Tryd.prog 32 #[wideZ z, .int .i64 s] w fun e w' => e = .returned (.tuple #[.agg #[.int .i64 x, .int .i64 y], .bool b]) ∧ Kb (fun _ => False) w w' := by
  subst hP
  unfold wideZ wideV
  exact wide_small_is _ _ _ z.natAbs s k x y b w hb (Nat.mod_lt _ (by decide)) hs hk (Nat.div_add_mod' _ _) h
attribute [local go_sem ↓] Go.wp_at_zero Go.wp_at_succ
set_option maxHeartbeats 4000000 in
set_option maxRecDepth 100000 in
theorem dadd_any (n1 s1 n2 s2 : Int) (w : World) (env : Env w) :
    Calls Tryd.prog 17 #[.agg #[.int .i64 n1, .int .i64 s1], .agg #[.int .i64 n2, .int .i64 s2]] w fun e w' => e = .returned (fitV (decide (unitZ n1 s1 + unitZ n2 s2 < 0)) (unitZ n1 s1 + unitZ n2 s2).natAbs 6) ∧ Kb (fun _ => False) w w' := by
  obtain ⟨x, y, ok, hv⟩ := fitV_form (decide (unitZ n1 s1 + unitZ n2 s2 < 0)) (unitZ n1 s1 + unitZ n2 s2).natAbs 6
  rw [hv]
  have hb : (unitZ n1 s1 + unitZ n2 s2).natAbs / 18446744073709551616 < 18446744073709551616 := by
    have h1 := unitZ_le n1 s1
    have h2 := unitZ_le n2 s2
    have h3 := Nat.le_trans (Int.natAbs_add_le (unitZ n1 s1) (unitZ n2 s2)) (Nat.add_le_add h1 h2)
    exact Nat.div_lt_of_lt_mul (Nat.lt_of_le_of_lt h3 (by decide))
  have HV := hid hv
  have HBB := hid hb
  have EN := hid env
  clear hv hb env
  go_enter Tryd.func17, Tryd.ntmps17
  go_wp2_with fail
  generalize hW : World.alloc _ _ = W
  have kW : Kb (fun _ => False) w W := by subst hW; exact (((Kb.refl _ _).alloc _).alloc _).alloc _
  have aW : W.heap[w.heap.size]? = some (.cells #[.int .i64 n1, .int .i64 s1] 23 (0, 0)) := by
    subst hW
    rw [Below.heap_alloc _ _ _ (by simp; omega), Below.heap_alloc _ _ _ (by simp)]
    exact heap_alloc_new w _
  have bW : W.heap[w.heap.size + 1]? = some (.cells #[.int .i64 n2, .int .i64 s2] 23 (0, 0)) := by
    subst hW
    rw [Below.heap_alloc _ _ _ (by simp)]
    have h := heap_alloc_new (w.alloc (.cells #[.int .i64 n1, .int .i64 s1] 23)) (.cells #[.int .i64 n2, .int .i64 s2] 23)
    simpa using h
  have rW : W.heap[w.heap.size + 2]? = some (.cells #[.int .i64 0, .int .i64 0] 23 (0, 0)) := by
    subst hW
    have h := heap_alloc_new ((w.alloc (.cells #[.int .i64 n1, .int .i64 s1] 23)).alloc (.cells #[.int .i64 n2, .int .i64 s2] 23)) (.cells #[.int .i64 0, .int .i64 0] 23)
    simpa using h
  obtain ⟨tb, htb⟩ : ∃ tb, tb = w.heap.size := ⟨_, rfl⟩
  have HTB := hid htb
  rw [← htb]
  rw [← htb] at aW bW rW
  have K := hid kW
  have a0 := cell_of_heap aW 0
  have a1 := cell_of_heap aW 1
  have fa0 := frozen_of_heap aW 0
  have fa1 := frozen_of_heap aW 1
  have b0 := cell_of_heap bW 0
  have b1 := cell_of_heap bW 1
  have fb0 := frozen_of_heap bW 0
  have fb1 := frozen_of_heap bW 1
  have r0 := cell_of_heap rW 0
  have r1 := cell_of_heap rW 1
  have fr0 := frozen_of_heap rW 0
  have fr1 := frozen_of_heap rW 1
  have hla := block_lt aW
  have hlb := block_lt bW
  have hlr := block_lt rW
  simp only [List.getElem?_toArray, List.getElem?_cons_succ, List.getElem?_cons_zero] at a0 a1 b0 b1 r0 r1
  have HA := hid aW
  have HB := hid bW
  have HR := hid rW
  clear hW htb kW aW bW rW
  clear HA HB HR fa0 fa1 fb0 fb1
  go_wp2_with fail
  go_region_with (first
      | (go_at_call 28; refine (units_any _ _ _ (Env.kb EN.out (by first | exact K.out | exact Kb.drew K.out))).mono ?_; rintro e w' ⟨rfl, kq⟩; have a0 := kq.cell a0 (by simp); have a1 := kq.cell a1 (by simp); have b0 := kq.cell b0 (by simp); have b1 := kq.cell b1 (by simp); have r0 := kq.cell r0 (by simp); have r1 := kq.cell r1 (by simp); have fr0 := (kq.frozen (p := ⟨tb + 2, 0, none⟩) hlr (by simp)).trans fr0; have fr1 := (kq.frozen (p := ⟨tb + 2, 1, none⟩) hlr (by simp)).trans fr1; have hlr := Nat.lt_of_lt_of_le hlr kq.size; (first | (have K := hid (K.out.trans kq)) | (have K := hid (K.out.trans (Kb.of_draw kq)))))
      | (go_at_call 31; refine (plus_u n1 s1 n2 s2 _).mono ?_; rintro e w' ⟨rfl, kq⟩; have a0 := kq.cell a0 (by simp); have a1 := kq.cell a1 (by simp); have b0 := kq.cell b0 (by simp); have b1 := kq.cell b1 (by simp); have r0 := kq.cell r0 (by simp); have r1 := kq.cell r1 (by simp); have fr0 := (kq.frozen (p := ⟨tb + 2, 0, none⟩) hlr (by simp)).trans fr0; have fr1 := (kq.frozen (p := ⟨tb + 2, 1, none⟩) hlr (by simp)).trans fr1; have hlr := Nat.lt_of_lt_of_le hlr kq.size; (first | (have K := hid (K.out.trans kq)) | (have K := hid (K.out.trans (Kb.of_draw kq)))))
      | (go_at_call 32; refine (small_u (unitZ n1 s1 + unitZ n2 s2) _ _ 6 x y ok _ rfl HBB.out (by first | rfl | omega) (by omega) HV.out).mono ?_; rintro e w' ⟨rfl, kq⟩; have a0 := kq.cell a0 (by simp); have a1 := kq.cell a1 (by simp); have b0 := kq.cell b0 (by simp); have b1 := kq.cell b1 (by simp); have r0 := kq.cell r0 (by simp); have r1 := kq.cell r1 (by simp); have fr0 := (kq.frozen (p := ⟨tb + 2, 0, none⟩) hlr (by simp)).trans fr0; have fr1 := (kq.frozen (p := ⟨tb + 2, 1, none⟩) hlr (by simp)).trans fr1; have hlr := Nat.lt_of_lt_of_le hlr kq.size; (first | (have K := hid (K.out.trans kq)) | (have K := hid (K.out.trans (Kb.of_draw kq))))))
  all_goals
    go_wp2_with fail
    refine bodyPost_ret (v := .tuple #[.agg #[.int .i64 x, .int .i64 y], .bool ok]) (by simp [results, Tryd.results17, go_sem, r0, r1]) rfl ⟨rfl, ?_⟩
    have ht2 : w.heap.size ≤ tb + 2 := by have := HTB.out; omega
    first
      | exact set2_kb K.out _ _ ht2
      | exact set2_kb (Kb.drew K.out) _ _ ht2
      | exact Kb.drew (set2_kb K.out _ _ ht2)
end Go.Proofs.YtkhjgfbiemllmaaDoor
