/- The walk of Sub. -/
import Derived.Test.YtkhjgfbiemllmaaDoorLi
namespace Go.Proofs.YtkhjgfbiemllmaaDoor
open Go.RowKit

theorem dadd_is (n1 s1 n2 s2 : Int) (x y : Int) (ok : Bool) (w : World) (env : Env w) (h : fitV (decide (unitZ n1 s1 + unitZ n2 s2 < 0)) (unitZ n1 s1 + unitZ n2 s2).natAbs 6 = .tuple #[.agg #[.int .i64 x, .int .i64 y], .bool ok]) :
    Calls Tryd.prog 17 #[.agg #[.int .i64 n1, .int .i64 s1], .agg #[.int .i64 n2, .int .i64 s2]] w fun e w' => e = .returned (.tuple #[.agg #[.int .i64 x, .int .i64 y], .bool ok]) ∧ Kb (fun _ => False) w w' := by
  rw [← h]
  exact dadd_any n1 s1 n2 s2 w env
set_option maxHeartbeats 2000000 in
theorem dsub_core (n1 s1 n2 s2 x2 m2 : Int) (k2 : Nat) (x y : Int) (ok : Bool) (w : World) (env : Env w) (h2 : knownV n2 s2 = .agg #[.int .i64 x2, .int .i64 k2]) (hx : x2.natAbs ≤ 1000000000000000) (hm : -x2 = m2)
    (hv : fitV (decide (unitZ n1 s1 + unitZ m2 k2 < 0)) (unitZ n1 s1 + unitZ m2 k2).natAbs 6 = .tuple #[.agg #[.int .i64 x, .int .i64 y], .bool ok]) :
    Calls Tryd.prog 23 #[.agg #[.int .i64 n1, .int .i64 s1], .agg #[.int .i64 n2, .int .i64 s2]] w fun e w' => e = .returned (.tuple #[.agg #[.int .i64 x, .int .i64 y], .bool ok]) ∧ Kb (fun _ => False) w w' := by
  have e1 : IntKind.i64.wrap (-x2) = m2 := by rw [← hm]; exact IntWalk.i64_in _ (by omega)
  have E1 := hid e1
  have H2 := hid h2
  have HV := hid hv
  have EN := hid env
  clear h2 hv hm env hx e1
  go_enter Tryd.func23, Tryd.ntmps23
  go_wp2_with fail
  generalize hW : World.alloc _ _ = W
  have kW : Kb (fun _ => False) w W := by subst hW; exact (((Kb.refl _ _).alloc _).alloc _).alloc _
  have aW : W.heap[w.heap.size]? = some (.cells #[.int .i64 n1, .int .i64 s1] 23 (0, 0)) := by
    subst hW
    rw [Below.heap_alloc _ _ _ (by simp; omega), Below.heap_alloc _ _ _ (by simp)]
    exact heap_alloc_new w _
  have bW : W.heap[w.heap.size + 1]? = some (.cells #[.int .i64 n2, .int .i64 s2] 23 (0, 0)) := by
    subst hW
    rw [Below.heap_alloc _ _ _ (by simp)]
    have h := heap_alloc_new (w.alloc (.cells #[.int .i64 n1, .int .i64 s1] 23)) (.cells #[.int .i64 n2, .int .i64 s2] 23)
    simpa using h
  have rW : W.heap[w.heap.size + 2]? = some (.cells #[.int .i64 0, .int .i64 0] 23 (0, 0)) := by
    subst hW
    have h := heap_alloc_new ((w.alloc (.cells #[.int .i64 n1, .int .i64 s1] 23)).alloc (.cells #[.int .i64 n2, .int .i64 s2] 23)) (.cells #[.int .i64 0, .int .i64 0] 23)
    simpa using h
  obtain ⟨tb, htb⟩ : ∃ tb, tb = w.heap.size := ⟨_, rfl⟩
  have HTB := hid htb
  rw [← htb]
  rw [← htb] at aW bW rW
  have K := hid kW
  have a0 := cell_of_heap aW 0
  have a1 := cell_of_heap aW 1
  have fa0 := frozen_of_heap aW 0
  have fa1 := frozen_of_heap aW 1
  have b0 := cell_of_heap bW 0
  have b1 := cell_of_heap bW 1
  have fb0 := frozen_of_heap bW 0
  have fb1 := frozen_of_heap bW 1
  have r0 := cell_of_heap rW 0
  have r1 := cell_of_heap rW 1
  have fr0 := frozen_of_heap rW 0
  have fr1 := frozen_of_heap rW 1
  have hla := block_lt aW
  have hlb := block_lt bW
  have hlr := block_lt rW
  simp only [List.getElem?_toArray, List.getElem?_cons_succ, List.getElem?_cons_zero] at a0 a1 b0 b1 r0 r1
  have HA := hid aW
  have HB := hid bW
  have HR := hid rW
  clear hW htb kW aW bW rW
  clear HA HB HR
  refine (known_is n2 s2 x2 k2 _ H2.out).mono ?_
  rintro e w1 ⟨rfl, kq⟩
  have a0 := kq.cell a0 (by simp)
  have a1 := kq.cell a1 (by simp)
  have b0 := kq.cell b0 (by simp)
  have b1 := kq.cell b1 (by simp)
  have r0 := kq.cell r0 (by simp)
  have r1 := kq.cell r1 (by simp)
  have fb0 := (kq.frozen (p := ⟨tb + 1, 0, none⟩) hlb (by simp)).trans fb0
  have fb1 := (kq.frozen (p := ⟨tb + 1, 1, none⟩) hlb (by simp)).trans fb1
  have fr0 := (kq.frozen (p := ⟨tb + 2, 0, none⟩) hlr (by simp)).trans fr0
  have fr1 := (kq.frozen (p := ⟨tb + 2, 1, none⟩) hlr (by simp)).trans fr1
  have hla := Nat.lt_of_lt_of_le hla kq.size
  have hlb := Nat.lt_of_lt_of_le hlb kq.size
  have hlr := Nat.lt_of_lt_of_le hlr kq.size
  have K := hid (K.out.trans kq)
  have e1 := E1.out
  go_wp2_with fail
  clear e1
  generalize hW3 : World.setCell _ _ _ = W3
  have k3 : Kb (fun x => x = tb + 1) w1 W3 := by
    subst hW3
    exact Kb.setCell (S := fun x => x = tb + 1) (Kb.setCell (S := fun x => x = tb + 1) (Kb.setCell (S := fun x => x = tb + 1) (Kb.refl _ _) (Or.inl rfl) _) (Or.inl rfl) _) (Or.inl rfl) _
  have K3 := hid (K.out.trans' k3 (fun i hi e => by have := HTB.out; omega))
  have r0 := k3.cell r0 (by simp)
  have r1 := k3.cell r1 (by simp)
  have fr0 := (k3.frozen (p := ⟨tb + 2, 0, none⟩) hlr (by simp)).trans fr0
  have fr1 := (k3.frozen (p := ⟨tb + 2, 1, none⟩) hlr (by simp)).trans fr1
  have hlr := Nat.lt_of_lt_of_le hlr k3.size
  clear hW3 k3 K a0 a1 b0 b1 fa0 fa1 fb0 fb1 hla hlb
  refine (dadd_is n1 s1 m2 k2 x y ok W3 (Env.kb EN.out K3.out) HV.out).mono ?_
  rintro e w' ⟨rfl, kq⟩
  have r0 := kq.cell r0 (by simp)
  have r1 := kq.cell r1 (by simp)
  have fr0 := (kq.frozen (p := ⟨tb + 2, 0, none⟩) hlr (by simp)).trans fr0
  have fr1 := (kq.frozen (p := ⟨tb + 2, 1, none⟩) hlr (by simp)).trans fr1
  have hlr := Nat.lt_of_lt_of_le hlr kq.size
  have K4 := hid (K3.out.trans kq)
  clear kq K3
  go_wp2_with fail
  refine bodyPost_ret (v := .tuple #[.agg #[.int .i64 x, .int .i64 y], .bool ok]) (by simp [results, Tryd.results23, go_sem, r0, r1]) rfl ⟨rfl, ?_⟩
  exact set2_kb K4.out _ _ (by have := HTB.out; omega)
theorem known_nat (n s : Int) : ∃ (x : Int) (k : Nat), knownV n s = .agg #[.int .i64 x, .int .i64 k] ∧ x.natAbs ≤ 1000000000000000 ∧ k ≤ 6 ∧ unitZ n s = x * ((10 ^ (6 - k) : Nat) : Int) ∧ unitZ (-x) k = -(unitZ n s) := by
  cases hr : rightB n s
  · refine ⟨0, 0, by unfold knownV; rw [hr]; rfl, by simp, by omega, ?_, ?_⟩
    · unfold unitZ; rw [hr]; simp
    · have h1 : unitZ n s = 0 := by unfold unitZ; rw [hr]; rfl
      rw [h1]
      unfold unitZ
      split
      · simp
      · rfl
  · have hb := hr
    unfold rightB at hb
    rw [decide_eq_true_eq] at hb
    have hs : ((s.toNat : Nat) : Int) = s := by omega
    have hu : unitZ n s = n * ((10 ^ (6 - s.toNat) : Nat) : Int) := by unfold unitZ; rw [hr]; rfl
    have hr2 : rightB (-n) s = true := by
      unfold rightB
      rw [decide_eq_true_eq, Int.neg_tmod]
      omega
    refine ⟨n, s.toNat, by unfold knownV; rw [hr, hs]; rfl, by omega, by omega, hu, ?_⟩
    rw [hu, hs]
    unfold unitZ
    rw [hr2]
    simp only [if_true]
    rw [Int.neg_mul]
theorem dsub_any (n1 s1 n2 s2 : Int) (w : World) (env : Env w) :
    Calls Tryd.prog 23 #[.agg #[.int .i64 n1, .int .i64 s1], .agg #[.int .i64 n2, .int .i64 s2]] w fun e w' => e = .returned (fitV (decide (unitZ n1 s1 - unitZ n2 s2 < 0)) (unitZ n1 s1 - unitZ n2 s2).natAbs 6) ∧ Kb (fun _ => False) w w' := by
  obtain ⟨x2, k2, h1, h2, h3, h4, h5⟩ := known_nat n2 s2
  obtain ⟨x, y, ok, hv⟩ := fitV_form (decide (unitZ n1 s1 + unitZ (-x2) k2 < 0)) (unitZ n1 s1 + unitZ (-x2) k2).natAbs 6
  have h := dsub_core n1 s1 n2 s2 x2 (-x2) k2 x y ok w env h1 h2 rfl hv
  rw [← hv, h5, ← Int.sub_eq_add_neg] at h
  exact h
end Go.Proofs.YtkhjgfbiemllmaaDoor
