/- The walk of plus. -/
import Derived.Test.YtkhjgfbiemllmaaDoorLf
namespace Go.Proofs.YtkhjgfbiemllmaaDoor
open Go.RowKit

theorem add_wideM (M h1 l1 h2 l2 P : Nat) (hM : 0 < M) (hP : (h1 * M + l1) + (h2 * M + l2) = P) : h1 + h2 + (l1 + l2) / M = P / M ∧ (l1 + l2) % M = P % M := by
  have e : P = (l1 + l2) + (h1 + h2) * M := by
    rw [← hP, Nat.add_mul]
    generalize h1 * M = x
    generalize h2 * M = y
    omega
  rw [e, Nat.add_mul_div_right _ _ hM, Nat.add_mul_mod_self_right]
  exact ⟨by rw [Nat.add_comm (h1 + h2)], rfl⟩
attribute [local go_sem ↓] Go.wp_at_zero Go.wp_at_succ
set_option maxHeartbeats 4000000 in
set_option maxRecDepth 100000 in
theorem plus_same (neg : Bool) (h1 l1 h2 l2 c hi lo : Nat) (w : World) (a1 : h1 < 4611686018427387904) (a2 : h2 < 4611686018427387904) (b1 : l1 < 18446744073709551616) (b2 : l2 < 18446744073709551616)
    (hc : (l1 + l2 + 0) / 18446744073709551616 = c) (hlo : (l1 + l2 + 0) % 18446744073709551616 = lo) (hhi : (h1 + h2 + c) % 18446744073709551616 = hi) :
    Calls Tryd.prog 31 #[.agg #[.bool neg, .int .u64 h1, .int .u64 l1], .agg #[.bool neg, .int .u64 h2, .int .u64 l2]] w fun e w' => e = .returned (.agg #[.bool neg, .int .u64 hi, .int .u64 lo]) ∧ Kb (fun _ => False) w w' := by
  have hc1 : c ≤ 1 := by omega
  have R1 : ∀ wx : World, (callFunc 43 #[.int .u64 l1, .int .u64 l2, .int .u64 0]).run Tryd.prog wx = .ok (.value (.tuple #[.int .u64 lo, .int .u64 c])) wx := by
    intro wx
    have h := run_Add64 l1 l2 0 b1 b2 (by omega) wx
    rw [hlo, hc] at h
    exact h
  have R2 : ∀ wx : World, (callFunc 43 #[.int .u64 h1, .int .u64 h2, .int .u64 c]).run Tryd.prog wx = .ok (.value (.tuple #[.int .u64 hi, .int .u64 (((h1 + h2 + c) / 18446744073709551616 : Nat) : Int)])) wx := by
    intro wx
    have h := run_Add64 h1 h2 c (by omega) (by omega) hc1 wx
    rw [hhi] at h
    exact h
  clear hc hlo hhi a1 a2 b1 b2 hc1
  go_enter Tryd.func31, Tryd.ntmps31
  go_wp2_with fail
  refine bodyPost_ret (v := .agg #[.bool neg, .int .u64 hi, .int .u64 lo]) (by simp [results, Tryd.results31, go_sem]) rfl ⟨rfl, ?_⟩
  exact (((Kb.refl _ _).alloc _).alloc _).alloc _
theorem set3_kb {w w' : World} {t : Nat} (k : Kb (fun _ => False) w w') (p q r : Value) (ht : w.heap.size ≤ t) : Kb (fun _ => False) w (((w'.setCell ⟨t, 0, none⟩ p).setCell ⟨t, 1, none⟩ q).setCell ⟨t, 2, none⟩ r) :=
  Kb.setCell (Kb.setCell (Kb.setCell k (Or.inr ht) _) (Or.inr ht) _) (Or.inr ht) _
theorem compare_is (x y : Nat) (z : Int) (w : World) (hx : x < 18446744073709551616) (hy : y < 18446744073709551616) (h : cmp3 x y = z) :
    Calls Tryd.prog 30 #[.int .u64 x, .int .u64 y] w fun e w' => e = .returned (.int .i64 z) ∧ w' = w := by
  rw [← h]
  exact compare_any x y w hx hy
theorem or_is (g : Nat) (x y o : Int) (w : World) (h0 : w.cell? ⟨g, 0, none⟩ = some (.int .i64 x)) (h1 : w.cell? ⟨g, 1, none⟩ = some (.int .i64 y)) (h : (if x = 0 then y else x) = o) :
    Calls Tryd.prog 29 #[.slice (some ⟨g, 0, none⟩) 2 2] w fun e w' => e = .returned (.int .i64 o) ∧ w' = w := by
  rw [← h]
  exact or_any g x y w h0 h1
set_option maxHeartbeats 4000000 in
set_option maxRecDepth 100000 in
theorem plus_diff (n1 : Bool) (h1 l1 h2 l2 c c2 hi lo : Nat) (ord : Int) (res : Bool) (w : World) (b1 : l1 < 18446744073709551616) (b2 : l2 < 18446744073709551616) (a1 : h1 < 18446744073709551616) (a2 : h2 < 18446744073709551616)
    (ho : (if cmp3 h1 h2 = 0 then cmp3 l1 l2 else cmp3 h1 h2) = ord) (ho0 : decide (ord < 0) = false)
    (hlo : (l1 + 18446744073709551616 - l2 - 0) % 18446744073709551616 = lo) (hc : (if l1 < l2 + 0 then 1 else 0) = c) (hhi : (h1 + 18446744073709551616 - h2 - c) % 18446744073709551616 = hi) (hc2 : (if h1 < h2 + c then 1 else 0) = c2)
    (hres : (n1 && decide (0 < hi ∨ 0 < lo)) = res) :
    Calls Tryd.prog 31 #[.agg #[.bool n1, .int .u64 h1, .int .u64 l1], .agg #[.bool (!n1), .int .u64 h2, .int .u64 l2]] w fun e w' => e = .returned (.agg #[.bool res, .int .u64 hi, .int .u64 lo]) ∧ Kb (fun _ => False) w w' := by
  have hc1 : c ≤ 1 := by rw [← hc]; split <;> omega
  have R1 : ∀ wx : World, (callFunc 44 #[.int .u64 l1, .int .u64 l2, .int .u64 0]).run Tryd.prog wx = .ok (.value (.tuple #[.int .u64 lo, .int .u64 c])) wx := by
    intro wx
    have h := run_Sub64 l1 l2 0 (by omega) wx
    rw [hlo, hc] at h
    exact h
  have R2 : ∀ wx : World, (callFunc 44 #[.int .u64 h1, .int .u64 h2, .int .u64 c]).run Tryd.prog wx = .ok (.value (.tuple #[.int .u64 hi, .int .u64 c2])) wx := by
    intro wx
    have h := run_Sub64 h1 h2 c hc1 wx
    rw [hhi, hc2] at h
    exact h
  have HO := hid ho
  have HRES := hid hres
  have B1 := hid b1
  have B2 := hid b2
  have A1 := hid a1
  have A2 := hid a2
  clear hc hlo hhi a1 a2 b1 b2 hc1 ho hc2 hres
  have HO0 := hid ho0
  clear ho0
  obtain ⟨n2, hn2⟩ : ∃ n2, n2 = !n1 := ⟨_, rfl⟩
  rw [← hn2]
  have hne : (n1 == n2) = false := by rw [hn2]; cases n1 <;> rfl
  clear hn2
  go_enter Tryd.func31, Tryd.ntmps31
  go_wp2_with fail
  generalize hW : World.alloc _ _ = W
  have kW : Kb (fun _ => False) w W := by subst hW; exact (((Kb.refl _ _).alloc _).alloc _).alloc _
  have aW : W.heap[w.heap.size]? = some (.cells #[.bool n1, .int .u64 h1, .int .u64 l1] 53 (0, 0)) := by
    subst hW
    rw [Below.heap_alloc _ _ _ (by simp; omega), Below.heap_alloc _ _ _ (by simp)]
    exact heap_alloc_new w _
  have bW : W.heap[w.heap.size + 1]? = some (.cells #[.bool n2, .int .u64 h2, .int .u64 l2] 53 (0, 0)) := by
    subst hW
    rw [Below.heap_alloc _ _ _ (by simp)]
    have h := heap_alloc_new (w.alloc (.cells #[.bool n1, .int .u64 h1, .int .u64 l1] 53)) (.cells #[.bool n2, .int .u64 h2, .int .u64 l2] 53)
    simpa using h
  have rW : W.heap[w.heap.size + 2]? = some (.cells #[.bool false, .int .u64 0, .int .u64 0] 53 (0, 0)) := by
    subst hW
    have h := heap_alloc_new ((w.alloc (.cells #[.bool n1, .int .u64 h1, .int .u64 l1] 53)).alloc (.cells #[.bool n2, .int .u64 h2, .int .u64 l2] 53)) (.cells #[.bool false, .int .u64 0, .int .u64 0] 53)
    simpa using h
  obtain ⟨tb, htb⟩ : ∃ tb, tb = w.heap.size := ⟨_, rfl⟩
  have HTB := hid htb
  rw [← htb]
  rw [← htb] at aW bW rW
  have K := hid kW
  have HA := hid aW
  have HB := hid bW
  have HR := hid rW
  have a0 := cell_of_heap aW 0
  have fa0 := frozen_of_heap aW 0
  have a1 := cell_of_heap aW 1
  have fa1 := frozen_of_heap aW 1
  have a2 := cell_of_heap aW 2
  have fa2 := frozen_of_heap aW 2
  have hla := block_lt aW
  have b0 := cell_of_heap bW 0
  have fb0 := frozen_of_heap bW 0
  have b1 := cell_of_heap bW 1
  have fb1 := frozen_of_heap bW 1
  have b2 := cell_of_heap bW 2
  have fb2 := frozen_of_heap bW 2
  have hlb := block_lt bW
  have r0 := cell_of_heap rW 0
  have fr0 := frozen_of_heap rW 0
  have r1 := cell_of_heap rW 1
  have fr1 := frozen_of_heap rW 1
  have r2 := cell_of_heap rW 2
  have fr2 := frozen_of_heap rW 2
  have hlr := block_lt rW
  simp only [List.getElem?_toArray, List.getElem?_cons_succ, List.getElem?_cons_zero] at a0 a1 a2 b0 b1 b2 r0 r1 r2
  clear hW htb kW aW bW rW
  have RR1 := hid R1
  have RR2 := hid R2
  clear R1 R2 a0 b0 r0 r1 r2 fa0 fa1 fa2 fb0 fb1 fb2 fr0 fr1 fr2
  go_cut [52] (fun v wx => v = .bool false ∧ Hid (wx.heap[tb]? = some (.cells #[.bool n1, .int .u64 h1, .int .u64 l1] 53 (0, 0))) ∧ Hid (wx.heap[tb + 1]? = some (.cells #[.bool n2, .int .u64 h2, .int .u64 l2] 53 (0, 0))) ∧ Hid (wx.heap[tb + 2]? = some (.cells #[.bool false, .int .u64 0, .int .u64 0] 53 (0, 0))) ∧ Hid (Kb (fun _ => False) w wx))
  case first =>
    go_region_held3 (fun w' => w'.cell? ⟨tb, 1, none⟩ = some (.int .u64 h1) ∧ w'.cell? ⟨tb, 2, none⟩ = some (.int .u64 l1) ∧ w'.cell? ⟨tb + 1, 1, none⟩ = some (.int .u64 h2) ∧ w'.cell? ⟨tb + 1, 2, none⟩ = some (.int .u64 l2)) (first | go_keep | (trace_state; fail)) (first
      | (go_at_call 30; refine (compare_any _ _ _ (by first | exact A1.out | exact B1.out) (by first | exact A2.out | exact B2.out)).mono ?_; rintro e w' ⟨rfl, rfl⟩)
      | (go_at_call 29; refine (or_is _ (cmp3 h1 h2) (cmp3 l1 l2) ord _ (by simp [go_sem]) (by simp [go_sem]) HO.out).mono ?_; rintro e w' ⟨rfl, rfl⟩; have ho0 := HO0.out))
    all_goals
      go_wp2_with fail
      go_meet
      refine ⟨rfl, ?_, ?_, ?_, ?_⟩
      · exact (Below.heap_alloc _ _ _ hla).trans HA.out
      · exact (Below.heap_alloc _ _ _ hlb).trans HB.out
      · exact (Below.heap_alloc _ _ _ hlr).trans HR.out
      · exact Kb.drew (K.out.alloc _)
  case rest =>
    obtain ⟨rfl, hA, hB, hR, hK⟩ := hcut
    clear HA HB HR hla hlb hlr
    have a0 := cell_of_heap hA.out 0
    have a1 := cell_of_heap hA.out 1
    have a2 := cell_of_heap hA.out 2
    have b0 := cell_of_heap hB.out 0
    have b1 := cell_of_heap hB.out 1
    have b2 := cell_of_heap hB.out 2
    have r0 := cell_of_heap hR.out 0
    have r1 := cell_of_heap hR.out 1
    have r2 := cell_of_heap hR.out 2
    have fr0 := frozen_of_heap hR.out 0
    have fr1 := frozen_of_heap hR.out 1
    have fr2 := frozen_of_heap hR.out 2
    have hlr := block_lt hR.out
    simp only [List.getElem?_toArray, List.getElem?_cons_succ, List.getElem?_cons_zero] at a0 a1 a2 b0 b1 b2 r0 r1 r2
    have K := hK
    clear hA hB hR hK
    have R1 := RR1.out
    have R2 := RR2.out
    have ht2 : w.heap.size ≤ tb + 2 := by have := HTB.out; omega
    cases n1
    · have HV := hid (show res = false from HRES.out.symm)
      clear HRES hne
      go_wp2_with fail
      refine bodyPost_ret (v := .agg #[.bool false, .int .u64 hi, .int .u64 lo]) (by simp [results, Tryd.results31, go_sem, r0, r1, r2]) rfl ⟨by rw [HV.out], ?_⟩
      exact set3_kb K.out _ _ _ ht2
    · have HV := hid (show res = decide (0 < hi ∨ 0 < lo) from by rw [← HRES.out, Bool.true_and])
      clear HRES hne
      by_cases q1 : 0 < hi
      · have p1 : decide (0 < (hi : Int)) = true := decide_eq_true (by omega)
        have HV2 := hid (show res = true from by rw [HV.out]; exact decide_eq_true (Or.inl q1))
        go_wp2_with fail
        refine bodyPost_ret (v := .agg #[.bool true, .int .u64 hi, .int .u64 lo]) (by simp [results, Tryd.results31, go_sem, r0, r1, r2]) rfl ⟨by rw [HV2.out], ?_⟩
        exact set3_kb K.out _ _ _ ht2
      · have hz : hi = 0 := by omega
        subst hz
        by_cases q2 : 0 < lo
        · have p1 : decide (0 < (lo : Int)) = true := decide_eq_true (by omega)
          have HV2 := hid (show res = true from by rw [HV.out]; exact decide_eq_true (Or.inr q2))
          go_wp2_with fail
          refine bodyPost_ret (v := .agg #[.bool true, .int .u64 ((0 : Nat) : Int), .int .u64 lo]) (by simp [results, Tryd.results31, go_sem, r0, r1, r2]) rfl ⟨by rw [HV2.out], ?_⟩
          exact set3_kb K.out _ _ _ ht2
        · have hz : lo = 0 := by omega
          subst hz
          have HV2 := hid (show res = false from by rw [HV.out]; exact decide_eq_false (by omega))
          go_wp2_with fail
          refine bodyPost_ret (v := .agg #[.bool false, .int .u64 ((0 : Nat) : Int), .int .u64 ((0 : Nat) : Int)]) (by simp [results, Tryd.results31, go_sem, r0, r1, r2]) rfl ⟨by rw [HV2.out], ?_⟩
          exact set3_kb K.out _ _ _ ht2
theorem set3_same (w : World) (t : Nat) (p q r a b c : Value) (T : Nat) (h : w.heap[t]? = some (.cells #[a, b, c] T (0, 0))) : (((w.setCell ⟨t, 0, none⟩ p).setCell ⟨t, 1, none⟩ q).setCell ⟨t, 2, none⟩ r).heap[t]? = some (.cells #[p, q, r] T (0, 0)) := by
  rw [heap_setCell_same _ t 2 _ T _ (heap_setCell_same _ t 1 _ T _ (heap_setCell_same w t 0 _ T _ h))]
  rfl
theorem set3_other (w : World) (t u : Nat) (p q r : Value) (o : Obj) (h : w.heap[u]? = some o) (ne : u ≠ t) : (((w.setCell ⟨t, 0, none⟩ p).setCell ⟨t, 1, none⟩ q).setCell ⟨t, 2, none⟩ r).heap[u]? = some o := by
  have k : Kb (fun x => x = t) w (((w.setCell ⟨t, 0, none⟩ p).setCell ⟨t, 1, none⟩ q).setCell ⟨t, 2, none⟩ r) :=
    Kb.setCell (S := fun x => x = t) (Kb.setCell (S := fun x => x = t) (Kb.setCell (S := fun x => x = t) (Kb.refl _ _) (Or.inl rfl) _) (Or.inl rfl) _) (Or.inl rfl) _
  exact k.heap h ne
set_option maxHeartbeats 4000000 in
set_option maxRecDepth 100000 in
theorem plus_swap (n1 : Bool) (h1 l1 h2 l2 c c2 hi lo : Nat) (ord : Int) (res : Bool) (w : World) (b1 : l1 < 18446744073709551616) (b2 : l2 < 18446744073709551616) (a1 : h1 < 18446744073709551616) (a2 : h2 < 18446744073709551616)
    (ho : (if cmp3 h1 h2 = 0 then cmp3 l1 l2 else cmp3 h1 h2) = ord) (ho0 : decide (ord < 0) = true)
    (hlo : (l2 + 18446744073709551616 - l1 - 0) % 18446744073709551616 = lo) (hc : (if l2 < l1 + 0 then 1 else 0) = c) (hhi : (h2 + 18446744073709551616 - h1 - c) % 18446744073709551616 = hi) (hc2 : (if h2 < h1 + c then 1 else 0) = c2)
    (hres : (!n1 && decide (0 < hi ∨ 0 < lo)) = res) :
    Calls Tryd.prog 31 #[.agg #[.bool n1, .int .u64 h1, .int .u64 l1], .agg #[.bool (!n1), .int .u64 h2, .int .u64 l2]] w fun e w' => e = .returned (.agg #[.bool res, .int .u64 hi, .int .u64 lo]) ∧ Kb (fun _ => False) w w' := by
  have hc1 : c ≤ 1 := by rw [← hc]; split <;> omega
  have R1 : ∀ wx : World, (callFunc 44 #[.int .u64 l2, .int .u64 l1, .int .u64 0]).run Tryd.prog wx = .ok (.value (.tuple #[.int .u64 lo, .int .u64 c])) wx := by
    intro wx
    have h := run_Sub64 l2 l1 0 (by omega) wx
    rw [hlo, hc] at h
    exact h
  have R2 : ∀ wx : World, (callFunc 44 #[.int .u64 h2, .int .u64 h1, .int .u64 c]).run Tryd.prog wx = .ok (.value (.tuple #[.int .u64 hi, .int .u64 c2])) wx := by
    intro wx
    have h := run_Sub64 h2 h1 c hc1 wx
    rw [hhi, hc2] at h
    exact h
  have HO := hid ho
  have HRES := hid hres
  have B1 := hid b1
  have B2 := hid b2
  have A1 := hid a1
  have A2 := hid a2
  clear hc hlo hhi a1 a2 b1 b2 hc1 ho hc2 hres
  have HO0 := hid ho0
  clear ho0
  obtain ⟨n2, hn2⟩ : ∃ n2, n2 = !n1 := ⟨_, rfl⟩
  rw [← hn2]
  have HRES := hid (show (n2 && decide (0 < hi ∨ 0 < lo)) = res from by rw [hn2]; exact HRES.out)
  have hne : (n1 == n2) = false := by rw [hn2]; cases n1 <;> rfl
  clear hn2
  go_enter Tryd.func31, Tryd.ntmps31
  go_wp2_with fail
  generalize hW : World.alloc _ _ = W
  have kW : Kb (fun _ => False) w W := by subst hW; exact (((Kb.refl _ _).alloc _).alloc _).alloc _
  have aW : W.heap[w.heap.size]? = some (.cells #[.bool n1, .int .u64 h1, .int .u64 l1] 53 (0, 0)) := by
    subst hW
    rw [Below.heap_alloc _ _ _ (by simp; omega), Below.heap_alloc _ _ _ (by simp)]
    exact heap_alloc_new w _
  have bW : W.heap[w.heap.size + 1]? = some (.cells #[.bool n2, .int .u64 h2, .int .u64 l2] 53 (0, 0)) := by
    subst hW
    rw [Below.heap_alloc _ _ _ (by simp)]
    have h := heap_alloc_new (w.alloc (.cells #[.bool n1, .int .u64 h1, .int .u64 l1] 53)) (.cells #[.bool n2, .int .u64 h2, .int .u64 l2] 53)
    simpa using h
  have rW : W.heap[w.heap.size + 2]? = some (.cells #[.bool false, .int .u64 0, .int .u64 0] 53 (0, 0)) := by
    subst hW
    have h := heap_alloc_new ((w.alloc (.cells #[.bool n1, .int .u64 h1, .int .u64 l1] 53)).alloc (.cells #[.bool n2, .int .u64 h2, .int .u64 l2] 53)) (.cells #[.bool false, .int .u64 0, .int .u64 0] 53)
    simpa using h
  obtain ⟨tb, htb⟩ : ∃ tb, tb = w.heap.size := ⟨_, rfl⟩
  have HTB := hid htb
  rw [← htb]
  rw [← htb] at aW bW rW
  have K := hid kW
  have HA := hid aW
  have HB := hid bW
  have HR := hid rW
  have a0 := cell_of_heap aW 0
  have fa0 := frozen_of_heap aW 0
  have a1 := cell_of_heap aW 1
  have fa1 := frozen_of_heap aW 1
  have a2 := cell_of_heap aW 2
  have fa2 := frozen_of_heap aW 2
  have hla := block_lt aW
  have b0 := cell_of_heap bW 0
  have fb0 := frozen_of_heap bW 0
  have b1 := cell_of_heap bW 1
  have fb1 := frozen_of_heap bW 1
  have b2 := cell_of_heap bW 2
  have fb2 := frozen_of_heap bW 2
  have hlb := block_lt bW
  have r0 := cell_of_heap rW 0
  have fr0 := frozen_of_heap rW 0
  have r1 := cell_of_heap rW 1
  have fr1 := frozen_of_heap rW 1
  have r2 := cell_of_heap rW 2
  have fr2 := frozen_of_heap rW 2
  have hlr := block_lt rW
  simp only [List.getElem?_toArray, List.getElem?_cons_succ, List.getElem?_cons_zero] at a0 a1 a2 b0 b1 b2 r0 r1 r2
  clear hW htb kW aW bW rW
  have RR1 := hid R1
  have RR2 := hid R2
  clear R1 R2 a0 b0 r0 r1 r2 fa0 fa1 fa2 fb0 fb1 fb2 fr0 fr1 fr2
  go_cut [52] (fun v wx => v = .bool true ∧ Hid (wx.heap[tb]? = some (.cells #[.bool n1, .int .u64 h1, .int .u64 l1] 53 (0, 0))) ∧ Hid (wx.heap[tb + 1]? = some (.cells #[.bool n2, .int .u64 h2, .int .u64 l2] 53 (0, 0))) ∧ Hid (wx.heap[tb + 2]? = some (.cells #[.bool false, .int .u64 0, .int .u64 0] 53 (0, 0))) ∧ Hid (Kb (fun _ => False) w wx))
  case first =>
    go_region_held3 (fun w' => w'.cell? ⟨tb, 1, none⟩ = some (.int .u64 h1) ∧ w'.cell? ⟨tb, 2, none⟩ = some (.int .u64 l1) ∧ w'.cell? ⟨tb + 1, 1, none⟩ = some (.int .u64 h2) ∧ w'.cell? ⟨tb + 1, 2, none⟩ = some (.int .u64 l2)) (first | go_keep | (trace_state; fail)) (first
      | (go_at_call 30; refine (compare_any _ _ _ (by first | exact A1.out | exact B1.out) (by first | exact A2.out | exact B2.out)).mono ?_; rintro e w' ⟨rfl, rfl⟩)
      | (go_at_call 29; refine (or_is _ (cmp3 h1 h2) (cmp3 l1 l2) ord _ (by simp [go_sem]) (by simp [go_sem]) HO.out).mono ?_; rintro e w' ⟨rfl, rfl⟩; have ho0 := HO0.out))
    all_goals
      go_wp2_with fail
      go_meet
      refine ⟨rfl, ?_, ?_, ?_, ?_⟩
      · exact (Below.heap_alloc _ _ _ hla).trans HA.out
      · exact (Below.heap_alloc _ _ _ hlb).trans HB.out
      · exact (Below.heap_alloc _ _ _ hlr).trans HR.out
      · exact Kb.drew (K.out.alloc _)
  case rest =>
    obtain ⟨rfl, hA, hB, hR, hK⟩ := hcut
    clear HA HB HR hla hlb hlr
    have a0 := cell_of_heap hA.out 0
    have a1 := cell_of_heap hA.out 1
    have a2 := cell_of_heap hA.out 2
    have b0 := cell_of_heap hB.out 0
    have b1 := cell_of_heap hB.out 1
    have b2 := cell_of_heap hB.out 2
    have fa0 := frozen_of_heap hA.out 0
    have fa1 := frozen_of_heap hA.out 1
    have fa2 := frozen_of_heap hA.out 2
    have fb0 := frozen_of_heap hB.out 0
    have fb1 := frozen_of_heap hB.out 1
    have fb2 := frozen_of_heap hB.out 2
    have hla := block_lt hA.out
    have hlb := block_lt hB.out
    simp only [List.getElem?_toArray, List.getElem?_cons_succ, List.getElem?_cons_zero] at a0 a1 a2 b0 b1 b2
    go_upto_region 7 with fail
    have ht0 : w.heap.size ≤ tb := by have := HTB.out; omega
    have ht1 : w.heap.size ≤ tb + 1 := by omega
    have hA3 := hid (set3_other _ (tb + 1) tb (.bool n1) (.int .u64 h1) (.int .u64 l1) _ (set3_same _ _ (.bool n2) (.int .u64 h2) (.int .u64 l2) _ _ _ _ hA.out) (by omega))
    have hB3 := hid (set3_same _ _ (.bool n1) (.int .u64 h1) (.int .u64 l1) _ _ _ _ (set3_other _ tb (tb + 1) (.bool n2) (.int .u64 h2) (.int .u64 l2) _ hB.out (by omega)))
    have hR3 := hid (set3_other _ (tb + 1) (tb + 2) (.bool n1) (.int .u64 h1) (.int .u64 l1) _ (set3_other _ tb (tb + 2) (.bool n2) (.int .u64 h2) (.int .u64 l2) _ hR.out (by omega)) (by omega))
    have hK3 := hid (set3_kb (set3_kb hK.out (.bool n2) (.int .u64 h2) (.int .u64 l2) ht0) (.bool n1) (.int .u64 h1) (.int .u64 l1) ht1)
    clear a0 a1 a2 b0 b1 b2 fa0 fa1 fa2 fb0 fb1 fb2 hla hlb ht0 ht1
    generalize hW3 : World.setCell _ _ _ = W3 at hA3 hB3 hR3 hK3 ⊢
    clear hW3 hA hB hR hK
    have hA := hA3
    have hB := hB3
    have hR := hR3
    have hK := hK3
    clear hA3 hB3 hR3 hK3
    have a0 := cell_of_heap hA.out 0
    have a1 := cell_of_heap hA.out 1
    have a2 := cell_of_heap hA.out 2
    have b0 := cell_of_heap hB.out 0
    have b1 := cell_of_heap hB.out 1
    have b2 := cell_of_heap hB.out 2
    have r0 := cell_of_heap hR.out 0
    have r1 := cell_of_heap hR.out 1
    have r2 := cell_of_heap hR.out 2
    have fr0 := frozen_of_heap hR.out 0
    have fr1 := frozen_of_heap hR.out 1
    have fr2 := frozen_of_heap hR.out 2
    have hlr := block_lt hR.out
    simp only [List.getElem?_toArray, List.getElem?_cons_succ, List.getElem?_cons_zero] at a0 a1 a2 b0 b1 b2 r0 r1 r2
    have K := hK
    clear hA hB hR hK
    have R1 := RR1.out
    have R2 := RR2.out
    have ht2 : w.heap.size ≤ tb + 2 := by have := HTB.out; omega
    cases n2
    · have HV := hid (show res = false from HRES.out.symm)
      clear HRES hne
      go_wp2_with fail
      refine bodyPost_ret (v := .agg #[.bool false, .int .u64 hi, .int .u64 lo]) (by simp [results, Tryd.results31, go_sem, r0, r1, r2]) rfl ⟨by rw [HV.out], ?_⟩
      exact set3_kb K.out _ _ _ ht2
    · have HV := hid (show res = decide (0 < hi ∨ 0 < lo) from by rw [← HRES.out, Bool.true_and])
      clear HRES hne
      by_cases q1 : 0 < hi
      · have p1 : decide (0 < (hi : Int)) = true := decide_eq_true (by omega)
        have HV2 := hid (show res = true from by rw [HV.out]; exact decide_eq_true (Or.inl q1))
        go_wp2_with fail
        refine bodyPost_ret (v := .agg #[.bool true, .int .u64 hi, .int .u64 lo]) (by simp [results, Tryd.results31, go_sem, r0, r1, r2]) rfl ⟨by rw [HV2.out], ?_⟩
        exact set3_kb K.out _ _ _ ht2
      · have hz : hi = 0 := by omega
        subst hz
        by_cases q2 : 0 < lo
        · have p1 : decide (0 < (lo : Int)) = true := decide_eq_true (by omega)
          have HV2 := hid (show res = true from by rw [HV.out]; exact decide_eq_true (Or.inr q2))
          go_wp2_with fail
          refine bodyPost_ret (v := .agg #[.bool true, .int .u64 ((0 : Nat) : Int), .int .u64 lo]) (by simp [results, Tryd.results31, go_sem, r0, r1, r2]) rfl ⟨by rw [HV2.out], ?_⟩
          exact set3_kb K.out _ _ _ ht2
        · have hz : lo = 0 := by omega
          subst hz
          have HV2 := hid (show res = false from by rw [HV.out]; exact decide_eq_false (by omega))
          go_wp2_with fail
          refine bodyPost_ret (v := .agg #[.bool false, .int .u64 ((0 : Nat) : Int), .int .u64 ((0 : Nat) : Int)]) (by simp [results, Tryd.results31, go_sem, r0, r1, r2]) rfl ⟨by rw [HV2.out], ?_⟩
          exact set3_kb K.out _ _ _ ht2
end Go.Proofs.YtkhjgfbiemllmaaDoor
