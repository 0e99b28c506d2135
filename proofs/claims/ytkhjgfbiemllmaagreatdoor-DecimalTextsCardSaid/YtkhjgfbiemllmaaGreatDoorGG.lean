/- The walks of Mul and Add. The walk of plus. What plus computes: the sum. The walk of Add. The walk of Sub. -/
import Derived.Test.YtkhjgfbiemllmaaGreatDoorGF
namespace Go.Proofs.YtkhjgfbiemllmaaGreatDoor
open Go.RowKit

theorem set2_same (w : World) (t : Nat) (p q a b : Value) (T : Nat) (h : w.heap[t]? = some (.cells #[a, b] T (0, 0))) : ((w.setCell ⟨t, 0, none⟩ p).setCell ⟨t, 1, none⟩ q).heap[t]? = some (.cells #[p, q] T (0, 0)) := by
  rw [heap_setCell_same _ t 1 _ T _ (heap_setCell_same w t 0 _ T _ h)]
  rfl
theorem set2_kbs (w : World) (t : Nat) (p q : Value) : Kb (fun x => x = t) w ((w.setCell ⟨t, 0, none⟩ p).setCell ⟨t, 1, none⟩ q) :=
  Kb.setCell (S := fun x => x = t) (Kb.setCell (S := fun x => x = t) (Kb.refl _ _) (Or.inl rfl) _) (Or.inl rfl) _
theorem set2_other (w : World) (t u : Nat) (p q : Value) (o : Obj) (h : w.heap[u]? = some o) (ne : u ≠ t) : ((w.setCell ⟨t, 0, none⟩ p).setCell ⟨t, 1, none⟩ q).heap[u]? = some o :=
  (set2_kbs w t p q).heap h ne
theorem set2_kb {w w' : World} {t : Nat} (k : Kb (fun _ => False) w w') (p q : Value) (ht : w.heap.size ≤ t) : Kb (fun _ => False) w ((w'.setCell ⟨t, 0, none⟩ p).setCell ⟨t, 1, none⟩ q) :=
  Kb.setCell (Kb.setCell k (Or.inr ht) _) (Or.inr ht) _
attribute [local go_sem ↓] Go.wp_at_zero Go.wp_at_succ
set_option maxHeartbeats 4000000 in
set_option maxRecDepth 100000 in
theorem dmul_core (n1 s1 n2 s2 x1 x2 : Int) (k1 k2 hi lo P : Nat) (neg : Bool) (x y : Int) (ok : Bool) (w : World) (h1 : knownV n1 s1 = .agg #[.int .i64 x1, .int .i64 k1]) (h2 : knownV n2 s2 = .agg #[.int .i64 x2, .int .i64 k2])
    (hx1 : x1.natAbs ≤ 1000000000000000) (hx2 : x2.natAbs ≤ 1000000000000000) (hk1 : k1 ≤ 6) (hk2 : k2 ≤ 6) (hn : (decide (x1 < 0) != decide (x2 < 0)) = neg) (hP : x1.natAbs * x2.natAbs = P) (hhi : P / 18446744073709551616 = hi) (hlo : P % 18446744073709551616 = lo)
    (hv : fitV neg P (k1 + k2) = .tuple #[.agg #[.int .i64 x, .int .i64 y], .bool ok]) :
    Calls Tryz.prog 9 #[.agg #[.int .i64 n1, .int .i64 s1], .agg #[.int .i64 n2, .int .i64 s2]] w fun e w' => e = .returned (.tuple #[.agg #[.int .i64 x, .int .i64 y], .bool ok]) ∧ Kb (fun _ => False) w w' := by
  have H1 := hid h1
  have H2 := hid h2
  have HN := hid hn
  have HP := hid hP
  have HHI := hid hhi
  have HLO := hid hlo
  have HV := hid hv
  have HX1 := hid hx1
  have HX2 := hid hx2
  clear h1 h2 hn hP hhi hlo hv hx1 hx2
  go_enter Tryz.func9, Tryz.ntmps9
  go_wp2_with fail
  generalize hW : World.alloc _ _ = W
  have kW : Kb (fun _ => False) w W := by subst hW; exact (((Kb.refl _ _).alloc _).alloc _).alloc _
  have aW : W.heap[w.heap.size]? = some (.cells #[.int .i64 n1, .int .i64 s1] 23 (0, 0)) := by
    subst hW
    rw [Below.heap_alloc _ _ _ (by simp; omega), Below.heap_alloc _ _ _ (by simp)]
    exact heap_alloc_new w _
  have bW : W.heap[w.heap.size + 1]? = some (.cells #[.int .i64 n2, .int .i64 s2] 23 (0, 0)) := by
    subst hW
    rw [Below.heap_alloc _ _ _ (by simp)]
    have h := heap_alloc_new (w.alloc (.cells #[.int .i64 n1, .int .i64 s1] 23)) (.cells #[.int .i64 n2, .int .i64 s2] 23)
    simpa using h
  have rW : W.heap[w.heap.size + 2]? = some (.cells #[.int .i64 0, .int .i64 0] 23 (0, 0)) := by
    subst hW
    have h := heap_alloc_new ((w.alloc (.cells #[.int .i64 n1, .int .i64 s1] 23)).alloc (.cells #[.int .i64 n2, .int .i64 s2] 23)) (.cells #[.int .i64 0, .int .i64 0] 23)
    simpa using h
  obtain ⟨tb, htb⟩ : ∃ tb, tb = w.heap.size := ⟨_, rfl⟩
  have HTB := hid htb
  rw [← htb]
  rw [← htb] at aW bW rW
  have K := hid kW
  have a0 := cell_of_heap aW 0
  have a1 := cell_of_heap aW 1
  have fa0 := frozen_of_heap aW 0
  have fa1 := frozen_of_heap aW 1
  have b0 := cell_of_heap bW 0
  have b1 := cell_of_heap bW 1
  have fb0 := frozen_of_heap bW 0
  have fb1 := frozen_of_heap bW 1
  have r0 := cell_of_heap rW 0
  have r1 := cell_of_heap rW 1
  have fr0 := frozen_of_heap rW 0
  have fr1 := frozen_of_heap rW 1
  have hla := block_lt aW
  have hlb := block_lt bW
  have hlr := block_lt rW
  simp only [List.getElem?_toArray, List.getElem?_cons_succ, List.getElem?_cons_zero] at a0 a1 b0 b1 r0 r1
  have HA := hid aW
  have HB := hid bW
  have HR := hid rW
  clear hW htb kW aW bW rW
  go_upto_region 1 with fail
  go_cut [5] (fun v wx => v = .bool false ∧ Hid (wx.heap[tb]? = some (.cells #[.int .i64 x1, .int .i64 k1] 23 (0, 0))) ∧ Hid (wx.heap[tb + 1]? = some (.cells #[.int .i64 x2, .int .i64 k2] 23 (0, 0))) ∧ Hid (wx.heap[tb + 2]? = some (.cells #[.int .i64 0, .int .i64 0] 23 (0, 0))) ∧ Hid (Kb (fun _ => False) w wx))
  case first =>
    go_region_with (go_at_call 30; (first | refine (known_is _ _ x1 k1 _ (by exact H1.out)).mono ?_ | refine (known_is _ _ x2 k2 _ (by exact H2.out)).mono ?_); rintro e w' ⟨rfl, kq⟩; have a0 := kq.cell a0 (by simp); have a1 := kq.cell a1 (by simp); have b0 := kq.cell b0 (by simp); have b1 := kq.cell b1 (by simp); have r0 := kq.cell r0 (by simp); have r1 := kq.cell r1 (by simp); have fa0 := (kq.frozen (p := ⟨tb, 0, none⟩) hla (by simp)).trans fa0; have fa1 := (kq.frozen (p := ⟨tb, 1, none⟩) hla (by simp)).trans fa1; have fb0 := (kq.frozen (p := ⟨tb + 1, 0, none⟩) hlb (by simp)).trans fb0; have fb1 := (kq.frozen (p := ⟨tb + 1, 1, none⟩) hlb (by simp)).trans fb1; have fr0 := (kq.frozen (p := ⟨tb + 2, 0, none⟩) hlr (by simp)).trans fr0; have fr1 := (kq.frozen (p := ⟨tb + 2, 1, none⟩) hlr (by simp)).trans fr1; have hla := Nat.lt_of_lt_of_le hla kq.size; have hlb := Nat.lt_of_lt_of_le hlb kq.size; have hlr := Nat.lt_of_lt_of_le hlr kq.size; (first | (have K := hid (K.out.trans kq)) | (have K := hid (K.out.trans (Kb.of_draw kq)))); have HA := hid (kq.heap HA.out (by simp)); have HB := hid (kq.heap HB.out (by simp)); have HR := hid (kq.heap HR.out (by simp)))
    all_goals
      go_wp2_with fail
      go_meet
      have ht : w.heap.size ≤ tb := by have := HTB.out; omega
      have ht1 : w.heap.size ≤ tb + 1 := by omega
      refine ⟨rfl, ?_, ?_, ?_, ?_⟩
      · exact set2_other _ _ _ _ _ _ (set2_same _ _ _ _ _ _ _ HA.out) (by omega)
      · exact set2_same _ _ _ _ _ _ _ (set2_other _ _ _ _ _ _ HB.out (by omega))
      · exact set2_other _ _ _ _ _ _ (set2_other _ _ _ _ _ _ HR.out (by omega)) (by omega)
      · show Kb _ _ _
        first
          | exact set2_kb (set2_kb K.out _ _ ht) _ _ ht1
          | exact set2_kb (set2_kb (Kb.drew K.out) _ _ ht) _ _ ht1
          | exact Kb.drew (set2_kb (set2_kb K.out _ _ ht) _ _ ht1)
  case rest =>
    obtain ⟨rfl, hA, hB, hR, hK⟩ := hcut
    have a0 := cell_of_heap hA.out 0
    have a1 := cell_of_heap hA.out 1
    have b0 := cell_of_heap hB.out 0
    have b1 := cell_of_heap hB.out 1
    have r0 := cell_of_heap hR.out 0
    have r1 := cell_of_heap hR.out 1
    have fr0 := frozen_of_heap hR.out 0
    have fr1 := frozen_of_heap hR.out 1
    have hlr := block_lt hR.out
    simp only [List.getElem?_toArray, List.getElem?_cons_succ, List.getElem?_cons_zero] at a0 a1 b0 b1 r0 r1
    have K := hK
    clear hA hB hR hK HA HB HR
    have e1 : IntKind.i64.wrap ((k1 : Int) + (k2 : Int)) = ((k1 + k2 : Nat) : Int) := IntWalk.i64_in _ (by omega)
    have hl1 : hi < 18446744073709551616 := by
      have h := HHI.out
      have h1 : x1.natAbs * x2.natAbs ≤ 1000000000000000 * 1000000000000000 := Nat.mul_le_mul HX1.out HX2.out
      have h2 := HP.out
      rw [← h, ← h2]
      exact Nat.div_lt_of_lt_mul (by omega)
    have hl2 : lo < 18446744073709551616 := by
      have h := HLO.out
      rw [← h]
      exact Nat.mod_lt _ (by omega)
    have hPP := hid (show hi * 18446744073709551616 + lo = P by
      have h := HHI.out
      have h2 := HLO.out
      rw [← h, ← h2]
      exact Nat.div_add_mod' P _)
    have HL1 := hid hl1
    have HL2 := hid hl2
    clear hl1 hl2
    go_wp2_with fail
    go_region_with (first
        | (go_at_call 31; refine (product_is x1 x2 neg P hi lo _ (by have := HX1.out; omega) (by have := HX2.out; omega) HN.out HP.out HHI.out HLO.out).mono ?_; rintro e w' ⟨rfl, kq⟩; have a0 := kq.cell a0 (by simp); have a1 := kq.cell a1 (by simp); have b0 := kq.cell b0 (by simp); have b1 := kq.cell b1 (by simp); have r0 := kq.cell r0 (by simp); have r1 := kq.cell r1 (by simp); have fr0 := (kq.frozen (p := ⟨tb + 2, 0, none⟩) hlr (by simp)).trans fr0; have fr1 := (kq.frozen (p := ⟨tb + 2, 1, none⟩) hlr (by simp)).trans fr1; have hlr := Nat.lt_of_lt_of_le hlr kq.size; (first | (have K := hid (K.out.trans kq)) | (have K := hid (K.out.trans (Kb.of_draw kq)))))
        | (go_at_call 32; refine (wide_small_is neg hi lo P _ (k1 + k2) x y ok _ HL1.out HL2.out (by first | rfl | omega) (by omega) hPP.out HV.out).mono ?_; rintro e w' ⟨rfl, kq⟩; have a0 := kq.cell a0 (by simp); have a1 := kq.cell a1 (by simp); have b0 := kq.cell b0 (by simp); have b1 := kq.cell b1 (by simp); have r0 := kq.cell r0 (by simp); have r1 := kq.cell r1 (by simp); have fr0 := (kq.frozen (p := ⟨tb + 2, 0, none⟩) hlr (by simp)).trans fr0; have fr1 := (kq.frozen (p := ⟨tb + 2, 1, none⟩) hlr (by simp)).trans fr1; have hlr := Nat.lt_of_lt_of_le hlr kq.size; (first | (have K := hid (K.out.trans kq)) | (have K := hid (K.out.trans (Kb.of_draw kq))))))
    all_goals
     go_wp2_with fail
     refine bodyPost_ret (v := .tuple #[.agg #[.int .i64 x, .int .i64 y], .bool ok]) (by simp [results, Tryz.results9, go_sem, r0, r1]) rfl ⟨rfl, ?_⟩
     have ht2 : w.heap.size ≤ tb + 2 := by have := HTB.out; omega
     first
      | exact set2_kb K.out _ _ ht2
      | exact set2_kb (Kb.drew K.out) _ _ ht2
      | exact Kb.drew (set2_kb K.out _ _ ht2)
theorem mul_bound (a b : Nat) (ha : a ≤ 1000000000000000) (hb : b ≤ 1000000000000000) : a * b ≤ 1000000000000000 * 1000000000000000 := Nat.mul_le_mul ha hb
theorem dmul_known (n1 s1 n2 s2 x1 x2 : Int) (k1 k2 : Nat) (w : World) (h1 : knownV n1 s1 = .agg #[.int .i64 x1, .int .i64 k1]) (h2 : knownV n2 s2 = .agg #[.int .i64 x2, .int .i64 k2])
    (hx1 : x1.natAbs ≤ 1000000000000000) (hx2 : x2.natAbs ≤ 1000000000000000) (hk1 : k1 ≤ 6) (hk2 : k2 ≤ 6) :
    Calls Tryz.prog 9 #[.agg #[.int .i64 n1, .int .i64 s1], .agg #[.int .i64 n2, .int .i64 s2]] w fun e w' => e = .returned (fitV (decide (x1 < 0) != decide (x2 < 0)) (x1.natAbs * x2.natAbs) (k1 + k2)) ∧ Kb (fun _ => False) w w' := by
  obtain ⟨x, y, ok, hv⟩ := fitV_form (decide (x1 < 0) != decide (x2 < 0)) (x1.natAbs * x2.natAbs) (k1 + k2)
  rw [hv]
  exact dmul_core n1 s1 n2 s2 x1 x2 k1 k2 _ _ _ _ x y ok w h1 h2 hx1 hx2 hk1 hk2 rfl rfl rfl rfl hv
end Go.Proofs.YtkhjgfbiemllmaaGreatDoor
namespace Go.Proofs.YtkhjgfbiemllmaaGreatDoor
open Go.RowKit

theorem add_wideM (M h1 l1 h2 l2 P : Nat) (hM : 0 < M) (hP : (h1 * M + l1) + (h2 * M + l2) = P) : h1 + h2 + (l1 + l2) / M = P / M ∧ (l1 + l2) % M = P % M := by
  have e : P = (l1 + l2) + (h1 + h2) * M := by
    rw [← hP, Nat.add_mul]
    generalize h1 * M = x
    generalize h2 * M = y
    omega
  rw [e, Nat.add_mul_div_right _ _ hM, Nat.add_mul_mod_self_right]
  exact ⟨by rw [Nat.add_comm (h1 + h2)], rfl⟩
attribute [local go_sem ↓] Go.wp_at_zero Go.wp_at_succ
set_option maxHeartbeats 4000000 in
set_option maxRecDepth 100000 in
theorem plus_same (neg : Bool) (h1 l1 h2 l2 c hi lo : Nat) (w : World) (a1 : h1 < 4611686018427387904) (a2 : h2 < 4611686018427387904) (b1 : l1 < 18446744073709551616) (b2 : l2 < 18446744073709551616)
    (hc : (l1 + l2 + 0) / 18446744073709551616 = c) (hlo : (l1 + l2 + 0) % 18446744073709551616 = lo) (hhi : (h1 + h2 + c) % 18446744073709551616 = hi) :
    Calls Tryz.prog 48 #[.agg #[.bool neg, .int .u64 h1, .int .u64 l1], .agg #[.bool neg, .int .u64 h2, .int .u64 l2]] w fun e w' => e = .returned (.agg #[.bool neg, .int .u64 hi, .int .u64 lo]) ∧ Kb (fun _ => False) w w' := by
  have hc1 : c ≤ 1 := by omega
  have R1 : ∀ wx : World, (callFunc 75 #[.int .u64 l1, .int .u64 l2, .int .u64 0]).run Tryz.prog wx = .ok (.value (.tuple #[.int .u64 lo, .int .u64 c])) wx := by
    intro wx
    have h := run_Add64 l1 l2 0 b1 b2 (by omega) wx
    rw [hlo, hc] at h
    exact h
  have R2 : ∀ wx : World, (callFunc 75 #[.int .u64 h1, .int .u64 h2, .int .u64 c]).run Tryz.prog wx = .ok (.value (.tuple #[.int .u64 hi, .int .u64 (((h1 + h2 + c) / 18446744073709551616 : Nat) : Int)])) wx := by
    intro wx
    have h := run_Add64 h1 h2 c (by omega) (by omega) hc1 wx
    rw [hhi] at h
    exact h
  clear hc hlo hhi a1 a2 b1 b2 hc1
  go_enter Tryz.func48, Tryz.ntmps48
  go_wp2_with fail
  refine bodyPost_ret (v := .agg #[.bool neg, .int .u64 hi, .int .u64 lo]) (by simp [results, Tryz.results48, go_sem]) rfl ⟨rfl, ?_⟩
  exact (((Kb.refl _ _).alloc _).alloc _).alloc _
theorem set3_kb {w w' : World} {t : Nat} (k : Kb (fun _ => False) w w') (p q r : Value) (ht : w.heap.size ≤ t) : Kb (fun _ => False) w (((w'.setCell ⟨t, 0, none⟩ p).setCell ⟨t, 1, none⟩ q).setCell ⟨t, 2, none⟩ r) :=
  Kb.setCell (Kb.setCell (Kb.setCell k (Or.inr ht) _) (Or.inr ht) _) (Or.inr ht) _
theorem compare_is (x y : Nat) (z : Int) (w : World) (hx : x < 18446744073709551616) (hy : y < 18446744073709551616) (h : cmp3 x y = z) :
    Calls Tryz.prog 47 #[.int .u64 x, .int .u64 y] w fun e w' => e = .returned (.int .i64 z) ∧ w' = w := by
  rw [← h]
  exact compare_any x y w hx hy
theorem or_is (g : Nat) (x y o : Int) (w : World) (h0 : w.cell? ⟨g, 0, none⟩ = some (.int .i64 x)) (h1 : w.cell? ⟨g, 1, none⟩ = some (.int .i64 y)) (h : (if x = 0 then y else x) = o) :
    Calls Tryz.prog 46 #[.slice (some ⟨g, 0, none⟩) 2 2] w fun e w' => e = .returned (.int .i64 o) ∧ w' = w := by
  rw [← h]
  exact or_any g x y w h0 h1
set_option maxHeartbeats 4000000 in
set_option maxRecDepth 100000 in
theorem plus_diff (n1 : Bool) (h1 l1 h2 l2 c c2 hi lo : Nat) (ord : Int) (res : Bool) (w : World) (b1 : l1 < 18446744073709551616) (b2 : l2 < 18446744073709551616) (a1 : h1 < 18446744073709551616) (a2 : h2 < 18446744073709551616)
    (ho : (if cmp3 h1 h2 = 0 then cmp3 l1 l2 else cmp3 h1 h2) = ord) (ho0 : decide (ord < 0) = false)
    (hlo : (l1 + 18446744073709551616 - l2 - 0) % 18446744073709551616 = lo) (hc : (if l1 < l2 + 0 then 1 else 0) = c) (hhi : (h1 + 18446744073709551616 - h2 - c) % 18446744073709551616 = hi) (hc2 : (if h1 < h2 + c then 1 else 0) = c2)
    (hres : (n1 && decide (0 < hi ∨ 0 < lo)) = res) :
    Calls Tryz.prog 48 #[.agg #[.bool n1, .int .u64 h1, .int .u64 l1], .agg #[.bool (!n1), .int .u64 h2, .int .u64 l2]] w fun e w' => e = .returned (.agg #[.bool res, .int .u64 hi, .int .u64 lo]) ∧ Kb (fun _ => False) w w' := by
  have hc1 : c ≤ 1 := by rw [← hc]; split <;> omega
  have R1 : ∀ wx : World, (callFunc 76 #[.int .u64 l1, .int .u64 l2, .int .u64 0]).run Tryz.prog wx = .ok (.value (.tuple #[.int .u64 lo, .int .u64 c])) wx := by
    intro wx
    have h := run_Sub64 l1 l2 0 (by omega) wx
    rw [hlo, hc] at h
    exact h
  have R2 : ∀ wx : World, (callFunc 76 #[.int .u64 h1, .int .u64 h2, .int .u64 c]).run Tryz.prog wx = .ok (.value (.tuple #[.int .u64 hi, .int .u64 c2])) wx := by
    intro wx
    have h := run_Sub64 h1 h2 c hc1 wx
    rw [hhi, hc2] at h
    exact h
  have HO := hid ho
  have HRES := hid hres
  have B1 := hid b1
  have B2 := hid b2
  have A1 := hid a1
  have A2 := hid a2
  clear hc hlo hhi a1 a2 b1 b2 hc1 ho hc2 hres
  have HO0 := hid ho0
  clear ho0
  obtain ⟨n2, hn2⟩ : ∃ n2, n2 = !n1 := ⟨_, rfl⟩
  rw [← hn2]
  have hne : (n1 == n2) = false := by rw [hn2]; cases n1 <;> rfl
  clear hn2
  go_enter Tryz.func48, Tryz.ntmps48
  go_wp2_with fail
  generalize hW : World.alloc _ _ = W
  have kW : Kb (fun _ => False) w W := by subst hW; exact (((Kb.refl _ _).alloc _).alloc _).alloc _
  have aW : W.heap[w.heap.size]? = some (.cells #[.bool n1, .int .u64 h1, .int .u64 l1] 50 (0, 0)) := by
    subst hW
    rw [Below.heap_alloc _ _ _ (by simp; omega), Below.heap_alloc _ _ _ (by simp)]
    exact heap_alloc_new w _
  have bW : W.heap[w.heap.size + 1]? = some (.cells #[.bool n2, .int .u64 h2, .int .u64 l2] 50 (0, 0)) := by
    subst hW
    rw [Below.heap_alloc _ _ _ (by simp)]
    have h := heap_alloc_new (w.alloc (.cells #[.bool n1, .int .u64 h1, .int .u64 l1] 50)) (.cells #[.bool n2, .int .u64 h2, .int .u64 l2] 50)
    simpa using h
  have rW : W.heap[w.heap.size + 2]? = some (.cells #[.bool false, .int .u64 0, .int .u64 0] 50 (0, 0)) := by
    subst hW
    have h := heap_alloc_new ((w.alloc (.cells #[.bool n1, .int .u64 h1, .int .u64 l1] 50)).alloc (.cells #[.bool n2, .int .u64 h2, .int .u64 l2] 50)) (.cells #[.bool false, .int .u64 0, .int .u64 0] 50)
    simpa using h
  obtain ⟨tb, htb⟩ : ∃ tb, tb = w.heap.size := ⟨_, rfl⟩
  have HTB := hid htb
  rw [← htb]
  rw [← htb] at aW bW rW
  have K := hid kW
  have HA := hid aW
  have HB := hid bW
  have HR := hid rW
  have a0 := cell_of_heap aW 0
  have fa0 := frozen_of_heap aW 0
  have a1 := cell_of_heap aW 1
  have fa1 := frozen_of_heap aW 1
  have a2 := cell_of_heap aW 2
  have fa2 := frozen_of_heap aW 2
  have hla := block_lt aW
  have b0 := cell_of_heap bW 0
  have fb0 := frozen_of_heap bW 0
  have b1 := cell_of_heap bW 1
  have fb1 := frozen_of_heap bW 1
  have b2 := cell_of_heap bW 2
  have fb2 := frozen_of_heap bW 2
  have hlb := block_lt bW
  have r0 := cell_of_heap rW 0
  have fr0 := frozen_of_heap rW 0
  have r1 := cell_of_heap rW 1
  have fr1 := frozen_of_heap rW 1
  have r2 := cell_of_heap rW 2
  have fr2 := frozen_of_heap rW 2
  have hlr := block_lt rW
  simp only [List.getElem?_toArray, List.getElem?_cons_succ, List.getElem?_cons_zero] at a0 a1 a2 b0 b1 b2 r0 r1 r2
  clear hW htb kW aW bW rW
  have RR1 := hid R1
  have RR2 := hid R2
  clear R1 R2 a0 b0 r0 r1 r2 fa0 fa1 fa2 fb0 fb1 fb2 fr0 fr1 fr2
  go_cut [52] (fun v wx => v = .bool false ∧ Hid (wx.heap[tb]? = some (.cells #[.bool n1, .int .u64 h1, .int .u64 l1] 50 (0, 0))) ∧ Hid (wx.heap[tb + 1]? = some (.cells #[.bool n2, .int .u64 h2, .int .u64 l2] 50 (0, 0))) ∧ Hid (wx.heap[tb + 2]? = some (.cells #[.bool false, .int .u64 0, .int .u64 0] 50 (0, 0))) ∧ Hid (Kb (fun _ => False) w wx))
  case first =>
    go_region_held3 (fun w' => w'.cell? ⟨tb, 1, none⟩ = some (.int .u64 h1) ∧ w'.cell? ⟨tb, 2, none⟩ = some (.int .u64 l1) ∧ w'.cell? ⟨tb + 1, 1, none⟩ = some (.int .u64 h2) ∧ w'.cell? ⟨tb + 1, 2, none⟩ = some (.int .u64 l2)) (first | go_keep | (trace_state; fail)) (first
      | (go_at_call 47; refine (compare_any _ _ _ (by first | exact A1.out | exact B1.out) (by first | exact A2.out | exact B2.out)).mono ?_; rintro e w' ⟨rfl, rfl⟩)
      | (go_at_call 46; refine (or_is _ (cmp3 h1 h2) (cmp3 l1 l2) ord _ (by simp [go_sem]) (by simp [go_sem]) HO.out).mono ?_; rintro e w' ⟨rfl, rfl⟩; have ho0 := HO0.out))
    all_goals
      go_wp2_with fail
      go_meet
      refine ⟨rfl, ?_, ?_, ?_, ?_⟩
      · exact (Below.heap_alloc _ _ _ hla).trans HA.out
      · exact (Below.heap_alloc _ _ _ hlb).trans HB.out
      · exact (Below.heap_alloc _ _ _ hlr).trans HR.out
      · exact Kb.drew (K.out.alloc _)
  case rest =>
    obtain ⟨rfl, hA, hB, hR, hK⟩ := hcut
    clear HA HB HR hla hlb hlr
    have a0 := cell_of_heap hA.out 0
    have a1 := cell_of_heap hA.out 1
    have a2 := cell_of_heap hA.out 2
    have b0 := cell_of_heap hB.out 0
    have b1 := cell_of_heap hB.out 1
    have b2 := cell_of_heap hB.out 2
    have r0 := cell_of_heap hR.out 0
    have r1 := cell_of_heap hR.out 1
    have r2 := cell_of_heap hR.out 2
    have fr0 := frozen_of_heap hR.out 0
    have fr1 := frozen_of_heap hR.out 1
    have fr2 := frozen_of_heap hR.out 2
    have hlr := block_lt hR.out
    simp only [List.getElem?_toArray, List.getElem?_cons_succ, List.getElem?_cons_zero] at a0 a1 a2 b0 b1 b2 r0 r1 r2
    have K := hK
    clear hA hB hR hK
    have R1 := RR1.out
    have R2 := RR2.out
    have ht2 : w.heap.size ≤ tb + 2 := by have := HTB.out; omega
    cases n1
    · have HV := hid (show res = false from HRES.out.symm)
      clear HRES hne
      go_wp2_with fail
      refine bodyPost_ret (v := .agg #[.bool false, .int .u64 hi, .int .u64 lo]) (by simp [results, Tryz.results48, go_sem, r0, r1, r2]) rfl ⟨by rw [HV.out], ?_⟩
      exact set3_kb K.out _ _ _ ht2
    · have HV := hid (show res = decide (0 < hi ∨ 0 < lo) from by rw [← HRES.out, Bool.true_and])
      clear HRES hne
      by_cases q1 : 0 < hi
      · have p1 : decide (0 < (hi : Int)) = true := decide_eq_true (by omega)
        have HV2 := hid (show res = true from by rw [HV.out]; exact decide_eq_true (Or.inl q1))
        go_wp2_with fail
        refine bodyPost_ret (v := .agg #[.bool true, .int .u64 hi, .int .u64 lo]) (by simp [results, Tryz.results48, go_sem, r0, r1, r2]) rfl ⟨by rw [HV2.out], ?_⟩
        exact set3_kb K.out _ _ _ ht2
      · have hz : hi = 0 := by omega
        subst hz
        by_cases q2 : 0 < lo
        · have p1 : decide (0 < (lo : Int)) = true := decide_eq_true (by omega)
          have HV2 := hid (show res = true from by rw [HV.out]; exact decide_eq_true (Or.inr q2))
          go_wp2_with fail
          refine bodyPost_ret (v := .agg #[.bool true, .int .u64 ((0 : Nat) : Int), .int .u64 lo]) (by simp [results, Tryz.results48, go_sem, r0, r1, r2]) rfl ⟨by rw [HV2.out], ?_⟩
          exact set3_kb K.out _ _ _ ht2
        · have hz : lo = 0 := by omega
          subst hz
          have HV2 := hid (show res = false from by rw [HV.out]; exact decide_eq_false (by omega))
          go_wp2_with fail
          refine bodyPost_ret (v := .agg #[.bool false, .int .u64 ((0 : Nat) : Int), .int .u64 ((0 : Nat) : Int)]) (by simp [results, Tryz.results48, go_sem, r0, r1, r2]) rfl ⟨by rw [HV2.out], ?_⟩
          exact set3_kb K.out _ _ _ ht2
theorem set3_same (w : World) (t : Nat) (p q r a b c : Value) (T : Nat) (h : w.heap[t]? = some (.cells #[a, b, c] T (0, 0))) : (((w.setCell ⟨t, 0, none⟩ p).setCell ⟨t, 1, none⟩ q).setCell ⟨t, 2, none⟩ r).heap[t]? = some (.cells #[p, q, r] T (0, 0)) := by
  rw [heap_setCell_same _ t 2 _ T _ (heap_setCell_same _ t 1 _ T _ (heap_setCell_same w t 0 _ T _ h))]
  rfl
theorem set3_other (w : World) (t u : Nat) (p q r : Value) (o : Obj) (h : w.heap[u]? = some o) (ne : u ≠ t) : (((w.setCell ⟨t, 0, none⟩ p).setCell ⟨t, 1, none⟩ q).setCell ⟨t, 2, none⟩ r).heap[u]? = some o := by
  have k : Kb (fun x => x = t) w (((w.setCell ⟨t, 0, none⟩ p).setCell ⟨t, 1, none⟩ q).setCell ⟨t, 2, none⟩ r) :=
    Kb.setCell (S := fun x => x = t) (Kb.setCell (S := fun x => x = t) (Kb.setCell (S := fun x => x = t) (Kb.refl _ _) (Or.inl rfl) _) (Or.inl rfl) _) (Or.inl rfl) _
  exact k.heap h ne
set_option maxHeartbeats 4000000 in
set_option maxRecDepth 100000 in
theorem plus_swap (n1 : Bool) (h1 l1 h2 l2 c c2 hi lo : Nat) (ord : Int) (res : Bool) (w : World) (b1 : l1 < 18446744073709551616) (b2 : l2 < 18446744073709551616) (a1 : h1 < 18446744073709551616) (a2 : h2 < 18446744073709551616)
    (ho : (if cmp3 h1 h2 = 0 then cmp3 l1 l2 else cmp3 h1 h2) = ord) (ho0 : decide (ord < 0) = true)
    (hlo : (l2 + 18446744073709551616 - l1 - 0) % 18446744073709551616 = lo) (hc : (if l2 < l1 + 0 then 1 else 0) = c) (hhi : (h2 + 18446744073709551616 - h1 - c) % 18446744073709551616 = hi) (hc2 : (if h2 < h1 + c then 1 else 0) = c2)
    (hres : (!n1 && decide (0 < hi ∨ 0 < lo)) = res) :
    Calls Tryz.prog 48 #[.agg #[.bool n1, .int .u64 h1, .int .u64 l1], .agg #[.bool (!n1), .int .u64 h2, .int .u64 l2]] w fun e w' => e = .returned (.agg #[.bool res, .int .u64 hi, .int .u64 lo]) ∧ Kb (fun _ => False) w w' := by
  have hc1 : c ≤ 1 := by rw [← hc]; split <;> omega
  have R1 : ∀ wx : World, (callFunc 76 #[.int .u64 l2, .int .u64 l1, .int .u64 0]).run Tryz.prog wx = .ok (.value (.tuple #[.int .u64 lo, .int .u64 c])) wx := by
    intro wx
    have h := run_Sub64 l2 l1 0 (by omega) wx
    rw [hlo, hc] at h
    exact h
  have R2 : ∀ wx : World, (callFunc 76 #[.int .u64 h2, .int .u64 h1, .int .u64 c]).run Tryz.prog wx = .ok (.value (.tuple #[.int .u64 hi, .int .u64 c2])) wx := by
    intro wx
    have h := run_Sub64 h2 h1 c hc1 wx
    rw [hhi, hc2] at h
    exact h
  have HO := hid ho
  have HRES := hid hres
  have B1 := hid b1
  have B2 := hid b2
  have A1 := hid a1
  have A2 := hid a2
  clear hc hlo hhi a1 a2 b1 b2 hc1 ho hc2 hres
  have HO0 := hid ho0
  clear ho0
  obtain ⟨n2, hn2⟩ : ∃ n2, n2 = !n1 := ⟨_, rfl⟩
  rw [← hn2]
  have HRES := hid (show (n2 && decide (0 < hi ∨ 0 < lo)) = res from by rw [hn2]; exact HRES.out)
  have hne : (n1 == n2) = false := by rw [hn2]; cases n1 <;> rfl
  clear hn2
  go_enter Tryz.func48, Tryz.ntmps48
  go_wp2_with fail
  generalize hW : World.alloc _ _ = W
  have kW : Kb (fun _ => False) w W := by subst hW; exact (((Kb.refl _ _).alloc _).alloc _).alloc _
  have aW : W.heap[w.heap.size]? = some (.cells #[.bool n1, .int .u64 h1, .int .u64 l1] 50 (0, 0)) := by
    subst hW
    rw [Below.heap_alloc _ _ _ (by simp; omega), Below.heap_alloc _ _ _ (by simp)]
    exact heap_alloc_new w _
  have bW : W.heap[w.heap.size + 1]? = some (.cells #[.bool n2, .int .u64 h2, .int .u64 l2] 50 (0, 0)) := by
    subst hW
    rw [Below.heap_alloc _ _ _ (by simp)]
    have h := heap_alloc_new (w.alloc (.cells #[.bool n1, .int .u64 h1, .int .u64 l1] 50)) (.cells #[.bool n2, .int .u64 h2, .int .u64 l2] 50)
    simpa using h
  have rW : W.heap[w.heap.size + 2]? = some (.cells #[.bool false, .int .u64 0, .int .u64 0] 50 (0, 0)) := by
    subst hW
    have h := heap_alloc_new ((w.alloc (.cells #[.bool n1, .int .u64 h1, .int .u64 l1] 50)).alloc (.cells #[.bool n2, .int .u64 h2, .int .u64 l2] 50)) (.cells #[.bool false, .int .u64 0, .int .u64 0] 50)
    simpa using h
  obtain ⟨tb, htb⟩ : ∃ tb, tb = w.heap.size := ⟨_, rfl⟩
  have HTB := hid htb
  rw [← htb]
  rw [← htb] at aW bW rW
  have K := hid kW
  have HA := hid aW
  have HB := hid bW
  have HR := hid rW
  have a0 := cell_of_heap aW 0
  have fa0 := frozen_of_heap aW 0
  have a1 := cell_of_heap aW 1
  have fa1 := frozen_of_heap aW 1
  have a2 := cell_of_heap aW 2
  have fa2 := frozen_of_heap aW 2
  have hla := block_lt aW
  have b0 := cell_of_heap bW 0
  have fb0 := frozen_of_heap bW 0
  have b1 := cell_of_heap bW 1
  have fb1 := frozen_of_heap bW 1
  have b2 := cell_of_heap bW 2
  have fb2 := frozen_of_heap bW 2
  have hlb := block_lt bW
  have r0 := cell_of_heap rW 0
  have fr0 := frozen_of_heap rW 0
  have r1 := cell_of_heap rW 1
  have fr1 := frozen_of_heap rW 1
  have r2 := cell_of_heap rW 2
  have fr2 := frozen_of_heap rW 2
  have hlr := block_lt rW
  simp only [List.getElem?_toArray, List.getElem?_cons_succ, List.getElem?_cons_zero] at a0 a1 a2 b0 b1 b2 r0 r1 r2
  clear hW htb kW aW bW rW
  have RR1 := hid R1
  have RR2 := hid R2
  clear R1 R2 a0 b0 r0 r1 r2 fa0 fa1 fa2 fb0 fb1 fb2 fr0 fr1 fr2
  go_cut [52] (fun v wx => v = .bool true ∧ Hid (wx.heap[tb]? = some (.cells #[.bool n1, .int .u64 h1, .int .u64 l1] 50 (0, 0))) ∧ Hid (wx.heap[tb + 1]? = some (.cells #[.bool n2, .int .u64 h2, .int .u64 l2] 50 (0, 0))) ∧ Hid (wx.heap[tb + 2]? = some (.cells #[.bool false, .int .u64 0, .int .u64 0] 50 (0, 0))) ∧ Hid (Kb (fun _ => False) w wx))
  case first =>
    go_region_held3 (fun w' => w'.cell? ⟨tb, 1, none⟩ = some (.int .u64 h1) ∧ w'.cell? ⟨tb, 2, none⟩ = some (.int .u64 l1) ∧ w'.cell? ⟨tb + 1, 1, none⟩ = some (.int .u64 h2) ∧ w'.cell? ⟨tb + 1, 2, none⟩ = some (.int .u64 l2)) (first | go_keep | (trace_state; fail)) (first
      | (go_at_call 47; refine (compare_any _ _ _ (by first | exact A1.out | exact B1.out) (by first | exact A2.out | exact B2.out)).mono ?_; rintro e w' ⟨rfl, rfl⟩)
      | (go_at_call 46; refine (or_is _ (cmp3 h1 h2) (cmp3 l1 l2) ord _ (by simp [go_sem]) (by simp [go_sem]) HO.out).mono ?_; rintro e w' ⟨rfl, rfl⟩; have ho0 := HO0.out))
    all_goals
      go_wp2_with fail
      go_meet
      refine ⟨rfl, ?_, ?_, ?_, ?_⟩
      · exact (Below.heap_alloc _ _ _ hla).trans HA.out
      · exact (Below.heap_alloc _ _ _ hlb).trans HB.out
      · exact (Below.heap_alloc _ _ _ hlr).trans HR.out
      · exact Kb.drew (K.out.alloc _)
  case rest =>
    obtain ⟨rfl, hA, hB, hR, hK⟩ := hcut
    clear HA HB HR hla hlb hlr
    have a0 := cell_of_heap hA.out 0
    have a1 := cell_of_heap hA.out 1
    have a2 := cell_of_heap hA.out 2
    have b0 := cell_of_heap hB.out 0
    have b1 := cell_of_heap hB.out 1
    have b2 := cell_of_heap hB.out 2
    have fa0 := frozen_of_heap hA.out 0
    have fa1 := frozen_of_heap hA.out 1
    have fa2 := frozen_of_heap hA.out 2
    have fb0 := frozen_of_heap hB.out 0
    have fb1 := frozen_of_heap hB.out 1
    have fb2 := frozen_of_heap hB.out 2
    have hla := block_lt hA.out
    have hlb := block_lt hB.out
    simp only [List.getElem?_toArray, List.getElem?_cons_succ, List.getElem?_cons_zero] at a0 a1 a2 b0 b1 b2
    go_upto_region 7 with fail
    have ht0 : w.heap.size ≤ tb := by have := HTB.out; omega
    have ht1 : w.heap.size ≤ tb + 1 := by omega
    have hA3 := hid (set3_other _ (tb + 1) tb (.bool n1) (.int .u64 h1) (.int .u64 l1) _ (set3_same _ _ (.bool n2) (.int .u64 h2) (.int .u64 l2) _ _ _ _ hA.out) (by omega))
    have hB3 := hid (set3_same _ _ (.bool n1) (.int .u64 h1) (.int .u64 l1) _ _ _ _ (set3_other _ tb (tb + 1) (.bool n2) (.int .u64 h2) (.int .u64 l2) _ hB.out (by omega)))
    have hR3 := hid (set3_other _ (tb + 1) (tb + 2) (.bool n1) (.int .u64 h1) (.int .u64 l1) _ (set3_other _ tb (tb + 2) (.bool n2) (.int .u64 h2) (.int .u64 l2) _ hR.out (by omega)) (by omega))
    have hK3 := hid (set3_kb (set3_kb hK.out (.bool n2) (.int .u64 h2) (.int .u64 l2) ht0) (.bool n1) (.int .u64 h1) (.int .u64 l1) ht1)
    clear a0 a1 a2 b0 b1 b2 fa0 fa1 fa2 fb0 fb1 fb2 hla hlb ht0 ht1
    generalize hW3 : World.setCell _ _ _ = W3 at hA3 hB3 hR3 hK3 ⊢
    clear hW3 hA hB hR hK
    have hA := hA3
    have hB := hB3
    have hR := hR3
    have hK := hK3
    clear hA3 hB3 hR3 hK3
    have a0 := cell_of_heap hA.out 0
    have a1 := cell_of_heap hA.out 1
    have a2 := cell_of_heap hA.out 2
    have b0 := cell_of_heap hB.out 0
    have b1 := cell_of_heap hB.out 1
    have b2 := cell_of_heap hB.out 2
    have r0 := cell_of_heap hR.out 0
    have r1 := cell_of_heap hR.out 1
    have r2 := cell_of_heap hR.out 2
    have fr0 := frozen_of_heap hR.out 0
    have fr1 := frozen_of_heap hR.out 1
    have fr2 := frozen_of_heap hR.out 2
    have hlr := block_lt hR.out
    simp only [List.getElem?_toArray, List.getElem?_cons_succ, List.getElem?_cons_zero] at a0 a1 a2 b0 b1 b2 r0 r1 r2
    have K := hK
    clear hA hB hR hK
    have R1 := RR1.out
    have R2 := RR2.out
    have ht2 : w.heap.size ≤ tb + 2 := by have := HTB.out; omega
    cases n2
    · have HV := hid (show res = false from HRES.out.symm)
      clear HRES hne
      go_wp2_with fail
      refine bodyPost_ret (v := .agg #[.bool false, .int .u64 hi, .int .u64 lo]) (by simp [results, Tryz.results48, go_sem, r0, r1, r2]) rfl ⟨by rw [HV.out], ?_⟩
      exact set3_kb K.out _ _ _ ht2
    · have HV := hid (show res = decide (0 < hi ∨ 0 < lo) from by rw [← HRES.out, Bool.true_and])
      clear HRES hne
      by_cases q1 : 0 < hi
      · have p1 : decide (0 < (hi : Int)) = true := decide_eq_true (by omega)
        have HV2 := hid (show res = true from by rw [HV.out]; exact decide_eq_true (Or.inl q1))
        go_wp2_with fail
        refine bodyPost_ret (v := .agg #[.bool true, .int .u64 hi, .int .u64 lo]) (by simp [results, Tryz.results48, go_sem, r0, r1, r2]) rfl ⟨by rw [HV2.out], ?_⟩
        exact set3_kb K.out _ _ _ ht2
      · have hz : hi = 0 := by omega
        subst hz
        by_cases q2 : 0 < lo
        · have p1 : decide (0 < (lo : Int)) = true := decide_eq_true (by omega)
          have HV2 := hid (show res = true from by rw [HV.out]; exact decide_eq_true (Or.inr q2))
          go_wp2_with fail
          refine bodyPost_ret (v := .agg #[.bool true, .int .u64 ((0 : Nat) : Int), .int .u64 lo]) (by simp [results, Tryz.results48, go_sem, r0, r1, r2]) rfl ⟨by rw [HV2.out], ?_⟩
          exact set3_kb K.out _ _ _ ht2
        · have hz : lo = 0 := by omega
          subst hz
          have HV2 := hid (show res = false from by rw [HV.out]; exact decide_eq_false (by omega))
          go_wp2_with fail
          refine bodyPost_ret (v := .agg #[.bool false, .int .u64 ((0 : Nat) : Int), .int .u64 ((0 : Nat) : Int)]) (by simp [results, Tryz.results48, go_sem, r0, r1, r2]) rfl ⟨by rw [HV2.out], ?_⟩
          exact set3_kb K.out _ _ _ ht2
end Go.Proofs.YtkhjgfbiemllmaaGreatDoor
namespace Go.Proofs.YtkhjgfbiemllmaaGreatDoor
open Go.RowKit

theorem uniqM (M a b c d : Nat) (hb : b < M) (hd : d < M) (h : a * M + b = c * M + d) : a = c ∧ b = d := by
  have h1 : (a * M + b) / M = (c * M + d) / M := by rw [h]
  have h2 : (a * M + b) % M = (c * M + d) % M := by rw [h]
  rw [Nat.mul_comm a, Nat.mul_comm c, Nat.mul_add_div (by omega), Nat.mul_add_div (by omega), Nat.div_eq_of_lt hb, Nat.div_eq_of_lt hd] at h1
  rw [Nat.mul_comm a, Nat.mul_comm c, Nat.mul_add_mod, Nat.mul_add_mod, Nat.mod_eq_of_lt hb, Nat.mod_eq_of_lt hd] at h2
  exact ⟨by omega, h2⟩
theorem subM (M h1 l1 h2 l2 P : Nat) (hM : 0 < M) (b1 : l1 < M) (b2 : l2 < M) (hP : h1 * M + l1 = (h2 * M + l2) + P) (hPM : P / M < M) :
    (l1 + M - l2 - 0) % M = P % M ∧ (h1 + M - h2 - (if l1 < l2 + 0 then 1 else 0)) % M = P / M := by
  have hR := Nat.mod_lt P hM
  have hPd := Nat.div_add_mod' P M
  generalize P / M = Q at *
  generalize P % M = R at *
  have e : h1 * M + l1 = (h2 + Q) * M + (l2 + R) := by
    rw [Nat.add_mul]
    generalize h1 * M = x at *
    generalize h2 * M = y at *
    generalize Q * M = z at *
    omega
  by_cases hc : l2 + R < M
  · obtain ⟨u1, u2⟩ := uniqM M _ _ _ _ b1 hc e
    have hlt : ¬ l1 < l2 + 0 := by omega
    rw [if_neg hlt, show l1 + M - l2 - 0 = R + M by omega, Nat.add_mod_right, Nat.mod_eq_of_lt hR, show h1 + M - h2 - 0 = Q + M by omega, Nat.add_mod_right, Nat.mod_eq_of_lt hPM]
    exact ⟨rfl, rfl⟩
  · have e2 : h1 * M + l1 = (h2 + Q + 1) * M + (l2 + R - M) := by
      rw [e, Nat.add_mul (h2 + Q) 1 M, Nat.one_mul]
      generalize (h2 + Q) * M = x
      omega
    obtain ⟨u1, u2⟩ := uniqM M _ _ _ _ b1 (by omega) e2
    have hlt : l1 < l2 + 0 := by omega
    rw [if_pos hlt, show l1 + M - l2 - 0 = R by omega, Nat.mod_eq_of_lt hR, show h1 + M - h2 - 1 = Q + M by omega, Nat.add_mod_right, Nat.mod_eq_of_lt hPM]
    exact ⟨rfl, rfl⟩
theorem ordM (M h1 l1 h2 l2 : Nat) (b1 : l1 < M) (b2 : l2 < M) :
    decide ((if cmp3 h1 h2 = 0 then cmp3 l1 l2 else cmp3 h1 h2) < 0) = decide (h1 * M + l1 < h2 * M + l2) := by
  rcases Nat.lt_trichotomy h1 h2 with h | h | h
  · have hx : (h1 + 1) * M ≤ h2 * M := Nat.mul_le_mul_right _ h
    rw [Nat.add_mul, Nat.one_mul] at hx
    have hc : cmp3 h1 h2 = -1 := by unfold cmp3; rw [if_pos h]
    rw [hc, if_neg (by omega), decide_eq_true (by omega), decide_eq_true (by omega)]
  · subst h
    have hc : cmp3 h1 h1 = 0 := by unfold cmp3; rw [if_neg (by omega), if_neg (by omega)]
    rw [hc, if_pos rfl]
    unfold cmp3
    by_cases hl : l1 < l2
    · rw [if_pos hl, decide_eq_true (by omega), decide_eq_true (by omega)]
    · rw [if_neg hl]
      rw [decide_eq_false (p := h1 * M + l1 < h1 * M + l2) (by omega)]
      apply decide_eq_false
      split <;> omega
  · have hx : (h2 + 1) * M ≤ h1 * M := Nat.mul_le_mul_right _ h
    rw [Nat.add_mul, Nat.one_mul] at hx
    have hc : cmp3 h1 h2 = 1 := by unfold cmp3; rw [if_neg (by omega), if_pos h]
    rw [hc, if_neg (by omega), decide_eq_false (by omega), decide_eq_false (by omega)]
theorem posM (M P : Nat) (hM : 0 < M) : decide (0 < P / M ∨ 0 < P % M) = decide (0 < P) := by
  have h := Nat.div_add_mod' P M
  by_cases hp : 0 < P
  · rw [decide_eq_true hp]
    apply decide_eq_true
    by_cases hq : 0 < P % M
    · exact Or.inr hq
    · left
      apply Nat.div_pos _ hM
      have : P % M = 0 := by omega
      exact Nat.le_of_dvd hp (Nat.dvd_of_mod_eq_zero this)
  · have : P = 0 := by omega
    subst this
    simp
theorem plus_same_any (n : Bool) (P1 P2 : Nat) (w : World) (a1 : P1 / 18446744073709551616 < 4611686018427387904) (a2 : P2 / 18446744073709551616 < 4611686018427387904) (a3 : (P1 + P2) / 18446744073709551616 < 18446744073709551616) :
    Calls Tryz.prog 48 #[wideV n P1, wideV n P2] w fun e w' => e = .returned (wideV n (P1 + P2)) ∧ Kb (fun _ => False) w w' := by
  have h := add_wideM 18446744073709551616 (P1 / 18446744073709551616) (P1 % 18446744073709551616) (P2 / 18446744073709551616) (P2 % 18446744073709551616) (P1 + P2) (by decide) (by rw [Nat.div_add_mod', Nat.div_add_mod'])
  unfold wideV
  refine plus_same n _ _ _ _ _ _ _ w a1 a2 (Nat.mod_lt _ (by decide)) (Nat.mod_lt _ (by decide)) rfl ?_ ?_
  · rw [Nat.add_zero]
    exact h.2
  · rw [Nat.add_zero, h.1]
    exact Nat.mod_eq_of_lt a3
theorem ordLit (P1 P2 : Nat) : decide ((if cmp3 (P1 / 18446744073709551616) (P2 / 18446744073709551616) = 0 then cmp3 (P1 % 18446744073709551616) (P2 % 18446744073709551616) else cmp3 (P1 / 18446744073709551616) (P2 / 18446744073709551616)) < 0) = decide (P1 < P2) := by
  have h := ordM 18446744073709551616 (P1 / 18446744073709551616) (P1 % 18446744073709551616) (P2 / 18446744073709551616) (P2 % 18446744073709551616) (Nat.mod_lt _ (by decide)) (Nat.mod_lt _ (by decide))
  rw [Nat.div_add_mod', Nat.div_add_mod'] at h
  exact h
theorem lt_lit (P : Nat) (a : P / 18446744073709551616 < 4611686018427387904) : P / 18446744073709551616 < 18446744073709551616 := Nat.lt_trans a (by decide)
theorem plus_diff_any (n : Bool) (P1 P2 P : Nat) (w : World) (a1 : P1 / 18446744073709551616 < 4611686018427387904) (a2 : P2 / 18446744073709551616 < 4611686018427387904) (a3 : P / 18446744073709551616 < 18446744073709551616) (h : P1 = P2 + P) :
    Calls Tryz.prog 48 #[wideV n P1, wideV (!n) P2] w fun e w' => e = .returned (wideV (n && decide (0 < P)) P) ∧ Kb (fun _ => False) w w' := by
  have hs := subM 18446744073709551616 (P1 / 18446744073709551616) (P1 % 18446744073709551616) (P2 / 18446744073709551616) (P2 % 18446744073709551616) P (by decide) (Nat.mod_lt _ (by decide)) (Nat.mod_lt _ (by decide)) (by rw [Nat.div_add_mod', Nat.div_add_mod']; exact h) a3
  have ho := ordLit P1 P2
  rw [decide_eq_false (p := P1 < P2) (by omega)] at ho
  unfold wideV
  refine plus_diff n _ _ _ _ _ _ _ _ _ _ w (Nat.mod_lt _ (by decide)) (Nat.mod_lt _ (by decide)) (lt_lit _ a1) (lt_lit _ a2) rfl ho hs.1 rfl hs.2 rfl ?_
  rw [posM _ _ (by decide)]
theorem plus_swap_any (n : Bool) (P1 P2 P : Nat) (w : World) (a1 : P1 / 18446744073709551616 < 4611686018427387904) (a2 : P2 / 18446744073709551616 < 4611686018427387904) (a3 : P / 18446744073709551616 < 18446744073709551616) (h : P2 = P1 + P) (h0 : 0 < P) :
    Calls Tryz.prog 48 #[wideV n P1, wideV (!n) P2] w fun e w' => e = .returned (wideV (!n && decide (0 < P)) P) ∧ Kb (fun _ => False) w w' := by
  have hs := subM 18446744073709551616 (P2 / 18446744073709551616) (P2 % 18446744073709551616) (P1 / 18446744073709551616) (P1 % 18446744073709551616) P (by decide) (Nat.mod_lt _ (by decide)) (Nat.mod_lt _ (by decide)) (by rw [Nat.div_add_mod', Nat.div_add_mod']; exact h) a3
  have ho := ordLit P1 P2
  rw [decide_eq_true (p := P1 < P2) (by omega)] at ho
  unfold wideV
  refine plus_swap n _ _ _ _ _ _ _ _ _ _ w (Nat.mod_lt _ (by decide)) (Nat.mod_lt _ (by decide)) (lt_lit _ a1) (lt_lit _ a2) rfl ho hs.1 rfl hs.2 rfl ?_
  rw [posM _ _ (by decide)]
/-- A signed number as the program keeps it. -/
def wideZ (z : Int) : Value := wideV (decide (z < 0)) z.natAbs
theorem plus_any (z1 z2 : Int) (w : World) (a1 : z1.natAbs / 18446744073709551616 < 4611686018427387904) (a2 : z2.natAbs / 18446744073709551616 < 4611686018427387904) (a3 : (z1.natAbs + z2.natAbs) / 18446744073709551616 < 18446744073709551616) :
    Calls Tryz.prog 48 #[wideZ z1, wideZ z2] w fun e w' => e = .returned (wideZ (z1 + z2)) ∧ Kb (fun _ => False) w w' := by
  unfold wideZ
  by_cases hs : decide (z1 < 0) = decide (z2 < 0)
  · have h := plus_same_any (decide (z1 < 0)) z1.natAbs z2.natAbs w a1 a2 a3
    have e1 : (z1 + z2).natAbs = z1.natAbs + z2.natAbs := by
      have := decide_eq_decide.1 hs
      omega
    have e2 : decide (z1 + z2 < 0) = decide (z1 < 0) := by
      have := decide_eq_decide.1 hs
      apply decide_eq_decide.2
      omega
    rw [e1, e2, ← hs]
    exact h
  · have hn : decide (z2 < 0) = !decide (z1 < 0) := by
      revert hs
      cases decide (z1 < 0) <;> cases decide (z2 < 0) <;> simp
    have hsg : (z1 < 0 ↔ ¬ z2 < 0) := by
      by_cases h1 : z1 < 0 <;> by_cases h2 : z2 < 0 <;> simp [h1, h2] at hs ⊢
    rw [hn]
    by_cases hle : z2.natAbs ≤ z1.natAbs
    · have h := plus_diff_any (decide (z1 < 0)) z1.natAbs z2.natAbs (z1 + z2).natAbs w a1 a2 (Nat.lt_of_le_of_lt (Nat.div_le_div_right (by omega)) a3) (by omega)
      have e2 : decide (z1 + z2 < 0) = (decide (z1 < 0) && decide (0 < (z1 + z2).natAbs)) := by
        by_cases h1 : z1 < 0
        · rw [decide_eq_true h1, Bool.true_and]
          apply decide_eq_decide.2
          omega
        · rw [decide_eq_false h1, Bool.false_and]
          apply decide_eq_false
          omega
      rw [e2]
      exact h
    · have h := plus_swap_any (decide (z1 < 0)) z1.natAbs z2.natAbs (z1 + z2).natAbs w a1 a2 (Nat.lt_of_le_of_lt (Nat.div_le_div_right (by omega)) a3) (by omega) (by omega)
      have e2 : decide (z1 + z2 < 0) = (!decide (z1 < 0) && decide (0 < (z1 + z2).natAbs)) := by
        by_cases h1 : z1 < 0
        · rw [decide_eq_true h1, Bool.not_true, Bool.false_and]
          apply decide_eq_false
          omega
        · rw [decide_eq_false h1, Bool.not_false, Bool.true_and]
          apply decide_eq_decide.2
          omega
      rw [e2]
      exact h
end Go.Proofs.YtkhjgfbiemllmaaGreatDoor
namespace Go.Proofs.YtkhjgfbiemllmaaGreatDoor
open Go.RowKit

/-- The millionths of a decimal (0, if it is not right). -/
def unitZ (n s : Int) : Int := if rightB n s then n * ((10 ^ (6 - s.toNat) : Nat) : Int) else 0
theorem unitsV_is (n s : Int) : unitsV n s = wideZ (unitZ n s) := by
  unfold unitsV unitZ wideZ
  cases rightB n s
  · rfl
  · have hp : (0 : Int) < ((10 ^ (6 - s.toNat) : Nat) : Int) := by
      have := Nat.pow_pos (n := 6 - s.toNat) (show 0 < 10 by omega)
      omega
    simp only [if_true]
    rw [Int.natAbs_mul, Int.natAbs_natCast]
    congr 1
    apply decide_eq_decide.2
    constructor
    · intro h; exact Int.mul_neg_of_neg_of_pos h hp
    · intro h
      apply Classical.byContradiction
      intro h2
      have := Int.mul_nonneg (show 0 ≤ n by omega) (Int.le_of_lt hp)
      omega
theorem unitZ_le (n s : Int) : (unitZ n s).natAbs ≤ 1000000000000000 * 1000000 := by
  unfold unitZ
  cases hr : rightB n s
  · simp
  · unfold rightB at hr
    simp only [decide_eq_true_eq] at hr
    simp only [if_true]
    rw [Int.natAbs_mul, Int.natAbs_natCast]
    refine Nat.mul_le_mul (by omega) ?_
    have : 10 ^ (6 - s.toNat) ≤ 10 ^ 6 := Nat.pow_le_pow_right (by omega) (by omega)
    exact this
theorem plus_u (n1 s1 n2 s2 : Int) (w : World) :
    Calls Tryz.prog 48 #[unitsV n1 s1, unitsV n2 s2] w fun e w' => e = .returned (wideZ (unitZ n1 s1 + unitZ n2 s2)) ∧ Kb (fun _ => False) w w' := by
  rw [unitsV_is, unitsV_is]
  have h1 := unitZ_le n1 s1
  have h2 := unitZ_le n2 s2
  have e : 1000000000000000 * 1000000 = 1000000000000000000000 := by decide
  rw [e] at h1 h2
  refine plus_any _ _ w (Nat.div_lt_of_lt_mul (Nat.lt_of_le_of_lt h1 (by decide))) (Nat.div_lt_of_lt_mul (Nat.lt_of_le_of_lt h2 (by decide))) (Nat.div_lt_of_lt_mul (Nat.lt_of_le_of_lt (Nat.add_le_add h1 h2) (by decide)))
theorem small_u (z : Int) (P : Nat) (s : Int) (k : Nat) (x y : Int) (b : Bool) (w : World) (hP : z.natAbs = P) (hb : P / 18446744073709551616 < 18446744073709551616) (hs : s = k) (hk : k ≤ 1000) (h : fitV (decide (z < 0)) z.natAbs k = .tuple #[.agg #[.int .i64 x, .int .i64 y], .bool b]) :
    Calls Tryz.prog 32 #[wideZ z, .int .i64 s] w fun e w' => e = .returned (.tuple #[.agg #[.int .i64 x, .int .i64 y], .bool b]) ∧ Kb (fun _ => False) w w' := by
  subst hP
  unfold wideZ wideV
  exact wide_small_is _ _ _ z.natAbs s k x y b w hb (Nat.mod_lt _ (by decide)) hs hk (Nat.div_add_mod' _ _) h
attribute [local go_sem ↓] Go.wp_at_zero Go.wp_at_succ
set_option maxHeartbeats 4000000 in
set_option maxRecDepth 100000 in
theorem dadd_any (n1 s1 n2 s2 : Int) (w : World) (env : Env w) :
    Calls Tryz.prog 20 #[.agg #[.int .i64 n1, .int .i64 s1], .agg #[.int .i64 n2, .int .i64 s2]] w fun e w' => e = .returned (fitV (decide (unitZ n1 s1 + unitZ n2 s2 < 0)) (unitZ n1 s1 + unitZ n2 s2).natAbs 6) ∧ Kb (fun _ => False) w w' := by
  obtain ⟨x, y, ok, hv⟩ := fitV_form (decide (unitZ n1 s1 + unitZ n2 s2 < 0)) (unitZ n1 s1 + unitZ n2 s2).natAbs 6
  rw [hv]
  have hb : (unitZ n1 s1 + unitZ n2 s2).natAbs / 18446744073709551616 < 18446744073709551616 := by
    have h1 := unitZ_le n1 s1
    have h2 := unitZ_le n2 s2
    have h3 := Nat.le_trans (Int.natAbs_add_le (unitZ n1 s1) (unitZ n2 s2)) (Nat.add_le_add h1 h2)
    exact Nat.div_lt_of_lt_mul (Nat.lt_of_le_of_lt h3 (by decide))
  have HV := hid hv
  have HBB := hid hb
  have EN := hid env
  clear hv hb env
  go_enter Tryz.func20, Tryz.ntmps20
  go_wp2_with fail
  generalize hW : World.alloc _ _ = W
  have kW : Kb (fun _ => False) w W := by subst hW; exact (((Kb.refl _ _).alloc _).alloc _).alloc _
  have aW : W.heap[w.heap.size]? = some (.cells #[.int .i64 n1, .int .i64 s1] 23 (0, 0)) := by
    subst hW
    rw [Below.heap_alloc _ _ _ (by simp; omega), Below.heap_alloc _ _ _ (by simp)]
    exact heap_alloc_new w _
  have bW : W.heap[w.heap.size + 1]? = some (.cells #[.int .i64 n2, .int .i64 s2] 23 (0, 0)) := by
    subst hW
    rw [Below.heap_alloc _ _ _ (by simp)]
    have h := heap_alloc_new (w.alloc (.cells #[.int .i64 n1, .int .i64 s1] 23)) (.cells #[.int .i64 n2, .int .i64 s2] 23)
    simpa using h
  have rW : W.heap[w.heap.size + 2]? = some (.cells #[.int .i64 0, .int .i64 0] 23 (0, 0)) := by
    subst hW
    have h := heap_alloc_new ((w.alloc (.cells #[.int .i64 n1, .int .i64 s1] 23)).alloc (.cells #[.int .i64 n2, .int .i64 s2] 23)) (.cells #[.int .i64 0, .int .i64 0] 23)
    simpa using h
  obtain ⟨tb, htb⟩ : ∃ tb, tb = w.heap.size := ⟨_, rfl⟩
  have HTB := hid htb
  rw [← htb]
  rw [← htb] at aW bW rW
  have K := hid kW
  have a0 := cell_of_heap aW 0
  have a1 := cell_of_heap aW 1
  have fa0 := frozen_of_heap aW 0
  have fa1 := frozen_of_heap aW 1
  have b0 := cell_of_heap bW 0
  have b1 := cell_of_heap bW 1
  have fb0 := frozen_of_heap bW 0
  have fb1 := frozen_of_heap bW 1
  have r0 := cell_of_heap rW 0
  have r1 := cell_of_heap rW 1
  have fr0 := frozen_of_heap rW 0
  have fr1 := frozen_of_heap rW 1
  have hla := block_lt aW
  have hlb := block_lt bW
  have hlr := block_lt rW
  simp only [List.getElem?_toArray, List.getElem?_cons_succ, List.getElem?_cons_zero] at a0 a1 b0 b1 r0 r1
  have HA := hid aW
  have HB := hid bW
  have HR := hid rW
  clear hW htb kW aW bW rW
  clear HA HB HR fa0 fa1 fb0 fb1
  go_wp2_with fail
  go_region_with (first
      | (go_at_call 45; refine (units_any _ _ _ (Env.kb EN.out (by first | exact K.out | exact Kb.drew K.out))).mono ?_; rintro e w' ⟨rfl, kq⟩; have a0 := kq.cell a0 (by simp); have a1 := kq.cell a1 (by simp); have b0 := kq.cell b0 (by simp); have b1 := kq.cell b1 (by simp); have r0 := kq.cell r0 (by simp); have r1 := kq.cell r1 (by simp); have fr0 := (kq.frozen (p := ⟨tb + 2, 0, none⟩) hlr (by simp)).trans fr0; have fr1 := (kq.frozen (p := ⟨tb + 2, 1, none⟩) hlr (by simp)).trans fr1; have hlr := Nat.lt_of_lt_of_le hlr kq.size; (first | (have K := hid (K.out.trans kq)) | (have K := hid (K.out.trans (Kb.of_draw kq)))))
      | (go_at_call 48; refine (plus_u n1 s1 n2 s2 _).mono ?_; rintro e w' ⟨rfl, kq⟩; have a0 := kq.cell a0 (by simp); have a1 := kq.cell a1 (by simp); have b0 := kq.cell b0 (by simp); have b1 := kq.cell b1 (by simp); have r0 := kq.cell r0 (by simp); have r1 := kq.cell r1 (by simp); have fr0 := (kq.frozen (p := ⟨tb + 2, 0, none⟩) hlr (by simp)).trans fr0; have fr1 := (kq.frozen (p := ⟨tb + 2, 1, none⟩) hlr (by simp)).trans fr1; have hlr := Nat.lt_of_lt_of_le hlr kq.size; (first | (have K := hid (K.out.trans kq)) | (have K := hid (K.out.trans (Kb.of_draw kq)))))
      | (go_at_call 32; refine (small_u (unitZ n1 s1 + unitZ n2 s2) _ _ 6 x y ok _ rfl HBB.out (by first | rfl | omega) (by omega) HV.out).mono ?_; rintro e w' ⟨rfl, kq⟩; have a0 := kq.cell a0 (by simp); have a1 := kq.cell a1 (by simp); have b0 := kq.cell b0 (by simp); have b1 := kq.cell b1 (by simp); have r0 := kq.cell r0 (by simp); have r1 := kq.cell r1 (by simp); have fr0 := (kq.frozen (p := ⟨tb + 2, 0, none⟩) hlr (by simp)).trans fr0; have fr1 := (kq.frozen (p := ⟨tb + 2, 1, none⟩) hlr (by simp)).trans fr1; have hlr := Nat.lt_of_lt_of_le hlr kq.size; (first | (have K := hid (K.out.trans kq)) | (have K := hid (K.out.trans (Kb.of_draw kq))))))
  all_goals
    go_wp2_with fail
    refine bodyPost_ret (v := .tuple #[.agg #[.int .i64 x, .int .i64 y], .bool ok]) (by simp [results, Tryz.results20, go_sem, r0, r1]) rfl ⟨rfl, ?_⟩
    have ht2 : w.heap.size ≤ tb + 2 := by have := HTB.out; omega
    first
      | exact set2_kb K.out _ _ ht2
      | exact set2_kb (Kb.drew K.out) _ _ ht2
      | exact Kb.drew (set2_kb K.out _ _ ht2)
end Go.Proofs.YtkhjgfbiemllmaaGreatDoor
namespace Go.Proofs.YtkhjgfbiemllmaaGreatDoor
open Go.RowKit

theorem dadd_is (n1 s1 n2 s2 : Int) (x y : Int) (ok : Bool) (w : World) (env : Env w) (h : fitV (decide (unitZ n1 s1 + unitZ n2 s2 < 0)) (unitZ n1 s1 + unitZ n2 s2).natAbs 6 = .tuple #[.agg #[.int .i64 x, .int .i64 y], .bool ok]) :
    Calls Tryz.prog 20 #[.agg #[.int .i64 n1, .int .i64 s1], .agg #[.int .i64 n2, .int .i64 s2]] w fun e w' => e = .returned (.tuple #[.agg #[.int .i64 x, .int .i64 y], .bool ok]) ∧ Kb (fun _ => False) w w' := by
  rw [← h]
  exact dadd_any n1 s1 n2 s2 w env
set_option maxHeartbeats 2000000 in
theorem dsub_core (n1 s1 n2 s2 x2 m2 : Int) (k2 : Nat) (x y : Int) (ok : Bool) (w : World) (env : Env w) (h2 : knownV n2 s2 = .agg #[.int .i64 x2, .int .i64 k2]) (hx : x2.natAbs ≤ 1000000000000000) (hm : -x2 = m2)
    (hv : fitV (decide (unitZ n1 s1 + unitZ m2 k2 < 0)) (unitZ n1 s1 + unitZ m2 k2).natAbs 6 = .tuple #[.agg #[.int .i64 x, .int .i64 y], .bool ok]) :
    Calls Tryz.prog 22 #[.agg #[.int .i64 n1, .int .i64 s1], .agg #[.int .i64 n2, .int .i64 s2]] w fun e w' => e = .returned (.tuple #[.agg #[.int .i64 x, .int .i64 y], .bool ok]) ∧ Kb (fun _ => False) w w' := by
  have e1 : IntKind.i64.wrap (-x2) = m2 := by rw [← hm]; exact IntWalk.i64_in _ (by omega)
  have E1 := hid e1
  have H2 := hid h2
  have HV := hid hv
  have EN := hid env
  clear h2 hv hm env hx e1
  go_enter Tryz.func22, Tryz.ntmps22
  go_wp2_with fail
  generalize hW : World.alloc _ _ = W
  have kW : Kb (fun _ => False) w W := by subst hW; exact (((Kb.refl _ _).alloc _).alloc _).alloc _
  have aW : W.heap[w.heap.size]? = some (.cells #[.int .i64 n1, .int .i64 s1] 23 (0, 0)) := by
    subst hW
    rw [Below.heap_alloc _ _ _ (by simp; omega), Below.heap_alloc _ _ _ (by simp)]
    exact heap_alloc_new w _
  have bW : W.heap[w.heap.size + 1]? = some (.cells #[.int .i64 n2, .int .i64 s2] 23 (0, 0)) := by
    subst hW
    rw [Below.heap_alloc _ _ _ (by simp)]
    have h := heap_alloc_new (w.alloc (.cells #[.int .i64 n1, .int .i64 s1] 23)) (.cells #[.int .i64 n2, .int .i64 s2] 23)
    simpa using h
  have rW : W.heap[w.heap.size + 2]? = some (.cells #[.int .i64 0, .int .i64 0] 23 (0, 0)) := by
    subst hW
    have h := heap_alloc_new ((w.alloc (.cells #[.int .i64 n1, .int .i64 s1] 23)).alloc (.cells #[.int .i64 n2, .int .i64 s2] 23)) (.cells #[.int .i64 0, .int .i64 0] 23)
    simpa using h
  obtain ⟨tb, htb⟩ : ∃ tb, tb = w.heap.size := ⟨_, rfl⟩
  have HTB := hid htb
  rw [← htb]
  rw [← htb] at aW bW rW
  have K := hid kW
  have a0 := cell_of_heap aW 0
  have a1 := cell_of_heap aW 1
  have fa0 := frozen_of_heap aW 0
  have fa1 := frozen_of_heap aW 1
  have b0 := cell_of_heap bW 0
  have b1 := cell_of_heap bW 1
  have fb0 := frozen_of_heap bW 0
  have fb1 := frozen_of_heap bW 1
  have r0 := cell_of_heap rW 0
  have r1 := cell_of_heap rW 1
  have fr0 := frozen_of_heap rW 0
  have fr1 := frozen_of_heap rW 1
  have hla := block_lt aW
  have hlb := block_lt bW
  have hlr := block_lt rW
  simp only [List.getElem?_toArray, List.getElem?_cons_succ, List.getElem?_cons_zero] at a0 a1 b0 b1 r0 r1
  have HA := hid aW
  have HB := hid bW
  have HR := hid rW
  clear hW htb kW aW bW rW
  clear HA HB HR
  refine (known_is n2 s2 x2 k2 _ H2.out).mono ?_
  rintro e w1 ⟨rfl, kq⟩
  have a0 := kq.cell a0 (by simp)
  have a1 := kq.cell a1 (by simp)
  have b0 := kq.cell b0 (by simp)
  have b1 := kq.cell b1 (by simp)
  have r0 := kq.cell r0 (by simp)
  have r1 := kq.cell r1 (by simp)
  have fb0 := (kq.frozen (p := ⟨tb + 1, 0, none⟩) hlb (by simp)).trans fb0
  have fb1 := (kq.frozen (p := ⟨tb + 1, 1, none⟩) hlb (by simp)).trans fb1
  have fr0 := (kq.frozen (p := ⟨tb + 2, 0, none⟩) hlr (by simp)).trans fr0
  have fr1 := (kq.frozen (p := ⟨tb + 2, 1, none⟩) hlr (by simp)).trans fr1
  have hla := Nat.lt_of_lt_of_le hla kq.size
  have hlb := Nat.lt_of_lt_of_le hlb kq.size
  have hlr := Nat.lt_of_lt_of_le hlr kq.size
  have K := hid (K.out.trans kq)
  have e1 := E1.out
  go_wp2_with fail
  clear e1
  generalize hW3 : World.setCell _ _ _ = W3
  have k3 : Kb (fun x => x = tb + 1) w1 W3 := by
    subst hW3
    exact Kb.setCell (S := fun x => x = tb + 1) (Kb.setCell (S := fun x => x = tb + 1) (Kb.setCell (S := fun x => x = tb + 1) (Kb.refl _ _) (Or.inl rfl) _) (Or.inl rfl) _) (Or.inl rfl) _
  have K3 := hid (K.out.trans' k3 (fun i hi e => by have := HTB.out; omega))
  have r0 := k3.cell r0 (by simp)
  have r1 := k3.cell r1 (by simp)
  have fr0 := (k3.frozen (p := ⟨tb + 2, 0, none⟩) hlr (by simp)).trans fr0
  have fr1 := (k3.frozen (p := ⟨tb + 2, 1, none⟩) hlr (by simp)).trans fr1
  have hlr := Nat.lt_of_lt_of_le hlr k3.size
  clear hW3 k3 K a0 a1 b0 b1 fa0 fa1 fb0 fb1 hla hlb
  refine (dadd_is n1 s1 m2 k2 x y ok W3 (Env.kb EN.out K3.out) HV.out).mono ?_
  rintro e w' ⟨rfl, kq⟩
  have r0 := kq.cell r0 (by simp)
  have r1 := kq.cell r1 (by simp)
  have fr0 := (kq.frozen (p := ⟨tb + 2, 0, none⟩) hlr (by simp)).trans fr0
  have fr1 := (kq.frozen (p := ⟨tb + 2, 1, none⟩) hlr (by simp)).trans fr1
  have hlr := Nat.lt_of_lt_of_le hlr kq.size
  have K4 := hid (K3.out.trans kq)
  clear kq K3
  go_wp2_with fail
  refine bodyPost_ret (v := .tuple #[.agg #[.int .i64 x, .int .i64 y], .bool ok]) (by simp [results, Tryz.results22, go_sem, r0, r1]) rfl ⟨rfl, ?_⟩
  exact set2_kb K4.out _ _ (by have := HTB.out; omega)
theorem known_nat (n s : Int) : ∃ (x : Int) (k : Nat), knownV n s = .agg #[.int .i64 x, .int .i64 k] ∧ x.natAbs ≤ 1000000000000000 ∧ k ≤ 6 ∧ unitZ n s = x * ((10 ^ (6 - k) : Nat) : Int) ∧ unitZ (-x) k = -(unitZ n s) := by
  cases hr : rightB n s
  · refine ⟨0, 0, by unfold knownV; rw [hr]; rfl, by simp, by omega, ?_, ?_⟩
    · unfold unitZ; rw [hr]; simp
    · have h1 : unitZ n s = 0 := by unfold unitZ; rw [hr]; rfl
      rw [h1]
      unfold unitZ
      split
      · simp
      · rfl
  · have hb := hr
    unfold rightB at hb
    rw [decide_eq_true_eq] at hb
    have hs : ((s.toNat : Nat) : Int) = s := by omega
    have hu : unitZ n s = n * ((10 ^ (6 - s.toNat) : Nat) : Int) := by unfold unitZ; rw [hr]; rfl
    have hr2 : rightB (-n) s = true := by
      unfold rightB
      rw [decide_eq_true_eq, Int.neg_tmod]
      omega
    refine ⟨n, s.toNat, by unfold knownV; rw [hr, hs]; rfl, by omega, by omega, hu, ?_⟩
    rw [hu, hs]
    unfold unitZ
    rw [hr2]
    simp only [if_true]
    rw [Int.neg_mul]
theorem dsub_any (n1 s1 n2 s2 : Int) (w : World) (env : Env w) :
    Calls Tryz.prog 22 #[.agg #[.int .i64 n1, .int .i64 s1], .agg #[.int .i64 n2, .int .i64 s2]] w fun e w' => e = .returned (fitV (decide (unitZ n1 s1 - unitZ n2 s2 < 0)) (unitZ n1 s1 - unitZ n2 s2).natAbs 6) ∧ Kb (fun _ => False) w w' := by
  obtain ⟨x2, k2, h1, h2, h3, h4, h5⟩ := known_nat n2 s2
  obtain ⟨x, y, ok, hv⟩ := fitV_form (decide (unitZ n1 s1 + unitZ (-x2) k2 < 0)) (unitZ n1 s1 + unitZ (-x2) k2).natAbs 6
  have h := dsub_core n1 s1 n2 s2 x2 (-x2) k2 x y ok w env h1 h2 rfl hv
  rw [← hv, h5, ← Int.sub_eq_add_neg] at h
  exact h
end Go.Proofs.YtkhjgfbiemllmaaGreatDoor
