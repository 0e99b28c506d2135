/- The walks of Mul and Add. -/
import Derived.Test.YtkhjgfbiemllmaaDoorLe
namespace Go.Proofs.YtkhjgfbiemllmaaDoor
open Go.RowKit

theorem set2_same (w : World) (t : Nat) (p q a b : Value) (T : Nat) (h : w.heap[t]? = some (.cells #[a, b] T (0, 0))) : ((w.setCell ⟨t, 0, none⟩ p).setCell ⟨t, 1, none⟩ q).heap[t]? = some (.cells #[p, q] T (0, 0)) := by
  rw [heap_setCell_same _ t 1 _ T _ (heap_setCell_same w t 0 _ T _ h)]
  rfl
theorem set2_kbs (w : World) (t : Nat) (p q : Value) : Kb (fun x => x = t) w ((w.setCell ⟨t, 0, none⟩ p).setCell ⟨t, 1, none⟩ q) :=
  Kb.setCell (S := fun x => x = t) (Kb.setCell (S := fun x => x = t) (Kb.refl _ _) (Or.inl rfl) _) (Or.inl rfl) _
theorem set2_other (w : World) (t u : Nat) (p q : Value) (o : Obj) (h : w.heap[u]? = some o) (ne : u ≠ t) : ((w.setCell ⟨t, 0, none⟩ p).setCell ⟨t, 1, none⟩ q).heap[u]? = some o :=
  (set2_kbs w t p q).heap h ne
theorem set2_kb {w w' : World} {t : Nat} (k : Kb (fun _ => False) w w') (p q : Value) (ht : w.heap.size ≤ t) : Kb (fun _ => False) w ((w'.setCell ⟨t, 0, none⟩ p).setCell ⟨t, 1, none⟩ q) :=
  Kb.setCell (Kb.setCell k (Or.inr ht) _) (Or.inr ht) _
attribute [local go_sem ↓] Go.wp_at_zero Go.wp_at_succ
set_option maxHeartbeats 4000000 in
set_option maxRecDepth 100000 in
theorem dmul_core (n1 s1 n2 s2 x1 x2 : Int) (k1 k2 hi lo P : Nat) (neg : Bool) (x y : Int) (ok : Bool) (w : World) (h1 : knownV n1 s1 = .agg #[.int .i64 x1, .int .i64 k1]) (h2 : knownV n2 s2 = .agg #[.int .i64 x2, .int .i64 k2])
    (hx1 : x1.natAbs ≤ 1000000000000000) (hx2 : x2.natAbs ≤ 1000000000000000) (hk1 : k1 ≤ 6) (hk2 : k2 ≤ 6) (hn : (decide (x1 < 0) != decide (x2 < 0)) = neg) (hP : x1.natAbs * x2.natAbs = P) (hhi : P / 18446744073709551616 = hi) (hlo : P % 18446744073709551616 = lo)
    (hv : fitV neg P (k1 + k2) = .tuple #[.agg #[.int .i64 x, .int .i64 y], .bool ok]) :
    Calls Tryd.prog 19 #[.agg #[.int .i64 n1, .int .i64 s1], .agg #[.int .i64 n2, .int .i64 s2]] w fun e w' => e = .returned (.tuple #[.agg #[.int .i64 x, .int .i64 y], .bool ok]) ∧ Kb (fun _ => False) w w' := by
  have H1 := hid h1
  have H2 := hid h2
  have HN := hid hn
  have HP := hid hP
  have HHI := hid hhi
  have HLO := hid hlo
  have HV := hid hv
  have HX1 := hid hx1
  have HX2 := hid hx2
  clear h1 h2 hn hP hhi hlo hv hx1 hx2
  go_enter Tryd.func19, Tryd.ntmps19
  go_wp2_with fail
  generalize hW : World.alloc _ _ = W
  have kW : Kb (fun _ => False) w W := by subst hW; exact (((Kb.refl _ _).alloc _).alloc _).alloc _
  have aW : W.heap[w.heap.size]? = some (.cells #[.int .i64 n1, .int .i64 s1] 23 (0, 0)) := by
    subst hW
    rw [Below.heap_alloc _ _ _ (by simp; omega), Below.heap_alloc _ _ _ (by simp)]
    exact heap_alloc_new w _
  have bW : W.heap[w.heap.size + 1]? = some (.cells #[.int .i64 n2, .int .i64 s2] 23 (0, 0)) := by
    subst hW
    rw [Below.heap_alloc _ _ _ (by simp)]
    have h := heap_alloc_new (w.alloc (.cells #[.int .i64 n1, .int .i64 s1] 23)) (.cells #[.int .i64 n2, .int .i64 s2] 23)
    simpa using h
  have rW : W.heap[w.heap.size + 2]? = some (.cells #[.int .i64 0, .int .i64 0] 23 (0, 0)) := by
    subst hW
    have h := heap_alloc_new ((w.alloc (.cells #[.int .i64 n1, .int .i64 s1] 23)).alloc (.cells #[.int .i64 n2, .int .i64 s2] 23)) (.cells #[.int .i64 0, .int .i64 0] 23)
    simpa using h
  obtain ⟨tb, htb⟩ : ∃ tb, tb = w.heap.size := ⟨_, rfl⟩
  have HTB := hid htb
  rw [← htb]
  rw [← htb] at aW bW rW
  have K := hid kW
  have a0 := cell_of_heap aW 0
  have a1 := cell_of_heap aW 1
  have fa0 := frozen_of_heap aW 0
  have fa1 := frozen_of_heap aW 1
  have b0 := cell_of_heap bW 0
  have b1 := cell_of_heap bW 1
  have fb0 := frozen_of_heap bW 0
  have fb1 := frozen_of_heap bW 1
  have r0 := cell_of_heap rW 0
  have r1 := cell_of_heap rW 1
  have fr0 := frozen_of_heap rW 0
  have fr1 := frozen_of_heap rW 1
  have hla := block_lt aW
  have hlb := block_lt bW
  have hlr := block_lt rW
  simp only [List.getElem?_toArray, List.getElem?_cons_succ, List.getElem?_cons_zero] at a0 a1 b0 b1 r0 r1
  have HA := hid aW
  have HB := hid bW
  have HR := hid rW
  clear hW htb kW aW bW rW
  go_upto_region 1 with fail
  go_cut [5] (fun v wx => v = .bool false ∧ Hid (wx.heap[tb]? = some (.cells #[.int .i64 x1, .int .i64 k1] 23 (0, 0))) ∧ Hid (wx.heap[tb + 1]? = some (.cells #[.int .i64 x2, .int .i64 k2] 23 (0, 0))) ∧ Hid (wx.heap[tb + 2]? = some (.cells #[.int .i64 0, .int .i64 0] 23 (0, 0))) ∧ Hid (Kb (fun _ => False) w wx))
  case first =>
    go_region_with (go_at_call 25; (first | refine (known_is _ _ x1 k1 _ (by exact H1.out)).mono ?_ | refine (known_is _ _ x2 k2 _ (by exact H2.out)).mono ?_); rintro e w' ⟨rfl, kq⟩; have a0 := kq.cell a0 (by simp); have a1 := kq.cell a1 (by simp); have b0 := kq.cell b0 (by simp); have b1 := kq.cell b1 (by simp); have r0 := kq.cell r0 (by simp); have r1 := kq.cell r1 (by simp); have fa0 := (kq.frozen (p := ⟨tb, 0, none⟩) hla (by simp)).trans fa0; have fa1 := (kq.frozen (p := ⟨tb, 1, none⟩) hla (by simp)).trans fa1; have fb0 := (kq.frozen (p := ⟨tb + 1, 0, none⟩) hlb (by simp)).trans fb0; have fb1 := (kq.frozen (p := ⟨tb + 1, 1, none⟩) hlb (by simp)).trans fb1; have fr0 := (kq.frozen (p := ⟨tb + 2, 0, none⟩) hlr (by simp)).trans fr0; have fr1 := (kq.frozen (p := ⟨tb + 2, 1, none⟩) hlr (by simp)).trans fr1; have hla := Nat.lt_of_lt_of_le hla kq.size; have hlb := Nat.lt_of_lt_of_le hlb kq.size; have hlr := Nat.lt_of_lt_of_le hlr kq.size; (first | (have K := hid (K.out.trans kq)) | (have K := hid (K.out.trans (Kb.of_draw kq)))); have HA := hid (kq.heap HA.out (by simp)); have HB := hid (kq.heap HB.out (by simp)); have HR := hid (kq.heap HR.out (by simp)))
    all_goals
      go_wp2_with fail
      go_meet
      have ht : w.heap.size ≤ tb := by have := HTB.out; omega
      have ht1 : w.heap.size ≤ tb + 1 := by omega
      refine ⟨rfl, ?_, ?_, ?_, ?_⟩
      · exact set2_other _ _ _ _ _ _ (set2_same _ _ _ _ _ _ _ HA.out) (by omega)
      · exact set2_same _ _ _ _ _ _ _ (set2_other _ _ _ _ _ _ HB.out (by omega))
      · exact set2_other _ _ _ _ _ _ (set2_other _ _ _ _ _ _ HR.out (by omega)) (by omega)
      · show Kb _ _ _
        first
          | exact set2_kb (set2_kb K.out _ _ ht) _ _ ht1
          | exact set2_kb (set2_kb (Kb.drew K.out) _ _ ht) _ _ ht1
          | exact Kb.drew (set2_kb (set2_kb K.out _ _ ht) _ _ ht1)
  case rest =>
    obtain ⟨rfl, hA, hB, hR, hK⟩ := hcut
    have a0 := cell_of_heap hA.out 0
    have a1 := cell_of_heap hA.out 1
    have b0 := cell_of_heap hB.out 0
    have b1 := cell_of_heap hB.out 1
    have r0 := cell_of_heap hR.out 0
    have r1 := cell_of_heap hR.out 1
    have fr0 := frozen_of_heap hR.out 0
    have fr1 := frozen_of_heap hR.out 1
    have hlr := block_lt hR.out
    simp only [List.getElem?_toArray, List.getElem?_cons_succ, List.getElem?_cons_zero] at a0 a1 b0 b1 r0 r1
    have K := hK
    clear hA hB hR hK HA HB HR
    have e1 : IntKind.i64.wrap ((k1 : Int) + (k2 : Int)) = ((k1 + k2 : Nat) : Int) := IntWalk.i64_in _ (by omega)
    have hl1 : hi < 18446744073709551616 := by
      have h := HHI.out
      have h1 : x1.natAbs * x2.natAbs ≤ 1000000000000000 * 1000000000000000 := Nat.mul_le_mul HX1.out HX2.out
      have h2 := HP.out
      rw [← h, ← h2]
      exact Nat.div_lt_of_lt_mul (by omega)
    have hl2 : lo < 18446744073709551616 := by
      have h := HLO.out
      rw [← h]
      exact Nat.mod_lt _ (by omega)
    have hPP := hid (show hi * 18446744073709551616 + lo = P by
      have h := HHI.out
      have h2 := HLO.out
      rw [← h, ← h2]
      exact Nat.div_add_mod' P _)
    have HL1 := hid hl1
    have HL2 := hid hl2
    clear hl1 hl2
    go_wp2_with fail
    go_region_with (first
        | (go_at_call 33; refine (product_is x1 x2 neg P hi lo _ (by have := HX1.out; omega) (by have := HX2.out; omega) HN.out HP.out HHI.out HLO.out).mono ?_; rintro e w' ⟨rfl, kq⟩; have a0 := kq.cell a0 (by simp); have a1 := kq.cell a1 (by simp); have b0 := kq.cell b0 (by simp); have b1 := kq.cell b1 (by simp); have r0 := kq.cell r0 (by simp); have r1 := kq.cell r1 (by simp); have fr0 := (kq.frozen (p := ⟨tb + 2, 0, none⟩) hlr (by simp)).trans fr0; have fr1 := (kq.frozen (p := ⟨tb + 2, 1, none⟩) hlr (by simp)).trans fr1; have hlr := Nat.lt_of_lt_of_le hlr kq.size; (first | (have K := hid (K.out.trans kq)) | (have K := hid (K.out.trans (Kb.of_draw kq)))))
        | (go_at_call 32; refine (wide_small_is neg hi lo P _ (k1 + k2) x y ok _ HL1.out HL2.out (by first | rfl | omega) (by omega) hPP.out HV.out).mono ?_; rintro e w' ⟨rfl, kq⟩; have a0 := kq.cell a0 (by simp); have a1 := kq.cell a1 (by simp); have b0 := kq.cell b0 (by simp); have b1 := kq.cell b1 (by simp); have r0 := kq.cell r0 (by simp); have r1 := kq.cell r1 (by simp); have fr0 := (kq.frozen (p := ⟨tb + 2, 0, none⟩) hlr (by simp)).trans fr0; have fr1 := (kq.frozen (p := ⟨tb + 2, 1, none⟩) hlr (by simp)).trans fr1; have hlr := Nat.lt_of_lt_of_le hlr kq.size; (first | (have K := hid (K.out.trans kq)) | (have K := hid (K.out.trans (Kb.of_draw kq))))))
    all_goals
     go_wp2_with fail
     refine bodyPost_ret (v := .tuple #[.agg #[.int .i64 x, .int .i64 y], .bool ok]) (by simp [results, Tryd.results19, go_sem, r0, r1]) rfl ⟨rfl, ?_⟩
     have ht2 : w.heap.size ≤ tb + 2 := by have := HTB.out; omega
     first
      | exact set2_kb K.out _ _ ht2
      | exact set2_kb (Kb.drew K.out) _ _ ht2
      | exact Kb.drew (set2_kb K.out _ _ ht2)
theorem mul_bound (a b : Nat) (ha : a ≤ 1000000000000000) (hb : b ≤ 1000000000000000) : a * b ≤ 1000000000000000 * 1000000000000000 := Nat.mul_le_mul ha hb
theorem dmul_known (n1 s1 n2 s2 x1 x2 : Int) (k1 k2 : Nat) (w : World) (h1 : knownV n1 s1 = .agg #[.int .i64 x1, .int .i64 k1]) (h2 : knownV n2 s2 = .agg #[.int .i64 x2, .int .i64 k2])
    (hx1 : x1.natAbs ≤ 1000000000000000) (hx2 : x2.natAbs ≤ 1000000000000000) (hk1 : k1 ≤ 6) (hk2 : k2 ≤ 6) :
    Calls Tryd.prog 19 #[.agg #[.int .i64 n1, .int .i64 s1], .agg #[.int .i64 n2, .int .i64 s2]] w fun e w' => e = .returned (fitV (decide (x1 < 0) != decide (x2 < 0)) (x1.natAbs * x2.natAbs) (k1 + k2)) ∧ Kb (fun _ => False) w w' := by
  obtain ⟨x, y, ok, hv⟩ := fitV_form (decide (x1 < 0) != decide (x2 < 0)) (x1.natAbs * x2.natAbs) (k1 + k2)
  rw [hv]
  exact dmul_core n1 s1 n2 s2 x1 x2 k1 k2 _ _ _ _ x y ok w h1 h2 hx1 hx2 hk1 hk2 rfl rfl rfl rfl hv
end Go.Proofs.YtkhjgfbiemllmaaDoor
