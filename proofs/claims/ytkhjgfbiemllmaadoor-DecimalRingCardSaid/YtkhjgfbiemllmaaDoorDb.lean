/- The walk of the reference's fit. -/
import Derived.Test.YtkhjgfbiemllmaaDoorDa
namespace Go.Proofs.YtkhjgfbiemllmaaDoor
open Go.RowKit

theorem fitV_no (neg : Bool) (N s : Nat) (h : 1000000000000000 < (strip s N).1 ∨ 6 < (strip s N).2) : fitV neg N s = noDec := by
  unfold fitV
  rw [if_neg (by omega)]
theorem fitV_yes (neg : Bool) (N s : Nat) (h1 : (strip s N).1 ≤ 1000000000000000) (h2 : (strip s N).2 ≤ 6) : fitV neg N s = okDec (sgn neg (strip s N).1) (strip s N).2 := by
  unfold fitV
  rw [if_pos ⟨h1, h2⟩]
theorem int_nat (n : Nat) (w : World) (h : n < 9223372036854775808) :
    Calls Tryd.prog 40 #[.string (natS n)] w fun e w' => e = .returned (.tuple #[.int .i64 n, .bool true]) ∧ w' = w := by
  have := int_ok (natS n) w (by have := natS_small n (by omega); omega) (by rw [sv_natS]; exact h)
  rwa [sv_natS] at this
def scaleAt (w : World) (b : Nat) : Nat := match w.cell? ⟨b, 2, none⟩ with | some (.int _ k) => k.toNat | _ => 0
theorem scaleAt_of {w : World} {b : Nat} {k : Nat} (h : w.cell? ⟨b, 2, none⟩ = some (.int .i64 (k : Int))) : scaleAt w b = k := by unfold scaleAt; rw [h]; simp
theorem quo10_is (N q : Nat) (rr : ByteArray) (w : World) (h : (natS N).size ≤ 1000000) (hq : N / 10 = q) (hr : natS (N % 10) = rr) :
    Calls Tryd.prog 38 #[.string (natS N), .string (natS 10)] w fun e w' => e = .returned (.tuple #[.string (natS q), .string rr, .bool true]) ∧ Kb (fun _ => False) w w' := by
  subst hq hr
  exact quo10 N w h
attribute [local go_sem ↓] Go.wp_at_zero Go.wp_at_succ
set_option maxHeartbeats 4000000 in
set_option maxRecDepth 100000 in
theorem fit_any (neg : Bool) (N s : Nat) (w : World) (hs : s ≤ 1000000) (hN : (natS N).size ≤ 1000000) :
    Calls Tryd.prog 26 #[.agg #[.bool neg, .string (natS N), .int .i64 s]] w fun e w' => e = .returned (fitV neg N s) ∧ Kb (fun _ => False) w w' := by
  have HN := hid hN
  clear hN
  have hten : (natS 10).size = 1 := rfl
  clear hten
  go_enter Tryd.func26, Tryd.ntmps26
  go_wp2_with fail
  generalize hW : World.alloc _ _ = W
  have kW : Kb (fun _ => False) w W := by subst hW; exact ((Kb.refl _ _).alloc _).alloc _
  have bW : W.heap[w.heap.size]? = some (.cells #[.bool neg, .string (natS N), .int .i64 s] 50 (0, 0)) := by
    subst hW
    rw [Below.heap_alloc _ _ _ (by simp)]
    exact heap_alloc_new w _
  have rW : W.heap[w.heap.size + 1]? = some (.cells #[.int .i64 0, .int .i64 0] 23 (0, 0)) := by
    subst hW
    have h := heap_alloc_new (w.alloc (.cells #[.bool neg, .string (natS N), .int .i64 s] 50)) (.cells #[.int .i64 0, .int .i64 0] 23)
    simpa using h
  have KW := hid kW
  have BW := hid bW
  have RW := hid rW
  clear hW kW bW rW
  obtain ⟨bb, hbb⟩ : ∃ bb, bb = w.heap.size := ⟨_, rfl⟩
  have HBB := hid hbb
  rw [← hbb]
  rw [← hbb] at BW RW
  clear hbb
  go_loopw [4, 5, 6] (fun _ _ _ wr => ∃ n k : Nat, Hid (wr.heap[bb]? = some (.cells #[.bool neg, .string (natS n), .int .i64 k] 50 (0, 0))) ∧ Hid (wr.heap[bb + 1]? = some (.cells #[.int .i64 0, .int .i64 0] 23 (0, 0))) ∧ Hid (Kb (fun _ => False) w wr) ∧ n ≤ N ∧ k ≤ s ∧ Hid (strip k n = strip s N))
    (fun _ _ _ wr => scaleAt wr bb)
  case atStart => exact ⟨N, s, BW.out, RW.out, KW.out, Nat.le_refl _, Nat.le_refl _, rfl⟩
  case round =>
    obtain ⟨n, k, hB, hR, hkb, hn, hk, hst⟩ := hrel
    have hbl : bb + 1 < wr.heap.size := block_lt hR.out
    have b0 := cell_of_heap hB.out 0
    have b1 := cell_of_heap hB.out 1
    have b2 := cell_of_heap hB.out 2
    have f1 := frozen_of_heap hB.out 1
    have f2 := frozen_of_heap hB.out 2
    simp only [List.getElem?_toArray, List.getElem?_cons_succ, List.getElem?_cons_zero] at b0 b1 b2
    have hbl0 : bb < wr.heap.size := by omega
    have r0 := cell_of_heap hR.out 0
    have r1 := cell_of_heap hR.out 1
    have q0 := frozen_of_heap hR.out 0
    have q1 := frozen_of_heap hR.out 1
    simp only [List.getElem?_toArray, List.getElem?_cons_succ, List.getElem?_cons_zero] at r0 r1
    have hnsz : (natS n).size ≤ 1000000 := Nat.le_trans (natS_mono n N hn) HN.out
    have HNS := hid hnsz
    clear hnsz
    cases k with
    | zero =>
      have he : strip s N = (n, 0) := hst.out.symm
      clear hst
      have HE := hid he
      clear he
      by_cases c1 : 9223372036854775808 ≤ n
      · go_wp2_with fail
        refine (int_no (natS n) _ (by have := HNS.out; omega) (by rw [sv_natS]; exact c1)).mono ?_
        rintro e w' ⟨rfl, rfl⟩
        go_wp2_with fail
        refine bodyPost_ret (v := noDec) (by simp [results, Tryd.results26, go_sem, noDec, r0, r1]) rfl ⟨?_, ?_⟩
        · rw [fitV_no neg N s (by rw [HE.out]; omega)]
        · exact Kb.setCell (Kb.setCell hkb.out (Or.inr (by show w.heap.size ≤ bb + 1; have := HBB.out; omega)) _) (Or.inr (by show w.heap.size ≤ bb + 1; have := HBB.out; omega)) _
      · go_wp2_with fail
        refine (int_nat n _ (by omega)).mono ?_
        rintro e w' ⟨rfl, rfl⟩
        by_cases c2 : n ≤ 1000000000000000 ∧ 0 ≤ 6
        · obtain ⟨c2, c3⟩ := c2
          cases neg
          · go_wp2_with fail
            refine bodyPost_ret (v := okDec (n : Int) 0) (by simp [results, Tryd.results26, go_sem, okDec, r0, r1]) rfl ⟨?_, ?_⟩
            · rw [fitV_yes _ N s (by rw [HE.out]; exact c2) (by rw [HE.out]; exact c3), HE.out]
              rfl
            · exact Kb.setCell (Kb.setCell hkb.out (Or.inr (by show w.heap.size ≤ bb + 1; have := HBB.out; omega)) _) (Or.inr (by show w.heap.size ≤ bb + 1; have := HBB.out; omega)) _
          · go_wp2_with fail
            refine bodyPost_ret (v := okDec (-(n : Int)) 0) (by simp [results, Tryd.results26, go_sem, okDec, r0, r1]) rfl ⟨?_, ?_⟩
            · rw [fitV_yes _ N s (by rw [HE.out]; exact c2) (by rw [HE.out]; exact c3), HE.out]
              rfl
            · exact Kb.setCell (Kb.setCell hkb.out (Or.inr (by show w.heap.size ≤ bb + 1; have := HBB.out; omega)) _) (Or.inr (by show w.heap.size ≤ bb + 1; have := HBB.out; omega)) _
        · by_cases c3 : n ≤ 1000000000000000
          · exact absurd ⟨c3, by omega⟩ c2
          · clear c2
            go_wp2_with fail
            refine bodyPost_ret (v := noDec) (by simp [results, Tryd.results26, go_sem, noDec, r0, r1]) rfl ⟨?_, ?_⟩
            · rw [fitV_no neg N s (by rw [HE.out]; omega)]
            · exact Kb.setCell (Kb.setCell hkb.out (Or.inr (by show w.heap.size ≤ bb + 1; have := HBB.out; omega)) _) (Or.inr (by show w.heap.size ≤ bb + 1; have := HBB.out; omega)) _
    | succ k =>
      by_cases h10 : n % 10 = 0
      · obtain ⟨rr, hrr, hrz⟩ : ∃ rr : ByteArray, natS (n % 10) = rr ∧ rr.size ≤ 0 := ⟨_, rfl, by rw [h10]; decide⟩
        have hst2 := hst.out
        rw [strip, if_pos h10] at hst2
        have HST2 := hid hst2
        obtain ⟨q, hq⟩ : ∃ q, n / 10 = q := ⟨_, rfl⟩
        rw [hq] at HST2
        have hqN : q ≤ N := by omega
        have HQ := hid hq
        have HR := hid hrr
        clear hst2 hq hrr h10
        go_wp2_with fail
        go_region_held3 (fun w' => w'.cell? ⟨bb, 1, none⟩ = some (.string (natS n))) (first | go_keep | (exact kq.cell (by assumption) (by simp)))
          (first | (go_at_call 39; refine (Of_lit 10 10 _ rfl (by omega)).mono ?_; rintro e w' ⟨rfl, kq⟩) | (go_at_call 38; refine (quo10_is n q rr _ HNS.out HQ.out HR.out).mono ?_; rintro e w' ⟨rfl, kq⟩))
        all_goals
          have kC : Kb (fun _ => False) wr w' := Kb.trans (by first | assumption | exact Kb.of_drew (by assumption)) kq
          have B1 := kC.heap hB.out (by simp)
          have R1 := kC.heap hR.out (by simp)
          have hbl1 : bb < w'.heap.size := block_lt B1
          have x1 := cell_of_heap B1 1
          have x2 := cell_of_heap B1 2
          have y1 := frozen_of_heap B1 1
          have y2 := frozen_of_heap B1 2
          simp only [List.getElem?_toArray, List.getElem?_cons_succ, List.getElem?_cons_zero] at x1 x2
          have KC := hid (hkb.out.trans kC)
          have HB1 := hid B1
          have HR1 := hid R1
          have hm := scaleAt_of b2
          have HM := hid hm
          clear kC B1 R1 kq b0 b1 b2 f1 f2 hm hst
          go_wp2_with fail
          have hbb1 : bb + 1 ≠ bb := by omega
          refine ⟨⟨q, k, ?_, ?_, ?_, hqN, by omega, HST2.out⟩, ?_⟩
          · show _ = _
            rw [heap_setCell_same _ bb 2 _ 50 _ (heap_setCell_same w' bb 1 _ 50 _ HB1.out)]
            rfl
          · show _ = _
            rw [Below.heap_setCell _ _ _ _ (by show bb + 1 ≠ bb; omega), Below.heap_setCell _ _ _ _ (by show bb + 1 ≠ bb; omega)]
            exact HR1.out
          · exact Kb.setCell (Kb.setCell KC.out (Or.inr (by show w.heap.size ≤ bb; have := HBB.out; omega)) _) (Or.inr (by show w.heap.size ≤ bb; have := HBB.out; omega)) _
          · rw [HM.out, scaleAt_of (k := k)]
            · omega
            · rw [cell_of_heap (heap_setCell_same _ bb 2 _ 50 _ (heap_setCell_same w' bb 1 _ 50 _ HB1.out)) 2]
              rfl
      · have he : strip s N = (n, k + 1) := by
          have h := hst.out
          rw [strip, if_neg h10] at h
          exact h.symm
        obtain ⟨rr, hrr, hrz⟩ : ∃ rr : ByteArray, natS (n % 10) = rr ∧ 0 < rr.size := by
          refine ⟨_, rfl, ?_⟩
          rcases Nat.eq_zero_or_pos (natS (n % 10)).size with h | h
          · have := (natS_len (n % 10) 0).1 (by omega)
            rw [Nat.pow_zero] at this
            omega
          · exact h
        obtain ⟨q, hq⟩ : ∃ q, n / 10 = q := ⟨_, rfl⟩
        have HQ := hid hq
        have HR := hid hrr
        have HE0 := hid he
        clear hq hrr h10 he hst
        go_wp2_with fail
        go_region_held3 (fun w' => w'.cell? ⟨bb, 1, none⟩ = some (.string (natS n))) (first | go_keep | (exact kq.cell (by assumption) (by simp)))
          (first | (go_at_call 39; refine (Of_lit 10 10 _ rfl (by omega)).mono ?_; rintro e w' ⟨rfl, kq⟩) | (go_at_call 38; refine (quo10_is n q rr _ HNS.out HQ.out HR.out).mono ?_; rintro e w' ⟨rfl, kq⟩))
        all_goals
          have kC : Kb (fun _ => False) wr w' := Kb.trans (by first | assumption | exact Kb.of_drew (by assumption)) kq
          have B1 := kC.heap hB.out (by simp)
          have R1 := kC.heap hR.out (by simp)
          have KC := hid (hkb.out.trans kC)
          obtain ⟨w2, hw2⟩ : ∃ w2, w2 = w' := ⟨_, rfl⟩
          rw [← hw2] at B1 R1 KC ⊢
          have hbl1 : bb < w2.heap.size := block_lt B1
          have hbl2 : bb + 1 < w2.heap.size := block_lt R1
          clear kC kq b0 b1 b2 f1 f2 r0 r1 q0 q1 hw2
          have b0 := cell_of_heap B1 0
          have b1 := cell_of_heap B1 1
          have b2 := cell_of_heap B1 2
          have r0 := cell_of_heap R1 0
          have r1 := cell_of_heap R1 1
          have q0 := frozen_of_heap R1 0
          have q1 := frozen_of_heap R1 1
          simp only [List.getElem?_toArray, List.getElem?_cons_succ, List.getElem?_cons_zero] at b0 b1 b2 r0 r1
          have he := HE0.out
          clear B1 R1
          have HE := hid he
          clear he
          by_cases c1 : 9223372036854775808 ≤ n
          · go_wp2_with fail
            refine (int_no (natS n) _ (by have := HNS.out; omega) (by rw [sv_natS]; exact c1)).mono ?_
            rintro e w' ⟨rfl, rfl⟩
            go_wp2_with fail
            refine bodyPost_ret (v := noDec) (by simp [results, Tryd.results26, go_sem, noDec, r0, r1]) rfl ⟨?_, ?_⟩
            · rw [fitV_no neg N s (by rw [HE.out]; omega)]
            · exact Kb.setCell (Kb.setCell KC.out (Or.inr (by show w.heap.size ≤ bb + 1; have := HBB.out; omega)) _) (Or.inr (by show w.heap.size ≤ bb + 1; have := HBB.out; omega)) _
          · go_wp2_with fail
            refine (int_nat n _ (by omega)).mono ?_
            rintro e w' ⟨rfl, rfl⟩
            by_cases c2 : n ≤ 1000000000000000 ∧ (k + 1) ≤ 6
            · obtain ⟨c2, c3⟩ := c2
              cases neg
              · go_wp2_with fail
                refine bodyPost_ret (v := okDec (n : Int) (k + 1)) (by simp [results, Tryd.results26, go_sem, okDec, r0, r1]) rfl ⟨?_, ?_⟩
                · rw [fitV_yes _ N s (by rw [HE.out]; exact c2) (by rw [HE.out]; exact c3), HE.out]
                  rfl
                · exact Kb.setCell (Kb.setCell KC.out (Or.inr (by show w.heap.size ≤ bb + 1; have := HBB.out; omega)) _) (Or.inr (by show w.heap.size ≤ bb + 1; have := HBB.out; omega)) _
              · go_wp2_with fail
                refine bodyPost_ret (v := okDec (-(n : Int)) (k + 1)) (by simp [results, Tryd.results26, go_sem, okDec, r0, r1]) rfl ⟨?_, ?_⟩
                · rw [fitV_yes _ N s (by rw [HE.out]; exact c2) (by rw [HE.out]; exact c3), HE.out]
                  rfl
                · exact Kb.setCell (Kb.setCell KC.out (Or.inr (by show w.heap.size ≤ bb + 1; have := HBB.out; omega)) _) (Or.inr (by show w.heap.size ≤ bb + 1; have := HBB.out; omega)) _
            · by_cases c3 : n ≤ 1000000000000000
              · have c4 : 6 < (k + 1) := by omega
                clear c2
                go_wp2_with fail
                refine bodyPost_ret (v := noDec) (by simp [results, Tryd.results26, go_sem, noDec, r0, r1]) rfl ⟨?_, ?_⟩
                · rw [fitV_no neg N s (by rw [HE.out]; omega)]
                · exact Kb.setCell (Kb.setCell KC.out (Or.inr (by show w.heap.size ≤ bb + 1; have := HBB.out; omega)) _) (Or.inr (by show w.heap.size ≤ bb + 1; have := HBB.out; omega)) _
              · clear c2
                go_wp2_with fail
                refine bodyPost_ret (v := noDec) (by simp [results, Tryd.results26, go_sem, noDec, r0, r1]) rfl ⟨?_, ?_⟩
                · rw [fitV_no neg N s (by rw [HE.out]; omega)]
                · exact Kb.setCell (Kb.setCell KC.out (Or.inr (by show w.heap.size ≤ bb + 1; have := HBB.out; omega)) _) (Or.inr (by show w.heap.size ≤ bb + 1; have := HBB.out; omega)) _
end Go.Proofs.YtkhjgfbiemllmaaDoor
