/- Decimals: the plain part, and the walks of the reference's natural and fit. The walk of the reference's fit. The walks of Right and known, of the reference's Mod, Make, Of and Made. The walks of the reference's Mod, Make, Of and Made. The walks of Make and Of, and of the reference's Of and Made. -/
import Derived.Test.YtkhjgfbiemllmaaGreatDoorGB
namespace Go.Proofs.YtkhjgfbiemllmaaGreatDoor
open Go.RowKit

theorem natS_small (n : Nat) (h : n < 18446744073709551616) : (natS n).size ≤ 8 := (natS_len n 8).2 h
theorem quo10 (N : Nat) (w : World) (h : (natS N).size ≤ 1000000) :
    Calls Tryz.prog 39 #[.string (natS N), .string (natS 10)] w fun e w' => e = .returned (.tuple #[.string (natS (N / 10)), .string (natS (N % 10)), .bool true]) ∧ Kb (fun _ => False) w w' := by
  have := Quo_any (natS N) (natS 10) w h (by decide) (by rw [sv_natS]; omega)
  rwa [sv_natS, sv_natS] at this
theorem Of_lit (n : Int) (m : Nat) (w : World) (h : n.toNat = m) (hn : n ≤ 9223372036854775807) :
    Calls Tryz.prog 38 #[.int .i64 n] w fun e w' => e = .returned (.string (natS m)) ∧ Kb (fun _ => False) w w' := by
  subst h
  exact Of_any n w hn
theorem Add_nat (a b : Nat) (w : World) (ha : (natS a).size ≤ 1000000) (hb : (natS b).size ≤ 1000000) :
    Calls Tryz.prog 37 #[.string (natS a), .string (natS b)] w fun e w' => e = .returned (.string (natS (a + b))) ∧ Kb (fun _ => False) w w' := by
  have := Add_any (natS a) (natS b) w (by omega) (by omega)
  rwa [sv_natS, sv_natS] at this

/-- Zeros at the end are taken away, as long as there is a scale. -/
def strip : Nat → Nat → Nat × Nat
  | 0, n => (n, 0)
  | s + 1, n => if n % 10 = 0 then strip s (n / 10) else (n, s + 1)
theorem strip_le : ∀ s n, (strip s n).1 ≤ n ∧ (strip s n).2 ≤ s := by
  intro s
  induction s with
  | zero => intro n; exact ⟨Nat.le_refl _, Nat.le_refl _⟩
  | succ s ih =>
    intro n
    rw [strip]
    split
    · have := ih (n / 10)
      omega
    · exact ⟨Nat.le_refl _, Nat.le_refl _⟩
def sgn (neg : Bool) (n : Nat) : Int := if neg then -(n : Int) else n
def noDec : Value := .tuple #[.agg #[.int .i64 0, .int .i64 0], .bool false]
def okDec (n : Int) (s : Nat) : Value := .tuple #[.agg #[.int .i64 n, .int .i64 s], .bool true]
/-- The decimal of a number, if it fits. -/
def fitV (neg : Bool) (N s : Nat) : Value := if (strip s N).1 ≤ 1000000000000000 ∧ (strip s N).2 ≤ 6 then okDec (sgn neg (strip s N).1) (strip s N).2 else noDec

set_option maxHeartbeats 1000000 in
theorem natural_any (n : Int) (w : World) (h1 : -9223372036854775808 ≤ n) (h2 : n ≤ 9223372036854775807) :
    Calls Tryz.prog 50 #[.int .i64 n] w fun e w' => e = .returned (.string (natS n.natAbs)) ∧ Kb (fun _ => False) w w' := by
  by_cases h : 0 ≤ n
  · go_enter Tryz.func50, Tryz.ntmps50
    go_wp2_with fail
    refine (Of_lit n n.natAbs w (by omega) h2).mono ?_
    rintro e w' ⟨rfl, k⟩
    go_wp2_with fail
    go_ret
    exact ⟨rfl, k⟩
  · have hs1 : (natS (n.natAbs - 1)).size ≤ 1000000 := Nat.le_trans (natS_small _ (by omega)) (by omega)
    have hs2 : (natS 1).size ≤ 1000000 := by decide
    have he : n.natAbs - 1 + 1 = n.natAbs := by omega
    have HE := hid he
    clear he
    go_enter Tryz.func50, Tryz.ntmps50
    go_wp2_with fail
    refine (Of_lit _ (n.natAbs - 1) w (by omega) (by omega)).mono ?_
    rintro e w' ⟨rfl, k⟩
    go_wp2_with fail
    refine (Of_lit _ 1 w' (by omega) (by omega)).mono ?_
    rintro e w2 ⟨rfl, k2⟩
    go_wp2_with fail
    refine (Add_nat (n.natAbs - 1) 1 w2 hs1 hs2).mono ?_
    rintro e w3 ⟨rfl, k3⟩
    rw [HE.out]
    go_wp2_with fail
    go_ret
    exact ⟨rfl, (k.trans k2).trans k3⟩
end Go.Proofs.YtkhjgfbiemllmaaGreatDoor
namespace Go.Proofs.YtkhjgfbiemllmaaGreatDoor
open Go.RowKit

theorem fitV_no (neg : Bool) (N s : Nat) (h : 1000000000000000 < (strip s N).1 ∨ 6 < (strip s N).2) : fitV neg N s = noDec := by
  unfold fitV
  rw [if_neg (by omega)]
theorem fitV_yes (neg : Bool) (N s : Nat) (h1 : (strip s N).1 ≤ 1000000000000000) (h2 : (strip s N).2 ≤ 6) : fitV neg N s = okDec (sgn neg (strip s N).1) (strip s N).2 := by
  unfold fitV
  rw [if_pos ⟨h1, h2⟩]
theorem int_nat (n : Nat) (w : World) (h : n < 9223372036854775808) :
    Calls Tryz.prog 54 #[.string (natS n)] w fun e w' => e = .returned (.tuple #[.int .i64 n, .bool true]) ∧ w' = w := by
  have := int_ok (natS n) w (by have := natS_small n (by omega); omega) (by rw [sv_natS]; exact h)
  rwa [sv_natS] at this
def scaleAt (w : World) (b : Nat) : Nat := match w.cell? ⟨b, 2, none⟩ with | some (.int _ k) => k.toNat | _ => 0
theorem scaleAt_of {w : World} {b : Nat} {k : Nat} (h : w.cell? ⟨b, 2, none⟩ = some (.int .i64 (k : Int))) : scaleAt w b = k := by unfold scaleAt; rw [h]; simp
theorem quo10_is (N q : Nat) (rr : ByteArray) (w : World) (h : (natS N).size ≤ 1000000) (hq : N / 10 = q) (hr : natS (N % 10) = rr) :
    Calls Tryz.prog 39 #[.string (natS N), .string (natS 10)] w fun e w' => e = .returned (.tuple #[.string (natS q), .string rr, .bool true]) ∧ Kb (fun _ => False) w w' := by
  subst hq hr
  exact quo10 N w h
attribute [local go_sem ↓] Go.wp_at_zero Go.wp_at_succ
set_option maxHeartbeats 4000000 in
set_option maxRecDepth 100000 in
theorem fit_any (neg : Bool) (N s : Nat) (w : World) (hs : s ≤ 1000000) (hN : (natS N).size ≤ 1000000) :
    Calls Tryz.prog 34 #[.agg #[.bool neg, .string (natS N), .int .i64 s]] w fun e w' => e = .returned (fitV neg N s) ∧ Kb (fun _ => False) w w' := by
  have HN := hid hN
  clear hN
  have hten : (natS 10).size = 1 := rfl
  clear hten
  go_enter Tryz.func34, Tryz.ntmps34
  go_wp2_with fail
  generalize hW : World.alloc _ _ = W
  have kW : Kb (fun _ => False) w W := by subst hW; exact ((Kb.refl _ _).alloc _).alloc _
  have bW : W.heap[w.heap.size]? = some (.cells #[.bool neg, .string (natS N), .int .i64 s] 54 (0, 0)) := by
    subst hW
    rw [Below.heap_alloc _ _ _ (by simp)]
    exact heap_alloc_new w _
  have rW : W.heap[w.heap.size + 1]? = some (.cells #[.int .i64 0, .int .i64 0] 23 (0, 0)) := by
    subst hW
    have h := heap_alloc_new (w.alloc (.cells #[.bool neg, .string (natS N), .int .i64 s] 54)) (.cells #[.int .i64 0, .int .i64 0] 23)
    simpa using h
  have KW := hid kW
  have BW := hid bW
  have RW := hid rW
  clear hW kW bW rW
  obtain ⟨bb, hbb⟩ : ∃ bb, bb = w.heap.size := ⟨_, rfl⟩
  have HBB := hid hbb
  rw [← hbb]
  rw [← hbb] at BW RW
  clear hbb
  go_loopw [4, 5, 6] (fun _ _ _ wr => ∃ n k : Nat, Hid (wr.heap[bb]? = some (.cells #[.bool neg, .string (natS n), .int .i64 k] 54 (0, 0))) ∧ Hid (wr.heap[bb + 1]? = some (.cells #[.int .i64 0, .int .i64 0] 23 (0, 0))) ∧ Hid (Kb (fun _ => False) w wr) ∧ n ≤ N ∧ k ≤ s ∧ Hid (strip k n = strip s N))
    (fun _ _ _ wr => scaleAt wr bb)
  case atStart => exact ⟨N, s, BW.out, RW.out, KW.out, Nat.le_refl _, Nat.le_refl _, rfl⟩
  case round =>
    obtain ⟨n, k, hB, hR, hkb, hn, hk, hst⟩ := hrel
    have hbl : bb + 1 < wr.heap.size := block_lt hR.out
    have b0 := cell_of_heap hB.out 0
    have b1 := cell_of_heap hB.out 1
    have b2 := cell_of_heap hB.out 2
    have f1 := frozen_of_heap hB.out 1
    have f2 := frozen_of_heap hB.out 2
    simp only [List.getElem?_toArray, List.getElem?_cons_succ, List.getElem?_cons_zero] at b0 b1 b2
    have hbl0 : bb < wr.heap.size := by omega
    have r0 := cell_of_heap hR.out 0
    have r1 := cell_of_heap hR.out 1
    have q0 := frozen_of_heap hR.out 0
    have q1 := frozen_of_heap hR.out 1
    simp only [List.getElem?_toArray, List.getElem?_cons_succ, List.getElem?_cons_zero] at r0 r1
    have hnsz : (natS n).size ≤ 1000000 := Nat.le_trans (natS_mono n N hn) HN.out
    have HNS := hid hnsz
    clear hnsz
    cases k with
    | zero =>
      have he : strip s N = (n, 0) := hst.out.symm
      clear hst
      have HE := hid he
      clear he
      by_cases c1 : 9223372036854775808 ≤ n
      · go_wp2_with fail
        refine (int_no (natS n) _ (by have := HNS.out; omega) (by rw [sv_natS]; exact c1)).mono ?_
        rintro e w' ⟨rfl, rfl⟩
        go_wp2_with fail
        refine bodyPost_ret (v := noDec) (by simp [results, Tryz.results34, go_sem, noDec, r0, r1]) rfl ⟨?_, ?_⟩
        · rw [fitV_no neg N s (by rw [HE.out]; omega)]
        · exact Kb.setCell (Kb.setCell hkb.out (Or.inr (by show w.heap.size ≤ bb + 1; have := HBB.out; omega)) _) (Or.inr (by show w.heap.size ≤ bb + 1; have := HBB.out; omega)) _
      · go_wp2_with fail
        refine (int_nat n _ (by omega)).mono ?_
        rintro e w' ⟨rfl, rfl⟩
        by_cases c2 : n ≤ 1000000000000000 ∧ 0 ≤ 6
        · obtain ⟨c2, c3⟩ := c2
          cases neg
          · go_wp2_with fail
            refine bodyPost_ret (v := okDec (n : Int) 0) (by simp [results, Tryz.results34, go_sem, okDec, r0, r1]) rfl ⟨?_, ?_⟩
            · rw [fitV_yes _ N s (by rw [HE.out]; exact c2) (by rw [HE.out]; exact c3), HE.out]
              rfl
            · exact Kb.setCell (Kb.setCell hkb.out (Or.inr (by show w.heap.size ≤ bb + 1; have := HBB.out; omega)) _) (Or.inr (by show w.heap.size ≤ bb + 1; have := HBB.out; omega)) _
          · go_wp2_with fail
            refine bodyPost_ret (v := okDec (-(n : Int)) 0) (by simp [results, Tryz.results34, go_sem, okDec, r0, r1]) rfl ⟨?_, ?_⟩
            · rw [fitV_yes _ N s (by rw [HE.out]; exact c2) (by rw [HE.out]; exact c3), HE.out]
              rfl
            · exact Kb.setCell (Kb.setCell hkb.out (Or.inr (by show w.heap.size ≤ bb + 1; have := HBB.out; omega)) _) (Or.inr (by show w.heap.size ≤ bb + 1; have := HBB.out; omega)) _
        · by_cases c3 : n ≤ 1000000000000000
          · exact absurd ⟨c3, by omega⟩ c2
          · clear c2
            go_wp2_with fail
            refine bodyPost_ret (v := noDec) (by simp [results, Tryz.results34, go_sem, noDec, r0, r1]) rfl ⟨?_, ?_⟩
            · rw [fitV_no neg N s (by rw [HE.out]; omega)]
            · exact Kb.setCell (Kb.setCell hkb.out (Or.inr (by show w.heap.size ≤ bb + 1; have := HBB.out; omega)) _) (Or.inr (by show w.heap.size ≤ bb + 1; have := HBB.out; omega)) _
    | succ k =>
      by_cases h10 : n % 10 = 0
      · obtain ⟨rr, hrr, hrz⟩ : ∃ rr : ByteArray, natS (n % 10) = rr ∧ rr.size ≤ 0 := ⟨_, rfl, by rw [h10]; decide⟩
        have hst2 := hst.out
        rw [strip, if_pos h10] at hst2
        have HST2 := hid hst2
        obtain ⟨q, hq⟩ : ∃ q, n / 10 = q := ⟨_, rfl⟩
        rw [hq] at HST2
        have hqN : q ≤ N := by omega
        have HQ := hid hq
        have HR := hid hrr
        clear hst2 hq hrr h10
        go_wp2_with fail
        go_region_held3 (fun w' => w'.cell? ⟨bb, 1, none⟩ = some (.string (natS n))) (first | go_keep | (exact kq.cell (by assumption) (by simp)))
          (first | (go_at_call 38; refine (Of_lit 10 10 _ rfl (by omega)).mono ?_; rintro e w' ⟨rfl, kq⟩) | (go_at_call 39; refine (quo10_is n q rr _ HNS.out HQ.out HR.out).mono ?_; rintro e w' ⟨rfl, kq⟩))
        all_goals
          have kC : Kb (fun _ => False) wr w' := Kb.trans (by first | assumption | exact Kb.of_drew (by assumption)) kq
          have B1 := kC.heap hB.out (by simp)
          have R1 := kC.heap hR.out (by simp)
          have hbl1 : bb < w'.heap.size := block_lt B1
          have x1 := cell_of_heap B1 1
          have x2 := cell_of_heap B1 2
          have y1 := frozen_of_heap B1 1
          have y2 := frozen_of_heap B1 2
          simp only [List.getElem?_toArray, List.getElem?_cons_succ, List.getElem?_cons_zero] at x1 x2
          have KC := hid (hkb.out.trans kC)
          have HB1 := hid B1
          have HR1 := hid R1
          have hm := scaleAt_of b2
          have HM := hid hm
          clear kC B1 R1 kq b0 b1 b2 f1 f2 hm hst
          go_wp2_with fail
          have hbb1 : bb + 1 ≠ bb := by omega
          refine ⟨⟨q, k, ?_, ?_, ?_, hqN, by omega, HST2.out⟩, ?_⟩
          · show _ = _
            rw [heap_setCell_same _ bb 2 _ 54 _ (heap_setCell_same w' bb 1 _ 54 _ HB1.out)]
            rfl
          · show _ = _
            rw [Below.heap_setCell _ _ _ _ (by show bb + 1 ≠ bb; omega), Below.heap_setCell _ _ _ _ (by show bb + 1 ≠ bb; omega)]
            exact HR1.out
          · exact Kb.setCell (Kb.setCell KC.out (Or.inr (by show w.heap.size ≤ bb; have := HBB.out; omega)) _) (Or.inr (by show w.heap.size ≤ bb; have := HBB.out; omega)) _
          · rw [HM.out, scaleAt_of (k := k)]
            · omega
            · rw [cell_of_heap (heap_setCell_same _ bb 2 _ 54 _ (heap_setCell_same w' bb 1 _ 54 _ HB1.out)) 2]
              rfl
      · have he : strip s N = (n, k + 1) := by
          have h := hst.out
          rw [strip, if_neg h10] at h
          exact h.symm
        obtain ⟨rr, hrr, hrz⟩ : ∃ rr : ByteArray, natS (n % 10) = rr ∧ 0 < rr.size := by
          refine ⟨_, rfl, ?_⟩
          rcases Nat.eq_zero_or_pos (natS (n % 10)).size with h | h
          · have := (natS_len (n % 10) 0).1 (by omega)
            rw [Nat.pow_zero] at this
            omega
          · exact h
        obtain ⟨q, hq⟩ : ∃ q, n / 10 = q := ⟨_, rfl⟩
        have HQ := hid hq
        have HR := hid hrr
        have HE0 := hid he
        clear hq hrr h10 he hst
        go_wp2_with fail
        go_region_held3 (fun w' => w'.cell? ⟨bb, 1, none⟩ = some (.string (natS n))) (first | go_keep | (exact kq.cell (by assumption) (by simp)))
          (first | (go_at_call 38; refine (Of_lit 10 10 _ rfl (by omega)).mono ?_; rintro e w' ⟨rfl, kq⟩) | (go_at_call 39; refine (quo10_is n q rr _ HNS.out HQ.out HR.out).mono ?_; rintro e w' ⟨rfl, kq⟩))
        all_goals
          have kC : Kb (fun _ => False) wr w' := Kb.trans (by first | assumption | exact Kb.of_drew (by assumption)) kq
          have B1 := kC.heap hB.out (by simp)
          have R1 := kC.heap hR.out (by simp)
          have KC := hid (hkb.out.trans kC)
          obtain ⟨w2, hw2⟩ : ∃ w2, w2 = w' := ⟨_, rfl⟩
          rw [← hw2] at B1 R1 KC ⊢
          have hbl1 : bb < w2.heap.size := block_lt B1
          have hbl2 : bb + 1 < w2.heap.size := block_lt R1
          clear kC kq b0 b1 b2 f1 f2 r0 r1 q0 q1 hw2
          have b0 := cell_of_heap B1 0
          have b1 := cell_of_heap B1 1
          have b2 := cell_of_heap B1 2
          have r0 := cell_of_heap R1 0
          have r1 := cell_of_heap R1 1
          have q0 := frozen_of_heap R1 0
          have q1 := frozen_of_heap R1 1
          simp only [List.getElem?_toArray, List.getElem?_cons_succ, List.getElem?_cons_zero] at b0 b1 b2 r0 r1
          have he := HE0.out
          clear B1 R1
          have HE := hid he
          clear he
          by_cases c1 : 9223372036854775808 ≤ n
          · go_wp2_with fail
            refine (int_no (natS n) _ (by have := HNS.out; omega) (by rw [sv_natS]; exact c1)).mono ?_
            rintro e w' ⟨rfl, rfl⟩
            go_wp2_with fail
            refine bodyPost_ret (v := noDec) (by simp [results, Tryz.results34, go_sem, noDec, r0, r1]) rfl ⟨?_, ?_⟩
            · rw [fitV_no neg N s (by rw [HE.out]; omega)]
            · exact Kb.setCell (Kb.setCell KC.out (Or.inr (by show w.heap.size ≤ bb + 1; have := HBB.out; omega)) _) (Or.inr (by show w.heap.size ≤ bb + 1; have := HBB.out; omega)) _
          · go_wp2_with fail
            refine (int_nat n _ (by omega)).mono ?_
            rintro e w' ⟨rfl, rfl⟩
            by_cases c2 : n ≤ 1000000000000000 ∧ (k + 1) ≤ 6
            · obtain ⟨c2, c3⟩ := c2
              cases neg
              · go_wp2_with fail
                refine bodyPost_ret (v := okDec (n : Int) (k + 1)) (by simp [results, Tryz.results34, go_sem, okDec, r0, r1]) rfl ⟨?_, ?_⟩
                · rw [fitV_yes _ N s (by rw [HE.out]; exact c2) (by rw [HE.out]; exact c3), HE.out]
                  rfl
                · exact Kb.setCell (Kb.setCell KC.out (Or.inr (by show w.heap.size ≤ bb + 1; have := HBB.out; omega)) _) (Or.inr (by show w.heap.size ≤ bb + 1; have := HBB.out; omega)) _
              · go_wp2_with fail
                refine bodyPost_ret (v := okDec (-(n : Int)) (k + 1)) (by simp [results, Tryz.results34, go_sem, okDec, r0, r1]) rfl ⟨?_, ?_⟩
                · rw [fitV_yes _ N s (by rw [HE.out]; exact c2) (by rw [HE.out]; exact c3), HE.out]
                  rfl
                · exact Kb.setCell (Kb.setCell KC.out (Or.inr (by show w.heap.size ≤ bb + 1; have := HBB.out; omega)) _) (Or.inr (by show w.heap.size ≤ bb + 1; have := HBB.out; omega)) _
            · by_cases c3 : n ≤ 1000000000000000
              · have c4 : 6 < (k + 1) := by omega
                clear c2
                go_wp2_with fail
                refine bodyPost_ret (v := noDec) (by simp [results, Tryz.results34, go_sem, noDec, r0, r1]) rfl ⟨?_, ?_⟩
                · rw [fitV_no neg N s (by rw [HE.out]; omega)]
                · exact Kb.setCell (Kb.setCell KC.out (Or.inr (by show w.heap.size ≤ bb + 1; have := HBB.out; omega)) _) (Or.inr (by show w.heap.size ≤ bb + 1; have := HBB.out; omega)) _
              · clear c2
                go_wp2_with fail
                refine bodyPost_ret (v := noDec) (by simp [results, Tryz.results34, go_sem, noDec, r0, r1]) rfl ⟨?_, ?_⟩
                · rw [fitV_no neg N s (by rw [HE.out]; omega)]
                · exact Kb.setCell (Kb.setCell KC.out (Or.inr (by show w.heap.size ≤ bb + 1; have := HBB.out; omega)) _) (Or.inr (by show w.heap.size ≤ bb + 1; have := HBB.out; omega)) _
end Go.Proofs.YtkhjgfbiemllmaaGreatDoor
namespace Go.Proofs.YtkhjgfbiemllmaaGreatDoor
open Go.RowKit

/-- Whether a decimal is right. -/
def rightB (n s : Int) : Bool := decide (0 ≤ s ∧ s ≤ 6 ∧ -1000000000000000 ≤ n ∧ n ≤ 1000000000000000 ∧ (s = 0 ∨ n.tmod 10 ≠ 0))
set_option maxHeartbeats 2000000 in
theorem right_any (n s : Int) (w : World) : Calls Tryz.prog 18 #[.agg #[.int .i64 n, .int .i64 s]] w fun e w' => e = .returned (.bool (rightB n s)) ∧ Kb (fun _ => False) w w' := by
  by_cases a1 : 0 ≤ s
  · by_cases a2 : s ≤ 6
    · by_cases a3 : -1000000000000000 ≤ n
      · by_cases a4 : n ≤ 1000000000000000
        · by_cases a5 : s = 0
          · have H := hid (show rightB n s = true from decide_eq_true ⟨a1, a2, a3, a4, Or.inl a5⟩)
            have c5 : (s == 0) = true := by rw [a5]; rfl
            clear a5
            go_enter Tryz.func18, Tryz.ntmps18
            go_wp2_with fail
            go_ret
            exact ⟨by rw [H.out]; rfl, (Kb.refl _ _).alloc _⟩
          · have c5 : (s == 0) = false := by rw [beq_eq_false_iff_ne]; exact a5
            by_cases a6 : n.tmod 10 = 0
            · have H := hid (show rightB n s = false from decide_eq_false (by rintro ⟨_, _, _, _, h | h⟩; exact a5 h; exact h a6))
              have c6 : (n.tmod 10 != 0) = false := by rw [a6]; rfl
              clear a5 a6
              go_enter Tryz.func18, Tryz.ntmps18
              go_wp2_with fail
              go_ret
              exact ⟨by rw [H.out]; rfl, (Kb.refl _ _).alloc _⟩
            · have H := hid (show rightB n s = true from decide_eq_true ⟨a1, a2, a3, a4, Or.inr a6⟩)
              have c6 : (n.tmod 10 != 0) = true := by rw [bne_iff_ne]; exact a6
              clear a5 a6
              go_enter Tryz.func18, Tryz.ntmps18
              go_wp2_with fail
              go_ret
              exact ⟨by rw [H.out]; rfl, (Kb.refl _ _).alloc _⟩
        · have H := hid (show rightB n s = false from decide_eq_false (by rintro ⟨_, _, _, h, _⟩; exact a4 h))
          go_enter Tryz.func18, Tryz.ntmps18
          go_wp2_with fail
          go_ret
          exact ⟨by rw [H.out]; rfl, (Kb.refl _ _).alloc _⟩
      · have H := hid (show rightB n s = false from decide_eq_false (by rintro ⟨_, _, h, _, _⟩; exact a3 h))
        go_enter Tryz.func18, Tryz.ntmps18
        go_wp2_with fail
        go_ret
        exact ⟨by rw [H.out]; rfl, (Kb.refl _ _).alloc _⟩
    · have H := hid (show rightB n s = false from decide_eq_false (by rintro ⟨_, h, _, _, _⟩; exact a2 h))
      go_enter Tryz.func18, Tryz.ntmps18
      go_wp2_with fail
      go_ret
      exact ⟨by rw [H.out]; rfl, (Kb.refl _ _).alloc _⟩
  · have H := hid (show rightB n s = false from decide_eq_false (by rintro ⟨h, _, _, _, _⟩; exact a1 h))
    go_enter Tryz.func18, Tryz.ntmps18
    go_wp2_with fail
    go_ret
    exact ⟨by rw [H.out]; rfl, (Kb.refl _ _).alloc _⟩
set_option maxHeartbeats 2000000 in
theorem rright_any (n s : Int) (w : World) : Calls Tryz.prog 53 #[.agg #[.int .i64 n, .int .i64 s]] w fun e w' => e = .returned (.bool (rightB n s)) ∧ Kb (fun _ => False) w w' := by
  by_cases a1 : 0 ≤ s
  · by_cases a2 : s ≤ 6
    · by_cases a3 : -1000000000000000 ≤ n
      · by_cases a4 : n ≤ 1000000000000000
        · by_cases a5 : s = 0
          · have H := hid (show rightB n s = true from decide_eq_true ⟨a1, a2, a3, a4, Or.inl a5⟩)
            have c5 : (s == 0) = true := by rw [a5]; rfl
            clear a5
            go_enter Tryz.func53, Tryz.ntmps53
            go_wp2_with fail
            go_ret
            exact ⟨by rw [H.out]; rfl, (Kb.refl _ _).alloc _⟩
          · have c5 : (s == 0) = false := by rw [beq_eq_false_iff_ne]; exact a5
            by_cases a6 : n.tmod 10 = 0
            · have H := hid (show rightB n s = false from decide_eq_false (by rintro ⟨_, _, _, _, h | h⟩; exact a5 h; exact h a6))
              have c6 : (n.tmod 10 != 0) = false := by rw [a6]; rfl
              clear a5 a6
              go_enter Tryz.func53, Tryz.ntmps53
              go_wp2_with fail
              go_ret
              exact ⟨by rw [H.out]; rfl, (Kb.refl _ _).alloc _⟩
            · have H := hid (show rightB n s = true from decide_eq_true ⟨a1, a2, a3, a4, Or.inr a6⟩)
              have c6 : (n.tmod 10 != 0) = true := by rw [bne_iff_ne]; exact a6
              clear a5 a6
              go_enter Tryz.func53, Tryz.ntmps53
              go_wp2_with fail
              go_ret
              exact ⟨by rw [H.out]; rfl, (Kb.refl _ _).alloc _⟩
        · have H := hid (show rightB n s = false from decide_eq_false (by rintro ⟨_, _, _, h, _⟩; exact a4 h))
          go_enter Tryz.func53, Tryz.ntmps53
          go_wp2_with fail
          go_ret
          exact ⟨by rw [H.out]; rfl, (Kb.refl _ _).alloc _⟩
      · have H := hid (show rightB n s = false from decide_eq_false (by rintro ⟨_, _, h, _, _⟩; exact a3 h))
        go_enter Tryz.func53, Tryz.ntmps53
        go_wp2_with fail
        go_ret
        exact ⟨by rw [H.out]; rfl, (Kb.refl _ _).alloc _⟩
    · have H := hid (show rightB n s = false from decide_eq_false (by rintro ⟨_, h, _, _, _⟩; exact a2 h))
      go_enter Tryz.func53, Tryz.ntmps53
      go_wp2_with fail
      go_ret
      exact ⟨by rw [H.out]; rfl, (Kb.refl _ _).alloc _⟩
  · have H := hid (show rightB n s = false from decide_eq_false (by rintro ⟨h, _, _, _, _⟩; exact a1 h))
    go_enter Tryz.func53, Tryz.ntmps53
    go_wp2_with fail
    go_ret
    exact ⟨by rw [H.out]; rfl, (Kb.refl _ _).alloc _⟩
theorem right_is (n s : Int) (b : Bool) (w : World) (h : rightB n s = b) : Calls Tryz.prog 18 #[.agg #[.int .i64 n, .int .i64 s]] w fun e w' => e = .returned (.bool b) ∧ Kb (fun _ => False) w w' := by
  subst h
  exact right_any n s w
def knownV (n s : Int) : Value := if rightB n s then .agg #[.int .i64 n, .int .i64 s] else .agg #[.int .i64 0, .int .i64 0]
set_option maxHeartbeats 1000000 in
theorem known_any (n s : Int) (w : World) : Calls Tryz.prog 30 #[.agg #[.int .i64 n, .int .i64 s]] w fun e w' => e = .returned (knownV n s) ∧ Kb (fun _ => False) w w' := by
  cases h : rightB n s
  · have H := hid h
    clear h
    go_enter Tryz.func30, Tryz.ntmps30
    go_wp2_with fail
    generalize hW : World.alloc _ _ = W
    have kW : Kb (fun _ => False) w W := by subst hW; exact ((Kb.refl _ _).alloc _).alloc _
    have rW : W.heap[w.heap.size + 1]? = some (.cells #[.int .i64 0, .int .i64 0] 23 (0, 0)) := by
      subst hW
      have h := heap_alloc_new (w.alloc (.cells #[.int .i64 n, .int .i64 s] 23)) (.cells #[.int .i64 0, .int .i64 0] 23)
      simpa using h
    refine (right_is n s false W H.out).mono ?_
    rintro e w1 ⟨rfl, k1⟩
    have R1 := k1.heap rW (by simp)
    have r0 := cell_of_heap R1 0
    have r1 := cell_of_heap R1 1
    have q0 := frozen_of_heap R1 0
    have q1 := frozen_of_heap R1 1
    have hbl := block_lt R1
    simp only [List.getElem?_toArray, List.getElem?_cons_succ, List.getElem?_cons_zero] at r0 r1
    have K1 := hid (kW.trans k1)
    clear hW kW rW k1 R1
    go_wp2_with fail
    refine bodyPost_ret (v := .agg #[.int .i64 0, .int .i64 0]) (by simp [results, Tryz.results30, go_sem, r0, r1]) rfl ⟨?_, ?_⟩
    · unfold knownV; rw [H.out]; rfl
    · exact Kb.setCell (Kb.setCell K1.out (Or.inr (by show w.heap.size ≤ w.heap.size + 1; omega)) _) (Or.inr (by show w.heap.size ≤ w.heap.size + 1; omega)) _
  · have H := hid h
    clear h
    go_enter Tryz.func30, Tryz.ntmps30
    go_wp2_with fail
    generalize hW : World.alloc _ _ = W
    have kW : Kb (fun _ => False) w W := by subst hW; exact ((Kb.refl _ _).alloc _).alloc _
    have bW : W.heap[w.heap.size]? = some (.cells #[.int .i64 n, .int .i64 s] 23 (0, 0)) := by
      subst hW
      rw [Below.heap_alloc _ _ _ (by simp)]
      exact heap_alloc_new w _
    have rW : W.heap[w.heap.size + 1]? = some (.cells #[.int .i64 0, .int .i64 0] 23 (0, 0)) := by
      subst hW
      have h := heap_alloc_new (w.alloc (.cells #[.int .i64 n, .int .i64 s] 23)) (.cells #[.int .i64 0, .int .i64 0] 23)
      simpa using h
    refine (right_is n s true W H.out).mono ?_
    rintro e w1 ⟨rfl, k1⟩
    have B1 := k1.heap bW (by simp)
    have R1 := k1.heap rW (by simp)
    have b0 := cell_of_heap B1 0
    have b1 := cell_of_heap B1 1
    have r0 := cell_of_heap R1 0
    have r1 := cell_of_heap R1 1
    have q0 := frozen_of_heap R1 0
    have q1 := frozen_of_heap R1 1
    have hbl := block_lt R1
    have hbl0 := block_lt B1
    simp only [List.getElem?_toArray, List.getElem?_cons_succ, List.getElem?_cons_zero] at b0 b1 r0 r1
    have K1 := hid (kW.trans k1)
    clear hW kW bW rW k1 B1 R1
    go_wp2_with fail
    refine bodyPost_ret (v := .agg #[.int .i64 n, .int .i64 s]) (by simp [results, Tryz.results30, go_sem, r0, r1]) rfl ⟨?_, ?_⟩
    · unfold knownV; rw [H.out]; rfl
    · exact Kb.setCell (Kb.setCell K1.out (Or.inr (by show w.heap.size ≤ w.heap.size + 1; omega)) _) (Or.inr (by show w.heap.size ≤ w.heap.size + 1; omega)) _
end Go.Proofs.YtkhjgfbiemllmaaGreatDoor
namespace Go.Proofs.YtkhjgfbiemllmaaGreatDoor
open Go.RowKit

theorem mod_mod (n m : Int) (hm : 0 < m) : (n.tmod m + m).tmod m = n % m := by
  have h1 := Int.lt_tmod_of_pos n hm
  rw [Int.tmod_eq_emod_of_nonneg (by omega), Int.add_emod_right, Int.tmod_def, Int.sub_mul_emod_self_left]
set_option maxHeartbeats 1000000 in
theorem mod_any (n m : Int) (w : World) (hm : 0 < m) (hm2 : m ≤ 1000) :
    Calls Tryz.prog 11 #[.int .i64 n, .int .i64 m] w fun e w' => e = .returned (.int .i64 (n % m)) ∧ w' = w := by
  have h1 := Int.lt_tmod_of_pos n hm
  have h2 := Int.tmod_lt_of_pos n hm
  have h0 : (m == 0) = false := by rw [beq_eq_false_iff_ne]; omega
  have HR := hid (mod_mod n m hm)
  have e1 : IntKind.i64.wrap (n.tmod m) = n.tmod m := IntWalk.i64_in _ (by omega)
  go_enter Tryz.func11, Tryz.ntmps11
  go_wp2_with fail
  go_ret
  refine ⟨?_, rfl⟩
  rw [← HR.out]
  have h3 : 0 ≤ n.tmod m + m := by omega
  first
    | rfl
    | (rw [Int.tmod_eq_emod_of_nonneg h3]; rfl)
set_option maxHeartbeats 1000000 in
theorem rmake_out (n s : Int) (w : World) (h : s < 0 ∨ 18 < s) :
    Calls Tryz.prog 29 #[.int .i64 n, .int .i64 s] w fun e w' => e = .returned noDec ∧ Kb (fun _ => False) w w' := by
  rcases h with h | h
  · go_enter Tryz.func29, Tryz.ntmps29
    go_wp2_with fail
    exact bodyPost_ret (v := noDec) (by simp [results, Tryz.results29, go_sem, noDec]) rfl ⟨rfl, (Kb.refl _ _).alloc _⟩
  · have h' : ¬ s < 0 := by omega
    go_enter Tryz.func29, Tryz.ntmps29
    go_wp2_with fail
    exact bodyPost_ret (v := noDec) (by simp [results, Tryz.results29, go_sem, noDec]) rfl ⟨rfl, (Kb.refl _ _).alloc _⟩
theorem fitV_form (neg : Bool) (N s : Nat) : ∃ x y : Int, ∃ b : Bool, fitV neg N s = .tuple #[.agg #[.int .i64 x, .int .i64 y], .bool b] := by
  unfold fitV
  split
  · exact ⟨_, _, _, rfl⟩
  · exact ⟨_, _, _, rfl⟩
theorem fit_is (neg : Bool) (N s : Nat) (v : Value) (w : World) (hs : s ≤ 1000000) (hN : (natS N).size ≤ 1000000) (hv : fitV neg N s = v) :
    Calls Tryz.prog 34 #[.agg #[.bool neg, .string (natS N), .int .i64 s]] w fun e w' => e = .returned v ∧ Kb (fun _ => False) w w' := by
  subst hv
  exact fit_any neg N s w hs hN
set_option maxHeartbeats 1000000 in
theorem rmake_in (n : Int) (s : Nat) (w : World) (h1 : -9223372036854775808 ≤ n) (h2 : n ≤ 9223372036854775807) (hs : s ≤ 18) :
    Calls Tryz.prog 29 #[.int .i64 n, .int .i64 s] w fun e w' => e = .returned (fitV (decide (n < 0)) n.natAbs s) ∧ Kb (fun _ => False) w w' := by
  obtain ⟨x, y, b, hv⟩ := fitV_form (decide (n < 0)) n.natAbs s
  rw [hv]
  have HV := hid hv
  have hsz : (natS n.natAbs).size ≤ 1000000 := Nat.le_trans (natS_small _ (by omega)) (by omega)
  have HSZ := hid hsz
  clear hv hsz
  go_enter Tryz.func29, Tryz.ntmps29
  go_wp2_with fail
  generalize hW : World.alloc _ _ = W
  have kW : Kb (fun _ => False) w W := by subst hW; exact (Kb.refl _ _).alloc _
  have rW : W.heap[w.heap.size]? = some (.cells #[.int .i64 0, .int .i64 0] 23 (0, 0)) := by subst hW; exact heap_alloc_new w _
  clear hW
  refine (natural_any n W h1 h2).mono ?_
  rintro e w1 ⟨rfl, k1⟩
  go_wp2_with fail
  refine (fit_is (decide (n < 0)) n.natAbs s _ w1 (by omega) HSZ.out HV.out).mono ?_
  rintro e w2 ⟨rfl, k2⟩
  have R1 := (k1.trans k2).heap rW (by simp)
  have r0 := cell_of_heap R1 0
  have r1 := cell_of_heap R1 1
  have q0 := frozen_of_heap R1 0
  have q1 := frozen_of_heap R1 1
  have hbl := block_lt R1
  simp only [List.getElem?_toArray, List.getElem?_cons_succ, List.getElem?_cons_zero] at r0 r1
  have K2 := hid ((kW.trans k1).trans k2)
  clear kW rW k1 k2 R1
  go_wp2_with fail
  refine bodyPost_ret (v := .tuple #[.agg #[.int .i64 x, .int .i64 y], .bool b]) (by simp [results, Tryz.results29, go_sem, r0, r1]) rfl ⟨rfl, ?_⟩
  exact Kb.setCell (Kb.setCell K2.out (Or.inr (Nat.le_refl _)) _) (Or.inr (Nat.le_refl _)) _
end Go.Proofs.YtkhjgfbiemllmaaGreatDoor
namespace Go.Proofs.YtkhjgfbiemllmaaGreatDoor
open Go.RowKit

theorem strip_stop (s n : Nat) (h : s = 0 ∨ n % 10 ≠ 0) : strip s n = (n, s) := by
  cases s with
  | zero => rfl
  | succ s =>
    rw [strip, if_neg]
    rcases h with h | h
    · omega
    · exact h
theorem strip_step (s n : Nat) (h : n % 10 = 0) : strip (s + 1) n = strip s (n / 10) := by rw [strip, if_pos h]
theorem tmod10 (z : Int) : z.tmod 10 = 0 ↔ z.natAbs % 10 = 0 := by
  have h := Int.natAbs_tmod z 10
  rw [show (10 : Int).natAbs = 10 from rfl] at h
  omega
theorem tdiv10 (z : Int) : (z.tdiv 10).natAbs = z.natAbs / 10 := Int.natAbs_tdiv z 10
theorem tdiv10_sign (z : Int) : (0 ≤ z → 0 ≤ z.tdiv 10) ∧ (z ≤ 0 → z.tdiv 10 ≤ 0) := by
  constructor
  · intro h; exact Int.tdiv_nonneg h (by omega)
  · intro h
    have := Int.tdiv_nonneg (show 0 ≤ -z by omega) (show (0 : Int) ≤ 10 by omega)
    rw [Int.neg_tdiv] at this
    omega
theorem sgn_of (n z : Int) (h1 : 0 ≤ n → 0 ≤ z) (h2 : n < 0 → z ≤ 0) : sgn (decide (n < 0)) z.natAbs = z := by
  unfold sgn
  by_cases h : n < 0
  · have := h2 h
    simp only [h, decide_true, if_true]
    omega
  · have := h1 (by omega)
    simp only [h, decide_false, Bool.false_eq_true, if_false]
    omega
/-- What Make gives at the end. -/
theorem make_fin (n z : Int) (s k : Nat) (h1 : 0 ≤ n → 0 ≤ z) (h2 : n < 0 → z ≤ 0) (hst : strip k z.natAbs = strip s n.natAbs) (hk : k = 0 ∨ z.natAbs % 10 ≠ 0) :
    fitV (decide (n < 0)) n.natAbs s = if rightB z k then okDec z k else noDec := by
  rw [strip_stop k _ hk] at hst
  unfold fitV
  rw [← hst]
  have hz := sgn_of n z h1 h2
  have hr : rightB z k = decide (z.natAbs ≤ 1000000000000000 ∧ k ≤ 6) := by
    unfold rightB
    rw [decide_eq_decide]
    constructor
    · rintro ⟨_, a, b, c, _⟩
      omega
    · rintro ⟨a, b⟩
      refine ⟨by omega, by omega, by omega, by omega, ?_⟩
      rcases hk with h | h
      · left; omega
      · right; intro e; exact h ((tmod10 z).1 e)
  rw [hr]
  by_cases h : z.natAbs ≤ 1000000000000000 ∧ k ≤ 6
  · rw [if_pos h, decide_eq_true h, if_pos rfl]
    simp only
    rw [hz]
  · rw [if_neg h, decide_eq_false h]
    rfl
theorem Kb.of_draw {S : Nat → Prop} {w w' : World} (k : Kb S w.drew w') : Kb S w w' := ⟨k.os, k.tape, k.output, k.size, k.block⟩
theorem known_is (n s : Int) (x y : Int) (w : World) (h : knownV n s = .agg #[.int .i64 x, .int .i64 y]) : Calls Tryz.prog 30 #[.agg #[.int .i64 n, .int .i64 s]] w fun e w' => e = .returned (.agg #[.int .i64 x, .int .i64 y]) ∧ Kb (fun _ => False) w w' := by
  rw [← h]
  exact known_any n s w
set_option maxHeartbeats 1000000 in
theorem dmake_out (n s : Int) (w : World) (h : s < 0 ∨ 18 < s) :
    Calls Tryz.prog 25 #[.int .i64 n, .int .i64 s] w fun e w' => e = .returned noDec ∧ Kb (fun _ => False) w w' := by
  rcases h with h | h
  · go_enter Tryz.func25, Tryz.ntmps25
    go_wp2_with fail
    exact bodyPost_ret (v := noDec) (by simp [results, Tryz.results25, go_sem, noDec]) rfl ⟨rfl, (Kb.refl _ _).alloc _⟩
  · have h' : ¬ s < 0 := by omega
    go_enter Tryz.func25, Tryz.ntmps25
    go_wp2_with fail
    exact bodyPost_ret (v := noDec) (by simp [results, Tryz.results25, go_sem, noDec]) rfl ⟨rfl, (Kb.refl _ _).alloc _⟩
attribute [local go_sem ↓] Go.wp_at_zero Go.wp_at_succ
set_option maxHeartbeats 4000000 in
set_option maxRecDepth 100000 in
theorem dmake_in (n : Int) (s : Nat) (w : World) (h1 : -9223372036854775808 ≤ n) (h2 : n ≤ 9223372036854775807) (hs : s ≤ 18) :
    Calls Tryz.prog 25 #[.int .i64 n, .int .i64 s] w fun e w' => e = .returned (fitV (decide (n < 0)) n.natAbs s) ∧ Kb (fun _ => False) w w' := by
  go_enter Tryz.func25, Tryz.ntmps25
  go_wp2_with fail
  generalize hW : World.alloc _ _ = W
  have kW : Kb (fun _ => False) w W := by subst hW; exact (Kb.refl _ _).alloc _
  have rW : W.heap[w.heap.size]? = some (.cells #[.int .i64 0, .int .i64 0] 23 (0, 0)) := by subst hW; exact heap_alloc_new w _
  have KW := hid kW
  have RW := hid rW
  clear hW kW rW
  go_loop [0, 1, 14] (fun zv sv iv => ∃ (z : Int) (k i : Nat), zv = .int .i64 z ∧ sv = .int .i64 k ∧ iv = .int .i64 i ∧ i ≤ 18 ∧ k ≤ 18 ∧ -9223372036854775808 ≤ z ∧ z ≤ 9223372036854775807 ∧ Hid ((0 ≤ n → 0 ≤ z) ∧ (n < 0 → z ≤ 0) ∧ strip k z.natAbs = strip s n.natAbs ∧ (k + i ≤ 18 ∨ k = 0 ∨ z.natAbs % 10 ≠ 0)))
    (fun _ _ iv => 18 - (intOf iv).toNat)
  case atStart => exact ⟨n, s, 0, rfl, rfl, rfl, by omega, hs, h1, h2, ⟨id, fun h => by omega, rfl, Or.inl (by omega)⟩⟩
  case round =>
    obtain ⟨z, k, i, rfl, rfl, rfl, hi, hk, hz1, hz2, hinv⟩ := hrel
    by_cases hlt : i < 18
    · cases k with
      | zero =>
        have hinv2 := hid (show (0 ≤ n → 0 ≤ z) ∧ (n < 0 → z ≤ 0) ∧ strip 0 z.natAbs = strip s n.natAbs ∧ (0 + (i + 1) ≤ 18 ∨ 0 = 0 ∨ z.natAbs % 10 ≠ 0) from ⟨hinv.out.1, hinv.out.2.1, hinv.out.2.2.1, Or.inr (Or.inl rfl)⟩)
        go_wp2_with fail
        exact ⟨⟨z, 0, i + 1, rfl, rfl, by go_num, by omega, by omega, hz1, hz2, hinv2⟩, by simp [intOf]; omega⟩
      | succ k =>
        by_cases h10 : z.natAbs % 10 = 0
        · have c6 : (z.tmod 10 == 0) = true := by rw [(tmod10 z).2 h10]; rfl
          have hq := tdiv10 z
          have hsg := tdiv10_sign z
          have hinv2 := hid (show (0 ≤ n → 0 ≤ z.tdiv 10) ∧ (n < 0 → z.tdiv 10 ≤ 0) ∧ strip k (z.tdiv 10).natAbs = strip s n.natAbs ∧ (k + (i + 1) ≤ 18 ∨ k = 0 ∨ (z.tdiv 10).natAbs % 10 ≠ 0) from by
            obtain ⟨a, b, c, d⟩ := hinv.out
            refine ⟨fun h => hsg.1 (a h), fun h => hsg.2 (b h), ?_, ?_⟩
            · rw [strip_step k _ h10] at c
              rw [hq]
              exact c
            · rcases d with d | d | d
              · exact Or.inl (by omega)
              · omega
              · exact absurd h10 d)
          have hb1 : -9223372036854775808 ≤ z.tdiv 10 ∧ z.tdiv 10 ≤ 9223372036854775807 := by omega
          obtain ⟨hb1, hb2⟩ := hb1
          have e1 : IntKind.i64.wrap (z.tdiv 10) = z.tdiv 10 := IntWalk.i64_in _ (by omega)
          clear hq hsg h10 hinv
          go_wp2_with fail
          exact ⟨⟨z.tdiv 10, k, i + 1, rfl, by go_num, by go_num, by omega, by omega, hb1, hb2, hinv2⟩, by simp [intOf]; omega⟩
        · have c6 : (z.tmod 10 == 0) = false := by rw [beq_eq_false_iff_ne]; intro e; exact h10 ((tmod10 z).1 e)
          have hinv2 := hid (show (0 ≤ n → 0 ≤ z) ∧ (n < 0 → z ≤ 0) ∧ strip (k + 1) z.natAbs = strip s n.natAbs ∧ (k + 1 + (i + 1) ≤ 18 ∨ k + 1 = 0 ∨ z.natAbs % 10 ≠ 0) from ⟨hinv.out.1, hinv.out.2.1, hinv.out.2.2.1, Or.inr (Or.inr h10)⟩)
          clear h10 hinv
          go_wp2_with fail
          exact ⟨⟨z, k + 1, i + 1, rfl, rfl, by go_num, by omega, by omega, hz1, hz2, hinv2⟩, by simp [intOf]; omega⟩
    · have hi18 : i = 18 := by omega
      subst hi18
      have hf := make_fin n z s k hinv.out.1 hinv.out.2.1 hinv.out.2.2.1 (by
        rcases hinv.out.2.2.2 with h | h
        · left; omega
        · exact h)
      have HF := hid hf
      have R0 := RW.out
      have r0 := cell_of_heap R0 0
      have r1 := cell_of_heap R0 1
      have q0 := frozen_of_heap R0 0
      have q1 := frozen_of_heap R0 1
      have hbl := block_lt R0
      simp only [List.getElem?_toArray, List.getElem?_cons_succ, List.getElem?_cons_zero] at r0 r1
      clear hf R0 hinv hlt
      cases hr : rightB z k
      · have HR := hid hr
        have HK := hid (show knownV z k = .agg #[.int .i64 0, .int .i64 0] by unfold knownV; rw [hr]; rfl)
        clear hr
        go_wp2_with fail
        generalize hW2 : World.alloc _ _ = W2
        have k2 : Kb (fun _ => False) W W2 := by subst hW2; exact (Kb.refl _ _).alloc _
        have B2 : W2.heap[W.heap.size]? = some (.cells #[.int .i64 z, .int .i64 k] 23 (0, 0)) := by subst hW2; exact heap_alloc_new W _
        have b0 := cell_of_heap B2 0
        have b1 := cell_of_heap B2 1
        have hbu := block_lt B2
        simp only [List.getElem?_toArray, List.getElem?_cons_succ, List.getElem?_cons_zero] at b0 b1
        have r0 := k2.cell r0 (by simp)
        have r1 := k2.cell r1 (by simp)
        have q0 := (k2.frozen hbl (by simp)).trans q0
        have q1 := (k2.frozen hbl (by simp)).trans q1
        have hbl2 : w.heap.size < W2.heap.size := by have := k2.size; omega
        have hne : W.heap.size ≠ w.heap.size := by omega
        have K2 := hid (KW.out.trans k2)
        clear hW2 k2 B2 hbl
        generalize W.heap.size = ub at *
        obtain ⟨tb, htb⟩ : ∃ tb, tb = w.heap.size := ⟨_, rfl⟩
        have HTB := hid htb
        rw [← htb]
        rw [← htb] at r0 r1 q0 q1 hbl2 hne
        clear htb RW
        go_region_with (first
          | (go_at_call 30; refine (known_is z k _ _ _ HK.out).mono ?_; rintro e w' ⟨rfl, kq⟩; have b0 := kq.cell b0 (by simp); have b1 := kq.cell b1 (by simp); have r0 := kq.cell r0 (by simp); have r1 := kq.cell r1 (by simp); have q0 := (kq.frozen (p := ⟨tb, 0, none⟩) hbl2 (by simp)).trans q0; have q1 := (kq.frozen (p := ⟨tb, 1, none⟩) hbl2 (by simp)).trans q1; have hbl2 := Nat.lt_of_lt_of_le hbl2 kq.size; have hbu := Nat.lt_of_lt_of_le hbu kq.size; (first | (have K2 := hid (K2.out.trans kq)) | (have K2 := hid (K2.out.trans (Kb.of_draw kq)))))
          | (go_at_call 18; refine (right_is z k false _ HR.out).mono ?_; rintro e w' ⟨rfl, kq⟩; have b0 := kq.cell b0 (by simp); have b1 := kq.cell b1 (by simp); have r0 := kq.cell r0 (by simp); have r1 := kq.cell r1 (by simp); have q0 := (kq.frozen (p := ⟨tb, 0, none⟩) hbl2 (by simp)).trans q0; have q1 := (kq.frozen (p := ⟨tb, 1, none⟩) hbl2 (by simp)).trans q1; have hbl2 := Nat.lt_of_lt_of_le hbl2 kq.size; have hbu := Nat.lt_of_lt_of_le hbu kq.size; (first | (have K2 := hid (K2.out.trans kq)) | (have K2 := hid (K2.out.trans (Kb.of_draw kq))))))
        all_goals
          go_wp2_with fail
          refine bodyPost_ret (v := .tuple #[.agg #[.int .i64 0, .int .i64 0], .bool false]) (by simp [results, Tryz.results25, go_sem, r0, r1]) rfl ⟨?_, ?_⟩
          · rw [HF.out, HR.out]; rfl
          · have ht : w.heap.size ≤ tb := by have := HTB.out; omega
            first
              | exact Kb.setCell (Kb.setCell K2.out (Or.inr ht) _) (Or.inr ht) _
              | exact Kb.drew (Kb.setCell (Kb.setCell K2.out (Or.inr ht) _) (Or.inr ht) _)
      · have HR := hid hr
        have HK := hid (show knownV z k = .agg #[.int .i64 z, .int .i64 (k : Int)] by unfold knownV; rw [hr]; rfl)
        clear hr
        go_wp2_with fail
        generalize hW2 : World.alloc _ _ = W2
        have k2 : Kb (fun _ => False) W W2 := by subst hW2; exact (Kb.refl _ _).alloc _
        have B2 : W2.heap[W.heap.size]? = some (.cells #[.int .i64 z, .int .i64 k] 23 (0, 0)) := by subst hW2; exact heap_alloc_new W _
        have b0 := cell_of_heap B2 0
        have b1 := cell_of_heap B2 1
        have hbu := block_lt B2
        simp only [List.getElem?_toArray, List.getElem?_cons_succ, List.getElem?_cons_zero] at b0 b1
        have r0 := k2.cell r0 (by simp)
        have r1 := k2.cell r1 (by simp)
        have q0 := (k2.frozen hbl (by simp)).trans q0
        have q1 := (k2.frozen hbl (by simp)).trans q1
        have hbl2 : w.heap.size < W2.heap.size := by have := k2.size; omega
        have hne : W.heap.size ≠ w.heap.size := by omega
        have K2 := hid (KW.out.trans k2)
        clear hW2 k2 B2 hbl
        generalize W.heap.size = ub at *
        obtain ⟨tb, htb⟩ : ∃ tb, tb = w.heap.size := ⟨_, rfl⟩
        have HTB := hid htb
        rw [← htb]
        rw [← htb] at r0 r1 q0 q1 hbl2 hne
        clear htb RW
        go_region_with (first
          | (go_at_call 30; refine (known_is z k _ _ _ HK.out).mono ?_; rintro e w' ⟨rfl, kq⟩; have b0 := kq.cell b0 (by simp); have b1 := kq.cell b1 (by simp); have r0 := kq.cell r0 (by simp); have r1 := kq.cell r1 (by simp); have q0 := (kq.frozen (p := ⟨tb, 0, none⟩) hbl2 (by simp)).trans q0; have q1 := (kq.frozen (p := ⟨tb, 1, none⟩) hbl2 (by simp)).trans q1; have hbl2 := Nat.lt_of_lt_of_le hbl2 kq.size; have hbu := Nat.lt_of_lt_of_le hbu kq.size; (first | (have K2 := hid (K2.out.trans kq)) | (have K2 := hid (K2.out.trans (Kb.of_draw kq)))))
          | (go_at_call 18; refine (right_is z k true _ HR.out).mono ?_; rintro e w' ⟨rfl, kq⟩; have b0 := kq.cell b0 (by simp); have b1 := kq.cell b1 (by simp); have r0 := kq.cell r0 (by simp); have r1 := kq.cell r1 (by simp); have q0 := (kq.frozen (p := ⟨tb, 0, none⟩) hbl2 (by simp)).trans q0; have q1 := (kq.frozen (p := ⟨tb, 1, none⟩) hbl2 (by simp)).trans q1; have hbl2 := Nat.lt_of_lt_of_le hbl2 kq.size; have hbu := Nat.lt_of_lt_of_le hbu kq.size; (first | (have K2 := hid (K2.out.trans kq)) | (have K2 := hid (K2.out.trans (Kb.of_draw kq))))))
        all_goals
          go_wp2_with fail
          refine bodyPost_ret (v := .tuple #[.agg #[.int .i64 z, .int .i64 (k : Int)], .bool true]) (by simp [results, Tryz.results25, go_sem, r0, r1]) rfl ⟨?_, ?_⟩
          · rw [HF.out, HR.out]; rfl
          · have ht : w.heap.size ≤ tb := by have := HTB.out; omega
            first
              | exact Kb.setCell (Kb.setCell K2.out (Or.inr ht) _) (Or.inr ht) _
              | exact Kb.drew (Kb.setCell (Kb.setCell K2.out (Or.inr ht) _) (Or.inr ht) _)
end Go.Proofs.YtkhjgfbiemllmaaGreatDoor
