/- The walks of Right and known, of the reference's Mod, Make, Of and Made. -/
import Derived.Test.YtkhjgfbiemllmaaDoorDb
namespace Go.Proofs.YtkhjgfbiemllmaaDoor
open Go.RowKit

/-- Whether a decimal is right. -/
def rightB (n s : Int) : Bool := decide (0 ≤ s ∧ s ≤ 6 ∧ -1000000000000000 ≤ n ∧ n ≤ 1000000000000000 ∧ (s = 0 ∨ n.tmod 10 ≠ 0))
set_option maxHeartbeats 2000000 in
theorem right_any (n s : Int) (w : World) : Calls Tryd.prog 11 #[.agg #[.int .i64 n, .int .i64 s]] w fun e w' => e = .returned (.bool (rightB n s)) ∧ Kb (fun _ => False) w w' := by
  by_cases a1 : 0 ≤ s
  · by_cases a2 : s ≤ 6
    · by_cases a3 : -1000000000000000 ≤ n
      · by_cases a4 : n ≤ 1000000000000000
        · by_cases a5 : s = 0
          · have H := hid (show rightB n s = true from decide_eq_true ⟨a1, a2, a3, a4, Or.inl a5⟩)
            have c5 : (s == 0) = true := by rw [a5]; rfl
            clear a5
            go_enter Tryd.func11, Tryd.ntmps11
            go_wp2_with fail
            go_ret
            exact ⟨by rw [H.out]; rfl, (Kb.refl _ _).alloc _⟩
          · have c5 : (s == 0) = false := by rw [beq_eq_false_iff_ne]; exact a5
            by_cases a6 : n.tmod 10 = 0
            · have H := hid (show rightB n s = false from decide_eq_false (by rintro ⟨_, _, _, _, h | h⟩; exact a5 h; exact h a6))
              have c6 : (n.tmod 10 != 0) = false := by rw [a6]; rfl
              clear a5 a6
              go_enter Tryd.func11, Tryd.ntmps11
              go_wp2_with fail
              go_ret
              exact ⟨by rw [H.out]; rfl, (Kb.refl _ _).alloc _⟩
            · have H := hid (show rightB n s = true from decide_eq_true ⟨a1, a2, a3, a4, Or.inr a6⟩)
              have c6 : (n.tmod 10 != 0) = true := by rw [bne_iff_ne]; exact a6
              clear a5 a6
              go_enter Tryd.func11, Tryd.ntmps11
              go_wp2_with fail
              go_ret
              exact ⟨by rw [H.out]; rfl, (Kb.refl _ _).alloc _⟩
        · have H := hid (show rightB n s = false from decide_eq_false (by rintro ⟨_, _, _, h, _⟩; exact a4 h))
          go_enter Tryd.func11, Tryd.ntmps11
          go_wp2_with fail
          go_ret
          exact ⟨by rw [H.out]; rfl, (Kb.refl _ _).alloc _⟩
      · have H := hid (show rightB n s = false from decide_eq_false (by rintro ⟨_, _, h, _, _⟩; exact a3 h))
        go_enter Tryd.func11, Tryd.ntmps11
        go_wp2_with fail
        go_ret
        exact ⟨by rw [H.out]; rfl, (Kb.refl _ _).alloc _⟩
    · have H := hid (show rightB n s = false from decide_eq_false (by rintro ⟨_, h, _, _, _⟩; exact a2 h))
      go_enter Tryd.func11, Tryd.ntmps11
      go_wp2_with fail
      go_ret
      exact ⟨by rw [H.out]; rfl, (Kb.refl _ _).alloc _⟩
  · have H := hid (show rightB n s = false from decide_eq_false (by rintro ⟨h, _, _, _, _⟩; exact a1 h))
    go_enter Tryd.func11, Tryd.ntmps11
    go_wp2_with fail
    go_ret
    exact ⟨by rw [H.out]; rfl, (Kb.refl _ _).alloc _⟩
set_option maxHeartbeats 2000000 in
theorem rright_any (n s : Int) (w : World) : Calls Tryd.prog 14 #[.agg #[.int .i64 n, .int .i64 s]] w fun e w' => e = .returned (.bool (rightB n s)) ∧ Kb (fun _ => False) w w' := by
  by_cases a1 : 0 ≤ s
  · by_cases a2 : s ≤ 6
    · by_cases a3 : -1000000000000000 ≤ n
      · by_cases a4 : n ≤ 1000000000000000
        · by_cases a5 : s = 0
          · have H := hid (show rightB n s = true from decide_eq_true ⟨a1, a2, a3, a4, Or.inl a5⟩)
            have c5 : (s == 0) = true := by rw [a5]; rfl
            clear a5
            go_enter Tryd.func14, Tryd.ntmps14
            go_wp2_with fail
            go_ret
            exact ⟨by rw [H.out]; rfl, (Kb.refl _ _).alloc _⟩
          · have c5 : (s == 0) = false := by rw [beq_eq_false_iff_ne]; exact a5
            by_cases a6 : n.tmod 10 = 0
            · have H := hid (show rightB n s = false from decide_eq_false (by rintro ⟨_, _, _, _, h | h⟩; exact a5 h; exact h a6))
              have c6 : (n.tmod 10 != 0) = false := by rw [a6]; rfl
              clear a5 a6
              go_enter Tryd.func14, Tryd.ntmps14
              go_wp2_with fail
              go_ret
              exact ⟨by rw [H.out]; rfl, (Kb.refl _ _).alloc _⟩
            · have H := hid (show rightB n s = true from decide_eq_true ⟨a1, a2, a3, a4, Or.inr a6⟩)
              have c6 : (n.tmod 10 != 0) = true := by rw [bne_iff_ne]; exact a6
              clear a5 a6
              go_enter Tryd.func14, Tryd.ntmps14
              go_wp2_with fail
              go_ret
              exact ⟨by rw [H.out]; rfl, (Kb.refl _ _).alloc _⟩
        · have H := hid (show rightB n s = false from decide_eq_false (by rintro ⟨_, _, _, h, _⟩; exact a4 h))
          go_enter Tryd.func14, Tryd.ntmps14
          go_wp2_with fail
          go_ret
          exact ⟨by rw [H.out]; rfl, (Kb.refl _ _).alloc _⟩
      · have H := hid (show rightB n s = false from decide_eq_false (by rintro ⟨_, _, h, _, _⟩; exact a3 h))
        go_enter Tryd.func14, Tryd.ntmps14
        go_wp2_with fail
        go_ret
        exact ⟨by rw [H.out]; rfl, (Kb.refl _ _).alloc _⟩
    · have H := hid (show rightB n s = false from decide_eq_false (by rintro ⟨_, h, _, _, _⟩; exact a2 h))
      go_enter Tryd.func14, Tryd.ntmps14
      go_wp2_with fail
      go_ret
      exact ⟨by rw [H.out]; rfl, (Kb.refl _ _).alloc _⟩
  · have H := hid (show rightB n s = false from decide_eq_false (by rintro ⟨h, _, _, _, _⟩; exact a1 h))
    go_enter Tryd.func14, Tryd.ntmps14
    go_wp2_with fail
    go_ret
    exact ⟨by rw [H.out]; rfl, (Kb.refl _ _).alloc _⟩
theorem right_is (n s : Int) (b : Bool) (w : World) (h : rightB n s = b) : Calls Tryd.prog 11 #[.agg #[.int .i64 n, .int .i64 s]] w fun e w' => e = .returned (.bool b) ∧ Kb (fun _ => False) w w' := by
  subst h
  exact right_any n s w
def knownV (n s : Int) : Value := if rightB n s then .agg #[.int .i64 n, .int .i64 s] else .agg #[.int .i64 0, .int .i64 0]
set_option maxHeartbeats 1000000 in
theorem known_any (n s : Int) (w : World) : Calls Tryd.prog 25 #[.agg #[.int .i64 n, .int .i64 s]] w fun e w' => e = .returned (knownV n s) ∧ Kb (fun _ => False) w w' := by
  cases h : rightB n s
  · have H := hid h
    clear h
    go_enter Tryd.func25, Tryd.ntmps25
    go_wp2_with fail
    generalize hW : World.alloc _ _ = W
    have kW : Kb (fun _ => False) w W := by subst hW; exact ((Kb.refl _ _).alloc _).alloc _
    have rW : W.heap[w.heap.size + 1]? = some (.cells #[.int .i64 0, .int .i64 0] 23 (0, 0)) := by
      subst hW
      have h := heap_alloc_new (w.alloc (.cells #[.int .i64 n, .int .i64 s] 23)) (.cells #[.int .i64 0, .int .i64 0] 23)
      simpa using h
    refine (right_is n s false W H.out).mono ?_
    rintro e w1 ⟨rfl, k1⟩
    have R1 := k1.heap rW (by simp)
    have r0 := cell_of_heap R1 0
    have r1 := cell_of_heap R1 1
    have q0 := frozen_of_heap R1 0
    have q1 := frozen_of_heap R1 1
    have hbl := block_lt R1
    simp only [List.getElem?_toArray, List.getElem?_cons_succ, List.getElem?_cons_zero] at r0 r1
    have K1 := hid (kW.trans k1)
    clear hW kW rW k1 R1
    go_wp2_with fail
    refine bodyPost_ret (v := .agg #[.int .i64 0, .int .i64 0]) (by simp [results, Tryd.results25, go_sem, r0, r1]) rfl ⟨?_, ?_⟩
    · unfold knownV; rw [H.out]; rfl
    · exact Kb.setCell (Kb.setCell K1.out (Or.inr (by show w.heap.size ≤ w.heap.size + 1; omega)) _) (Or.inr (by show w.heap.size ≤ w.heap.size + 1; omega)) _
  · have H := hid h
    clear h
    go_enter Tryd.func25, Tryd.ntmps25
    go_wp2_with fail
    generalize hW : World.alloc _ _ = W
    have kW : Kb (fun _ => False) w W := by subst hW; exact ((Kb.refl _ _).alloc _).alloc _
    have bW : W.heap[w.heap.size]? = some (.cells #[.int .i64 n, .int .i64 s] 23 (0, 0)) := by
      subst hW
      rw [Below.heap_alloc _ _ _ (by simp)]
      exact heap_alloc_new w _
    have rW : W.heap[w.heap.size + 1]? = some (.cells #[.int .i64 0, .int .i64 0] 23 (0, 0)) := by
      subst hW
      have h := heap_alloc_new (w.alloc (.cells #[.int .i64 n, .int .i64 s] 23)) (.cells #[.int .i64 0, .int .i64 0] 23)
      simpa using h
    refine (right_is n s true W H.out).mono ?_
    rintro e w1 ⟨rfl, k1⟩
    have B1 := k1.heap bW (by simp)
    have R1 := k1.heap rW (by simp)
    have b0 := cell_of_heap B1 0
    have b1 := cell_of_heap B1 1
    have r0 := cell_of_heap R1 0
    have r1 := cell_of_heap R1 1
    have q0 := frozen_of_heap R1 0
    have q1 := frozen_of_heap R1 1
    have hbl := block_lt R1
    have hbl0 := block_lt B1
    simp only [List.getElem?_toArray, List.getElem?_cons_succ, List.getElem?_cons_zero] at b0 b1 r0 r1
    have K1 := hid (kW.trans k1)
    clear hW kW bW rW k1 B1 R1
    go_wp2_with fail
    refine bodyPost_ret (v := .agg #[.int .i64 n, .int .i64 s]) (by simp [results, Tryd.results25, go_sem, r0, r1]) rfl ⟨?_, ?_⟩
    · unfold knownV; rw [H.out]; rfl
    · exact Kb.setCell (Kb.setCell K1.out (Or.inr (by show w.heap.size ≤ w.heap.size + 1; omega)) _) (Or.inr (by show w.heap.size ≤ w.heap.size + 1; omega)) _
end Go.Proofs.YtkhjgfbiemllmaaDoor
