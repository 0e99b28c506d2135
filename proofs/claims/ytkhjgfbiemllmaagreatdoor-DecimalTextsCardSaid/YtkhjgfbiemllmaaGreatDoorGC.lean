/- Worlds behind a call that leaves the old blocks as they were, as terms that the walk reads by itself. -/
import Derived.Test.YtkhjgfbiemllmaaGreatDoorGA
namespace Go.Proofs.YtkhjgfbiemllmaaGreatDoor
open Go.RowKit

/-- w with further blocks at the end, and another count of draws. -/
def grew (w : World) (C : Array Obj) (n : Nat) : World := { w with heap := w.heap ++ C, drawn := n }

theorem grew_of {w w' : World} (k : Kb (fun _ => False) w w') : ∃ C n, w' = grew w C n := by
  refine ⟨w'.heap.extract w.heap.size w'.heap.size, w'.drawn, ?_⟩
  obtain ⟨h1, h2, h3, h4, h5⟩ := k
  cases w with
  | mk heap tape drawn os output =>
  cases w' with
  | mk heap' tape' drawn' os' output' =>
  simp only at h1 h2 h3 h4 h5
  subst h1 h2 h3
  unfold grew
  simp only [World.mk.injEq, and_true]
  apply Array.ext_getElem?
  intro i
  rw [Array.getElem?_append]
  by_cases hi : i < heap.size
  · rw [if_pos hi]
    exact h5 i hi (by simp)
  · rw [if_neg hi, Array.getElem?_extract]
    by_cases h : i < heap'.size
    · rw [if_pos (by omega), show heap.size + (i - heap.size) = i by omega]
    · rw [if_neg (by omega), Array.getElem?_eq_none (by omega)]
theorem grew_kb (w : World) (C : Array Obj) (n : Nat) : Kb (fun _ => False) w (grew w C n) :=
  ⟨rfl, rfl, rfl, by simp [grew], fun k hk _ => by simp [grew, Array.getElem?_append, hk]⟩
theorem Kb.grew {S : Nat → Prop} {a w : World} (h : Kb S a w) (C : Array Obj) (n : Nat) : Kb S a (grew w C n) :=
  h.trans ⟨rfl, rfl, rfl, by simp [Go.Proofs.YtkhjgfbiemllmaaGreatDoor.grew], fun k hk _ => by simp [Go.Proofs.YtkhjgfbiemllmaaGreatDoor.grew, Array.getElem?_append, hk]⟩
theorem Kb.setC {S : Nat → Prop} {a w : World} (h : Kb S a w) {b i : Nat} {v : Value} (hb : a.heap.size ≤ b) : Kb S a (w.setCell ⟨b, i, none⟩ v) := h.setCell (Or.inr hb) v
theorem grew_size (w : World) (C : Array Obj) (n : Nat) : (grew w C n).heap.size = w.heap.size + C.size := by simp [grew]
theorem grew_heap (w : World) (C : Array Obj) (n b : Nat) (h : b < w.heap.size) : (grew w C n).heap[b]? = w.heap[b]? := by simp [grew, Array.getElem?_append, h]
theorem grew_cell (w : World) (C : Array Obj) (n b i : Nat) (h : b < w.heap.size) : (grew w C n).cell? ⟨b, i, none⟩ = w.cell? ⟨b, i, none⟩ := World.cell?_of_block (grew_heap w C n b h)
theorem grew_frozen (w : World) (C : Array Obj) (n b i : Nat) (h : b < w.heap.size) : (grew w C n).frozen? ⟨b, i, none⟩ = w.frozen? ⟨b, i, none⟩ := World.frozen?_of_block (grew_heap w C n b h)
theorem grew_drew (w : World) (C : Array Obj) (n : Nat) : grew w.drew C n = grew w C n := rfl
theorem drew_grew (w : World) (C : Array Obj) (n : Nat) : (grew w C n).drew = grew w C (n + 1) := rfl
theorem grew_drewN (w : World) (C : Array Obj) (n m : Nat) : grew (w.drewN m) C n = grew w C n := rfl
theorem drewN_grew (w : World) (C : Array Obj) (n m : Nat) : (grew w C n).drewN m = grew w C (n + m) := rfl
theorem grew_grew (w : World) (C D : Array Obj) (n m : Nat) : grew (grew w C n) D m = grew w (C ++ D) m := by simp [grew]
theorem grew_setCell (w : World) (C : Array Obj) (n b i : Nat) (v : Value) (h : b < w.heap.size) : (grew w C n).setCell ⟨b, i, none⟩ v = grew (w.setCell ⟨b, i, none⟩ v) C n := by
  unfold grew World.setCell
  simp only [World.mk.injEq, and_true]
  apply Array.ext_getElem?
  intro j
  rw [Array.getElem?_modify, Array.getElem?_append, Array.getElem?_append, Array.getElem?_modify, Array.size_modify]
  by_cases hj : j < w.heap.size
  · rw [if_pos hj, if_pos hj]
  · rw [if_neg hj, if_neg hj, if_neg (by omega)]
/-- How many blocks 'grew w C n' has with k more. -/
def gsz (w : World) (C : Array Obj) (k : Nat) : Nat := w.heap.size + C.size + k
theorem size_grew (w : World) (C : Array Obj) (n : Nat) : (grew w C n).heap.size = gsz w C 0 := by rw [grew_size]; rfl
theorem gsz_one (w : World) (C : Array Obj) (k : Nat) : gsz w C k + 1 = gsz w C (k + 1) := rfl
theorem gsz_alloc (w : World) (o : Obj) (C : Array Obj) (k : Nat) : gsz (w.alloc o) C k = gsz w C (k + 1) := by simp [gsz]; omega
theorem gsz_drew (w : World) (C : Array Obj) (k : Nat) : gsz w.drew C k = gsz w C k := rfl
theorem gsz_drewN (w : World) (n : Nat) (C : Array Obj) (k : Nat) : gsz (w.drewN n) C k = gsz w C k := rfl
theorem gsz_setCell (w : World) (a : Addr) (v : Value) (C : Array Obj) (k : Nat) : gsz (w.setCell a v) C k = gsz w C k := by simp [gsz]
theorem gsz_grew (w : World) (C D : Array Obj) (n k : Nat) : gsz (grew w C n) D k = gsz w (C ++ D) k := by simp [gsz, grew_size]; omega
theorem gs0 (w : World) (C : Array Obj) (n k : Nat) (h : n < w.heap.size) : (n < gsz w C k) = True := by unfold gsz; exact eq_true (by omega)
theorem gs00 (w : World) (C : Array Obj) (k : Nat) (h : 0 < k) : (w.heap.size < gsz w C k) = True := by unfold gsz; exact eq_true (by omega)
theorem gs01 (w : World) (C : Array Obj) (k : Nat) (h : 1 < k) : (w.heap.size + 1 < gsz w C k) = True := by unfold gsz; exact eq_true (by omega)
theorem gs02 (w : World) (C : Array Obj) (k : Nat) (h : 2 < k) : (w.heap.size + 1 + 1 < gsz w C k) = True := by unfold gsz; exact eq_true (by omega)
theorem gs03 (w : World) (C : Array Obj) (k : Nat) (h : 3 < k) : (w.heap.size + 1 + 1 + 1 < gsz w C k) = True := by unfold gsz; exact eq_true (by omega)
theorem gs04 (w : World) (C : Array Obj) (k : Nat) (h : 4 < k) : (w.heap.size + 1 + 1 + 1 + 1 < gsz w C k) = True := by unfold gsz; exact eq_true (by omega)
theorem gs0i (w : World) (C : Array Obj) (i k : Nat) (h : i < k) : (w.heap.size + i < gsz w C k) = True := by unfold gsz; exact eq_true (by omega)
theorem gs1 (w : World) (C : Array Obj) (i k : Nat) (h : i < k) : (gsz w C i < gsz w C k) = True := by unfold gsz; exact eq_true (by omega)
theorem gs2 (w : World) (C0 X : Array Obj) (i k : Nat) (h : i < k) : (gsz w C0 i < gsz w (C0 ++ X) k) = True := by unfold gsz; simp; omega
theorem gs3 (w : World) (C0 C1 X : Array Obj) (i k : Nat) (h : i < k) : (gsz w (C0 ++ C1) i < gsz w (C0 ++ (C1 ++ X)) k) = True := by unfold gsz; simp; omega
theorem gs4 (w : World) (C0 C1 C2 X : Array Obj) (i k : Nat) (h : i < k) : (gsz w (C0 ++ (C1 ++ C2)) i < gsz w (C0 ++ (C1 ++ (C2 ++ X))) k) = True := by unfold gsz; simp; omega
theorem gs5 (w : World) (C0 C1 C2 C3 X : Array Obj) (i k : Nat) (h : i < k) : (gsz w (C0 ++ (C1 ++ (C2 ++ C3))) i < gsz w (C0 ++ (C1 ++ (C2 ++ (C3 ++ X)))) k) = True := by unfold gsz; simp; omega
theorem gs6 (w : World) (C0 C1 C2 C3 C4 X : Array Obj) (i k : Nat) (h : i < k) : (gsz w (C0 ++ (C1 ++ (C2 ++ (C3 ++ C4)))) i < gsz w (C0 ++ (C1 ++ (C2 ++ (C3 ++ (C4 ++ X))))) k) = True := by unfold gsz; simp; omega
theorem gs7 (w : World) (C0 C1 C2 C3 C4 C5 X : Array Obj) (i k : Nat) (h : i < k) : (gsz w (C0 ++ (C1 ++ (C2 ++ (C3 ++ (C4 ++ C5))))) i < gsz w (C0 ++ (C1 ++ (C2 ++ (C3 ++ (C4 ++ (C5 ++ X)))))) k) = True := by unfold gsz; simp; omega
theorem gs8 (w : World) (C0 C1 C2 C3 C4 C5 C6 X : Array Obj) (i k : Nat) (h : i < k) : (gsz w (C0 ++ (C1 ++ (C2 ++ (C3 ++ (C4 ++ (C5 ++ C6)))))) i < gsz w (C0 ++ (C1 ++ (C2 ++ (C3 ++ (C4 ++ (C5 ++ (C6 ++ X))))))) k) = True := by unfold gsz; simp; omega
theorem gs9 (w : World) (C0 C1 C2 C3 C4 C5 C6 C7 X : Array Obj) (i k : Nat) (h : i < k) : (gsz w (C0 ++ (C1 ++ (C2 ++ (C3 ++ (C4 ++ (C5 ++ (C6 ++ C7))))))) i < gsz w (C0 ++ (C1 ++ (C2 ++ (C3 ++ (C4 ++ (C5 ++ (C6 ++ (C7 ++ X)))))))) k) = True := by unfold gsz; simp; omega
theorem gs10 (w : World) (C0 C1 C2 C3 C4 C5 C6 C7 C8 X : Array Obj) (i k : Nat) (h : i < k) : (gsz w (C0 ++ (C1 ++ (C2 ++ (C3 ++ (C4 ++ (C5 ++ (C6 ++ (C7 ++ C8)))))))) i < gsz w (C0 ++ (C1 ++ (C2 ++ (C3 ++ (C4 ++ (C5 ++ (C6 ++ (C7 ++ (C8 ++ X))))))))) k) = True := by unfold gsz; simp; omega
theorem gs11 (w : World) (C0 C1 C2 C3 C4 C5 C6 C7 C8 C9 X : Array Obj) (i k : Nat) (h : i < k) : (gsz w (C0 ++ (C1 ++ (C2 ++ (C3 ++ (C4 ++ (C5 ++ (C6 ++ (C7 ++ (C8 ++ C9))))))))) i < gsz w (C0 ++ (C1 ++ (C2 ++ (C3 ++ (C4 ++ (C5 ++ (C6 ++ (C7 ++ (C8 ++ (C9 ++ X)))))))))) k) = True := by unfold gsz; simp; omega
theorem gs12 (w : World) (C0 C1 C2 C3 C4 C5 C6 C7 C8 C9 C10 X : Array Obj) (i k : Nat) (h : i < k) : (gsz w (C0 ++ (C1 ++ (C2 ++ (C3 ++ (C4 ++ (C5 ++ (C6 ++ (C7 ++ (C8 ++ (C9 ++ C10)))))))))) i < gsz w (C0 ++ (C1 ++ (C2 ++ (C3 ++ (C4 ++ (C5 ++ (C6 ++ (C7 ++ (C8 ++ (C9 ++ (C10 ++ X))))))))))) k) = True := by unfold gsz; simp; omega
theorem gs13 (w : World) (C0 C1 C2 C3 C4 C5 C6 C7 C8 C9 C10 C11 X : Array Obj) (i k : Nat) (h : i < k) : (gsz w (C0 ++ (C1 ++ (C2 ++ (C3 ++ (C4 ++ (C5 ++ (C6 ++ (C7 ++ (C8 ++ (C9 ++ (C10 ++ C11))))))))))) i < gsz w (C0 ++ (C1 ++ (C2 ++ (C3 ++ (C4 ++ (C5 ++ (C6 ++ (C7 ++ (C8 ++ (C9 ++ (C10 ++ (C11 ++ X)))))))))))) k) = True := by unfold gsz; simp; omega
theorem gs14 (w : World) (C0 C1 C2 C3 C4 C5 C6 C7 C8 C9 C10 C11 C12 X : Array Obj) (i k : Nat) (h : i < k) : (gsz w (C0 ++ (C1 ++ (C2 ++ (C3 ++ (C4 ++ (C5 ++ (C6 ++ (C7 ++ (C8 ++ (C9 ++ (C10 ++ (C11 ++ C12)))))))))))) i < gsz w (C0 ++ (C1 ++ (C2 ++ (C3 ++ (C4 ++ (C5 ++ (C6 ++ (C7 ++ (C8 ++ (C9 ++ (C10 ++ (C11 ++ (C12 ++ X))))))))))))) k) = True := by unfold gsz; simp; omega
theorem gs15 (w : World) (C0 C1 C2 C3 C4 C5 C6 C7 C8 C9 C10 C11 C12 C13 X : Array Obj) (i k : Nat) (h : i < k) : (gsz w (C0 ++ (C1 ++ (C2 ++ (C3 ++ (C4 ++ (C5 ++ (C6 ++ (C7 ++ (C8 ++ (C9 ++ (C10 ++ (C11 ++ (C12 ++ C13))))))))))))) i < gsz w (C0 ++ (C1 ++ (C2 ++ (C3 ++ (C4 ++ (C5 ++ (C6 ++ (C7 ++ (C8 ++ (C9 ++ (C10 ++ (C11 ++ (C12 ++ (C13 ++ X)))))))))))))) k) = True := by unfold gsz; simp; omega
theorem gs16 (w : World) (C0 C1 C2 C3 C4 C5 C6 C7 C8 C9 C10 C11 C12 C13 C14 X : Array Obj) (i k : Nat) (h : i < k) : (gsz w (C0 ++ (C1 ++ (C2 ++ (C3 ++ (C4 ++ (C5 ++ (C6 ++ (C7 ++ (C8 ++ (C9 ++ (C10 ++ (C11 ++ (C12 ++ (C13 ++ C14)))))))))))))) i < gsz w (C0 ++ (C1 ++ (C2 ++ (C3 ++ (C4 ++ (C5 ++ (C6 ++ (C7 ++ (C8 ++ (C9 ++ (C10 ++ (C11 ++ (C12 ++ (C13 ++ (C14 ++ X))))))))))))))) k) = True := by unfold gsz; simp; omega
theorem gs17 (w : World) (C0 C1 C2 C3 C4 C5 C6 C7 C8 C9 C10 C11 C12 C13 C14 C15 X : Array Obj) (i k : Nat) (h : i < k) : (gsz w (C0 ++ (C1 ++ (C2 ++ (C3 ++ (C4 ++ (C5 ++ (C6 ++ (C7 ++ (C8 ++ (C9 ++ (C10 ++ (C11 ++ (C12 ++ (C13 ++ (C14 ++ C15))))))))))))))) i < gsz w (C0 ++ (C1 ++ (C2 ++ (C3 ++ (C4 ++ (C5 ++ (C6 ++ (C7 ++ (C8 ++ (C9 ++ (C10 ++ (C11 ++ (C12 ++ (C13 ++ (C14 ++ (C15 ++ X)))))))))))))))) k) = True := by unfold gsz; simp; omega
attribute [go_sem] gs0 gs00 gs01 gs02 gs03 gs04 gs0i gs1 gs2 gs3 gs4 gs5 gs6 gs7 gs8 gs9 gs10 gs11 gs12 gs13 gs14 gs15 gs16 gs17 size_grew gsz_one gsz_alloc gsz_drew gsz_drewN gsz_setCell gsz_grew grew_cell grew_frozen grew_drew drew_grew grew_drewN drewN_grew grew_grew grew_setCell
end Go.Proofs.YtkhjgfbiemllmaaGreatDoor
