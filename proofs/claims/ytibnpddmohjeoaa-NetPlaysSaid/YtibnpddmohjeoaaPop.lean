/- Plain: a net's waiting copies as a heap: what Send adds, what Next takes. -/
import Derived.Test.YtibnpddmohjeoaaOrd
import Derived.Test.YtibnpddmohjeoaaNext
import Derived.Test.YtibnpddmohjeoaaPart
namespace Go.Proofs.Ytibnpddmohjeoaa

theorem get!_append_left (a b : List Pc) (k : Nat) (h : k < a.length) : (a ++ b)[k]! = a[k]! := by
  simp [List.getElem!_eq_getElem?_getD, List.getElem?_append_left h]
theorem get!_take (l : List Pc) (n k : Nat) (h : k < n) : (l.take n)[k]! = l[k]! := by
  simp [List.getElem!_eq_getElem?_getD, h]
theorem get!_mem (l : List Pc) (k : Nat) (h : k < l.length) : l[k]! ∈ l := by
  rw [List.getElem!_eq_getElem?_getD, List.getElem?_eq_getElem h]
  exact List.getElem_mem h

theorem pushL_perm (l : List Pc) (p : Pc) : (pushL l p).Perm (p :: l) := by
  unfold pushL
  refine (upL_perm _ _ _ (by simp)).trans ?_
  exact List.perm_append_comm
theorem pushL_heap (l : List Pc) (p : Pc) (h : HeapN l l.length) : HeapN (pushL l p) (pushL l p).length := by
  rw [pushL_length]
  unfold pushL
  have hr := upL_heap (l.length + 1) (l ++ [p]) l.length (by omega) (by simp) ⟨?_, ?_⟩
  · rw [List.length_append] at hr
    exact hr
  · intro k h1 h2 h3
    have hk : k < l.length := by simp at h2; omega
    rw [get!_append_left _ _ _ hk, get!_append_left _ _ _ (by omega)]
    exact h k h1 hk
  · intro k h1 h2 h3 h4
    simp at h2
    omega
theorem popL_length (l : List Pc) : (popL l).length = l.length := by simp [popL, downL_length]
/-- What Next gives, and what is left. -/
theorem popL_spec (l : List Pc) (n : Nat) (hn : l.length = n + 1) (h : HeapN l l.length) :
    (popL l)[n]! = l[0]! ∧ (l[0]! :: (popL l).take n).Perm l ∧ HeapN ((popL l).take n) n ∧ ∀ x ∈ l, leP l[0]! x := by
  have hp : popL l = downL n (swapL l 0 n) 0 n := by unfold popL; rw [hn]; rfl
  have h1 : (popL l)[n]! = l[0]! := by
    rw [hp, downL_out _ _ _ _ _ (by simp; omega) (Nat.le_refl _), swapL_get _ _ _ _ (by omega) (by omega), if_pos rfl]
  refine ⟨h1, ?_, ?_, ?_⟩
  · have hl : (popL l).length = n + 1 := by rw [popL_length, hn]
    have e : (popL l).take n ++ [(popL l)[n]!] = popL l := by
      rw [List.getElem!_eq_getElem?_getD, List.getElem?_eq_getElem (by omega)]
      simp only [Option.getD_some]
      rw [List.take_append_getElem, List.take_of_length_le (by omega)]
    rw [← h1]
    refine (List.perm_append_comm (l₁ := [(popL l)[n]!])).trans ?_
    rw [e, hp]
    exact (downL_perm _ _ _ _ (by simp; omega)).trans (swapL_perm l _ _ (by omega) (by omega))
  · have hh : HeapN (popL l) n := by
      rw [hp]
      refine downL_heap _ _ _ _ (by omega) (by simp; omega) ⟨?_, ?_⟩
      · intro k h2 h3 h4
        rw [swapL_get _ _ _ _ (by omega) (by omega), swapL_get _ _ _ _ (by omega) (by omega), if_neg (by omega), if_neg (by omega), if_neg (by omega), if_neg (by omega)]
        exact h k h2 (by omega)
      · intro k h2 h3 h4 h5
        omega
    intro k h2 h3
    rw [get!_take _ _ _ h3, get!_take _ _ _ (by omega)]
    exact hh k h2 h3
  · intro x hx
    obtain ⟨k, hk, rfl⟩ := List.mem_iff_getElem.1 hx
    have := h.root k hk
    rwa [List.getElem!_eq_getElem?_getD (i := k), List.getElem?_eq_getElem hk] at this

/-- A net's state whose waiting copies are a heap. -/
def Okay (st : St) : Prop := HeapN st.waiting st.waiting.length
theorem pushK_heap (l : List Pc) (m : Msg) (t : Int) (s : Nat) (h : HeapN l l.length) : ∀ k, HeapN (pushK l m t s k) (pushK l m t s k).length := by
  intro k
  induction k with
  | zero => exact h
  | succ k ih => exact pushL_heap _ _ ih
/-- The copies of one message. -/
def batch (m : Msg) (t : Int) (s : Nat) : Nat → List Pc
  | 0 => []
  | k + 1 => mkPc m (t + k) s :: batch m t s k
theorem pushK_perm (l : List Pc) (m : Msg) (t : Int) (s : Nat) : ∀ k, (pushK l m t s k).Perm (batch m t s k ++ l) := by
  intro k
  induction k with
  | zero => exact List.Perm.refl _
  | succ k ih => exact (pushL_perm _ _).trans (ih.cons _)
theorem Okay.send {st : St} (h : Okay st) (now : Int) (m : Msg) : Okay (sendS st now m) := by
  unfold sendS
  split
  · exact h
  · exact pushK_heap _ _ _ _ h _
theorem Okay.part {st : St} (h : Okay st) (gs : List Int) : Okay (partS st gs) := h
theorem Okay.new (nodes : Int) (l : List Tr) : Okay (newS nodes l) := by
  intro k h1 h2
  exact absurd h2 (by simp [newS])
theorem Okay.next {st : St} (h : Okay st) (n : Nat) (hn : st.waiting.length = n + 1) : Okay (nextS st) := by
  obtain ⟨_, _, h3, _⟩ := popL_spec st.waiting n hn h
  unfold Okay nextS
  have e : st.waiting.length - 1 = n := by omega
  simp only [e]
  have hl : ((popL st.waiting).take n).length = n := by rw [List.length_take, popL_length]; omega
  rw [hl]
  exact h3

theorem send_at (S : Nat → Prop) (b : Nat) (st : St) (now f t : Int) (x : ByteArray) (w : World) (h : NetIs S b w st) (hsc : st.script.length ≤ 1000000) (hse : st.sent ≤ 1000000) (hwl : st.waiting.length ≤ 900000)
    (hbd : drops st ⟨f, t, x⟩ = false → (-1000000000000 ≤ now ∧ now ≤ 1000000000000) ∧ (trOf st.script st.sent).delay ≤ 1000000000000) (hnd : st.nodes ≤ 9223372036854775807) :
    Calls Try.prog 15 #[.pointer (some ⟨b, 0, none⟩), .int .i64 now, .agg #[.int .i64 f, .int .i64 t, .string x]] w fun e w' => e = .returned (.tuple #[]) ∧ ∃ S' : Nat → Prop, (∀ x, S' x → S x ∨ w.heap.size ≤ x) ∧ Kb S w w' ∧ NetIs S' b w' (sendS st now ⟨f, t, x⟩) :=
  send_any S b st now ⟨f, t, x⟩ w h hsc hse hwl hbd hnd
theorem NetIs.wait {S : Nat → Prop} {b : Nat} {w : World} {st : St} (h : NetIs S b w st) : ∃ a c, w.cell? ⟨b, 2, none⟩ = some (.slice a st.waiting.length c) := by
  obtain ⟨sv, wv, gv, hb, hsb, hs, hss, hw, hws, hg⟩ := h
  obtain ⟨a, c, rfl⟩ := own_slice hw
  exact ⟨a, c, by rw [cell_of_heap hb]; rfl⟩
theorem wait_at (S : Nat → Prop) (b : Nat) (st : St) (w : World) (h : NetIs S b w st) :
    Calls Try.prog 21 #[.pointer (some ⟨b, 0, none⟩)] w fun e w' => e = .returned (.int .i64 st.waiting.length) ∧ w' = w := by
  obtain ⟨a, c, hc⟩ := h.wait
  exact waiting_any b _ c a w hc
theorem next_at (S : Nat → Prop) (b n : Nat) (st : St) (w : World) (h : NetIs S b w st) (h0 : st.waiting.length = n + 1) (hn : n + 1 ≤ 1000000) (f t : Int) (x : ByteArray) (tm s : Int) (hp : (popL st.waiting)[n]! = ⟨f, t, x, tm, s⟩) :
    Calls Try.prog 19 #[.pointer (some ⟨b, 0, none⟩)] w fun e w' => e = .returned (.tuple #[.agg #[.int .i64 f, .int .i64 t, .string x], .int .i64 tm, .bool true]) ∧ Kb S w w' ∧ NetIs S b w' (nextS st) := by
  have h := next_some S b n st w h h0 hn
  rw [hp] at h
  exact h
end Go.Proofs.Ytibnpddmohjeoaa
