/- The walks of container/heap's Push and Pop, and of the net's queue, Waiting and node. -/
import Derived.Test.YtibnpddmohjeoaaPP
namespace Go.Proofs.Ytibnpddmohjeoaa
open Go.RowKit

def pushL (l : List Pc) (p : Pc) : List Pc := upL (l.length + 1) (l ++ [p]) l.length
def popL (l : List Pc) : List Pc := downL (l.length - 1) (swapL l 0 (l.length - 1)) 0 (l.length - 1)

set_option maxHeartbeats 1000000 in
theorem hpush_any (b n : Nat) (v : Value) (p : Pc) (l : List Pc) (w : World) (hn : n + 1 ≤ 1000000) (hbg : v.ownBlock ≠ some b) (cs : Array Value) (T : TypeId) (hB : w.heap[b]? = some (.cells cs T (0, 0)))
    (hcs : cs[2]? = some v) (h : w.ownsRow 0 75 5 v n (flat l)) :
    Calls Try.prog 26 #[.iface 84 (.pointer (some ⟨b, 2, none⟩)), .iface 75 (.agg p.cells.toArray)] w fun e w' => e = .returned (.tuple #[]) ∧ ∃ g c, (v.ownBlock = some g ∨ w.heap.size ≤ g) ∧ b ≠ g ∧
      Kb (fun k => k = b ∨ v.ownBlock = some k) w w' ∧ w'.heap[b]? = some (.cells (cs.setIfInBounds 2 (.slice (some ⟨g, 0, none⟩) ((n + 1 : Nat)) c)) T (0, 0)) ∧ Row w' g c (n + 1) (pushL l p) := by
  have hl : l.length = n := by have := h.1; rw [flat_length] at this; omega
  have hsz : 2 < cs.size := by
    rcases Nat.lt_or_ge 2 cs.size with h' | h'
    · exact h'
    · rw [Array.getElem?_eq_none h'] at hcs; cases hcs
  have hp := m_push ⟨b, 2, none⟩ w
  have HB := hid hB
  have HL := hid hl
  clear hB hl
  go_enter Try.func26, Try.ntmps26
  go_wp2_with fail
  refine (ppush_any b n v p l w hn hbg cs T HB.out hcs h).mono ?_
  rintro e w1 ⟨rfl, g, c, hg, hbg1, hk1, hB1, hr1⟩
  have hc1 : w1.cell? ⟨b, 2, none⟩ = some (.slice (some ⟨g, 0, none⟩) ((n + 1 : Nat)) c) := by
    rw [cell_of_heap hB1]; simp [hsz]
  have hm := m_len ⟨b, 2, none⟩ w1 _ hc1
  have HB1 := hid hB1
  clear hB1 hp
  go_wp2_with fail
  refine (len_any (some ⟨g, 0, none⟩) (n + 1) c w1).mono ?_
  rintro e w' ⟨rfl, rfl⟩
  go_wp2_with fail
  refine (up_any b g c (n + 1) n (l ++ [p]) w1 (by omega) hn hbg1 hc1 hr1).mono ?_
  rintro e w2 ⟨rfl, hk2, hr2⟩
  go_wp2_with fail
  go_end0
  refine ⟨rfl, g, c, hg, hbg1, ?_, ?_, ?_⟩
  · refine hk1.trans' hk2 ?_
    rintro i hi rfl
    rcases hg with hg | hg
    · exact Or.inr hg
    · omega
  · exact hk2.heap HB1.out hbg1
  · unfold pushL
    rw [HL.out]
    exact hr2

theorem hpush_at (b n : Nat) (v : Value) (f t : Int) (x : ByteArray) (tm st : Int) (l : List Pc) (w : World) (hn : n + 1 ≤ 1000000) (hbg : v.ownBlock ≠ some b) (cs : Array Value) (T : TypeId) (hB : w.heap[b]? = some (.cells cs T (0, 0)))
    (hcs : cs[2]? = some v) (h : w.ownsRow 0 75 5 v n (flat l)) :
    Calls Try.prog 26 #[.iface 84 (.pointer (some ⟨b, 2, none⟩)), .iface 75 (.agg #[.int .i64 f, .int .i64 t, .string x, .int .i64 tm, .int .i64 st])] w fun e w' => e = .returned (.tuple #[]) ∧ ∃ g c, (v.ownBlock = some g ∨ w.heap.size ≤ g) ∧ b ≠ g ∧
      Kb (fun k => k = b ∨ v.ownBlock = some k) w w' ∧ w'.heap[b]? = some (.cells (cs.setIfInBounds 2 (.slice (some ⟨g, 0, none⟩) ((n + 1 : Nat)) c)) T (0, 0)) ∧ Row w' g c (n + 1) (pushL l ⟨f, t, x, tm, st⟩) :=
  hpush_any b n v ⟨f, t, x, tm, st⟩ l w hn hbg cs T hB hcs h

set_option maxHeartbeats 1000000 in
theorem hpop_any (b g c n : Nat) (l : List Pc) (w : World) (hn : n + 1 ≤ 1000000) (cs : Array Value) (T : TypeId) (hB : w.heap[b]? = some (.cells cs T (0, 0)))
    (hcs : cs[2]? = some (.slice (some ⟨g, 0, none⟩) ((n + 1 : Nat)) c)) (hbg : b ≠ g) (h : Row w g c (n + 1) l) :
    Calls Try.prog 29 #[.iface 84 (.pointer (some ⟨b, 2, none⟩))] w fun e w' => e = .returned (.iface 75 (.agg ((popL l)[n]!).cells.toArray)) ∧ Kb (fun k => k = b ∨ k = g) w w' ∧
      w'.heap[b]? = some (.cells (cs.setIfInBounds 2 (.slice (some ⟨g, 0, none⟩) n c)) T (0, 0)) ∧ Row w' g c n ((popL l).take n) := by
  have hl := h.len
  have hb : w.cell? ⟨b, 2, none⟩ = some (.slice (some ⟨g, 0, none⟩) ((n + 1 : Nat)) c) := by rw [cell_of_heap hB]; exact hcs
  have m1 := m_len ⟨b, 2, none⟩ w _ hb
  have m2 := m_swap ⟨b, 2, none⟩ w _ hb
  have HB := hid hB
  have HL := hid hl
  clear hB hl
  go_enter Try.func29, Try.ntmps29
  go_wp2_with fail
  refine (len_any (some ⟨g, 0, none⟩) (n + 1) c w).mono ?_
  rintro e w' ⟨rfl, rfl⟩
  go_wp2_with fail
  refine (swap_at g c (n + 1) _ _ l w (by omega) (by omega) (by omega) (by omega) h).mono ?_
  rintro e w1 ⟨rfl, hk1, _, hr1⟩
  clear m1 m2
  have hb1 := hk1.cell hb hbg
  go_wp2_with fail
  refine (down_any b g c (n + 1) n (swapL l 0 n) w1 (by omega) hn hbg hb1 (by simpa using hr1)).mono ?_
  rintro e w2 ⟨⟨t, rfl⟩, hk2, hr2⟩
  have m3 := m_pop ⟨b, 2, none⟩ w2
  have hB2 := hid ((hk1.trans hk2).heap HB.out hbg)
  go_wp2_with fail
  refine (ppop_any b g c n (downL n (swapL l 0 n) 0 n) w2 hn cs T hB2.out hcs hbg hr2).mono ?_
  rintro e w3 ⟨rfl, hk3, hB3, hr3⟩
  have HB3 := hid hB3
  clear hB3
  go_wp2_with fail
  go_ret
  refine ⟨?_, ?_, HB3.out, ?_⟩
  · unfold popL
    rw [HL.out]
    simp
  · refine ((hk1.trans hk2).mono (fun i _ e => Or.inr e)).trans (hk3.mono (fun i _ e => Or.inl e))
  · unfold popL
    rw [HL.out]
    exact hr3
end Go.Proofs.Ytibnpddmohjeoaa
