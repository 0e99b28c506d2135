/- The walks of the waiting copies' Push and Pop, and of container/heap's. -/
import Derived.Test.YtibnpddmohjeoaaMid
import Derived.Deep.AppendLies
import Derived.Deep.RegionLaw
import Derived.Deep.RegionHeld3
namespace Go.Proofs.Ytibnpddmohjeoaa
open Go.RowKit

theorem Row.pop {w : World} {g c n : Nat} {l : List Pc} (h : Row w g c (n + 1) l) : Row w g c n (l.take n) := by
  have hl := h.len
  rcases h.2 with ⟨h', _⟩ | ⟨g', cap', cur, h', hb, hg, hnc, hcm, hcs, htake⟩
  · cases h'
  · simp only [Value.slice.injEq, Option.some.injEq, Addr.mk.injEq, and_true, true_and] at h'
    obtain ⟨rfl, rfl⟩ := h'
    refine ⟨?_, .inr ⟨g, c, cur, rfl, hb, hg, by omega, hcm, hcs, ?_⟩⟩
    · rw [flat_length, List.length_take]; omega
    · have e : flat (l.take n) = (flat l).take (n * 5) := by
        have h1 : flat l = flat (l.take n) ++ flat (l.drop n) := by rw [← flat_append, List.take_append_drop]
        have h2 : (flat (l.take n)).length = n * 5 := by rw [flat_length, List.length_take]; omega
        conv => rhs; rw [h1, ← h2]
        rw [List.take_left]
      rw [e, ← htake, List.take_take]
      congr 1
      omega

set_option maxHeartbeats 1000000 in
theorem ppop_any (b g c n : Nat) (l : List Pc) (w : World) (hn : n + 1 ≤ 1000000) (cs : Array Value) (T : TypeId) (hB : w.heap[b]? = some (.cells cs T (0, 0)))
    (hcs : cs[2]? = some (.slice (some ⟨g, 0, none⟩) ((n + 1 : Nat)) c)) (hbg : b ≠ g) (h : Row w g c (n + 1) l) :
    Calls Try.prog 51 #[.pointer (some ⟨b, 2, none⟩)] w fun e w' => e = .returned (.iface 75 (.agg (l[n]!).cells.toArray)) ∧ Kb (fun k => k = b) w w' ∧
      w'.heap[b]? = some (.cells (cs.setIfInBounds 2 (.slice (some ⟨g, 0, none⟩) n c)) T (0, 0)) ∧ Row w' g c n (l.take n) := by
  have hb : w.cell? ⟨b, 2, none⟩ = some (.slice (some ⟨g, 0, none⟩) ((n + 1 : Nat)) c) := by rw [cell_of_heap hB]; exact hcs
  have hf := frozen_of_heap hB 2
  have hpost : ∀ o, Kb (fun k => k = b) w ((w.setCell ⟨b, 2, none⟩ (.slice (some ⟨g, 0, none⟩) n c)).alloc o) ∧
      ((w.setCell ⟨b, 2, none⟩ (.slice (some ⟨g, 0, none⟩) n c)).alloc o).heap[b]? = some (.cells (cs.setIfInBounds 2 (.slice (some ⟨g, 0, none⟩) n c)) T (0, 0)) ∧
      Row ((w.setCell ⟨b, 2, none⟩ (.slice (some ⟨g, 0, none⟩) n c)).alloc o) g c n (l.take n) := by
    intro o
    have k1 : Kb (fun k => k = b) w ((w.setCell ⟨b, 2, none⟩ (.slice (some ⟨g, 0, none⟩) n c)).alloc o) := Kb.alloc (Kb.setCell (S := fun k => k = b) (Kb.refl _ _) (Or.inl rfl) _) _
    refine ⟨k1, ?_, (h.kb k1 (fun e => hbg e.symm)).pop⟩
    rw [Below.heap_alloc _ _ _ (by simp; exact block_lt hB)]
    exact heap_setCell_same w b 2 cs T _ hB
  have hpost' := hid hpost
  clear hpost hB hcs
  have h0 := h.get n 0 (by omega) (by omega)
  have h1 := h.get n 1 (by omega) (by omega)
  have h2 := h.get n 2 (by omega) (by omega)
  have h3 := h.get n 3 (by omega) (by omega)
  have h4 := h.get n 4 (by omega) (by omega)
  have hbl : b < w.heap.size := World.block_lt_of_cell? w _ hb
  have hgl : g < w.heap.size := World.block_lt_of_cell? w _ (by rw [h0]; rfl)
  generalize l[n]! = p at *
  simp only [Pc.cells, List.getElem?_cons_succ, List.getElem?_cons_zero, Nat.add_zero] at h0 h1 h2 h3 h4
  have hc : n < c := by
    rcases h.2 with ⟨h', _⟩ | ⟨g', cap', cur, h', _, _, hnc, _⟩
    · cases h'
    · simp only [Value.slice.injEq] at h'; omega
  have hi' : (n : Int) < ((n : Int) + 1) := by omega
  go_enter Try.func51, Try.ntmps51
  go_wp2_with fail
  go_ret
  exact ⟨rfl, hpost'.out _⟩

theorem info75 : (Try.prog.info? 75).map (fun i => (i.zero, i.size, i.bytes)) = some (some (.agg #[.int .i64 0, .int .i64 0, .string .empty, .int .i64 0, .int .i64 0]), 5, 48) := by kernel_rfl

theorem assert75 (x : Array Value) (w : World) : (Instr.typeAssert (.iface 75 (.agg x)) 20 75 true).run Try.prog w = .ok (.tuple #[.agg x, .bool true]) w := by kernel_rfl
set_option maxHeartbeats 1000000 in
theorem ppush_any (b n : Nat) (v : Value) (p : Pc) (l : List Pc) (w : World) (hn : n + 1 ≤ 1000000) (hbg : v.ownBlock ≠ some b) (cs : Array Value) (T : TypeId) (hB : w.heap[b]? = some (.cells cs T (0, 0)))
    (hcs : cs[2]? = some v) (h : w.ownsRow 0 75 5 v n (flat l)) :
    Calls Try.prog 52 #[.pointer (some ⟨b, 2, none⟩), .iface 75 (.agg p.cells.toArray)] w fun e w' => e = .returned (.tuple #[]) ∧ ∃ g c, (v.ownBlock = some g ∨ w.heap.size ≤ g) ∧ b ≠ g ∧
      Kb (fun k => k = b ∨ v.ownBlock = some k) w w' ∧ w'.heap[b]? = some (.cells (cs.setIfInBounds 2 (.slice (some ⟨g, 0, none⟩) ((n + 1 : Nat)) c)) T (0, 0)) ∧ Row w' g c (n + 1) (l ++ [p]) := by
  have hb : w.cell? ⟨b, 2, none⟩ = some v := by rw [cell_of_heap hB]; exact hcs
  have hf := frozen_of_heap hB 2
  have hbl : b < w.heap.size := World.block_lt_of_cell? w _ hb
  have hc : p.cells = [.int .i64 p.frm, .int .i64 p.to_, .string p.text, .int .i64 p.tm, .int .i64 p.sent] := rfl
  rw [hc]
  clear hc
  have ha := fun x => assert75 x w
  obtain ⟨i0, hi0, hz0, hz1, hz2⟩ := info_parts info75
  go_enter Try.func52, Try.ntmps52
  go_wp2_with fail
  generalize hW : w.alloc _ = W
  have hsz : W.heap.size = w.heap.size + 1 := by subst hW; simp
  have c0 : W.cell? ⟨w.heap.size, 0, none⟩ = some (.int .i64 p.frm) := by subst hW; simp
  have c1 : W.cell? ⟨w.heap.size, 1, none⟩ = some (.int .i64 p.to_) := by subst hW; simp
  have c2 : W.cell? ⟨w.heap.size, 2, none⟩ = some (.string p.text) := by subst hW; simp
  have c3 : W.cell? ⟨w.heap.size, 3, none⟩ = some (.int .i64 p.tm) := by subst hW; simp
  have c4 : W.cell? ⟨w.heap.size, 4, none⟩ = some (.int .i64 p.sent) := by subst hW; simp
  have d0 : W.cell? ⟨b, 2, none⟩ = some v := by subst hW; rw [World.cell?_alloc_lt _ _ _ hbl]; exact hb
  have d1 : W.frozen? ⟨b, 2, none⟩ = false := by subst hW; rw [World.frozen?_alloc_old _ _ _ (by simp; omega)]; exact hf
  have hown : W.ownsRow 0 75 5 v n (flat l) := by subst hW; exact h.alloc _
  have hkb : Kb (fun k => k = b ∨ v.ownBlock = some k) w W := by subst hW; exact (Kb.refl _ _).alloc _
  have hWB : W.heap[b]? = some (.cells cs T (0, 0)) := by subst hW; rw [Below.heap_alloc _ _ _ hbl]; exact hB
  have HWB := hid hWB
  clear hWB hB
  have HK := hid hkb
  clear hkb
  have hlv : ∀ k, v.ownBlock = some k → k < w.heap.size := fun k hk => (World.ownsRow.lt h k hk).2
  have HV := hid hlv
  clear hlv h hb hf hW
  have hbW : b < W.heap.size := by omega
  have hbne : b ≠ W.heap.size := by omega
  have Hsz := hid hsz
  clear hsz
  go_region_law
    ((refine step_append_lies _ (by rfl) _ _ _ (by rfl) 0 75 i0 _ 5 48 Try.underlying53 hi0 hz0 hz1 hz2 rfl (by omega) v n (flat l) (by rfl) ((hown.alloc _).drew)
        ⟨W.heap.size, 0, none⟩ 1 1 p.cells (by rfl) (by rfl) (World.news_of_block (cs := p.cells.toArray) (t := 75) (fr := (0, 0)) (heap_alloc_new _ _)) (by simp [Pc.cells, Value.oneCell'])
        (by omega) (by unfold maxLen; omega) (by omega) (by omega) (W.heap.size + 1) (by simp) ?_; intro gg cap w1 hown1 hgrow hat hlt; have k0 : w1.cell? ⟨b, 2, none⟩ = some v := hgrow.cell (by simp [World.cell?_alloc_past, hbW, d0]) (Ne.symm hbg); have k1 : w1.frozen? ⟨b, 2, none⟩ = false := (by rw [hgrow.frozen_far _ (by simp; omega) (Ne.symm hbg)]; simp [World.frozen?_alloc_past, hbW, d1])))
  all_goals
    go_end0
    have hgb : b ≠ gg := by
      rintro rfl
      rcases hat with hat | hat
      · exact hbg hat
      · omega
    refine ⟨rfl, gg, cap, ?_, hgb, ?_, ?_, ?_⟩
    · rcases hat with hat | hat
      · exact Or.inl hat
      · right; rw [hat, Hsz.out]; omega
    · refine Kb.setCell ?_ (Or.inl (Or.inl rfl)) _
      exact ((HK.out.alloc _).drew).grown hgrow (fun k hk => Or.inl (Or.inr hk))
    · refine heap_setCell_same w1 b 2 cs T _ ?_
      rw [hgrow.block b (by simp; omega) (Ne.symm hbg)]
      show (W.alloc _).heap[b]? = _
      rw [Below.heap_alloc _ _ _ hbW]
      exact HWB.out
    · have hfl : flat (l ++ [p]) = flat l ++ p.cells := by rw [flat_append]; simp [flat]
      unfold Row
      rw [hfl]
      refine Kb.row (S := fun k => k = b) (w := w1) ?_ hown1 ?_
      · exact Kb.setCell (S := fun k => k = b) (Kb.refl _ _) (Or.inl rfl) _
      · intro k hk
        simp only [Value.ownBlock, Option.some.injEq] at hk
        omega
end Go.Proofs.Ytibnpddmohjeoaa
