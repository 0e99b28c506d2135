/- The walk of the reference's Part. -/
import Derived.Test.YtibnpddmohjeoaaRef
namespace Go.Proofs.Ytibnpddmohjeoaa
open Go.RowKit

set_option maxHeartbeats 2000000 in
theorem rpart_any (S : Nat → Prop) (b : Nat) (rs : RS) (gs : List Int) (v : Value) (w : World) (h : RefIs S b w rs) (hv : IntsAt w v gs) (hz : v = .slice none 0 0 ∨ ∃ ad n c, v = .slice (some ad) n c) (hl : gs.length * 8 ≤ 140737488355328) :
    Calls Try.prog 18 #[.pointer (some ⟨b, 0, none⟩), v] w fun e w' => e = .returned (.tuple #[]) ∧ ∃ S' : Nat → Prop, (∀ x, S' x → S x ∨ w.heap.size ≤ x) ∧ Kb S w w' ∧ RefIs S' b w' { rs with gs := gs } := by
  obtain ⟨i0, hi0, hz0, hz1, hz2⟩ := info_parts info3
  obtain ⟨sv, lv, gv, hb, hsb, hs, hss, hw, hws, hg, hgs⟩ := h
  have hbl := block_lt hb
  have hfin : ∀ w1 gv' , Kb (fun _ => False) w w1 → RowI w1 gv' gs → (∀ g, gv'.ownBlock = some g → w.heap.size ≤ g) →
      (∃ S' : Nat → Prop, (∀ x, S' x → S x ∨ w.heap.size ≤ x) ∧ Kb S w (w1.setCell ⟨b, 4, none⟩ gv') ∧ RefIs S' b (w1.setCell ⟨b, 4, none⟩ gv') { rs with gs := gs }) := by
    intro w1 gv' k1 r1 hb1
    have hB1 := k1.heap hb (by simp)
    have ks : Kb (fun x => x = b) w1 (w1.setCell ⟨b, 4, none⟩ gv') := Kb.setCell (S := fun x => x = b) (Kb.refl _ _) (Or.inl rfl) _
    refine ⟨fun x => S x ∨ w.heap.size ≤ x, fun x hx => hx, (k1.mono (fun _ _ x => x.elim)).trans' ks (fun x _ e => by subst e; exact hsb), sv, lv, gv', ?_, Or.inl hsb, ?_, fun g e => Or.inl (hss g e), ?_, fun g e => Or.inl (hws g e), ?_, fun g e => Or.inr (hb1 g e)⟩
    · rw [heap_setCell_same w1 b 4 _ 67 _ hB1]; rfl
    · have h1 := hs.kb k1 (fun _ _ => by simp)
      exact h1.kb ks (fun g e r => own_ne h1 e hB1 (by decide) r.symm)
    · have h1 := k1.row hw (fun _ _ => by simp)
      exact ks.row h1 (fun g e r => own_ne h1 e hB1 (by decide) r.symm)
    · exact r1.kb ks (fun g e r => own_ne r1 e hB1 (by decide) r.symm)
  have HF := hid hfin
  have h4 := cell_of_heap hb 4
  have hfz := frozen_of_heap hb 4
  simp only [List.getElem?_toArray, List.getElem?_cons_succ, List.getElem?_cons_zero] at h4
  clear hfin hb hs hss hw hws hg hgs
  rcases hz with rfl | ⟨ad, n, c, rfl⟩
  · have hg0 : gs = [] := by
      rcases hv with ⟨_, _, _, rfl⟩ | ⟨g, o, c, e, _⟩
      · rfl
      · simp at e
    subst hg0
    clear hv
    go_enter Try.func18, Try.ntmps18
    go_wp2_with fail
    go_end0
    have h0 := HF.out (w.alloc (.cells #[] 3)) (.slice (some ⟨w.heap.size, 0, none⟩) 0 0) ((Kb.refl _ _).alloc _) (World.ownsRow_made w #[] 0 (Nat.zero_le _) (by decide) rfl) (fun g e => by simp only [Value.ownBlock, Option.some.injEq] at e; omega)
    rw [World.setCell_alloc_past _ _ _ _ hbl] at h0
    exact ⟨rfl, h0⟩
  · have hn : n = gs.length ∧ ∀ o j u, (iV gs)[j]? = some u → (w.alloc o).cell? (ad.add j) = some u := by
      rcases hv with ⟨_, _, e, rfl⟩ | ⟨g, o, c, e, hc⟩
      · simp only [Value.slice.injEq] at e
        exact ⟨e.2.1, fun o j u hu => by simp [iV] at hu⟩
      · simp only [Value.slice.injEq, Option.some.injEq] at e
        obtain ⟨rfl, rfl, rfl⟩ := e
        refine ⟨rfl, fun o' j u hu => ?_⟩
        have hj : j < gs.length := by
          have := (List.getElem?_eq_some_iff.1 hu).1
          rwa [iV_len] at this
        rw [iV_get _ _ hj] at hu
        have hcj := (hc j hj).1
        have hlt : g < w.heap.size := World.block_lt_of_cell? w _ hcj
        rw [add_none', World.cell?_alloc_lt _ _ _ hlt, hcj]
        exact hu
    obtain ⟨rfl, hnews⟩ := hn
    have hown0 : (w.alloc (.cells #[] 3)).ownsRow 0 3 1 (.slice (some ⟨w.heap.size, 0, none⟩) 0 0) 0 [] := World.ownsRow_made w #[] 0 (Nat.zero_le _) (by decide) rfl
    have HN := hid hnews
    have HO := hid hown0
    have HV := hid hv
    clear hnews hown0 hv
    go_enter Try.func18, Try.ntmps18
    go_wp2_with (at_builtin; go_must (refine wpList_append_own_at _ rfl _ _ _ rfl 0 3 i0 _ 1 8 Try.underlying32 hi0 hz0 hz1 hz2 rfl (by omega) (.slice (some ⟨w.heap.size, 0, none⟩) 0 0) 0 [] (by rfl) HO.out ad gs.length c (iV gs) (by rfl) (by rw [iV_len]; omega) (HN.out _) (iV_one _) (by unfold maxLen; omega) (by omega) (Nat.zero_le _) ?_); intro v' w4 hown1 hgrow _ hat; obtain ⟨a', c', rfl⟩ := own_slice hown1; have k4 : Kb (fun _ => False) w w4 := ((Kb.refl _ _).alloc _).grown hgrow (fun k e => by simp only [Value.ownBlock, Option.some.injEq] at e; right; omega); have h44 := k4.cell h4 (by simp); have hfz4 : w4.frozen? ⟨b, 4, none⟩ = false := (k4.frozen hbl (by simp)).trans hfz; have hbl4 : b < w4.heap.size := Nat.lt_of_lt_of_le hbl k4.size)
    rw [Nat.zero_add] at *
    rw [List.nil_append] at hown1
    have hb4 : ∀ g, (Value.slice a' gs.length c').ownBlock = some g → w.heap.size ≤ g := by
      intro g' e
      rcases hat with h | h
      · rw [h] at e
        simp only [Value.ownBlock, Option.some.injEq] at e
        omega
      · have e2 := h.symm.trans e
        simp only [Option.some.injEq, World.size_alloc] at e2
        omega
    clear hgrow hat
    go_end0
    exact ⟨rfl, HF.out _ _ k4 hown1 hb4⟩
end Go.Proofs.Ytibnpddmohjeoaa
