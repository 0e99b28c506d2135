/- The walk of Next. -/
import Derived.Test.YtibnpddmohjeoaaSend
namespace Go.Proofs.Ytibnpddmohjeoaa
open Go.RowKit

def noMsg : Value := .tuple #[.agg #[.int .i64 0, .int .i64 0, .string .empty], .int .i64 0, .bool false]
def gotMsg (p : Pc) : Value := .tuple #[.agg #[.int .i64 p.frm, .int .i64 p.to_, .string p.text], .int .i64 p.tm, .bool true]
/-- What the waiting copies are after Next. -/
def nextS (st : St) : St := { st with waiting := (popL st.waiting).take (st.waiting.length - 1) }

set_option maxHeartbeats 1000000 in
theorem next_nil (w : World) : Calls Try.prog 19 #[.pointer none] w fun e w' => e = .returned noMsg ∧ Kb (fun _ => False) w w' := by
  go_enter Try.func19, Try.ntmps19
  go_wp2_with fail
  exact bodyPost_ret (v := noMsg) (by simp [noMsg, results, Try.results19, go_sem]; rfl) rfl ⟨rfl, (Kb.refl _ _).alloc _⟩

set_option maxHeartbeats 1000000 in
theorem next_empty (S : Nat → Prop) (b : Nat) (st : St) (w : World) (h : NetIs S b w st) (h0 : st.waiting = []) :
    Calls Try.prog 19 #[.pointer (some ⟨b, 0, none⟩)] w fun e w' => e = .returned noMsg ∧ Kb (fun _ => False) w w' := by
  obtain ⟨sv, wv, gv, hb, hsb, hs, hss, hw, hws, hg⟩ := h
  have hbl := block_lt hb
  have hb2 := cell_of_heap hb 2
  simp only [List.getElem?_toArray, List.getElem?_cons_succ, List.getElem?_cons_zero] at hb2
  rw [h0] at hw
  obtain ⟨a, c, rfl⟩ := own_slice hw
  clear hb
  go_enter Try.func19, Try.ntmps19
  go_wp2_with fail
  refine (queue_any b _).mono ?_
  rintro e w' ⟨rfl, rfl⟩
  have hm := fun o => m_len ⟨b, 2, none⟩ (w.alloc o) _ (by rw [World.cell?_alloc_lt _ _ _ hbl]; exact hb2)
  go_wp2_with fail
  refine (len_any a 0 c _).mono ?_
  rintro e w' ⟨rfl, rfl⟩
  go_wp2_with fail
  exact bodyPost_ret (v := noMsg) (by simp [noMsg, results, Try.results19, go_sem]; rfl) rfl ⟨rfl, (Kb.refl _ _).alloc _⟩

set_option maxHeartbeats 2000000 in
theorem next_core (S : Nat → Prop) (b n : Nat) (st : St) (w : World) (h : NetIs S b w st) (h0 : st.waiting.length = n + 1) (hn : n + 1 ≤ 1000000) (hSlt : ∀ x, S x → x < w.heap.size) :
    Calls Try.prog 19 #[.pointer (some ⟨b, 0, none⟩)] w fun e w' => e = .returned (gotMsg ((popL st.waiting)[n]!)) ∧ Kb S w w' ∧ NetIs S b w' (nextS st) := by
  obtain ⟨sv, wv, gv, hb, hsb, hs, hss, hw, hws, hg⟩ := h
  have hbl := block_lt hb
  have hb2 := cell_of_heap hb 2
  simp only [List.getElem?_toArray, List.getElem?_cons_succ, List.getElem?_cons_zero] at hb2
  have hf := hw
  rw [h0] at hf
  obtain ⟨g, c, rfl, _, hgl⟩ := hf.form (by omega)
  have hbg : b ≠ g := own_ne hw rfl hb (by decide)
  have HW := hid hf
  have HB := hid hb
  have H0 := hid h0
  have HSL := hid hSlt
  clear hb hf hw h0 hSlt
  generalize hp : (popL st.waiting)[n]! = p
  have HP := hid hp
  clear hp
  go_enter Try.func19, Try.ntmps19
  go_wp2_with fail
  generalize hW : w.alloc _ = W
  have kW : Kb (fun _ => False) w W := by subst hW; exact (Kb.refl _ _).alloc _
  have bW : W.heap[w.heap.size]? = some (.cells #[.int .i64 0, .int .i64 0, .string .empty] 31 (0, 0)) := by subst hW; exact heap_alloc_new w _
  clear hW
  obtain ⟨mb, hmb⟩ : ∃ mb, mb = w.heap.size := ⟨_, rfl⟩
  rw [← hmb] at bW ⊢
  have HMB := hid hmb
  clear hmb
  have BW := hid bW
  have WB := hid (kW.heap HB.out (by simp))
  clear bW
  have hbW : b < W.heap.size := block_lt WB.out
  refine (queue_any b _).mono ?_
  rintro e w' ⟨rfl, rfl⟩
  have hb3 := kW.cell hb2 (by simp)
  have hm := m_len ⟨b, 2, none⟩ _ _ hb3
  go_wp2_with fail
  refine (len_any _ (n + 1) c _).mono ?_
  rintro e w' ⟨rfl, rfl⟩
  have hz : ((n : Int) + 1 == 0) = false := by rw [beq_eq_false_iff_ne]; omega
  go_wp2_with fail
  refine (queue_any b _).mono ?_
  rintro e w' ⟨rfl, rfl⟩
  go_wp2_with fail
  have hrow : Row w' g c (n + 1) st.waiting := Row.kb HW.out kW (by simp)
  refine (hpop_any b g c n st.waiting w' hn _ 56 WB.out rfl hbg hrow).mono ?_
  rintro e w2 ⟨rfl, k2, b2, r2⟩
  rw [HP.out]
  simp only [Pc.cells]
  have hne1 : mb ≠ b := by have := HMB.out; omega
  have hne2 : mb ≠ g := by have := HMB.out; omega
  have M2 := k2.heap BW.out (by simp only [not_or]; exact ⟨hne1, hne2⟩)
  have r0 := cell_of_heap M2 0
  have r1 := cell_of_heap M2 1
  have r2' := cell_of_heap M2 2
  have f0 := frozen_of_heap M2 0
  have f1 := frozen_of_heap M2 1
  have f2 := frozen_of_heap M2 2
  have hmW : mb < w2.heap.size := block_lt M2
  simp only [List.getElem?_toArray, List.getElem?_cons_succ, List.getElem?_cons_zero] at r0 r1 r2'
  have ha := fun x => assert75 x w2
  have B2 := hid b2
  have M2' := hid M2
  clear b2 M2 hb3 hm hb2
  go_wp2_with fail
  go_region
  all_goals
    go_wp2
    refine bodyPost_ret (v := gotMsg p) (by simp [gotMsg, results, Try.results19, go_sem, hmW, r0, r1, r2']) rfl ?_
    generalize hwf : World.drew _ = wf
    have k3 : Kb (fun k => k = mb) w2 wf := by
      subst hwf
      refine Kb.drew (Kb.alloc ?_ _)
      iterate 3 (refine Kb.setCell (S := fun k => k = mb) ?_ (Or.inl rfl) _)
      exact Kb.refl _ _
    clear hwf
    have kA : Kb (fun k => k = b ∨ k = g ∨ k = mb) w wf :=
      ((kW.mono (fun _ _ x => x.elim)).trans (k2.mono (fun _ _ e => by rcases e with e | e; exact Or.inl e; exact Or.inr (Or.inl e)))).trans (k3.mono (fun _ _ e => Or.inr (Or.inr e)))
    have hkS : Kb S w wf := by
      refine kA.mono ?_
      rintro i hi (rfl | rfl | rfl)
      · exact hsb
      · exact hws i rfl
      · have := HMB.out; omega
    have hr : Row wf g c n (List.take n (popL st.waiting)) := Row.kb r2 k3 (fun e => hne2 e.symm)
    have hl := hr.len
    have hn1 : st.waiting.length - 1 = n := by have := H0.out; omega
    refine ⟨rfl, hkS, sv, .slice (some ⟨g, 0, none⟩) n c, gv, k3.heap B2.out (fun e => hne1 e.symm), hsb, ?_, hss, ?_, ?_, ?_⟩
    · refine hs.kb kA ?_
      rintro x e (rfl | rfl | rfl)
      · exact own_ne hs e HB.out (by decide) rfl
      · obtain ⟨cur, hc⟩ := own_heap HW.out rfl
        exact own_ne hs e hc (by decide) rfl
      · have := HSL.out _ (hss _ e); have := HMB.out; omega
    · show wf.ownsRow 0 75 5 _ (List.take (st.waiting.length - 1) (popL st.waiting)).length (flat (List.take (st.waiting.length - 1) (popL st.waiting)))
      rw [hn1, hl]
      exact hr
    · exact fun x e => hws x e
    · rcases hg with h | ⟨mb', n', e, hsm, hm'⟩
      · exact Or.inl h
      · refine Or.inr ⟨mb', n', e, hsm, hm'.kb kA ?_⟩
        rintro (rfl | rfl | rfl)
        · exact map_ne hm' HB.out rfl
        · obtain ⟨cur, hc⟩ := own_heap HW.out rfl
          exact map_ne hm' hc rfl
        · have := HSL.out _ hsm; have := HMB.out; omega

theorem next_some (S : Nat → Prop) (b n : Nat) (st : St) (w : World) (h : NetIs S b w st) (h0 : st.waiting.length = n + 1) (hn : n + 1 ≤ 1000000) :
    Calls Try.prog 19 #[.pointer (some ⟨b, 0, none⟩)] w fun e w' => e = .returned (gotMsg ((popL st.waiting)[n]!)) ∧ Kb S w w' ∧ NetIs S b w' (nextS st) := by
  refine (next_core (fun x => S x ∧ x < w.heap.size) b n st w h.old h0 hn (fun x hx => hx.2)).mono ?_
  rintro e w' ⟨he, h2, h3⟩
  exact ⟨he, h2.mono (fun x _ hx => hx.1), h3.mono (fun x hx => hx.1)⟩
end Go.Proofs.Ytibnpddmohjeoaa
