/- The walk of Part. -/
import Derived.Test.YtibnpddmohjeoaaSend
namespace Go.Proofs.Ytibnpddmohjeoaa
open Go.RowKit

/-- The group of a node. -/
def grpOf (gs : List Int) (k : Int) : Int := if 0 ≤ k ∧ k < gs.length then gs[k.toNat]! else 0
theorem grpOf_snoc (gs : List Int) (j : Nat) (h : j < gs.length) (k : Int) : grpOf (gs.take (j + 1)) k = if k = j then gs[j]! else grpOf (gs.take j) k := by
  unfold grpOf
  simp only [List.length_take, Nat.min_eq_left (show j + 1 ≤ gs.length by omega), Nat.min_eq_left (show j ≤ gs.length by omega)]
  by_cases hk : k = j
  · subst hk
    rw [if_pos (by omega), if_pos rfl]
    simp [List.getElem!_eq_getElem?_getD]
  · rw [if_neg hk]
    by_cases h2 : 0 ≤ k ∧ k < j
    · rw [if_pos (by omega), if_pos h2]
      have h3 : k.toNat < j := by omega
      simp [List.getElem!_eq_getElem?_getD, h3, Nat.lt_succ_of_lt h3]
    · rw [if_neg (by omega), if_neg h2]

/-- A value that reads as a list of ints. -/
def IntsAt (w : World) (v : Value) (gs : List Int) : Prop :=
  (∃ a c, v = .slice a 0 c ∧ gs = []) ∨ ∃ g o c, v = .slice (some ⟨g, o, none⟩) gs.length c ∧ ∀ i, i < gs.length → w.cell? ⟨g, o + i, none⟩ = some (.int .i64 (gs[i]!)) ∧ InI (gs[i]!)

theorem IntsAt.kb {S : Nat → Prop} {w w' : World} {v : Value} {gs : List Int} (h : IntsAt w v gs) (k : Kb S w w') (hs : ∀ g, v.ownBlock = some g → ¬ S g) : IntsAt w' v gs := by
  rcases h with h | ⟨g, o, c, rfl, hc⟩
  · exact Or.inl h
  · exact Or.inr ⟨g, o, c, rfl, fun i hi => ⟨k.cell (hc i hi).1 (hs g rfl), (hc i hi).2⟩⟩

def partS (st : St) (gs : List Int) : St := { st with grp := grpOf gs }

set_option maxHeartbeats 1000000 in
theorem part_nil (v : Value) (w : World) : Calls Try.prog 17 #[.pointer none, v] w fun e w' => e = .returned (.tuple #[]) ∧ w' = w := by
  go_enter Try.func17, Try.ntmps17
  go_wp2_with fail
  refine bodyPost_ret (results_none rfl _ _ _) rfl ?_
  exact ⟨rfl, rfl⟩

set_option maxHeartbeats 2000000 in
theorem part_core (S : Nat → Prop) (b : Nat) (st : St) (gs : List Int) (v : Value) (w : World) (h : NetIs S b w st) (hv : IntsAt w v gs) (hsep : ∀ g, v.ownBlock = some g → ¬ S g ∧ g < w.heap.size) (hl : gs.length ≤ 9223372036854775807) (hSlt : ∀ x, S x → x < w.heap.size) :
    Calls Try.prog 17 #[.pointer (some ⟨b, 0, none⟩), v] w fun e w' => e = .returned (.tuple #[]) ∧ Kb S w w' ∧ NetIs (fun x => S x ∨ x = w.heap.size) b w' (partS st gs) := by
  obtain ⟨sv, wv, gv, hb, hsb, hs, hss, hw, hws, hg⟩ := h
  have hbl := block_lt hb
  have hmm := @run_makeMap Try.prog
  have hb4 := cell_of_heap hb 4
  have hfz := frozen_of_heap hb 4
  simp only [List.getElem?_toArray, List.getElem?_cons_succ, List.getElem?_cons_zero] at hb4
  obtain ⟨a, c, rfl⟩ : ∃ a c, v = .slice a gs.length c := by
    rcases hv with ⟨a, c, rfl, rfl⟩ | ⟨g, o, c, rfl, _⟩
    · exact ⟨_, _, rfl⟩
    · exact ⟨_, _, rfl⟩
  have HB := hid hb
  have HS := hid hsep
  have HSL := hid hSlt
  clear hb hsep hSlt
  go_enter Try.func17, Try.ntmps17
  go_wp2_with fail
  generalize hW : World.alloc _ _ = W
  have B2 : W.heap[b]? = some (.cells #[.int .i64 st.nodes, sv, wv, .int .i64 st.sent, .map (some w.heap.size)] 56 (0, 0)) := by
    subst hW
    rw [Below.heap_alloc _ _ _ (by simpa using hbl), heap_setCell_same w b 4 _ 56 _ HB.out]
    rfl
  have M2 : W.heap[w.heap.size]? = some (.map #[] 0) := by
    subst hW
    have := heap_alloc_new (w.setCell ⟨b, 4, none⟩ (.map (some w.heap.size))) (.map #[] 0)
    simpa using this
  have k2 : Kb (fun k => k = b) w W := by
    subst hW
    exact Kb.alloc (Kb.setCell (S := fun k => k = b) (Kb.refl _ _) (Or.inl rfl) _) _
  have mb0 : MapIs W w.heap.size 0 (fun _ => 0) :=
    ⟨.map [], ⟨#[], 0, M2, ⟨by simp, MapKept.stamped_empty 0, by simp⟩, Nat.le_refl _, rfl⟩, Maps.isMap_empty, fun _ _ => rfl⟩
  clear hW M2
  obtain ⟨mb, hmb⟩ : ∃ mb, mb = w.heap.size := ⟨_, rfl⟩
  rw [← hmb] at B2 mb0 ⊢
  have HMB := hid hmb
  have HB2 := hid B2
  have HM0 := hid mb0
  have HK2 := hid k2
  have hbm : b ≠ mb := by omega
  clear hmb B2 mb0 k2 hb4 hfz
  have hv2 := hv.kb HK2.out (fun g e => by rintro rfl; exact (HS.out _ e).1 hsb)
  have hvm : ∀ g, (Value.slice a gs.length c).ownBlock = some g → g ≠ mb := fun g e => by have := (HS.out _ e).2; have := HMB.out; omega
  have HV := hid hv2
  have HVM := hid hvm
  clear hv hv2 hvm
  go_loopw [4, 5, 14] (fun _ _ jv wr => ∃ j : Nat, jv = .int .i64 j ∧ j ≤ gs.length ∧ Kb (fun k => k = mb) W wr ∧ MapIs wr mb j (grpOf (gs.take j))) (fun _ _ jv _ => gs.length - (intOf jv).toNat)
  case atStart =>
    refine ⟨0, rfl, Nat.zero_le _, Kb.refl _ _, ?_⟩
    have e : grpOf (gs.take 0) = fun _ => 0 := by funext k; unfold grpOf; simp
    rw [e]
    exact HM0.out
  case round =>
    obtain ⟨j, rfl, hj, hkb, D, hown, hD1, hD2⟩ := hrel
    by_cases hlt : j < gs.length
    · obtain ⟨g, o, ha, hcell⟩ : ∃ g o, a = some ⟨g, o, none⟩ ∧ ∀ i, i < gs.length → W.cell? ⟨g, o + i, none⟩ = some (.int .i64 (gs[i]!)) ∧ InI (gs[i]!) := by
        rcases HV.out with ⟨a', c', e, rfl⟩ | ⟨g, o, c', e, hc⟩
        · simp at hlt
        · simp only [Value.slice.injEq] at e
          exact ⟨g, o, e.1, hc⟩
      subst ha
      have hgm := HVM.out g rfl
      have hc1 := hkb.cell (hcell j hlt).1 hgm
      have hin := (hcell j hlt).2
      have hsn := grpOf_snoc gs j hlt
      have HSN := hid hsn
      have HD2 := hid hD2
      have hB3 := hkb.heap HB2.out hbm
      have hb4 := cell_of_heap hB3 4
      simp only [List.getElem?_toArray, List.getElem?_cons_succ, List.getElem?_cons_zero] at hb4
      generalize gs[j]! = x at *
      have hjin : InI (j : Int) := by unfold InI; omega
      clear hcell hsn hD2 hB3
      go_wp2_with (at_mapUpdate; refine wpList_mapUpdate_own _ rfl _ _ _ 54 rfl 3 3 keyed3 Try.underlying54 (plainElem Try.prog 3) mb j D rfl hown (by unfold maxLen; omega) (.int .i64 j) (.int .i64 x) _ rfl rfl (Maps.keyOf_int_mk Try.underlying3 (wf_i64 hjin)) (.lit (.int .i64 x)) [] (plainElem_int Try.underlying3 (wf_i64 hin)) ?_; intro w1 hown1 hgrow1)
      refine ⟨⟨j + 1, by go_num, by omega, hkb.grown hgrow1 (fun k e => by simp only [Option.some.injEq] at e; exact Or.inl e.symm), _, hown1, hD1.put _ _, ?_⟩, by simp [intOf]; omega⟩
      intro k hk
      rw [HSN.out k]
      by_cases e : k = j
      · subst e
        rw [if_pos rfl, Maps.atKey_put_same hD1 (by trivial)]
      · rw [if_neg e, Maps.atKey_put_other (by simpa using e)]
        exact HD2.out k hk
    · have hjl : j = gs.length := by omega
      subst hjl
      go_wp2_with fail
      go_end0
      have hB3 := hkb.heap HB2.out hbm
      have kA : Kb (fun k => k = b) w wr := HK2.out.trans' hkb (fun i hi e => by have := HMB.out; omega)
      refine ⟨rfl, kA.mono (fun i _ e => by subst e; exact hsb), sv, wv, .map (some mb), hB3, Or.inl hsb, ?_, fun g e => Or.inl (hss g e), ?_, fun g e => Or.inl (hws g e), ?_⟩
      · exact hs.kb kA (fun g e r => own_ne hs e HB.out (by decide) r.symm)
      · exact kA.row hw (fun g e r => own_ne hw e HB.out (by decide) r.symm)
      · refine Or.inr ⟨mb, gs.length, rfl, Or.inr HMB.out, D, hown, hD1, ?_⟩
        rw [List.take_length] at hD2
        exact hD2

theorem part_any (S : Nat → Prop) (b : Nat) (st : St) (gs : List Int) (v : Value) (w : World) (h : NetIs S b w st) (hv : IntsAt w v gs) (hsep : ∀ g, v.ownBlock = some g → ¬ S g ∧ g < w.heap.size) (hl : gs.length ≤ 9223372036854775807) :
    Calls Try.prog 17 #[.pointer (some ⟨b, 0, none⟩), v] w fun e w' => e = .returned (.tuple #[]) ∧ ∃ S' : Nat → Prop, (∀ x, S' x → S x ∨ w.heap.size ≤ x) ∧ Kb S w w' ∧ NetIs S' b w' (partS st gs) := by
  refine (part_core (fun x => S x ∧ x < w.heap.size) b st gs v w h.old hv (fun g e => ⟨fun hx => (hsep g e).1 hx.1, (hsep g e).2⟩) hl (fun x hx => hx.2)).mono ?_
  rintro e w' ⟨he, h2, h3⟩
  refine ⟨he, _, ?_, h2.mono (fun x _ hx => hx.1), h3⟩
  rintro x (hx | hx)
  · exact Or.inl hx.1
  · exact Or.inr (by omega)
end Go.Proofs.Ytibnpddmohjeoaa
