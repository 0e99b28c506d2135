/- NetNone: the walk. -/
import Derived.Test.YtibnpddmohjeoaaSep
namespace Go.Proofs.Ytibnpddmohjeoaa
open Go.RowKit

set_option maxHeartbeats 1000000 in
theorem send_nil (now : Int) (v : Value) (hv : ∃ a b c, v = .agg #[a, b, c]) (w : World) : Calls Try.prog 15 #[.pointer none, .int .i64 now, v] w fun e w' => e = .returned (.tuple #[]) ∧ Kb (fun _ => False) w w' := by
  obtain ⟨a, b, c, rfl⟩ := hv
  go_enter Try.func15, Try.ntmps15
  go_wp2_with fail
  refine bodyPost_ret (results_none rfl _ _ _) rfl ?_
  exact ⟨rfl, (Kb.refl _ _).alloc _⟩

theorem drops_none (nodes : Int) (l : List Tr) (hn : nodes ≤ 0) (grp : Int → Int) (wt : List Pc) (s : Nat) (m : Msg) : drops ⟨nodes, l, wt, s, grp⟩ m = true := by
  have : isNode nodes m.to_ = false := by unfold isNode; rw [Bool.and_eq_false_iff]; simp only [decide_eq_false_iff_not]; omega
  simp [drops, this]

set_option maxHeartbeats 4000000 in
set_option maxRecDepth 100000 in
theorem none_any (f t now : Int) (x : ByteArray) (v : Value) (l : List Tr) (w : World) (hl : l.length ≤ 9223372036854775807) (h : TrsAt w v l) (hv : ∀ g, v.ownBlock = some g → g < w.heap.size) :
    Calls Try.prog 9 #[.agg #[.int .i64 f, .int .i64 t, .string x], .int .i64 now, v] w fun e w' => e = .returned (.bool true) ∧ Kb (fun _ => False) w w' := by
  have HT := hid h
  have HV := hid hv
  clear h hv
  go_enter Try.func9, Try.ntmps9
  go_wp2_with fail
  generalize hW : World.alloc _ _ = W
  have kW : Kb (fun _ => False) w W := by subst hW; exact (Kb.refl _ _).alloc _
  have dW : W.heap[w.heap.size]? = some (.cells #[.int .i64 f, .int .i64 t, .string x] 31 (0, 0)) := by subst hW; exact heap_alloc_new w _
  clear hW
  generalize hdb : w.heap.size = db at *
  have DW := hid dW
  have KW := hid kW
  have HDB := hid hdb
  clear dW kW hdb
  refine (sanity_any W).mono ?_
  rintro e w1 ⟨rfl, k1⟩
  have K1 := hid k1
  clear k1
  go_wp2_with fail
  obtain ⟨B, hB⟩ : ∃ B, B = w1.heap.size := ⟨_, rfl⟩
  rw [← hB]
  generalize hW2 : World.alloc _ _ = W2
  have n2 : NetIs (fun x => x = B) B W2 (newS 0 []) := by
    subst hW2
    refine ⟨.slice none 0 0, .slice none 0 0, .map none, ?_, rfl, World.ownsRow_nil .., (by intro g e; cases e), World.ownsRow_nil .., (by intro g e; cases e), Or.inl ⟨rfl, fun _ => rfl⟩⟩
    rw [hB]
    exact heap_alloc_new w1 _
  have k2 : Kb (fun _ => False) W W2 := by subst hW2; exact K1.out.alloc _
  have hz2 : B < W2.heap.size := by subst hW2; simp [hB]
  have hdB : db < B := by have := block_lt (K1.out.heap DW.out (by simp)); omega
  have HB := hid hdB
  have N2 := hid n2
  have K2 := hid k2
  clear hW2 n2 k2 hB hdB
  refine (script_any v l W2 hl (HT.out.kb (KW.out.trans K2.out) (fun _ _ => by simp)) (fun g e => by have := HV.out g e; have := HDB.out; have := (KW.out.trans K2.out).size; omega)).mono ?_
  rintro e w3 ⟨v', rfl, k3, r3, o3⟩
  have hz3 := k3.size
  go_wp2_with fail
  refine (new_any (-3) v' _ w3 (by rw [scriptL_length]; omega) r3).mono ?_
  rintro e w4 ⟨eb, rfl, k4, n4⟩
  have hz4 := k4.size
  have S4 : Hid (Sep B (NetP B (newS 0 [])) (NetP eb (newS (-3) (scriptL l))) w4) :=
    Sep.mk (stab_net _ _) (stab_net _ _) (S := fun x => x = B) (N2.out.kb k3 (fun _ _ x => x)) (fun x hx => by omega) (by omega) k4 n4
  have K4 := hid (((K2.out.trans k3).trans k4).mono (T := fun x => B ≤ x) (fun _ _ x => x.elim))
  clear k3 k4 n4 r3 o3 N2 K2 HT HV
  have D4 := hid (K4.out.heap DW.out (by have := HB.out; omega))
  have x0 := cell_of_heap D4.out 0
  have x1 := cell_of_heap D4.out 1
  have x2 := cell_of_heap D4.out 2
  simp only [List.getElem?_toArray, List.getElem?_cons_succ, List.getElem?_cons_zero] at x0 x1 x2
  have hdl : db < w4.heap.size := block_lt D4.out
  go_wp2_with fail
  refine (send_nil now _ ⟨_, _, _, rfl⟩ w4).mono ?_
  rintro e w5 ⟨rfl, k5⟩
  have S5 := hid (S4.out.kb0 (stab_net _ _) (stab_net _ _) k5)
  have K5 := hid (K4.out.trans (k5.mono (T := fun x => B ≤ x) (fun _ _ x => x.elim)))
  have hz5 := k5.size
  clear k5 S4 K4 x0 x1 x2 hdl D4
  go_wp2_with fail
  refine (part_nil _ _).mono ?_
  rintro e w6 ⟨rfl, rfl⟩
  go_wp2_with fail
  generalize hW6 : World.alloc (World.alloc _ _) _ = W6
  have k6 : Kb (fun _ => False) w5 W6 := by subst hW6; exact ((Kb.refl _ _).alloc _).alloc _
  have i6 : IntsAt W6 (.slice (some ⟨w5.heap.size + 1, 0, none⟩) 1 1) [1] := by
    subst hW6
    refine Or.inr ⟨_, _, _, rfl, ?_⟩
    intro i hi
    have : i = 0 := by simp at hi; omega
    subst this
    refine ⟨?_, by unfold InI; decide⟩
    have h := cell_of_heap (heap_alloc2 w5 (.cells #[.int .i64 1] 3) (.cells #[.int .i64 1] 3)) 0
    exact h
  have z6 : w5.heap.size + 1 < W6.heap.size := by subst hW6; simp
  clear hW6
  refine (sep_part_new (stab_net _ _) S5.out k6 (by omega) [1] _ i6 (fun g e => by simp only [Value.ownBlock, Option.some.injEq] at e; omega) (by decide)).mono ?_
  rintro e w7 ⟨rfl, s7, k7⟩
  have S7 := hid s7
  have K7 := hid (K5.out.trans k7)
  have hz7 := k7.size
  clear s7 k7 k6 i6 S5 K5
  have D7 := hid (K7.out.heap DW.out (by have := HB.out; omega))
  have x0 := cell_of_heap D7.out 0
  have x1 := cell_of_heap D7.out 1
  have x2 := cell_of_heap D7.out 2
  simp only [List.getElem?_toArray, List.getElem?_cons_succ, List.getElem?_cons_zero] at x0 x1 x2
  have hdl : db < w7.heap.size := block_lt D7.out
  go_wp2_with fail
  refine (sep_send (stab_net _ _) S7.out (by omega) now f t x (by simp [partS, newS]) (by simp [partS, newS]) (by simp [partS, newS]) (fun hd => by unfold partS newS at hd; rw [drops_none 0 _ (by omega)] at hd; cases hd) (by simp [partS, newS])).mono ?_
  rintro e w8 ⟨rfl, s8, k8⟩
  have S8 := hid s8.swap
  have K8 := hid (K7.out.trans k8)
  have hz8 := k8.size
  clear s8 k8 S7 K7 D7 x0 x1 x2 hdl
  have D8 := hid (K8.out.heap DW.out (by have := HB.out; omega))
  have x0 := cell_of_heap D8.out 0
  have x1 := cell_of_heap D8.out 1
  have x2 := cell_of_heap D8.out 2
  simp only [List.getElem?_toArray, List.getElem?_cons_succ, List.getElem?_cons_zero] at x0 x1 x2
  have hdl : db < w8.heap.size := block_lt D8.out
  go_wp2_with fail
  refine (sep_send (stab_net _ _) S8.out (by omega) now f t x (by simp [newS, scriptL_length]; omega) (by simp [newS]) (by simp [newS]) (fun hd => by unfold newS at hd; rw [drops_none (-3) _ (by omega)] at hd; cases hd) (by simp [newS])).mono ?_
  rintro e w9 ⟨rfl, s9, k9⟩
  have S9 := hid s9.swap
  have K9 := hid (K8.out.trans k9)
  have hz9 := k9.size
  clear s9 k9 S8 K8 D8 x0 x1 x2 hdl
  go_wp2_with fail
  refine (next_nil w9).mono ?_
  rintro e w10 ⟨rfl, k10⟩
  unfold noMsg
  have S10 := hid (S9.out.kb0 (stab_net _ _) (stab_net _ _) k10)
  have K10 := hid (K9.out.trans (k10.mono (T := fun x => B ≤ x) (fun _ _ x => x.elim)))
  clear k10 S9 K9
  have e1 : (sendS (partS (newS 0 []) [1]) now ⟨f, t, x⟩).waiting = [] := by
    unfold sendS
    rw [if_pos (by unfold partS newS; exact drops_none 0 _ (by omega) _ _ _ _)]
    rfl
  have e2 : (sendS (newS (-3) (scriptL l)) now ⟨f, t, x⟩).waiting = [] := by
    unfold sendS
    rw [if_pos (by unfold newS; exact drops_none (-3) _ (by omega) _ _ _ _)]
    rfl
  have E1 := hid e1
  have E2 := hid e2
  clear e1 e2
  go_wp2_with fail
  generalize hW11 : World.alloc _ _ = W11
  have k11 : Kb (fun _ => False) w10 W11 := by subst hW11; exact (Kb.refl _ _).alloc _
  have S11 := hid (S10.out.kb0 (stab_net _ _) (stab_net _ _) k11)
  have K11 := hid (K10.out.trans (k11.mono (T := fun x => B ≤ x) (fun _ _ x => x.elim)))
  clear hW11 k11 S10 K10
  refine (sep_empty (stab_net _ _) S11.out E1.out).mono ?_
  rintro e w12 ⟨rfl, s12, k12⟩
  unfold noMsg
  have S12 := hid s12
  have K12 := hid (K11.out.trans (k12.mono (T := fun x => B ≤ x) (fun _ _ x => x.elim)))
  clear s12 k12 S11 K11
  go_wp2_with fail
  generalize hW13 : World.alloc _ _ = W13
  have k13 : Kb (fun _ => False) w12 W13 := by subst hW13; exact (Kb.refl _ _).alloc _
  have S13 := hid (S12.out.kb0 (stab_net _ _) (stab_net _ _) k13).swap
  have K13 := hid (K12.out.trans (k13.mono (T := fun x => B ≤ x) (fun _ _ x => x.elim)))
  clear hW13 k13 S12 K12
  refine (sep_empty (stab_net _ _) S13.out E2.out).mono ?_
  rintro e w14 ⟨rfl, s14, k14⟩
  unfold noMsg
  have S14 := hid s14.swap
  have K14 := hid (K13.out.trans (k14.mono (T := fun x => B ≤ x) (fun _ _ x => x.elim)))
  clear s14 k14 S13 K13
  go_wp2_with fail
  generalize hW15 : World.alloc _ _ = W15
  have k15 : Kb (fun _ => False) w14 W15 := by subst hW15; exact (Kb.refl _ _).alloc _
  have S15 := hid (S14.out.kb0 (stab_net _ _) (stab_net _ _) k15)
  have K15 := hid (K14.out.trans (k15.mono (T := fun x => B ≤ x) (fun _ _ x => x.elim)))
  clear hW15 k15 S14 K14
  refine (waiting_nil W15).mono ?_
  rintro e w16 ⟨rfl, rfl⟩
  go_wp2_with fail
  refine (sep_wait S15.out).mono ?_
  rintro e w17 ⟨rfl, rfl⟩
  rw [E1.out]
  go_wp2_with fail
  refine (sep_wait S15.out.swap).mono ?_
  rintro e w18 ⟨rfl, rfl⟩
  rw [E2.out]
  go_wp2_with fail
  go_ret
  exact ⟨rfl, KW.out.trans' K15.out (fun i hi e => by have := HB.out; have := HDB.out; omega)⟩
end Go.Proofs.Ytibnpddmohjeoaa
