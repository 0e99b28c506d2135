/- NetOvertakes: the walk. -/
import Derived.Test.YtibnpddmohjeoaaScr
namespace Go.Proofs.Ytibnpddmohjeoaa
open Go.RowKit

def ov1 (a d0 d1 : Int) : St := sendS (newS 1 [⟨false, 0, d0⟩, ⟨false, 0, d1⟩]) a ⟨1, 0, ⟨#[]⟩⟩
def ov2 (a b d0 d1 : Int) : St := sendS (ov1 a d0 d1) b ⟨2, 0, ⟨#[]⟩⟩
theorem ov1_eq (a d0 d1 : Int) (h0 : 0 ≤ d0) : ov1 a d0 d1 = ⟨1, [⟨false, 0, d0⟩, ⟨false, 0, d1⟩], pushL [] ⟨1, 0, ⟨#[]⟩, a + d0, 0⟩, 1, fun _ => 0⟩ := by
  have e : max d0 0 = d0 := by omega
  have c : ∀ d, copiesOf ⟨false, 0, d⟩ = 1 := fun d => rfl
  simp [ov1, sendS, drops, newS, trOf, isNode, c, pushK, mkPc, e]
theorem ov2_eq (a b d0 d1 : Int) (h0 : 0 ≤ d0) (h1 : 0 ≤ d1) : ov2 a b d0 d1 = ⟨1, [⟨false, 0, d0⟩, ⟨false, 0, d1⟩], pushL (pushL [] ⟨1, 0, ⟨#[]⟩, a + d0, 0⟩) ⟨2, 0, ⟨#[]⟩, b + d1, 1⟩, 2, fun _ => 0⟩ := by
  have e : max d1 0 = d1 := by omega
  rw [ov2, ov1_eq a d0 d1 h0]
  have c : ∀ d, copiesOf ⟨false, 0, d⟩ = 1 := fun d => rfl
  simp [sendS, drops, trOf, isNode, c, pushK, mkPc, e]
theorem ov_pop (a b d0 d1 : Int) (h0 : 0 ≤ d0) (h1 : 0 ≤ d1) : (ov2 a b d0 d1).waiting.length = 1 + 1 ∧
    (popL (ov2 a b d0 d1).waiting)[1]! = if b + d1 < a + d0 then ⟨2, 0, ⟨#[]⟩, b + d1, 1⟩ else ⟨1, 0, ⟨#[]⟩, a + d0, 0⟩ := by
  have hok : Okay (ov2 a b d0 d1) := (Okay.new 1 _).send a _ |>.send b _
  have hl : (ov2 a b d0 d1).waiting.length = 1 + 1 := by rw [ov2_eq a b d0 d1 h0 h1]; simp [pushL_length]
  refine ⟨hl, ?_⟩
  obtain ⟨e1, _, _, e4⟩ := popL_spec _ 1 hl hok
  rw [e1]
  have hperm : (ov2 a b d0 d1).waiting.Perm [⟨2, 0, ⟨#[]⟩, b + d1, 1⟩, ⟨1, 0, ⟨#[]⟩, a + d0, 0⟩] := by
    rw [ov2_eq a b d0 d1 h0 h1]
    exact (pushL_perm (pushL [] _) _).trans ((pushL_perm [] _).cons _)
  have hm := get!_mem (ov2 a b d0 d1).waiting 0 (by omega)
  have hmin : ∀ x ∈ [(⟨2, 0, ⟨#[]⟩, b + d1, 1⟩ : Pc), ⟨1, 0, ⟨#[]⟩, a + d0, 0⟩], leP (ov2 a b d0 d1).waiting[0]! x := fun x hx => e4 x (hperm.mem_iff.2 hx)
  rw [hperm.mem_iff] at hm
  generalize (ov2 a b d0 d1).waiting[0]! = r at *
  have m1 := hmin _ (List.mem_cons_self)
  have m2 := hmin _ (List.mem_cons_of_mem _ List.mem_cons_self)
  rw [leP_iff] at m1 m2
  simp only [List.mem_cons, List.not_mem_nil, or_false] at hm
  split
  · rename_i h
    rcases hm with rfl | rfl
    · rfl
    · simp only at m1 m2; omega
  · rename_i h
    rcases hm with rfl | rfl
    · simp only at m1 m2; omega
    · rfl

set_option maxHeartbeats 2000000 in
set_option maxRecDepth 100000 in
theorem overtakes_any (a b d0 d1 : Int) (w : World) (ha : 0 ≤ a ∧ a ≤ 65535) (hb : 0 ≤ b ∧ b ≤ 65535) (h0 : 0 ≤ d0 ∧ d0 ≤ 65535) (h1 : 0 ≤ d1 ∧ d1 ≤ 65535) :
    Calls Try.prog 7 #[.int .u16 a, .int .u16 b, .agg #[.int .u16 d0, .int .u16 d1]] w fun e w' => e = .returned (.bool true) ∧ Kb (fun _ => False) w w' := by
  obtain ⟨ha1, ha2⟩ := ha
  obtain ⟨hb1, hb2⟩ := hb
  obtain ⟨p1, p2⟩ := h0
  obtain ⟨q1, q2⟩ := h1
  go_enter Try.func7, Try.ntmps7
  go_wp2_with fail
  generalize hW : World.alloc _ _ = W
  have kW : Kb (fun _ => False) w W := by subst hW; exact (Kb.refl _ _).alloc _
  have dW : W.heap[w.heap.size]? = some (.cells #[.int .u16 d0, .int .u16 d1] 49 (0, 0)) := by subst hW; exact heap_alloc_new w _
  clear hW
  generalize hdb : w.heap.size = db at *
  have DW := hid dW
  have KW := hid kW
  clear dW kW
  refine (sanity_any W).mono ?_
  rintro e w1 ⟨rfl, k1⟩
  have d1' := cell_of_heap (k1.heap DW.out (by simp)) 0
  have d2' := cell_of_heap (k1.heap DW.out (by simp)) 1
  simp only [List.getElem?_toArray, List.getElem?_cons_succ, List.getElem?_cons_zero] at d1' d2'
  go_wp2_with fail
  generalize hW2 : World.alloc _ _ = W2
  have r2 : RowT W2 (.slice (some ⟨w1.heap.size, 0, none⟩) 2 2) [⟨false, 0, d0⟩, ⟨false, 0, d1⟩] := by
    subst hW2
    exact World.ownsRow_lit (base := 0) (e := 44) (size := 3) w1 #[.bool false, .int .i64 0, .int .i64 d0, .bool false, .int .i64 0, .int .i64 d1] 2 (Nat.zero_le _) (by decide) rfl
  have k2 : Kb (fun _ => False) W W2 := by subst hW2; exact k1.alloc _
  have hsz : db < W2.heap.size := block_lt (k2.heap DW.out (by simp))
  have HS := hid (show w.heap.size = db from hdb)
  have K2 := hid k2
  clear hW2 k1 d1' d2' hdb k2
  refine (new_any 1 _ _ W2 (by simp) r2).mono ?_
  rintro e w3 ⟨nb, rfl, k3, n3⟩
  have K3 := hid (K2.out.trans k3)
  have N3 := hid (n3.mono (S' := fun x => db < x) (fun x hx => by omega))
  have hz3 := k3.size
  clear k3 n3 r2
  go_wp2_with fail
  refine (send_at _ nb _ a 1 0 ⟨#[]⟩ w3 N3.out (by simp [newS]) (by simp [newS]) (by simp [newS]) (fun _ => ⟨by omega, by simp [newS, trOf]; omega⟩) (by simp [newS])).mono ?_
  rintro e w4 ⟨rfl, S4, h1, h2, h3⟩
  have K4 := hid ((K3.out.mono (T := fun x => db < x) (fun _ _ x => x.elim)).trans h2)
  have N4 : Hid (NetIs (fun x => db < x) nb w4 (ov1 a d0 d1)) := h3.mono (fun x hx => by rcases h1 x hx with h | h; exact h; omega)
  have hz4 := h2.size
  clear h1 h2 h3
  have e4 : (ov1 a d0 d1).script = [⟨false, 0, d0⟩, ⟨false, 0, d1⟩] ∧ (ov1 a d0 d1).sent = 1 ∧ (ov1 a d0 d1).waiting.length = 1 ∧ (ov1 a d0 d1).nodes = 1 := by rw [ov1_eq a d0 d1 p1]; simp [pushL_length]
  obtain ⟨f1, f2, f3, f4⟩ := e4
  have F1 := hid f1
  have F2 := hid f2
  have F3 := hid f3
  have F4 := hid f4
  clear f1 f2 f3 f4
  go_wp2_with fail
  refine (send_at _ nb _ b 2 0 ⟨#[]⟩ w4 N4.out (by rw [F1.out]; simp) (by rw [F2.out]; omega) (by rw [F3.out]; omega) (fun _ => ⟨by omega, by rw [F1.out, F2.out]; simp [trOf]; omega⟩) (by rw [F4.out]; omega)).mono ?_
  rintro e w5 ⟨rfl, S5, h1, h2, h3⟩
  have K5 := hid (K4.out.trans h2)
  have N5 : Hid (NetIs (fun x => db < x) nb w5 (ov2 a b d0 d1)) := h3.mono (fun x hx => by rcases h1 x hx with h | h; exact h; omega)
  have hz5 := h2.size
  clear h1 h2 h3
  obtain ⟨hl, hp⟩ := ov_pop a b d0 d1 p1 q1
  have HL := hid hl
  have HP := hid hp
  clear hl hp
  by_cases hlt : b + d1 < a + d0
  · have hp2 := HP.out
    rw [if_pos hlt] at hp2
    have HP2 := hid hp2
    clear hp2
    go_wp2_with fail
    refine (next_at _ nb 1 _ w5 N5.out HL.out (by omega) _ _ _ _ _ HP2.out).mono ?_
    rintro e w6 ⟨rfl, h2, h3⟩
    have K6 := K5.out.trans h2
    have x0 := cell_of_heap (K6.heap DW.out (by simp)) 0
    have x1 := cell_of_heap (K6.heap DW.out (by simp)) 1
    simp only [List.getElem?_toArray, List.getElem?_cons_succ, List.getElem?_cons_zero] at x0 x1
    have hdl : db < w6.heap.size := World.block_lt_of_cell? w6 _ x0
    have KK := hid K6
    clear h2 h3 K6
    go_wp2_with fail
    go_quiet (fail)
    go_wp2_with fail
    go_ret
    exact ⟨rfl, (KW.out.trans' KK.out (fun i hi e => by have := HS.out; omega)).alloc _ |>.drewN _⟩

  · have hge : a + d0 ≤ b + d1 := by omega
    have hp2 := HP.out
    rw [if_neg hlt] at hp2
    have HP2 := hid hp2
    clear hp2
    go_wp2_with fail
    refine (next_at _ nb 1 _ w5 N5.out HL.out (by omega) _ _ _ _ _ HP2.out).mono ?_
    rintro e w6 ⟨rfl, h2, h3⟩
    have K6 := K5.out.trans h2
    have x0 := cell_of_heap (K6.heap DW.out (by simp)) 0
    have x1 := cell_of_heap (K6.heap DW.out (by simp)) 1
    simp only [List.getElem?_toArray, List.getElem?_cons_succ, List.getElem?_cons_zero] at x0 x1
    have hdl : db < w6.heap.size := World.block_lt_of_cell? w6 _ x0
    have KK := hid K6
    clear h2 h3 K6
    go_wp2_with fail
    go_quiet (fail)
    go_wp2_with fail
    go_ret
    exact ⟨rfl, (KW.out.trans' KK.out (fun i hi e => by have := HS.out; omega)).alloc _ |>.drewN _⟩

end Go.Proofs.Ytibnpddmohjeoaa
