/- The walks of Make and Of, and of the reference's Of and Made. -/
import Derived.Test.YtkhjgfbiemllmaaDoorDd
namespace Go.Proofs.YtkhjgfbiemllmaaDoor
open Go.RowKit

theorem strip_stop (s n : Nat) (h : s = 0 ∨ n % 10 ≠ 0) : strip s n = (n, s) := by
  cases s with
  | zero => rfl
  | succ s =>
    rw [strip, if_neg]
    rcases h with h | h
    · omega
    · exact h
theorem strip_step (s n : Nat) (h : n % 10 = 0) : strip (s + 1) n = strip s (n / 10) := by rw [strip, if_pos h]
theorem tmod10 (z : Int) : z.tmod 10 = 0 ↔ z.natAbs % 10 = 0 := by
  have h := Int.natAbs_tmod z 10
  rw [show (10 : Int).natAbs = 10 from rfl] at h
  omega
theorem tdiv10 (z : Int) : (z.tdiv 10).natAbs = z.natAbs / 10 := Int.natAbs_tdiv z 10
theorem tdiv10_sign (z : Int) : (0 ≤ z → 0 ≤ z.tdiv 10) ∧ (z ≤ 0 → z.tdiv 10 ≤ 0) := by
  constructor
  · intro h; exact Int.tdiv_nonneg h (by omega)
  · intro h
    have := Int.tdiv_nonneg (show 0 ≤ -z by omega) (show (0 : Int) ≤ 10 by omega)
    rw [Int.neg_tdiv] at this
    omega
theorem sgn_of (n z : Int) (h1 : 0 ≤ n → 0 ≤ z) (h2 : n < 0 → z ≤ 0) : sgn (decide (n < 0)) z.natAbs = z := by
  unfold sgn
  by_cases h : n < 0
  · have := h2 h
    simp only [h, decide_true, if_true]
    omega
  · have := h1 (by omega)
    simp only [h, decide_false, Bool.false_eq_true, if_false]
    omega
/-- What Make gives at the end. -/
theorem make_fin (n z : Int) (s k : Nat) (h1 : 0 ≤ n → 0 ≤ z) (h2 : n < 0 → z ≤ 0) (hst : strip k z.natAbs = strip s n.natAbs) (hk : k = 0 ∨ z.natAbs % 10 ≠ 0) :
    fitV (decide (n < 0)) n.natAbs s = if rightB z k then okDec z k else noDec := by
  rw [strip_stop k _ hk] at hst
  unfold fitV
  rw [← hst]
  have hz := sgn_of n z h1 h2
  have hr : rightB z k = decide (z.natAbs ≤ 1000000000000000 ∧ k ≤ 6) := by
    unfold rightB
    rw [decide_eq_decide]
    constructor
    · rintro ⟨_, a, b, c, _⟩
      omega
    · rintro ⟨a, b⟩
      refine ⟨by omega, by omega, by omega, by omega, ?_⟩
      rcases hk with h | h
      · left; omega
      · right; intro e; exact h ((tmod10 z).1 e)
  rw [hr]
  by_cases h : z.natAbs ≤ 1000000000000000 ∧ k ≤ 6
  · rw [if_pos h, decide_eq_true h, if_pos rfl]
    simp only
    rw [hz]
  · rw [if_neg h, decide_eq_false h]
    rfl
theorem Kb.of_draw {S : Nat → Prop} {w w' : World} (k : Kb S w.drew w') : Kb S w w' := ⟨k.os, k.tape, k.output, k.size, k.block⟩
theorem known_is (n s : Int) (x y : Int) (w : World) (h : knownV n s = .agg #[.int .i64 x, .int .i64 y]) : Calls Tryd.prog 25 #[.agg #[.int .i64 n, .int .i64 s]] w fun e w' => e = .returned (.agg #[.int .i64 x, .int .i64 y]) ∧ Kb (fun _ => False) w w' := by
  rw [← h]
  exact known_any n s w
set_option maxHeartbeats 1000000 in
theorem dmake_out (n s : Int) (w : World) (h : s < 0 ∨ 18 < s) :
    Calls Tryd.prog 9 #[.int .i64 n, .int .i64 s] w fun e w' => e = .returned noDec ∧ Kb (fun _ => False) w w' := by
  rcases h with h | h
  · go_enter Tryd.func9, Tryd.ntmps9
    go_wp2_with fail
    exact bodyPost_ret (v := noDec) (by simp [results, Tryd.results9, go_sem, noDec]) rfl ⟨rfl, (Kb.refl _ _).alloc _⟩
  · have h' : ¬ s < 0 := by omega
    go_enter Tryd.func9, Tryd.ntmps9
    go_wp2_with fail
    exact bodyPost_ret (v := noDec) (by simp [results, Tryd.results9, go_sem, noDec]) rfl ⟨rfl, (Kb.refl _ _).alloc _⟩
attribute [local go_sem ↓] Go.wp_at_zero Go.wp_at_succ
set_option maxHeartbeats 4000000 in
set_option maxRecDepth 100000 in
theorem dmake_in (n : Int) (s : Nat) (w : World) (h1 : -9223372036854775808 ≤ n) (h2 : n ≤ 9223372036854775807) (hs : s ≤ 18) :
    Calls Tryd.prog 9 #[.int .i64 n, .int .i64 s] w fun e w' => e = .returned (fitV (decide (n < 0)) n.natAbs s) ∧ Kb (fun _ => False) w w' := by
  go_enter Tryd.func9, Tryd.ntmps9
  go_wp2_with fail
  generalize hW : World.alloc _ _ = W
  have kW : Kb (fun _ => False) w W := by subst hW; exact (Kb.refl _ _).alloc _
  have rW : W.heap[w.heap.size]? = some (.cells #[.int .i64 0, .int .i64 0] 23 (0, 0)) := by subst hW; exact heap_alloc_new w _
  have KW := hid kW
  have RW := hid rW
  clear hW kW rW
  go_loop [0, 1, 14] (fun zv sv iv => ∃ (z : Int) (k i : Nat), zv = .int .i64 z ∧ sv = .int .i64 k ∧ iv = .int .i64 i ∧ i ≤ 18 ∧ k ≤ 18 ∧ -9223372036854775808 ≤ z ∧ z ≤ 9223372036854775807 ∧ Hid ((0 ≤ n → 0 ≤ z) ∧ (n < 0 → z ≤ 0) ∧ strip k z.natAbs = strip s n.natAbs ∧ (k + i ≤ 18 ∨ k = 0 ∨ z.natAbs % 10 ≠ 0)))
    (fun _ _ iv => 18 - (intOf iv).toNat)
  case atStart => exact ⟨n, s, 0, rfl, rfl, rfl, by omega, hs, h1, h2, ⟨id, fun h => by omega, rfl, Or.inl (by omega)⟩⟩
  case round =>
    obtain ⟨z, k, i, rfl, rfl, rfl, hi, hk, hz1, hz2, hinv⟩ := hrel
    by_cases hlt : i < 18
    · cases k with
      | zero =>
        have hinv2 := hid (show (0 ≤ n → 0 ≤ z) ∧ (n < 0 → z ≤ 0) ∧ strip 0 z.natAbs = strip s n.natAbs ∧ (0 + (i + 1) ≤ 18 ∨ 0 = 0 ∨ z.natAbs % 10 ≠ 0) from ⟨hinv.out.1, hinv.out.2.1, hinv.out.2.2.1, Or.inr (Or.inl rfl)⟩)
        go_wp2_with fail
        exact ⟨⟨z, 0, i + 1, rfl, rfl, by go_num, by omega, by omega, hz1, hz2, hinv2⟩, by simp [intOf]; omega⟩
      | succ k =>
        by_cases h10 : z.natAbs % 10 = 0
        · have c6 : (z.tmod 10 == 0) = true := by rw [(tmod10 z).2 h10]; rfl
          have hq := tdiv10 z
          have hsg := tdiv10_sign z
          have hinv2 := hid (show (0 ≤ n → 0 ≤ z.tdiv 10) ∧ (n < 0 → z.tdiv 10 ≤ 0) ∧ strip k (z.tdiv 10).natAbs = strip s n.natAbs ∧ (k + (i + 1) ≤ 18 ∨ k = 0 ∨ (z.tdiv 10).natAbs % 10 ≠ 0) from by
            obtain ⟨a, b, c, d⟩ := hinv.out
            refine ⟨fun h => hsg.1 (a h), fun h => hsg.2 (b h), ?_, ?_⟩
            · rw [strip_step k _ h10] at c
              rw [hq]
              exact c
            · rcases d with d | d | d
              · exact Or.inl (by omega)
              · omega
              · exact absurd h10 d)
          have hb1 : -9223372036854775808 ≤ z.tdiv 10 ∧ z.tdiv 10 ≤ 9223372036854775807 := by omega
          obtain ⟨hb1, hb2⟩ := hb1
          have e1 : IntKind.i64.wrap (z.tdiv 10) = z.tdiv 10 := IntWalk.i64_in _ (by omega)
          clear hq hsg h10 hinv
          go_wp2_with fail
          exact ⟨⟨z.tdiv 10, k, i + 1, rfl, by go_num, by go_num, by omega, by omega, hb1, hb2, hinv2⟩, by simp [intOf]; omega⟩
        · have c6 : (z.tmod 10 == 0) = false := by rw [beq_eq_false_iff_ne]; intro e; exact h10 ((tmod10 z).1 e)
          have hinv2 := hid (show (0 ≤ n → 0 ≤ z) ∧ (n < 0 → z ≤ 0) ∧ strip (k + 1) z.natAbs = strip s n.natAbs ∧ (k + 1 + (i + 1) ≤ 18 ∨ k + 1 = 0 ∨ z.natAbs % 10 ≠ 0) from ⟨hinv.out.1, hinv.out.2.1, hinv.out.2.2.1, Or.inr (Or.inr h10)⟩)
          clear h10 hinv
          go_wp2_with fail
          exact ⟨⟨z, k + 1, i + 1, rfl, rfl, by go_num, by omega, by omega, hz1, hz2, hinv2⟩, by simp [intOf]; omega⟩
    · have hi18 : i = 18 := by omega
      subst hi18
      have hf := make_fin n z s k hinv.out.1 hinv.out.2.1 hinv.out.2.2.1 (by
        rcases hinv.out.2.2.2 with h | h
        · left; omega
        · exact h)
      have HF := hid hf
      have R0 := RW.out
      have r0 := cell_of_heap R0 0
      have r1 := cell_of_heap R0 1
      have q0 := frozen_of_heap R0 0
      have q1 := frozen_of_heap R0 1
      have hbl := block_lt R0
      simp only [List.getElem?_toArray, List.getElem?_cons_succ, List.getElem?_cons_zero] at r0 r1
      clear hf R0 hinv hlt
      cases hr : rightB z k
      · have HR := hid hr
        have HK := hid (show knownV z k = .agg #[.int .i64 0, .int .i64 0] by unfold knownV; rw [hr]; rfl)
        clear hr
        go_wp2_with fail
        generalize hW2 : World.alloc _ _ = W2
        have k2 : Kb (fun _ => False) W W2 := by subst hW2; exact (Kb.refl _ _).alloc _
        have B2 : W2.heap[W.heap.size]? = some (.cells #[.int .i64 z, .int .i64 k] 23 (0, 0)) := by subst hW2; exact heap_alloc_new W _
        have b0 := cell_of_heap B2 0
        have b1 := cell_of_heap B2 1
        have hbu := block_lt B2
        simp only [List.getElem?_toArray, List.getElem?_cons_succ, List.getElem?_cons_zero] at b0 b1
        have r0 := k2.cell r0 (by simp)
        have r1 := k2.cell r1 (by simp)
        have q0 := (k2.frozen hbl (by simp)).trans q0
        have q1 := (k2.frozen hbl (by simp)).trans q1
        have hbl2 : w.heap.size < W2.heap.size := by have := k2.size; omega
        have hne : W.heap.size ≠ w.heap.size := by omega
        have K2 := hid (KW.out.trans k2)
        clear hW2 k2 B2 hbl
        generalize W.heap.size = ub at *
        obtain ⟨tb, htb⟩ : ∃ tb, tb = w.heap.size := ⟨_, rfl⟩
        have HTB := hid htb
        rw [← htb]
        rw [← htb] at r0 r1 q0 q1 hbl2 hne
        clear htb RW
        go_region_with (first
          | (go_at_call 25; refine (known_is z k _ _ _ HK.out).mono ?_; rintro e w' ⟨rfl, kq⟩; have b0 := kq.cell b0 (by simp); have b1 := kq.cell b1 (by simp); have r0 := kq.cell r0 (by simp); have r1 := kq.cell r1 (by simp); have q0 := (kq.frozen (p := ⟨tb, 0, none⟩) hbl2 (by simp)).trans q0; have q1 := (kq.frozen (p := ⟨tb, 1, none⟩) hbl2 (by simp)).trans q1; have hbl2 := Nat.lt_of_lt_of_le hbl2 kq.size; have hbu := Nat.lt_of_lt_of_le hbu kq.size; (first | (have K2 := hid (K2.out.trans kq)) | (have K2 := hid (K2.out.trans (Kb.of_draw kq)))))
          | (go_at_call 11; refine (right_is z k false _ HR.out).mono ?_; rintro e w' ⟨rfl, kq⟩; have b0 := kq.cell b0 (by simp); have b1 := kq.cell b1 (by simp); have r0 := kq.cell r0 (by simp); have r1 := kq.cell r1 (by simp); have q0 := (kq.frozen (p := ⟨tb, 0, none⟩) hbl2 (by simp)).trans q0; have q1 := (kq.frozen (p := ⟨tb, 1, none⟩) hbl2 (by simp)).trans q1; have hbl2 := Nat.lt_of_lt_of_le hbl2 kq.size; have hbu := Nat.lt_of_lt_of_le hbu kq.size; (first | (have K2 := hid (K2.out.trans kq)) | (have K2 := hid (K2.out.trans (Kb.of_draw kq))))))
        all_goals
          go_wp2_with fail
          refine bodyPost_ret (v := .tuple #[.agg #[.int .i64 0, .int .i64 0], .bool false]) (by simp [results, Tryd.results9, go_sem, r0, r1]) rfl ⟨?_, ?_⟩
          · rw [HF.out, HR.out]; rfl
          · have ht : w.heap.size ≤ tb := by have := HTB.out; omega
            first
              | exact Kb.setCell (Kb.setCell K2.out (Or.inr ht) _) (Or.inr ht) _
              | exact Kb.drew (Kb.setCell (Kb.setCell K2.out (Or.inr ht) _) (Or.inr ht) _)
      · have HR := hid hr
        have HK := hid (show knownV z k = .agg #[.int .i64 z, .int .i64 (k : Int)] by unfold knownV; rw [hr]; rfl)
        clear hr
        go_wp2_with fail
        generalize hW2 : World.alloc _ _ = W2
        have k2 : Kb (fun _ => False) W W2 := by subst hW2; exact (Kb.refl _ _).alloc _
        have B2 : W2.heap[W.heap.size]? = some (.cells #[.int .i64 z, .int .i64 k] 23 (0, 0)) := by subst hW2; exact heap_alloc_new W _
        have b0 := cell_of_heap B2 0
        have b1 := cell_of_heap B2 1
        have hbu := block_lt B2
        simp only [List.getElem?_toArray, List.getElem?_cons_succ, List.getElem?_cons_zero] at b0 b1
        have r0 := k2.cell r0 (by simp)
        have r1 := k2.cell r1 (by simp)
        have q0 := (k2.frozen hbl (by simp)).trans q0
        have q1 := (k2.frozen hbl (by simp)).trans q1
        have hbl2 : w.heap.size < W2.heap.size := by have := k2.size; omega
        have hne : W.heap.size ≠ w.heap.size := by omega
        have K2 := hid (KW.out.trans k2)
        clear hW2 k2 B2 hbl
        generalize W.heap.size = ub at *
        obtain ⟨tb, htb⟩ : ∃ tb, tb = w.heap.size := ⟨_, rfl⟩
        have HTB := hid htb
        rw [← htb]
        rw [← htb] at r0 r1 q0 q1 hbl2 hne
        clear htb RW
        go_region_with (first
          | (go_at_call 25; refine (known_is z k _ _ _ HK.out).mono ?_; rintro e w' ⟨rfl, kq⟩; have b0 := kq.cell b0 (by simp); have b1 := kq.cell b1 (by simp); have r0 := kq.cell r0 (by simp); have r1 := kq.cell r1 (by simp); have q0 := (kq.frozen (p := ⟨tb, 0, none⟩) hbl2 (by simp)).trans q0; have q1 := (kq.frozen (p := ⟨tb, 1, none⟩) hbl2 (by simp)).trans q1; have hbl2 := Nat.lt_of_lt_of_le hbl2 kq.size; have hbu := Nat.lt_of_lt_of_le hbu kq.size; (first | (have K2 := hid (K2.out.trans kq)) | (have K2 := hid (K2.out.trans (Kb.of_draw kq)))))
          | (go_at_call 11; refine (right_is z k true _ HR.out).mono ?_; rintro e w' ⟨rfl, kq⟩; have b0 := kq.cell b0 (by simp); have b1 := kq.cell b1 (by simp); have r0 := kq.cell r0 (by simp); have r1 := kq.cell r1 (by simp); have q0 := (kq.frozen (p := ⟨tb, 0, none⟩) hbl2 (by simp)).trans q0; have q1 := (kq.frozen (p := ⟨tb, 1, none⟩) hbl2 (by simp)).trans q1; have hbl2 := Nat.lt_of_lt_of_le hbl2 kq.size; have hbu := Nat.lt_of_lt_of_le hbu kq.size; (first | (have K2 := hid (K2.out.trans kq)) | (have K2 := hid (K2.out.trans (Kb.of_draw kq))))))
        all_goals
          go_wp2_with fail
          refine bodyPost_ret (v := .tuple #[.agg #[.int .i64 z, .int .i64 (k : Int)], .bool true]) (by simp [results, Tryd.results9, go_sem, r0, r1]) rfl ⟨?_, ?_⟩
          · rw [HF.out, HR.out]; rfl
          · have ht : w.heap.size ≤ tb := by have := HTB.out; omega
            first
              | exact Kb.setCell (Kb.setCell K2.out (Or.inr ht) _) (Or.inr ht) _
              | exact Kb.drew (Kb.setCell (Kb.setCell K2.out (Or.inr ht) _) (Or.inr ht) _)
end Go.Proofs.YtkhjgfbiemllmaaDoor
