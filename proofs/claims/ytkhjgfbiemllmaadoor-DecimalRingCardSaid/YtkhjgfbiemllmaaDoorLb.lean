/- The walks of product and units. -/
import Derived.Test.YtkhjgfbiemllmaaDoorLa
import Derived.Test.YtkhjgfbiemllmaaDoorEx
import Derived.StillTailTactics
namespace Go.Proofs.YtkhjgfbiemllmaaDoor
open Go.RowKit

theorem abs_cases (a : Int) (h : a.natAbs ≤ 2000000000000000000) : ∃ x : Nat, x ≤ 2000000000000000000 ∧ a.natAbs = x ∧ (a = (x : Int) ∨ (a = -(x : Int) ∧ 0 < x)) := by
  refine ⟨a.natAbs, h, rfl, ?_⟩
  rcases Int.natAbs_eq a with e | e
  · exact Or.inl e
  · by_cases h0 : a.natAbs = 0
    · left; omega
    · right; exact ⟨e, by omega⟩
theorem mul64_is (p q : Int) (x y hi lo : Nat) (w : World) (hp : p = x) (hq : q = y) (hx : x < 18446744073709551616) (hy : y < 18446744073709551616) (h1 : x * y / 18446744073709551616 = hi) (h2 : x * y % 18446744073709551616 = lo) :
    Calls Tryd.prog 46 #[.int .u64 p, .int .u64 q] w fun e w' => e = .returned (.tuple #[.int .u64 hi, .int .u64 lo]) ∧ w' = w := by
  subst hp hq h1 h2
  exact Tryd.bits_Mul64 x y hx hy w
theorem decNeg (x : Nat) : decide ((x : Int) < 0) = false := decide_eq_false (by omega)
theorem decNeg' (x : Nat) (h : 0 < x) : decide (-(x : Int) < 0) = true := decide_eq_true (by omega)
set_option maxHeartbeats 2000000 in
theorem product_any (a b : Int) (w : World) (ha : a.natAbs ≤ 2000000000000000000) (hb : b.natAbs ≤ 2000000000000000000) :
    Calls Tryd.prog 33 #[.int .i64 a, .int .i64 b] w fun e w' => e = .returned (wideV (decide (a < 0) != decide (b < 0)) (a.natAbs * b.natAbs)) ∧ Kb (fun _ => False) w w' := by
  obtain ⟨x, hx, hxa, hxs⟩ := abs_cases a ha
  obtain ⟨y, hy, hyb, hys⟩ := abs_cases b hb
  rw [hxa, hyb]
  clear hxa hyb ha hb
  unfold wideV
  obtain ⟨hi, hhi⟩ : ∃ hi, x * y / 18446744073709551616 = hi := ⟨_, rfl⟩
  obtain ⟨lo, hlo⟩ : ∃ lo, x * y % 18446744073709551616 = lo := ⟨_, rfl⟩
  rw [hhi, hlo]
  have HHI := hid hhi
  have HLO := hid hlo
  clear hhi hlo
  rcases hxs with rfl | ⟨rfl, hx0⟩
  · rcases hys with rfl | ⟨rfl, hy0⟩
    · rw [decNeg x, decNeg y]
      go_enter Tryd.func33, Tryd.ntmps33
      go_wp2_with fail
      generalize hW : World.alloc _ _ = W
      have kW : Kb (fun _ => False) w W := by subst hW; exact (Kb.refl _ _).alloc _
      have rW : W.heap[w.heap.size]? = some (.cells #[.bool false, .int .u64 0, .int .u64 0] 53 (0, 0)) := by subst hW; exact heap_alloc_new w _
      have r0 := cell_of_heap rW 0
      have r1 := cell_of_heap rW 1
      have r2 := cell_of_heap rW 2
      have q0 := frozen_of_heap rW 0
      have q1 := frozen_of_heap rW 1
      have q2 := frozen_of_heap rW 2
      have hbl := block_lt rW
      simp only [List.getElem?_toArray, List.getElem?_cons_succ, List.getElem?_cons_zero] at r0 r1 r2
      have KW := hid kW
      clear hW kW rW
      refine (mul64_is _ _ x y hi lo W (by omega) (by omega) (by omega) (by omega) HHI.out HLO.out).mono ?_
      rintro e w' ⟨rfl, rfl⟩
      go_wp2_with fail
      refine bodyPost_ret (v := .agg #[.bool false, .int .u64 hi, .int .u64 lo]) (by simp [results, Tryd.results33, go_sem, r0, r1, r2] <;> omega) rfl ⟨rfl, ?_⟩
      exact Kb.setCell (Kb.setCell (Kb.setCell KW.out (Or.inr (Nat.le_refl _)) _) (Or.inr (Nat.le_refl _)) _) (Or.inr (Nat.le_refl _)) _
    · rw [decNeg x, decNeg' y hy0]
      go_enter Tryd.func33, Tryd.ntmps33
      go_wp2_with fail
      generalize hW : World.alloc _ _ = W
      have kW : Kb (fun _ => False) w W := by subst hW; exact (Kb.refl _ _).alloc _
      have rW : W.heap[w.heap.size]? = some (.cells #[.bool false, .int .u64 0, .int .u64 0] 53 (0, 0)) := by subst hW; exact heap_alloc_new w _
      have r0 := cell_of_heap rW 0
      have r1 := cell_of_heap rW 1
      have r2 := cell_of_heap rW 2
      have q0 := frozen_of_heap rW 0
      have q1 := frozen_of_heap rW 1
      have q2 := frozen_of_heap rW 2
      have hbl := block_lt rW
      simp only [List.getElem?_toArray, List.getElem?_cons_succ, List.getElem?_cons_zero] at r0 r1 r2
      have KW := hid kW
      clear hW kW rW
      refine (mul64_is _ _ x y hi lo W (by omega) (by omega) (by omega) (by omega) HHI.out HLO.out).mono ?_
      rintro e w' ⟨rfl, rfl⟩
      go_wp2_with fail
      refine bodyPost_ret (v := .agg #[.bool true, .int .u64 hi, .int .u64 lo]) (by simp [results, Tryd.results33, go_sem, r0, r1, r2] <;> omega) rfl ⟨rfl, ?_⟩
      exact Kb.setCell (Kb.setCell (Kb.setCell KW.out (Or.inr (Nat.le_refl _)) _) (Or.inr (Nat.le_refl _)) _) (Or.inr (Nat.le_refl _)) _
  · rcases hys with rfl | ⟨rfl, hy0⟩
    · rw [decNeg' x hx0, decNeg y]
      go_enter Tryd.func33, Tryd.ntmps33
      go_wp2_with fail
      generalize hW : World.alloc _ _ = W
      have kW : Kb (fun _ => False) w W := by subst hW; exact (Kb.refl _ _).alloc _
      have rW : W.heap[w.heap.size]? = some (.cells #[.bool false, .int .u64 0, .int .u64 0] 53 (0, 0)) := by subst hW; exact heap_alloc_new w _
      have r0 := cell_of_heap rW 0
      have r1 := cell_of_heap rW 1
      have r2 := cell_of_heap rW 2
      have q0 := frozen_of_heap rW 0
      have q1 := frozen_of_heap rW 1
      have q2 := frozen_of_heap rW 2
      have hbl := block_lt rW
      simp only [List.getElem?_toArray, List.getElem?_cons_succ, List.getElem?_cons_zero] at r0 r1 r2
      have KW := hid kW
      clear hW kW rW
      refine (mul64_is _ _ x y hi lo W (by omega) (by omega) (by omega) (by omega) HHI.out HLO.out).mono ?_
      rintro e w' ⟨rfl, rfl⟩
      go_wp2_with fail
      refine bodyPost_ret (v := .agg #[.bool true, .int .u64 hi, .int .u64 lo]) (by simp [results, Tryd.results33, go_sem, r0, r1, r2] <;> omega) rfl ⟨rfl, ?_⟩
      exact Kb.setCell (Kb.setCell (Kb.setCell KW.out (Or.inr (Nat.le_refl _)) _) (Or.inr (Nat.le_refl _)) _) (Or.inr (Nat.le_refl _)) _
    · rw [decNeg' x hx0, decNeg' y hy0]
      go_enter Tryd.func33, Tryd.ntmps33
      go_wp2_with fail
      generalize hW : World.alloc _ _ = W
      have kW : Kb (fun _ => False) w W := by subst hW; exact (Kb.refl _ _).alloc _
      have rW : W.heap[w.heap.size]? = some (.cells #[.bool false, .int .u64 0, .int .u64 0] 53 (0, 0)) := by subst hW; exact heap_alloc_new w _
      have r0 := cell_of_heap rW 0
      have r1 := cell_of_heap rW 1
      have r2 := cell_of_heap rW 2
      have q0 := frozen_of_heap rW 0
      have q1 := frozen_of_heap rW 1
      have q2 := frozen_of_heap rW 2
      have hbl := block_lt rW
      simp only [List.getElem?_toArray, List.getElem?_cons_succ, List.getElem?_cons_zero] at r0 r1 r2
      have KW := hid kW
      clear hW kW rW
      refine (mul64_is _ _ x y hi lo W (by omega) (by omega) (by omega) (by omega) HHI.out HLO.out).mono ?_
      rintro e w' ⟨rfl, rfl⟩
      go_wp2_with fail
      refine bodyPost_ret (v := .agg #[.bool false, .int .u64 hi, .int .u64 lo]) (by simp [results, Tryd.results33, go_sem, r0, r1, r2] <;> omega) rfl ⟨rfl, ?_⟩
      exact Kb.setCell (Kb.setCell (Kb.setCell KW.out (Or.inr (Nat.le_refl _)) _) (Or.inr (Nat.le_refl _)) _) (Or.inr (Nat.le_refl _)) _

/-- What the package-level variables hold. -/
structure Env (w : World) : Prop where
  pow : ∀ k, k ≤ 18 → w.cell? ⟨0, k, none⟩ = some (.int .i64 ((10 ^ k : Nat) : Int))
  max : ∃ m, w.cell? ⟨3, 0, none⟩ = some (.int .i64 m)
  syn : ∃ tp p, w.var? Tryd.prog "strconv.ErrSyntax" = some #[.iface tp p]
  ran : ∃ tp p, w.var? Tryd.prog "strconv.ErrRange" = some #[.iface tp p]
  tab : Lib.TabIs Tryd.prog w "internal/strconv.uint64pow10" .u64 Lib.pow10Tab
theorem var_kb {w w' : World} {name : String} {cs : Array Value} (h : w.var? Tryd.prog name = some cs) (k : Kb (fun _ => False) w w') : w'.var? Tryd.prog name = some cs := by
  unfold World.var? at *
  cases hg : Tryd.prog.globalNamed name with
  | none => rw [hg] at h; cases h
  | some g =>
    rw [hg] at h
    simp only [Option.bind_some] at *
    cases ho : w.heap[g]? with
    | none => rw [ho] at h; cases h
    | some o =>
      rw [k.heap ho (by simp)]
      rw [ho] at h
      exact h
theorem Env.kb {w w' : World} (h : Env w) (k : Kb (fun _ => False) w w') : Env w' := by
  obtain ⟨h1, ⟨m, h2⟩, ⟨a, b, h3⟩, ⟨c, d, h4⟩, h5⟩ := h
  exact ⟨fun i hi => k.cell (h1 i hi) (by simp), ⟨m, k.cell h2 (by simp)⟩, ⟨a, b, var_kb h3 k⟩, ⟨c, d, var_kb h4 k⟩, var_kb h5 k⟩
def unitsV (n s : Int) : Value := if rightB n s then wideV (decide (n < 0)) (n.natAbs * 10 ^ (6 - s.toNat)) else wideV false 0
theorem product_is (a b : Int) (neg : Bool) (P hi lo : Nat) (w : World) (ha : a.natAbs ≤ 2000000000000000000) (hb : b.natAbs ≤ 2000000000000000000) (hn : (decide (a < 0) != decide (b < 0)) = neg) (hP : a.natAbs * b.natAbs = P) (h1 : P / 18446744073709551616 = hi) (h2 : P % 18446744073709551616 = lo) :
    Calls Tryd.prog 33 #[.int .i64 a, .int .i64 b] w fun e w' => e = .returned (.agg #[.bool neg, .int .u64 hi, .int .u64 lo]) ∧ Kb (fun _ => False) w w' := by
  have h := product_any a b w ha hb
  rw [hn, hP] at h
  unfold wideV at h
  rwa [h1, h2] at h
set_option maxRecDepth 100000 in
theorem sizeInt (w : World) : (sizeOf 3).run Tryd.prog w = .ok 1 w := by kernel_rfl
set_option maxRecDepth 100000 in
theorem run_pow (j : Nat) (hj : (j : Int) < 19) (w : World) : (Instr.indexAt 58 (.pointer (some ⟨0, 0, none⟩)) (.int .i64 (j : Int))).run Tryd.prog w = .ok (.pointer (some ⟨0, j, none⟩)) w := by
  have h := run_indexAt_array (P := Tryd.prog) (w := w) 58 ⟨0, 0, none⟩ .i64 (j : Int) Tryd.underlying58
  have e1 : Tryd.prog.arrayLen 58 = 19 := by kernel_rfl
  have e2 : Tryd.prog.elem 58 = 3 := by kernel_rfl
  rw [e1, e2, if_pos ⟨by omega, hj⟩, sizeInt] at h
  rw [h]
  simp [Result.andThen, Addr.add]
  omega
set_option maxHeartbeats 2000000 in
set_option maxRecDepth 100000 in
theorem units_core (n s x : Int) (k P hi lo : Nat) (neg : Bool) (w : World) (env : Env w) (hk : knownV n s = .agg #[.int .i64 x, .int .i64 k]) (hk6 : k ≤ 6) (hx : x.natAbs ≤ 1000000000000000) (hn : decide (x < 0) = neg) (hP : x.natAbs * 10 ^ (6 - k) = P) (h1 : P / 18446744073709551616 = hi) (h2 : P % 18446744073709551616 = lo) :
    Calls Tryd.prog 28 #[.agg #[.int .i64 n, .int .i64 s]] w fun e w' => e = .returned (.agg #[.bool neg, .int .u64 hi, .int .u64 lo]) ∧ Kb (fun _ => False) w w' := by
  have HK := hid (fun w => known_is n s x k w hk)
  obtain ⟨j, hj⟩ : ∃ j, j = 6 - k := ⟨_, rfl⟩
  have hp := env.pow j (by omega)
  have hg : 0 < w.heap.size := World.block_lt_of_cell? w _ hp
  have hp0 : ((10 ^ j : Nat) : Int).natAbs ≤ 2000000000000000000 := by
    rw [Int.natAbs_natCast]
    have : 10 ^ j ≤ 10 ^ 6 := Nat.pow_le_pow_right (by omega) (by omega)
    omega
  have hneg : (decide (x < 0) != decide (((10 ^ j : Nat) : Int) < 0)) = neg := by rw [hn, decNeg]; simp
  have hPP : x.natAbs * ((10 ^ j : Nat) : Int).natAbs = P := by rw [Int.natAbs_natCast, hj]; exact hP
  obtain ⟨p, hpp⟩ : ∃ p : Nat, 10 ^ j = p := ⟨_, rfl⟩
  rw [hpp] at hp hp0 hneg hPP
  have HC := hid (fun w => product_is x (p : Int) neg P hi lo w (by omega) hp0 hneg hPP h1 h2)
  have e1 : (6 : Int) - (k : Int) = (j : Int) := by omega
  have hj0 : (0 : Int) ≤ (j : Int) := by omega
  have hj1 : (j : Int) < 19 := by omega
  have r1 : decide ((0 : Int) ≤ (j : Int)) = true := decide_eq_true hj0
  have r2 : decide ((j : Int) < 19) = true := decide_eq_true hj1
  have E1 := hid e1
  have hix : ∀ wx : World, (Instr.indexAt 58 (.pointer (some ⟨0, 0, none⟩)) (.int .i64 (j : Int))).run Tryd.prog wx = .ok (.pointer (some ⟨0, j, none⟩)) wx := by
    intro wx
    exact run_pow j hj1 wx
  have hwj : IntKind.i64.wrap (j : Int) = (j : Int) := IntWalk.i64_in _ (by omega)
  clear env hk hn hP h1 h2 hj hpp hp0 hneg hPP e1
  go_enter Tryd.func28, Tryd.ntmps28
  go_wp2_with fail
  refine (HK.out _).mono ?_; rintro e w1 ⟨rfl, k1⟩; obtain ⟨C, m, rfl⟩ := grew_of k1; clear k1
  have e1 := E1.out
  go_wp2_with fail
  go_still_tail 7, (by kernel_rfl)
  go_wp2_with fail
  refine (HC.out _).mono ?_; rintro e w1 ⟨rfl, k1⟩; obtain ⟨C, m, rfl⟩ := grew_of k1; clear k1
  go_wp2_with fail
  exact bodyPost_ret (v := .agg #[.bool neg, .int .u64 hi, .int .u64 lo]) (by simp [results, Tryd.results28, go_sem]) rfl ⟨rfl, (by repeat (with_reducible first | exact Kb.refl _ _ | exact KW.out | refine Kb.setC ?_ (by assumption) | apply Kb.drew | apply Kb.drewN | apply Kb.grew | apply Kb.alloc))⟩
end Go.Proofs.YtkhjgfbiemllmaaDoor
