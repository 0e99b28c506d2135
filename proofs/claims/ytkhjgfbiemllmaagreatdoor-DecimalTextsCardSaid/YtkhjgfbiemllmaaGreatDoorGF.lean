/- The walks of cmp.Compare, cmp.Or and product. The walks of product and units. The walks of units (any) and of Div64 by ten. The walk of small. The walks of Of, Mul, Add64, Sub64, plus of the same sign. -/
import Derived.Test.YtkhjgfbiemllmaaGreatDoorGD
import Derived.Test.YtkhjgfbiemllmaaGreatDoorShelf
import Derived.Lib.LaidTab
import Derived.Test.YtkhjgfbiemllmaaGreatDoorGC
import Derived.StillTailTactics
import Derived.Laws.Bits64b
import Derived.Shelf.Spec.BitsCarry
namespace Go.Proofs.YtkhjgfbiemllmaaGreatDoor
open Go.RowKit

def cmp3 (x y : Nat) : Int := if x < y then -1 else if y < x then 1 else 0
set_option maxHeartbeats 1000000 in
theorem isNaN_any (x : Nat) (w : World) (_hx : x < 18446744073709551616) :
    Calls Tryz.prog 74 #[.int .u64 x] w fun e w' => e = .returned (.bool false) ∧ w' = w := by
  have h : ((x : Int) != (x : Int)) = false := by simp
  go_enter Tryz.func74, Tryz.ntmps74
  go_wp2_with fail
  go_ret
  exact ⟨rfl, rfl⟩
set_option maxHeartbeats 1000000 in
theorem compare_any (x y : Nat) (w : World) (hx : x < 18446744073709551616) (hy : y < 18446744073709551616) :
    Calls Tryz.prog 47 #[.int .u64 x, .int .u64 y] w fun e w' => e = .returned (.int .i64 (cmp3 x y)) ∧ w' = w := by
  rcases Nat.lt_trichotomy x y with h | h | h
  · have H := hid (show cmp3 x y = -1 by unfold cmp3; rw [if_pos h])
    go_enter Tryz.func47, Tryz.ntmps47
    go_wp2_with fail
    refine (isNaN_any x w hx).mono ?_
    rintro e w' ⟨rfl, rfl⟩
    go_wp2_with fail
    refine (isNaN_any y _ hy).mono ?_
    rintro e w' ⟨rfl, rfl⟩
    go_wp2_with fail
    go_ret
    exact ⟨by rw [H.out]; rfl, rfl⟩
  · have H := hid (show cmp3 x y = 0 by unfold cmp3; rw [if_neg (by omega), if_neg (by omega)])
    have h1 : x ≤ y := by omega
    have h2 : y ≤ x := by omega
    clear h
    go_enter Tryz.func47, Tryz.ntmps47
    go_wp2_with fail
    refine (isNaN_any x w hx).mono ?_
    rintro e w' ⟨rfl, rfl⟩
    go_wp2_with fail
    refine (isNaN_any y _ hy).mono ?_
    rintro e w' ⟨rfl, rfl⟩
    go_wp2_with fail
    go_ret
    exact ⟨by rw [H.out]; rfl, rfl⟩
  · have H := hid (show cmp3 x y = 1 by unfold cmp3; rw [if_neg (by omega), if_pos h])
    go_enter Tryz.func47, Tryz.ntmps47
    go_wp2_with fail
    refine (isNaN_any x w hx).mono ?_
    rintro e w' ⟨rfl, rfl⟩
    go_wp2_with fail
    refine (isNaN_any y _ hy).mono ?_
    rintro e w' ⟨rfl, rfl⟩
    go_wp2_with fail
    go_ret
    exact ⟨by rw [H.out]; rfl, rfl⟩
set_option maxHeartbeats 1000000 in
theorem or_any (g : Nat) (x y : Int) (w : World) (h0 : w.cell? ⟨g, 0, none⟩ = some (.int .i64 x)) (h1 : w.cell? ⟨g, 1, none⟩ = some (.int .i64 y)) :
    Calls Tryz.prog 46 #[.slice (some ⟨g, 0, none⟩) 2 2] w fun e w' => e = .returned (.int .i64 (if x = 0 then y else x)) ∧ w' = w := by
  have hg : g < w.heap.size := World.block_lt_of_cell? w _ h0
  by_cases hx : x = 0
  · rw [if_pos hx]
    have hx1 : (x != 0) = false := by rw [hx]; rfl
    clear hx
    by_cases hy : y = 0
    · have hy1 : (y != 0) = false := by rw [hy]; rfl
      have HY := hid hy
      clear hy
      go_enter Tryz.func46, Tryz.ntmps46
      go_wp2_with fail
      refine wp_loop_rounds 3 ?_
      rw [rounds_succ]
      go_wp2_with fail
      rw [rounds_succ]
      go_wp2_with fail
      rw [rounds_succ]
      go_wp2_with fail
      go_ret
      exact ⟨by rw [HY.out]; rfl, rfl⟩
    · have hy1 : (y != 0) = true := by rw [bne_iff_ne]; exact hy
      clear hy
      go_enter Tryz.func46, Tryz.ntmps46
      go_wp2_with fail
      refine wp_loop_rounds 2 ?_
      rw [rounds_succ]
      go_wp2_with fail
      rw [rounds_succ]
      go_wp2_with fail
      go_ret
      exact ⟨rfl, rfl⟩
  · rw [if_neg hx]
    have hx1 : (x != 0) = true := by rw [bne_iff_ne]; exact hx
    clear hx
    go_enter Tryz.func46, Tryz.ntmps46
    go_wp2_with fail
    refine wp_loop_rounds 1 ?_
    rw [rounds_succ]
    go_wp2_with fail
    go_ret
    exact ⟨rfl, rfl⟩

/-- A number of 128 bits with its sign. -/
def wideV (neg : Bool) (P : Nat) : Value := .agg #[.bool neg, .int .u64 ((P / 18446744073709551616 : Nat) : Int), .int .u64 ((P % 18446744073709551616 : Nat) : Int)]
end Go.Proofs.YtkhjgfbiemllmaaGreatDoor
namespace Go.Proofs.YtkhjgfbiemllmaaGreatDoor
open Go.RowKit

theorem abs_cases (a : Int) (h : a.natAbs ≤ 2000000000000000000) : ∃ x : Nat, x ≤ 2000000000000000000 ∧ a.natAbs = x ∧ (a = (x : Int) ∨ (a = -(x : Int) ∧ 0 < x)) := by
  refine ⟨a.natAbs, h, rfl, ?_⟩
  rcases Int.natAbs_eq a with e | e
  · exact Or.inl e
  · by_cases h0 : a.natAbs = 0
    · left; omega
    · right; exact ⟨e, by omega⟩
theorem mul64_is (p q : Int) (x y hi lo : Nat) (w : World) (hp : p = x) (hq : q = y) (hx : x < 18446744073709551616) (hy : y < 18446744073709551616) (h1 : x * y / 18446744073709551616 = hi) (h2 : x * y % 18446744073709551616 = lo) :
    Calls Tryz.prog 51 #[.int .u64 p, .int .u64 q] w fun e w' => e = .returned (.tuple #[.int .u64 hi, .int .u64 lo]) ∧ w' = w := by
  subst hp hq h1 h2
  exact Tryz.bits_Mul64 x y hx hy w
theorem decNeg (x : Nat) : decide ((x : Int) < 0) = false := decide_eq_false (by omega)
theorem decNeg' (x : Nat) (h : 0 < x) : decide (-(x : Int) < 0) = true := decide_eq_true (by omega)
set_option maxHeartbeats 2000000 in
theorem product_any (a b : Int) (w : World) (ha : a.natAbs ≤ 2000000000000000000) (hb : b.natAbs ≤ 2000000000000000000) :
    Calls Tryz.prog 31 #[.int .i64 a, .int .i64 b] w fun e w' => e = .returned (wideV (decide (a < 0) != decide (b < 0)) (a.natAbs * b.natAbs)) ∧ Kb (fun _ => False) w w' := by
  obtain ⟨x, hx, hxa, hxs⟩ := abs_cases a ha
  obtain ⟨y, hy, hyb, hys⟩ := abs_cases b hb
  rw [hxa, hyb]
  clear hxa hyb ha hb
  unfold wideV
  obtain ⟨hi, hhi⟩ : ∃ hi, x * y / 18446744073709551616 = hi := ⟨_, rfl⟩
  obtain ⟨lo, hlo⟩ : ∃ lo, x * y % 18446744073709551616 = lo := ⟨_, rfl⟩
  rw [hhi, hlo]
  have HHI := hid hhi
  have HLO := hid hlo
  clear hhi hlo
  rcases hxs with rfl | ⟨rfl, hx0⟩
  · rcases hys with rfl | ⟨rfl, hy0⟩
    · rw [decNeg x, decNeg y]
      go_enter Tryz.func31, Tryz.ntmps31
      go_wp2_with fail
      generalize hW : World.alloc _ _ = W
      have kW : Kb (fun _ => False) w W := by subst hW; exact (Kb.refl _ _).alloc _
      have rW : W.heap[w.heap.size]? = some (.cells #[.bool false, .int .u64 0, .int .u64 0] 50 (0, 0)) := by subst hW; exact heap_alloc_new w _
      have r0 := cell_of_heap rW 0
      have r1 := cell_of_heap rW 1
      have r2 := cell_of_heap rW 2
      have q0 := frozen_of_heap rW 0
      have q1 := frozen_of_heap rW 1
      have q2 := frozen_of_heap rW 2
      have hbl := block_lt rW
      simp only [List.getElem?_toArray, List.getElem?_cons_succ, List.getElem?_cons_zero] at r0 r1 r2
      have KW := hid kW
      clear hW kW rW
      refine (mul64_is _ _ x y hi lo W (by omega) (by omega) (by omega) (by omega) HHI.out HLO.out).mono ?_
      rintro e w' ⟨rfl, rfl⟩
      go_wp2_with fail
      refine bodyPost_ret (v := .agg #[.bool false, .int .u64 hi, .int .u64 lo]) (by simp [results, Tryz.results31, go_sem, r0, r1, r2] <;> omega) rfl ⟨rfl, ?_⟩
      exact Kb.setCell (Kb.setCell (Kb.setCell KW.out (Or.inr (Nat.le_refl _)) _) (Or.inr (Nat.le_refl _)) _) (Or.inr (Nat.le_refl _)) _
    · rw [decNeg x, decNeg' y hy0]
      go_enter Tryz.func31, Tryz.ntmps31
      go_wp2_with fail
      generalize hW : World.alloc _ _ = W
      have kW : Kb (fun _ => False) w W := by subst hW; exact (Kb.refl _ _).alloc _
      have rW : W.heap[w.heap.size]? = some (.cells #[.bool false, .int .u64 0, .int .u64 0] 50 (0, 0)) := by subst hW; exact heap_alloc_new w _
      have r0 := cell_of_heap rW 0
      have r1 := cell_of_heap rW 1
      have r2 := cell_of_heap rW 2
      have q0 := frozen_of_heap rW 0
      have q1 := frozen_of_heap rW 1
      have q2 := frozen_of_heap rW 2
      have hbl := block_lt rW
      simp only [List.getElem?_toArray, List.getElem?_cons_succ, List.getElem?_cons_zero] at r0 r1 r2
      have KW := hid kW
      clear hW kW rW
      refine (mul64_is _ _ x y hi lo W (by omega) (by omega) (by omega) (by omega) HHI.out HLO.out).mono ?_
      rintro e w' ⟨rfl, rfl⟩
      go_wp2_with fail
      refine bodyPost_ret (v := .agg #[.bool true, .int .u64 hi, .int .u64 lo]) (by simp [results, Tryz.results31, go_sem, r0, r1, r2] <;> omega) rfl ⟨rfl, ?_⟩
      exact Kb.setCell (Kb.setCell (Kb.setCell KW.out (Or.inr (Nat.le_refl _)) _) (Or.inr (Nat.le_refl _)) _) (Or.inr (Nat.le_refl _)) _
  · rcases hys with rfl | ⟨rfl, hy0⟩
    · rw [decNeg' x hx0, decNeg y]
      go_enter Tryz.func31, Tryz.ntmps31
      go_wp2_with fail
      generalize hW : World.alloc _ _ = W
      have kW : Kb (fun _ => False) w W := by subst hW; exact (Kb.refl _ _).alloc _
      have rW : W.heap[w.heap.size]? = some (.cells #[.bool false, .int .u64 0, .int .u64 0] 50 (0, 0)) := by subst hW; exact heap_alloc_new w _
      have r0 := cell_of_heap rW 0
      have r1 := cell_of_heap rW 1
      have r2 := cell_of_heap rW 2
      have q0 := frozen_of_heap rW 0
      have q1 := frozen_of_heap rW 1
      have q2 := frozen_of_heap rW 2
      have hbl := block_lt rW
      simp only [List.getElem?_toArray, List.getElem?_cons_succ, List.getElem?_cons_zero] at r0 r1 r2
      have KW := hid kW
      clear hW kW rW
      refine (mul64_is _ _ x y hi lo W (by omega) (by omega) (by omega) (by omega) HHI.out HLO.out).mono ?_
      rintro e w' ⟨rfl, rfl⟩
      go_wp2_with fail
      refine bodyPost_ret (v := .agg #[.bool true, .int .u64 hi, .int .u64 lo]) (by simp [results, Tryz.results31, go_sem, r0, r1, r2] <;> omega) rfl ⟨rfl, ?_⟩
      exact Kb.setCell (Kb.setCell (Kb.setCell KW.out (Or.inr (Nat.le_refl _)) _) (Or.inr (Nat.le_refl _)) _) (Or.inr (Nat.le_refl _)) _
    · rw [decNeg' x hx0, decNeg' y hy0]
      go_enter Tryz.func31, Tryz.ntmps31
      go_wp2_with fail
      generalize hW : World.alloc _ _ = W
      have kW : Kb (fun _ => False) w W := by subst hW; exact (Kb.refl _ _).alloc _
      have rW : W.heap[w.heap.size]? = some (.cells #[.bool false, .int .u64 0, .int .u64 0] 50 (0, 0)) := by subst hW; exact heap_alloc_new w _
      have r0 := cell_of_heap rW 0
      have r1 := cell_of_heap rW 1
      have r2 := cell_of_heap rW 2
      have q0 := frozen_of_heap rW 0
      have q1 := frozen_of_heap rW 1
      have q2 := frozen_of_heap rW 2
      have hbl := block_lt rW
      simp only [List.getElem?_toArray, List.getElem?_cons_succ, List.getElem?_cons_zero] at r0 r1 r2
      have KW := hid kW
      clear hW kW rW
      refine (mul64_is _ _ x y hi lo W (by omega) (by omega) (by omega) (by omega) HHI.out HLO.out).mono ?_
      rintro e w' ⟨rfl, rfl⟩
      go_wp2_with fail
      refine bodyPost_ret (v := .agg #[.bool false, .int .u64 hi, .int .u64 lo]) (by simp [results, Tryz.results31, go_sem, r0, r1, r2] <;> omega) rfl ⟨rfl, ?_⟩
      exact Kb.setCell (Kb.setCell (Kb.setCell KW.out (Or.inr (Nat.le_refl _)) _) (Or.inr (Nat.le_refl _)) _) (Or.inr (Nat.le_refl _)) _

/-- What the package-level variables hold. -/
structure Env (w : World) : Prop where
  pow : ∀ k, k ≤ 18 → w.cell? ⟨0, k, none⟩ = some (.int .i64 ((10 ^ k : Nat) : Int))
  max : ∃ m, w.cell? ⟨3, 0, none⟩ = some (.int .i64 m)
  syn : ∃ tp p, w.var? Tryz.prog "strconv.ErrSyntax" = some #[.iface tp p]
  ran : ∃ tp p, w.var? Tryz.prog "strconv.ErrRange" = some #[.iface tp p]
  tab : Lib.TabIs Tryz.prog w "internal/strconv.uint64pow10" .u64 Lib.pow10Tab
theorem var_kb {w w' : World} {name : String} {cs : Array Value} (h : w.var? Tryz.prog name = some cs) (k : Kb (fun _ => False) w w') : w'.var? Tryz.prog name = some cs := by
  unfold World.var? at *
  cases hg : Tryz.prog.globalNamed name with
  | none => rw [hg] at h; cases h
  | some g =>
    rw [hg] at h
    simp only [Option.bind_some] at *
    cases ho : w.heap[g]? with
    | none => rw [ho] at h; cases h
    | some o =>
      rw [k.heap ho (by simp)]
      rw [ho] at h
      exact h
theorem Env.kb {w w' : World} (h : Env w) (k : Kb (fun _ => False) w w') : Env w' := by
  obtain ⟨h1, ⟨m, h2⟩, ⟨a, b, h3⟩, ⟨c, d, h4⟩, h5⟩ := h
  exact ⟨fun i hi => k.cell (h1 i hi) (by simp), ⟨m, k.cell h2 (by simp)⟩, ⟨a, b, var_kb h3 k⟩, ⟨c, d, var_kb h4 k⟩, var_kb h5 k⟩
def unitsV (n s : Int) : Value := if rightB n s then wideV (decide (n < 0)) (n.natAbs * 10 ^ (6 - s.toNat)) else wideV false 0
theorem product_is (a b : Int) (neg : Bool) (P hi lo : Nat) (w : World) (ha : a.natAbs ≤ 2000000000000000000) (hb : b.natAbs ≤ 2000000000000000000) (hn : (decide (a < 0) != decide (b < 0)) = neg) (hP : a.natAbs * b.natAbs = P) (h1 : P / 18446744073709551616 = hi) (h2 : P % 18446744073709551616 = lo) :
    Calls Tryz.prog 31 #[.int .i64 a, .int .i64 b] w fun e w' => e = .returned (.agg #[.bool neg, .int .u64 hi, .int .u64 lo]) ∧ Kb (fun _ => False) w w' := by
  have h := product_any a b w ha hb
  rw [hn, hP] at h
  unfold wideV at h
  rwa [h1, h2] at h
set_option maxRecDepth 100000 in
theorem sizeInt (w : World) : (sizeOf 3).run Tryz.prog w = .ok 1 w := by kernel_rfl
set_option maxRecDepth 100000 in
theorem run_pow (j : Nat) (hj : (j : Int) < 19) (w : World) : (Instr.indexAt 58 (.pointer (some ⟨0, 0, none⟩)) (.int .i64 (j : Int))).run Tryz.prog w = .ok (.pointer (some ⟨0, j, none⟩)) w := by
  have h := run_indexAt_array (P := Tryz.prog) (w := w) 58 ⟨0, 0, none⟩ .i64 (j : Int) Tryz.underlying58
  have e1 : Tryz.prog.arrayLen 58 = 19 := by kernel_rfl
  have e2 : Tryz.prog.elem 58 = 3 := by kernel_rfl
  rw [e1, e2, if_pos ⟨by omega, hj⟩, sizeInt] at h
  rw [h]
  simp [Result.andThen, Addr.add]
  omega
set_option maxHeartbeats 2000000 in
set_option maxRecDepth 100000 in
theorem units_core (n s x : Int) (k P hi lo : Nat) (neg : Bool) (w : World) (env : Env w) (hk : knownV n s = .agg #[.int .i64 x, .int .i64 k]) (hk6 : k ≤ 6) (hx : x.natAbs ≤ 1000000000000000) (hn : decide (x < 0) = neg) (hP : x.natAbs * 10 ^ (6 - k) = P) (h1 : P / 18446744073709551616 = hi) (h2 : P % 18446744073709551616 = lo) :
    Calls Tryz.prog 45 #[.agg #[.int .i64 n, .int .i64 s]] w fun e w' => e = .returned (.agg #[.bool neg, .int .u64 hi, .int .u64 lo]) ∧ Kb (fun _ => False) w w' := by
  have HK := hid (fun w => known_is n s x k w hk)
  obtain ⟨j, hj⟩ : ∃ j, j = 6 - k := ⟨_, rfl⟩
  have hp := env.pow j (by omega)
  have hg : 0 < w.heap.size := World.block_lt_of_cell? w _ hp
  have hp0 : ((10 ^ j : Nat) : Int).natAbs ≤ 2000000000000000000 := by
    rw [Int.natAbs_natCast]
    have : 10 ^ j ≤ 10 ^ 6 := Nat.pow_le_pow_right (by omega) (by omega)
    omega
  have hneg : (decide (x < 0) != decide (((10 ^ j : Nat) : Int) < 0)) = neg := by rw [hn, decNeg]; simp
  have hPP : x.natAbs * ((10 ^ j : Nat) : Int).natAbs = P := by rw [Int.natAbs_natCast, hj]; exact hP
  obtain ⟨p, hpp⟩ : ∃ p : Nat, 10 ^ j = p := ⟨_, rfl⟩
  rw [hpp] at hp hp0 hneg hPP
  have HC := hid (fun w => product_is x (p : Int) neg P hi lo w (by omega) hp0 hneg hPP h1 h2)
  have e1 : (6 : Int) - (k : Int) = (j : Int) := by omega
  have hj0 : (0 : Int) ≤ (j : Int) := by omega
  have hj1 : (j : Int) < 19 := by omega
  have r1 : decide ((0 : Int) ≤ (j : Int)) = true := decide_eq_true hj0
  have r2 : decide ((j : Int) < 19) = true := decide_eq_true hj1
  have E1 := hid e1
  have hix : ∀ wx : World, (Instr.indexAt 58 (.pointer (some ⟨0, 0, none⟩)) (.int .i64 (j : Int))).run Tryz.prog wx = .ok (.pointer (some ⟨0, j, none⟩)) wx := by
    intro wx
    exact run_pow j hj1 wx
  have hwj : IntKind.i64.wrap (j : Int) = (j : Int) := IntWalk.i64_in _ (by omega)
  clear env hk hn hP h1 h2 hj hpp hp0 hneg hPP e1
  go_enter Tryz.func45, Tryz.ntmps45
  go_wp2_with fail
  refine (HK.out _).mono ?_; rintro e w1 ⟨rfl, k1⟩; obtain ⟨C, m, rfl⟩ := grew_of k1; clear k1
  have e1 := E1.out
  go_wp2_with fail
  go_still_tail 7, (by kernel_rfl)
  go_wp2_with fail
  refine (HC.out _).mono ?_; rintro e w1 ⟨rfl, k1⟩; obtain ⟨C, m, rfl⟩ := grew_of k1; clear k1
  go_wp2_with fail
  exact bodyPost_ret (v := .agg #[.bool neg, .int .u64 hi, .int .u64 lo]) (by simp [results, Tryz.results45, go_sem]) rfl ⟨rfl, (by repeat (with_reducible first | exact Kb.refl _ _ | exact KW.out | refine Kb.setC ?_ (by assumption) | apply Kb.drew | apply Kb.drewN | apply Kb.grew | apply Kb.alloc))⟩
end Go.Proofs.YtkhjgfbiemllmaaGreatDoor
namespace Go.Proofs.YtkhjgfbiemllmaaGreatDoor
open Go.RowKit

theorem and32 (a : Int) (n : Nat) (h : a = n) (hn : n < 18446744073709551616) : bits BinOp.and IntKind.u64 a 4294967295 = ((n % 4294967296 : Nat) : Int) := by
  subst h
  rw [show (4294967295 : Int) = ((4294967295 : Nat) : Int) from rfl, bits_and_u64_nat n 4294967295 hn (by omega)]
  rw [show (4294967295 : Nat) = 2 ^ 32 - 1 from rfl, Nat.and_two_pow_sub_one_eq_mod]
theorem dn1 (h l U : Nat) (hh : h < 10) (hl : l < 18446744073709551616) (hU : U = h * 1152921504606846976 + l / 16) : U < 11529215046068469760 := by omega
theorem dn2 (l V : Nat) (hV : V = (l % 16) * 1152921504606846976) : V < 18446744073709551616 ∧ V % 4294967296 = 0 := by omega
theorem dn3 (U q1 rh : Nat) (hU : U < 11529215046068469760) (h1 : q1 = U / 2684354560) (h2 : rh = U % 2684354560) : q1 < 4294967296 ∧ rh < 2684354560 ∧ q1 * 2684354560 + rh = U := by omega
theorem dn4 (V u1 : Nat) (hV : V < 18446744073709551616 ∧ V % 4294967296 = 0) (h1 : u1 = V / 4294967296) : u1 < 4294967296 ∧ u1 * 4294967296 = V := by omega
theorem dn5 (rh u1 U2 : Nat) (h1 : rh < 2684354560) (h2 : u1 < 4294967296) (h : U2 = rh * 4294967296 + u1) : U2 < 11529215046068469760 := by omega
theorem dn6a (m V u1 : Nat) (hV : V = m * 1152921504606846976) (a2 : u1 * 4294967296 = V) : u1 = m * 268435456 := by omega
theorem dn6b (h l U : Nat) (hU : U = h * 1152921504606846976 + l / 16) : h * 18446744073709551616 + l = 16 * U + l % 16 := by omega
theorem dn6c (U q1 rh u1 U2 q0 r0 : Nat) (a1 : q1 * 2684354560 + rh = U) (a3 : U2 = rh * 4294967296 + u1) (a4 : q0 * 2684354560 + r0 = U2) : U * 4294967296 + u1 = (q1 * 4294967296 + q0) * 2684354560 + r0 := by
  rw [Nat.add_mul, Nat.mul_assoc, Nat.mul_comm 4294967296 2684354560, ← Nat.mul_assoc]
  generalize 4294967296 = c at *
  subst a3
  rw [← a1, Nat.add_mul]
  omega
theorem dn6 (h l U V q1 rh u1 U2 q0 r0 : Nat) (hU : U = h * 1152921504606846976 + l / 16) (hV : V = (l % 16) * 1152921504606846976) (a1 : q1 * 2684354560 + rh = U) (a2 : u1 * 4294967296 = V) (a3 : U2 = rh * 4294967296 + u1) (a4 : q0 * 2684354560 + r0 = U2) :
    (h * 18446744073709551616 + l) * 268435456 = (q1 * 4294967296 + q0) * 2684354560 + r0 := by
  rw [dn6b h l U hU, ← dn6c U q1 rh u1 U2 q0 r0 a1 a3 a4, dn6a _ V u1 hV a2]
  generalize l % 16 = m
  rw [Nat.add_mul, Nat.mul_comm 16 U, Nat.mul_assoc]
theorem dn7 (N Q r0 q r : Nat) (h : N * 268435456 = Q * 2684354560 + r0) (hr : r0 < 2684354560) (hq : N / 10 = q) (hrr : N % 10 = r) : Q = q ∧ r0 = r * 268435456 := by omega
theorem dn12a (a b c M : Int) : (((a % M + b) % M) - c % M) % M = (a + b - c) % M := by
  rw [Int.sub_emod_emod, Int.emod_sub_emod]
  rw [Int.add_sub_assoc, Int.emod_add_emod, ← Int.add_sub_assoc]
theorem dn12b (U q1 rh u1 U2 : Nat) (hU : q1 * 2684354560 + rh = U) (h2 : U2 = rh * 4294967296 + u1) : (U : Int) * 4294967296 + u1 - (q1 : Int) * 11529215046068469760 = U2 := by
  have hU' : (U : Int) = (q1 : Int) * 2684354560 + rh := by omega
  have h2' : (U2 : Int) = (rh : Int) * 4294967296 + u1 := by omega
  rw [show (11529215046068469760 : Int) = 2684354560 * 4294967296 from rfl, ← Int.mul_assoc, hU', h2', Int.add_mul]
  generalize (q1 : Int) * 2684354560 * 4294967296 = a
  omega
theorem dn12 (U q1 rh u1 U2 : Nat) (hU : q1 * 2684354560 + rh = U) (h2 : U2 = rh * 4294967296 + u1) (hlt : U2 < 11529215046068469760) :
    IntKind.u64.wrap (IntKind.u64.wrap (IntKind.u64.wrap ((U : Int) * 4294967296) + (u1 : Int)) - IntKind.u64.wrap ((q1 : Int) * 11529215046068469760)) = (U2 : Int) := by
  simp only [IntKind.wrap_u64]
  rw [dn12a, dn12b U q1 rh u1 U2 hU h2]
  omega
theorem dn15 (U2 q0 r0 r : Nat) (h : q0 * 2684354560 + r0 = U2) (hr : r0 = r * 268435456) (hr10 : r < 10) :
    IntKind.u64.wrap (IntKind.u64.wrap (IntKind.u64.wrap ((U2 : Int) * 4294967296)) - IntKind.u64.wrap ((q0 : Int) * 11529215046068469760)) / 1152921504606846976 = (r : Int) := by
  have e := dn12b U2 q0 r0 0 (r0 * 4294967296) h (Nat.add_zero _).symm
  have f := dn12a ((U2 : Int) * 4294967296) ((0 : Nat) : Int) ((q0 : Int) * 11529215046068469760) 18446744073709551616
  rw [e] at f
  rw [show ((0 : Nat) : Int) = 0 from rfl, Int.add_zero] at f
  simp only [IntKind.wrap_u64]
  rw [f]
  clear e f h
  omega
theorem dn13 (q1 q0 q : Nat) (h1 : q1 < 4294967296) (h0 : q0 < 4294967296) (h : q1 * 4294967296 + q0 = q) : IntKind.u64.wrap (IntKind.u64.wrap ((q1 : Int) * 4294967296) + (q0 : Int)) = (q : Int) := by
  simp only [IntKind.wrap_u64]
  omega
theorem dn14 (a : Int) : decide (IntKind.u64.wrap a < 0) = false := by
  apply decide_eq_false
  rw [IntKind.wrap_u64]
  omega
theorem dn8 (l V : Nat) (hV : V = (l % 16) * 1152921504606846976) : IntKind.u64.wrap ((l : Int) * 1152921504606846976) = (V : Int) := by
  rw [IntKind.wrap_u64, hV, show (18446744073709551616 : Int) = 16 * 1152921504606846976 from rfl, Int.mul_comm (l : Int), Int.mul_comm 16, Int.mul_emod_mul_of_pos _ _ (by omega)]
  omega
theorem dn9 (U q1 rh : Nat) (hU : U < 11529215046068469760) (h : q1 * 2684354560 + rh = U) : IntKind.u64.wrap ((U : Int) - IntKind.u64.wrap ((q1 : Int) * 2684354560)) = (rh : Int) := by
  rw [IntKind.wrap_u64, IntKind.wrap_u64]; omega
theorem dn10 (U q1 : Nat) (hU : U < 11529215046068469760) (h : q1 = U / 2684354560) : IntKind.u64.wrap ((U : Int) / 2684354560) = (q1 : Int) := by
  rw [IntKind.wrap_u64]; omega
theorem dn11 (V : Nat) (h : V < 18446744073709551616 ∧ V % 4294967296 = 0) : bits BinOp.and IntKind.u64 (V : Int) 4294967295 = 0 := by
  rw [and32 _ V rfl h.1, h.2]; rfl
theorem or60 (h l : Nat) (hh : h < 10) (hl : l < 18446744073709551616) : bits BinOp.or IntKind.u64 ((h : Int) * 1152921504606846976) ((l : Int) / 16) = ((h * 1152921504606846976 + l / 16 : Nat) : Int) := by
  rw [show ((h : Int) * 1152921504606846976) = ((h * 1152921504606846976 : Nat) : Int) from by omega, show ((l : Int) / 16) = ((l / 16 : Nat) : Int) from by omega]
  rw [bits_or_u64_nat _ _ (by omega) (by omega)]
  have e := Nat.two_pow_add_eq_or_of_lt (i := 60) (b := l / 16) (by omega) h
  rw [show (2 : Nat) ^ 60 = 1152921504606846976 from rfl] at e
  rw [Nat.mul_comm h, ← e]
theorem lz10_is (x : Int) (w : World) (hx : x = 10) :
    Calls Tryz.prog 80 #[.int .u64 x] w fun e w' => e = .returned (.int .i64 60) ∧ w' = w := by
  subst hx
  refine (Tryz.bits_LeadingZeros64 10 w (by omega) (by omega)).mono ?_
  rintro e w' ⟨rfl, rfl⟩
  exact ⟨by rw [show (10 : Int).toNat = 10 from rfl, show Lib.bitLen 10 = 4 from by decide]; rfl, rfl⟩
set_option maxHeartbeats 4000000 in
set_option maxRecDepth 100000 in
theorem div10_zero (l q r : Nat) (w : World) (hl : l < 18446744073709551616) (hq : l / 10 = q) (hr : l % 10 = r) :
    Calls Tryz.prog 52 #[.int .u64 ((0 : Nat) : Int), .int .u64 l, .int .u64 10] w fun e w' => e = .returned (.tuple #[.int .u64 q, .int .u64 r]) ∧ Kb (fun _ => False) w w' := by
  have h1 : IntKind.u64.wrap ((l : Int).tdiv 10) = q := by
    rw [Int.tdiv_eq_ediv_of_nonneg (by omega)]
    rw [IntKind.wrap_u64]
    omega
  have h2 : IntKind.u64.wrap ((l : Int).tmod 10) = r := by
    rw [Int.tmod_eq_emod_of_nonneg (by omega)]
    rw [IntKind.wrap_u64]
    omega
  go_enter Tryz.func52, Tryz.ntmps52
  go_wp2_with fail
  go_quiet (fail)
  go_wp2_with fail
  refine bodyPost_ret (v := .tuple #[.int .u64 q, .int .u64 r]) (by simp [results, Tryz.results52, go_sem]; omega) rfl ⟨rfl, Kb.drewN (Kb.refl _ _) _⟩
set_option maxHeartbeats 4000000 in
set_option maxRecDepth 100000 in
theorem div10_pos (h l q r : Nat) (w : World) (h0 : 0 < h) (hh : h < 10) (hl : l < 18446744073709551616) (hq : (h * 18446744073709551616 + l) / 10 = q) (hr : (h * 18446744073709551616 + l) % 10 = r) :
    Calls Tryz.prog 52 #[.int .u64 h, .int .u64 l, .int .u64 10] w fun e w' => e = .returned (.tuple #[.int .u64 q, .int .u64 r]) ∧ Kb (fun _ => False) w w' := by
  obtain ⟨U, hU⟩ : ∃ U, U = h * 1152921504606846976 + l / 16 := ⟨_, rfl⟩
  obtain ⟨V, hV⟩ : ∃ V, V = (l % 16) * 1152921504606846976 := ⟨_, rfl⟩
  obtain ⟨q1, hq1⟩ : ∃ q1, q1 = U / 2684354560 := ⟨_, rfl⟩
  obtain ⟨rh, hrh⟩ : ∃ rh, rh = U % 2684354560 := ⟨_, rfl⟩
  obtain ⟨u1, hu1⟩ : ∃ u1, u1 = V / 4294967296 := ⟨_, rfl⟩
  obtain ⟨U2, hU2⟩ : ∃ U2, U2 = rh * 4294967296 + u1 := ⟨_, rfl⟩
  obtain ⟨q0, hq0⟩ : ∃ q0, q0 = U2 / 2684354560 := ⟨_, rfl⟩
  obtain ⟨r0, hr0⟩ : ∃ r0, r0 = U2 % 2684354560 := ⟨_, rfl⟩
  have hUlt := dn1 h l U hh hl hU
  have hVlt := dn2 l V hV
  have h3 := dn3 U q1 rh hUlt hq1 hrh
  have h4 := dn4 V u1 hVlt hu1
  have hU2lt := dn5 rh u1 U2 h3.2.1 h4.1 hU2
  have h5 := dn3 U2 q0 r0 hU2lt hq0 hr0
  have h6 := dn6 h l U V q1 rh u1 U2 q0 r0 hU hV h3.2.2 h4.2 hU2 h5.2.2
  obtain ⟨h7, h8⟩ := dn7 _ _ r0 q r h6 h5.2.1 hq hr
  have hrl : r < 10 := by rw [← hr]; exact Nat.mod_lt _ (by omega)
  clear h6
  have e1 : decide (10 ≤ (h : Int)) = false := decide_eq_false (by clear hU hV hq hr h7 h8; omega)
  have e2 : ((h : Int) == 0) = false := by rw [beq_eq_false_iff_ne]; clear hU hV hq hr h7 h8; omega
  have eA : bits BinOp.and IntKind.u64 11529215046068469760 4294967295 = 0 := by
    exact (and32 (11529215046068469760 : Int) 11529215046068469760 rfl (by decide)).trans rfl
  have eO : bits BinOp.or IntKind.u64 (IntKind.u64.wrap ((h : Int) * 1152921504606846976)) ((l : Int) / 16) = (U : Int) := by
    rw [show IntKind.u64.wrap ((h : Int) * 1152921504606846976) = (h : Int) * 1152921504606846976 from by rw [IntKind.wrap_u64]; clear hU hV hq hr h7 h8; omega, or60 h l hh hl, hU]
  have eS := dn8 l V hV
  have eB := dn11 V hVlt
  have eV : (V : Int) / 4294967296 = (u1 : Int) := by rw [hu1]; rfl
  have eQ := dn10 U q1 hUlt hq1
  have eR := dn9 U q1 rh hUlt h3.2.2
  have e3 : decide (4294967296 ≤ (q1 : Int)) = false := decide_eq_false (by have := h3.1; clear hU hV hq hr h7 h8; omega)
  have e4 := dn14 (IntKind.u64.wrap (4294967296 * (rh : Int)) + (u1 : Int))
  have e5 := dn12 U q1 rh u1 U2 h3.2.2 hU2 hU2lt
  have e6 := dn10 U2 q0 hU2lt hq0
  have e7 := dn9 U2 q0 r0 hU2lt h5.2.2
  have e8 : decide (4294967296 ≤ (q0 : Int)) = false := decide_eq_false (by have := h5.1; clear hU hV hq hr h7 h8 hU2; omega)
  have e9 := dn13 q1 q0 q h3.1 h5.1 h7
  have e10 := dn14 (IntKind.u64.wrap (4294967296 * (r0 : Int)))
  have E5 := hid e5
  have E6 := hid e6
  have E7 := hid e7
  have E8 := hid e8
  have E9 := hid e9
  have E10 := hid e10
  clear e5 e6 e7 e8 e9 e10
  have E11 := hid (dn15 U2 q0 r0 r h5.2.2 h8 hrl)
  have HH := hid (And.intro h7 (And.intro h8 hrl))
  have HL := hid (And.intro h3 (And.intro h4 h5))
  clear hq hr hU hV hq1 hrh hu1 hU2 hq0 hr0 hUlt hVlt h3 h4 hU2lt h5 h7 h8 hrl hh hl h0
  go_enter Tryz.func52, Tryz.ntmps52
  go_wp2_with fail
  refine (lz10_is _ w rfl).mono ?_
  rintro e w' ⟨rfl, rfl⟩
  go_wp2_with fail
  go_loop [15, 16] (fun a b => a = .int .u64 q1 ∧ b = .int .u64 rh) (fun _ _ => 0)
  case atStart => exact ⟨rfl, rfl⟩
  case round =>
    obtain ⟨rfl, rfl⟩ := hrel
    have e5 := E5.out
    have e6 := E6.out
    have e7 := E7.out
    go_wp2_with fail
    have e8 := E8.out
    have e9 := E9.out
    have e10 := E10.out
    clear e5 e6 e7 e1 e2 eA eO eS eB eV eQ eR e3 e4
    go_loop [18, 16] (fun a b => a = .int .u64 q0 ∧ b = .int .u64 r0) (fun _ _ => 0)
    case atStart => exact ⟨rfl, rfl⟩
    case round =>
      obtain ⟨rfl, rfl⟩ := hrel
      go_wp2_with fail
      refine bodyPost_ret (v := .tuple #[.int .u64 q, .int .u64 r]) ?_ rfl ⟨rfl, Kb.refl _ _⟩
      simp [results, Tryz.results52, go_sem]
      exact E11.out
  
end Go.Proofs.YtkhjgfbiemllmaaGreatDoor
namespace Go.Proofs.YtkhjgfbiemllmaaGreatDoor
open Go.RowKit

theorem div10_any (h l q r : Nat) (w : World) (hh : h < 10) (hl : l < 18446744073709551616) (hq : (h * 18446744073709551616 + l) / 10 = q) (hr : (h * 18446744073709551616 + l) % 10 = r) :
    Calls Tryz.prog 52 #[.int .u64 h, .int .u64 l, .int .u64 10] w fun e w' => e = .returned (.tuple #[.int .u64 q, .int .u64 r]) ∧ Kb (fun _ => False) w w' := by
  cases h with
  | zero => exact div10_zero l q r w hl (by rw [← hq, Nat.zero_mul, Nat.zero_add]) (by rw [← hr, Nat.zero_mul, Nat.zero_add])
  | succ h => exact div10_pos (h + 1) l q r w (by omega) hh hl hq hr
theorem div10_is (p : Int) (h l q r : Nat) (w : World) (hp : p = h) (hh : h < 10) (hl : l < 18446744073709551616) (hq : (h * 18446744073709551616 + l) / 10 = q) (hr : (h * 18446744073709551616 + l) % 10 = r) :
    Calls Tryz.prog 52 #[.int .u64 p, .int .u64 l, .int .u64 10] w fun e w' => e = .returned (.tuple #[.int .u64 q, .int .u64 r]) ∧ Kb (fun _ => False) w w' := by
  subst hp
  exact div10_any h l q r w hh hl hq hr
theorem units_any (n s : Int) (w : World) (env : Env w) :
    Calls Tryz.prog 45 #[.agg #[.int .i64 n, .int .i64 s]] w fun e w' => e = .returned (unitsV n s) ∧ Kb (fun _ => False) w w' := by
  unfold unitsV
  cases hr : rightB n s
  · have hk : knownV n s = .agg #[.int .i64 0, .int .i64 ((0 : Nat) : Int)] := by unfold knownV; rw [hr]; rfl
    have h := units_core n s 0 0 0 0 0 false w env hk (by omega) (by omega) rfl rfl rfl rfl
    exact h
  · have hb := hr
    unfold rightB at hb
    simp only [decide_eq_true_eq] at hb
    have hk : knownV n s = .agg #[.int .i64 n, .int .i64 (s.toNat : Int)] := by
      unfold knownV
      rw [hr, show (s.toNat : Int) = s from by omega]
      rfl
    exact units_core n s n s.toNat _ _ _ _ w env hk (by omega) (by omega) rfl rfl rfl rfl
theorem sm_step (hi lo P h1 rs low last : Nat) (hlo : lo < 18446744073709551616) (hP : hi * 18446744073709551616 + lo = P) (e1 : hi / 10 = h1) (e2 : hi % 10 = rs)
    (e3 : (rs * 18446744073709551616 + lo) / 10 = low) (e4 : (rs * 18446744073709551616 + lo) % 10 = last) : h1 * 18446744073709551616 + low = P / 10 ∧ P % 10 = last ∧ low < 18446744073709551616 ∧ rs < 10 := by
  generalize 18446744073709551616 = M at *
  have h : hi = 10 * h1 + rs := by clear hP e3 e4; omega
  have hrs : rs < 10 := by clear hP e3 e4; omega
  have hx : rs * M ≤ 9 * M := Nat.mul_le_mul_right _ (by omega)
  have hPP : P = 10 * (h1 * M) + (rs * M + lo) := by
    rw [← hP, h, Nat.add_mul, Nat.mul_assoc, Nat.add_assoc]
  clear hP h e1 e2
  generalize h1 * M = a at *
  generalize rs * M = b at *
  omega
theorem wsmall_yes (neg : Bool) (P s P' k : Nat) (h : strip k P' = strip s P) (hk : k = 0 ∨ P' % 10 ≠ 0) (h1 : P' ≤ 1000000000000000) (h2 : k ≤ 6) : fitV neg P s = okDec (sgn neg P') k := by
  rw [strip_stop k _ hk] at h
  have := fitV_yes neg P s (by rw [← h]; exact h1) (by rw [← h]; exact h2)
  rw [this, ← h]
theorem wsmall_no (neg : Bool) (P s P' k : Nat) (h : strip k P' = strip s P) (hk : k = 0 ∨ P' % 10 ≠ 0) (h1 : 1000000000000000 < P' ∨ 6 < k) : fitV neg P s = noDec := by
  rw [strip_stop k _ hk] at h
  exact fitV_no neg P s (by rw [← h]; exact h1)
def scaleOf (v : Value) : Nat := (intOf v).toNat
attribute [local go_sem ↓] Go.wp_at_zero Go.wp_at_succ
set_option maxHeartbeats 4000000 in
set_option maxRecDepth 100000 in
theorem wide_small (neg : Bool) (hi lo s P : Nat) (w : World) (hhi : hi < 18446744073709551616) (hlo : lo < 18446744073709551616) (hs : s ≤ 1000) (hP : hi * 18446744073709551616 + lo = P) :
    Calls Tryz.prog 32 #[.agg #[.bool neg, .int .u64 hi, .int .u64 lo], .int .i64 s] w fun e w' => e = .returned (fitV neg P s) ∧ Kb (fun _ => False) w w' := by
  have HP := hid hP
  have HHI := hid hhi
  have HLO := hid hlo
  clear hP hhi hlo
  go_enter Tryz.func32, Tryz.ntmps32
  go_wp2_with fail
  generalize hW : World.alloc _ _ = W
  have kW : Kb (fun _ => False) w W := by subst hW; exact ((Kb.refl _ _).alloc _).alloc _
  have bW : W.heap[w.heap.size]? = some (.cells #[.bool neg, .int .u64 hi, .int .u64 lo] 50 (0, 0)) := by
    subst hW
    rw [Below.heap_alloc _ _ _ (by simp)]
    exact heap_alloc_new w _
  have rW : W.heap[w.heap.size + 1]? = some (.cells #[.int .i64 0, .int .i64 0] 23 (0, 0)) := by
    subst hW
    have h := heap_alloc_new (w.alloc (.cells #[.bool neg, .int .u64 hi, .int .u64 lo] 50)) (.cells #[.int .i64 0, .int .i64 0] 23)
    simpa using h
  obtain ⟨tb, htb⟩ : ∃ tb, tb = w.heap.size := ⟨_, rfl⟩
  have HTB := hid htb
  rw [← htb]
  rw [← htb] at bW rW
  have KW := hid kW
  have BW := hid bW
  have RW := hid rW
  clear hW htb kW bW rW
  go_loopw [1, 6, 7, 8, 9] (fun kv _ _ _ _ wr => ∃ h l k : Nat, kv = .int .i64 k ∧ k ≤ s ∧ Hid (wr.heap[tb]? = some (.cells #[.bool neg, .int .u64 h, .int .u64 l] 50 (0, 0))) ∧ Hid (wr.heap[tb + 1]? = some (.cells #[.int .i64 0, .int .i64 0] 23 (0, 0))) ∧ Hid (Kb (fun _ => False) w wr) ∧ h < 18446744073709551616 ∧ l < 18446744073709551616 ∧ Hid (strip k (h * 18446744073709551616 + l) = strip s P))
    (fun kv _ _ _ _ _ => scaleOf kv)
  case atStart => exact ⟨hi, lo, s, rfl, Nat.le_refl _, BW.out, RW.out, KW.out, HHI.out, HLO.out, by (show strip s _ = _); rw [HP.out]⟩
  case round =>
    obtain ⟨h, l, k, rfl, hk, hB, hR, hkb, hh, hl, hst⟩ := hrel
    have hbl : tb + 1 < wr.heap.size := block_lt hR.out
    have b0 := cell_of_heap hB.out 0
    have b1 := cell_of_heap hB.out 1
    have b2 := cell_of_heap hB.out 2
    have f1 := frozen_of_heap hB.out 1
    have f2 := frozen_of_heap hB.out 2
    simp only [List.getElem?_toArray, List.getElem?_cons_succ, List.getElem?_cons_zero] at b0 b1 b2
    have hbl0 : tb < wr.heap.size := by omega
    have r0 := cell_of_heap hR.out 0
    have r1 := cell_of_heap hR.out 1
    have q0 := frozen_of_heap hR.out 0
    have q1 := frozen_of_heap hR.out 1
    simp only [List.getElem?_toArray, List.getElem?_cons_succ, List.getElem?_cons_zero] at r0 r1
    cases k with
    | zero =>
      have HF := hid (show (0 : Nat) = 0 ∨ (h * 18446744073709551616 + l) % 10 ≠ 0 from Or.inl rfl)
      have HST := hst
      by_cases ch : 0 < h
      · have HV := hid (wsmall_no neg P s (h * 18446744073709551616 + l) 0 HST.out HF.out (Or.inl (by omega)))
        have c1 : decide (0 < (h : Int)) = true := decide_eq_true (by omega)
        have c2 : decide (0 < h) = true := decide_eq_true ch
        go_wp2_with fail
        refine bodyPost_ret (v := noDec) (by simp [results, Tryz.results32, go_sem, noDec, r0, r1]) rfl ⟨congrArg Ending.returned HV.out.symm, ?_⟩
        exact Kb.setCell (Kb.setCell hkb.out (Or.inr (by have := HTB.out; show w.heap.size ≤ tb + 1; omega)) _) (Or.inr (by have := HTB.out; show w.heap.size ≤ tb + 1; omega)) _
      · have hz : h = 0 := by omega
        subst hz
        have HST2 := hid (show strip (0) l = strip s P from by have := HST.out; rwa [Nat.zero_mul, Nat.zero_add] at this)
        have HF2 := hid (show (0) = 0 ∨ l % 10 ≠ 0 from by have := HF.out; rwa [Nat.zero_mul, Nat.zero_add] at this)
        clear ch
        by_cases cl : 1000000000000000 < l
        · have HV := hid (wsmall_no neg P s l (0) HST2.out HF2.out (Or.inl cl))
          have c1 : decide (1000000000000000 < (l : Int)) = true := decide_eq_true (by omega)
          have c2 : decide (1000000000000000 < l) = true := decide_eq_true cl
          go_wp2_with fail
          refine bodyPost_ret (v := noDec) (by simp [results, Tryz.results32, go_sem, noDec, r0, r1]) rfl ⟨congrArg Ending.returned HV.out.symm, ?_⟩
          exact Kb.setCell (Kb.setCell hkb.out (Or.inr (by have := HTB.out; show w.heap.size ≤ tb + 1; omega)) _) (Or.inr (by have := HTB.out; show w.heap.size ≤ tb + 1; omega)) _
        · have c1 : decide (1000000000000000 < (l : Int)) = false := decide_eq_false (by omega)
          by_cases ck : 6 < 0
          · exfalso; omega
          · have HV := hid (wsmall_yes neg P s l (0) HST2.out HF2.out (by omega) (by omega))
            have c2 : decide (6 < ((0 : Nat) : Int)) = false := decide_eq_false (by omega)
            have HL := hid cl
            have e1 : IntKind.i64.wrap (l : Int) = l := IntWalk.i64_in _ (by omega)
            have e2 : IntKind.i64.wrap (-(l : Int)) = -(l : Int) := IntWalk.i64_in _ (by omega)
            cases neg
            · go_wp2_with fail
              refine bodyPost_ret (v := okDec ((l : Nat) : Int) (0)) (by simp [results, Tryz.results32, go_sem, okDec, r0, r1]) rfl ⟨congrArg Ending.returned HV.out.symm, ?_⟩
              exact Kb.setCell (Kb.setCell hkb.out (Or.inr (by have := HTB.out; show w.heap.size ≤ tb + 1; omega)) _) (Or.inr (by have := HTB.out; show w.heap.size ≤ tb + 1; omega)) _
            · go_wp2_with fail
              refine bodyPost_ret (v := okDec (-((l : Nat) : Int)) (0)) (by simp [results, Tryz.results32, go_sem, okDec, r0, r1]) rfl ⟨congrArg Ending.returned HV.out.symm, ?_⟩
              exact Kb.setCell (Kb.setCell hkb.out (Or.inr (by have := HTB.out; show w.heap.size ≤ tb + 1; omega)) _) (Or.inr (by have := HTB.out; show w.heap.size ≤ tb + 1; omega)) _
    | succ k =>
      obtain ⟨h1, e1⟩ : ∃ h1, h / 10 = h1 := ⟨_, rfl⟩
      obtain ⟨rs, e2⟩ : ∃ rs, h % 10 = rs := ⟨_, rfl⟩
      obtain ⟨low, e3⟩ : ∃ low, (rs * 18446744073709551616 + l) / 10 = low := ⟨_, rfl⟩
      obtain ⟨last, e4⟩ : ∃ last, (rs * 18446744073709551616 + l) % 10 = last := ⟨_, rfl⟩
      obtain ⟨s1, s2, s3, s4⟩ := sm_step h l _ h1 rs low last hl rfl e1 e2 e3 e4
      have hh1 : h1 < 18446744073709551616 := by clear s1 s2 s3 e3 e4; omega
      have E1 : (h : Int) / 10 = (h1 : Int) := by rw [← e1]; rfl
      have E2 : (h : Int) % 10 = (rs : Int) := by rw [← e2]; rfl
      have E5 : (h : Int).tmod 10 = (rs : Int) := by rw [Int.tmod_eq_emod_of_nonneg (by omega)]; exact E2
      have E6 : IntKind.u64.wrap (h1 : Int) = (h1 : Int) := by rw [IntKind.wrap_u64]; clear s1 s2 s3 e3 e4; omega
      have S1 := hid s1
      have S2 := hid s2
      have E3 := hid e3
      have E4 := hid e4
      clear e1 e2 e3 e4 s1 s2
      go_wp2_with fail
      go_region_held3 (fun w' => w'.cell? ⟨tb, 1, none⟩ = some (.int .u64 h)) (first | go_keep | trivial) (fail)
      go_wp2_with fail
      refine (div10_is _ rs l low last wr.drew (by first | rfl | exact E5 | exact E2) (by omega) hl E3.out E4.out).mono ?_
      rintro e w1 ⟨rfl, kq⟩
      have b0 := kq.cell (p := ⟨tb, 0, none⟩) b0 (by simp)
      have b1 := kq.cell (p := ⟨tb, 1, none⟩) b1 (by simp)
      have b2 := kq.cell (p := ⟨tb, 2, none⟩) b2 (by simp)
      have r0 := kq.cell (p := ⟨tb + 1, 0, none⟩) r0 (by simp)
      have r1 := kq.cell (p := ⟨tb + 1, 1, none⟩) r1 (by simp)
      have f1 := (kq.frozen (p := ⟨tb, 1, none⟩) hbl0 (by simp)).trans f1
      have f2 := (kq.frozen (p := ⟨tb, 2, none⟩) hbl0 (by simp)).trans f2
      have q0 := (kq.frozen (p := ⟨tb + 1, 0, none⟩) hbl (by simp)).trans q0
      have q1 := (kq.frozen (p := ⟨tb + 1, 1, none⟩) hbl (by simp)).trans q1
      have hbl := Nat.lt_of_lt_of_le hbl kq.size
      have hbl0 := Nat.lt_of_lt_of_le hbl0 kq.size
      have B1 := hid (kq.heap hB.out (by simp))
      have R1 := hid (kq.heap hR.out (by simp))
      have KQ := hid (Kb.trans hkb.out (Kb.of_draw kq))
      clear kq hB hR hkb
      by_cases hz : last = 0
      · subst hz
        go_wp2_with fail
        generalize hW3 : World.setCell _ _ _ = W3
        have k3 : Kb (fun x => x = tb) w1 W3 := by subst hW3; exact Kb.setCell (S := fun x => x = tb) (Kb.setCell (S := fun x => x = tb) (Kb.refl _ _) (Or.inl rfl) _) (Or.inl rfl) _
        refine ⟨⟨h1, low, k, by go_num, by omega, ?_, ?_, ?_, hh1, s3, ?_⟩, by simp [scaleOf, intOf] <;> omega⟩
        · subst hW3
          show _ = _
          rw [heap_setCell_same _ tb 2 _ 50 _ (heap_setCell_same w1 tb 1 _ 50 _ B1.out)]
          rfl
        · exact k3.heap R1.out (by omega)
        · exact KQ.out.trans' k3 (fun i hi e => by have := HTB.out; omega)
        · have h1 := hst.out
          rw [strip_step k _ S2.out, ← S1.out] at h1
          exact h1
      · have c0 : ((last : Int) != 0) = true := by rw [bne_iff_ne]; omega
        have HF := hid (show (k + 1 = 0) ∨ (h * 18446744073709551616 + l) % 10 ≠ 0 from Or.inr (by rw [S2.out]; exact hz))
        have HST := hst
        clear hz hst
        clear E1 E2 E5 E6 hh1 s3 s4
        by_cases ch : 0 < h
        · have HV := hid (wsmall_no neg P s (h * 18446744073709551616 + l) (k + 1) HST.out HF.out (Or.inl (by omega)))
          have c1 : decide (0 < (h : Int)) = true := decide_eq_true (by omega)
          have c2 : decide (0 < h) = true := decide_eq_true ch
          go_wp2_with fail
          refine bodyPost_ret (v := noDec) (by simp [results, Tryz.results32, go_sem, noDec, r0, r1]) rfl ⟨congrArg Ending.returned HV.out.symm, ?_⟩
          exact Kb.setCell (Kb.setCell KQ.out (Or.inr (by have := HTB.out; show w.heap.size ≤ tb + 1; omega)) _) (Or.inr (by have := HTB.out; show w.heap.size ≤ tb + 1; omega)) _
        · have hz : h = 0 := by omega
          subst hz
          have HST2 := hid (show strip ((k + 1)) l = strip s P from by have := HST.out; rwa [Nat.zero_mul, Nat.zero_add] at this)
          have HF2 := hid (show ((k + 1)) = 0 ∨ l % 10 ≠ 0 from by have := HF.out; rwa [Nat.zero_mul, Nat.zero_add] at this)
          clear ch
          by_cases cl : 1000000000000000 < l
          · have HV := hid (wsmall_no neg P s l ((k + 1)) HST2.out HF2.out (Or.inl cl))
            have c1 : decide (1000000000000000 < (l : Int)) = true := decide_eq_true (by omega)
            have c2 : decide (1000000000000000 < l) = true := decide_eq_true cl
            go_wp2_with fail
            refine bodyPost_ret (v := noDec) (by simp [results, Tryz.results32, go_sem, noDec, r0, r1]) rfl ⟨congrArg Ending.returned HV.out.symm, ?_⟩
            exact Kb.setCell (Kb.setCell KQ.out (Or.inr (by have := HTB.out; show w.heap.size ≤ tb + 1; omega)) _) (Or.inr (by have := HTB.out; show w.heap.size ≤ tb + 1; omega)) _
          · have c1 : decide (1000000000000000 < (l : Int)) = false := decide_eq_false (by omega)
            by_cases ck : 6 < (k + 1)
            · have HV := hid (wsmall_no neg P s l ((k + 1)) HST2.out HF2.out (Or.inr ck))
              have c2 : decide (6 < (((k + 1) : Nat) : Int)) = true := decide_eq_true (by omega)
              go_wp2_with fail
              refine bodyPost_ret (v := noDec) (by simp [results, Tryz.results32, go_sem, noDec, r0, r1]) rfl ⟨congrArg Ending.returned HV.out.symm, ?_⟩
              exact Kb.setCell (Kb.setCell KQ.out (Or.inr (by have := HTB.out; show w.heap.size ≤ tb + 1; omega)) _) (Or.inr (by have := HTB.out; show w.heap.size ≤ tb + 1; omega)) _
            · have HV := hid (wsmall_yes neg P s l ((k + 1)) HST2.out HF2.out (by omega) (by omega))
              have c2 : decide (6 < (((k + 1) : Nat) : Int)) = false := decide_eq_false (by omega)
              have HL := hid cl
              have e1 : IntKind.i64.wrap (l : Int) = l := IntWalk.i64_in _ (by omega)
              have e2 : IntKind.i64.wrap (-(l : Int)) = -(l : Int) := IntWalk.i64_in _ (by omega)
              cases neg
              · go_wp2_with fail
                refine bodyPost_ret (v := okDec ((l : Nat) : Int) ((k + 1))) (by simp [results, Tryz.results32, go_sem, okDec, r0, r1]) rfl ⟨congrArg Ending.returned HV.out.symm, ?_⟩
                exact Kb.setCell (Kb.setCell KQ.out (Or.inr (by have := HTB.out; show w.heap.size ≤ tb + 1; omega)) _) (Or.inr (by have := HTB.out; show w.heap.size ≤ tb + 1; omega)) _
              · go_wp2_with fail
                refine bodyPost_ret (v := okDec (-((l : Nat) : Int)) ((k + 1))) (by simp [results, Tryz.results32, go_sem, okDec, r0, r1]) rfl ⟨congrArg Ending.returned HV.out.symm, ?_⟩
                exact Kb.setCell (Kb.setCell KQ.out (Or.inr (by have := HTB.out; show w.heap.size ≤ tb + 1; omega)) _) (Or.inr (by have := HTB.out; show w.heap.size ≤ tb + 1; omega)) _
end Go.Proofs.YtkhjgfbiemllmaaGreatDoor
namespace Go.Proofs.YtkhjgfbiemllmaaGreatDoor
open Go.RowKit

theorem dmake_is (n s : Int) (k : Nat) (x y : Int) (b : Bool) (w : World) (hs : s = k) (h1 : -9223372036854775808 ≤ n) (h2 : n ≤ 9223372036854775807) (hk : k ≤ 18) (h : fitV (decide (n < 0)) n.natAbs k = .tuple #[.agg #[.int .i64 x, .int .i64 y], .bool b]) :
    Calls Tryz.prog 25 #[.int .i64 n, .int .i64 s] w fun e w' => e = .returned (.tuple #[.agg #[.int .i64 x, .int .i64 y], .bool b]) ∧ Kb (fun _ => False) w w' := by
  subst hs
  rw [← h]
  exact dmake_in n k w h1 h2 hk
theorem wide_small_is (neg : Bool) (hi lo P : Nat) (s : Int) (k : Nat) (x y : Int) (b : Bool) (w : World) (hhi : hi < 18446744073709551616) (hlo : lo < 18446744073709551616) (hs : s = k) (hk : k ≤ 1000) (hP : hi * 18446744073709551616 + lo = P)
    (h : fitV neg P k = .tuple #[.agg #[.int .i64 x, .int .i64 y], .bool b]) :
    Calls Tryz.prog 32 #[.agg #[.bool neg, .int .u64 hi, .int .u64 lo], .int .i64 s] w fun e w' => e = .returned (.tuple #[.agg #[.int .i64 x, .int .i64 y], .bool b]) ∧ Kb (fun _ => False) w w' := by
  subst hs
  rw [← h]
  exact wide_small neg hi lo k P w hhi hlo hk hP
set_option maxHeartbeats 1000000 in
theorem dof_any (n : Int) (w : World) (h1 : -9223372036854775808 ≤ n) (h2 : n ≤ 9223372036854775807) :
    Calls Tryz.prog 28 #[.int .i64 n] w fun e w' => e = .returned (fitV (decide (n < 0)) n.natAbs 0) ∧ Kb (fun _ => False) w w' := by
  obtain ⟨x, y, b, hv⟩ := fitV_form (decide (n < 0)) n.natAbs 0
  rw [hv]
  have HV := hid hv
  clear hv
  go_enter Tryz.func28, Tryz.ntmps28
  go_wp2_with fail
  generalize hW : World.alloc _ _ = W
  have kW : Kb (fun _ => False) w W := by subst hW; exact (Kb.refl _ _).alloc _
  have rW : W.heap[w.heap.size]? = some (.cells #[.int .i64 0, .int .i64 0] 23 (0, 0)) := by subst hW; exact heap_alloc_new w _
  refine (dmake_is n 0 0 x y b W rfl h1 h2 (by omega) HV.out).mono ?_
  rintro e w1 ⟨rfl, k1⟩
  have R1 := k1.heap rW (by simp)
  have r0 := cell_of_heap R1 0
  have r1 := cell_of_heap R1 1
  have q0 := frozen_of_heap R1 0
  have q1 := frozen_of_heap R1 1
  have hbl := block_lt R1
  simp only [List.getElem?_toArray, List.getElem?_cons_succ, List.getElem?_cons_zero] at r0 r1
  have K1 := hid (kW.trans k1)
  clear hW kW rW k1 R1
  go_wp2_with fail
  refine bodyPost_ret (v := .tuple #[.agg #[.int .i64 x, .int .i64 y], .bool b]) (by simp [results, Tryz.results28, go_sem, r0, r1]) rfl ⟨rfl, ?_⟩
  exact Kb.setCell (Kb.setCell K1.out (Or.inr (Nat.le_refl _)) _) (Or.inr (Nat.le_refl _)) _
theorem run_Add64 (x y c : Nat) (hx : x < 18446744073709551616) (hy : y < 18446744073709551616) (hc : c ≤ 1) (w : World) :
    (callFunc 75 #[.int .u64 x, .int .u64 y, .int .u64 c]).run Tryz.prog w =
      .ok (.value (.tuple #[.int .u64 (((x + y + c) % 18446744073709551616 : Nat) : Int), .int .u64 (((x + y + c) / 18446744073709551616 : Nat) : Int)])) w := by
  rw [run_callFunc_extern Tryz.func75 (by kernel_rfl) (by kernel_rfl) (by kernel_rfl) (e := add64Entry) (by kernel_rfl), run_add64 x y c (by omega) (by omega) (by omega) (by omega)]
  simp only [Result.andThen]
  congr 5 <;> omega
theorem run_Sub64 (x y c : Nat) (hc : c ≤ 1) (w : World) :
    (callFunc 76 #[.int .u64 x, .int .u64 y, .int .u64 c]).run Tryz.prog w =
      .ok (.value (.tuple #[.int .u64 (((x + 18446744073709551616 - y - c) % 18446744073709551616 : Nat) : Int), .int .u64 ((if x < y + c then 1 else 0 : Nat) : Int)])) w := by
  rw [run_callFunc_extern Tryz.func76 (by kernel_rfl) (by kernel_rfl) (by kernel_rfl) (e := sub64Entry) (by kernel_rfl), run_sub64 x y c hc]
  rfl
end Go.Proofs.YtkhjgfbiemllmaaGreatDoor
