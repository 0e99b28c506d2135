/- The walks of cmp.Compare, cmp.Or and product. -/
import Derived.Test.YtkhjgfbiemllmaaDoorDe
import Derived.Test.YtkhjgfbiemllmaaDoorShelf
import Derived.Lib.LaidTab
namespace Go.Proofs.YtkhjgfbiemllmaaDoor
open Go.RowKit

def cmp3 (x y : Nat) : Int := if x < y then -1 else if y < x then 1 else 0
set_option maxHeartbeats 1000000 in
theorem isNaN_any (x : Nat) (w : World) (_hx : x < 18446744073709551616) :
    Calls Tryd.prog 42 #[.int .u64 x] w fun e w' => e = .returned (.bool false) ∧ w' = w := by
  have h : ((x : Int) != (x : Int)) = false := by simp
  go_enter Tryd.func42, Tryd.ntmps42
  go_wp2_with fail
  go_ret
  exact ⟨rfl, rfl⟩
set_option maxHeartbeats 1000000 in
theorem compare_any (x y : Nat) (w : World) (hx : x < 18446744073709551616) (hy : y < 18446744073709551616) :
    Calls Tryd.prog 30 #[.int .u64 x, .int .u64 y] w fun e w' => e = .returned (.int .i64 (cmp3 x y)) ∧ w' = w := by
  rcases Nat.lt_trichotomy x y with h | h | h
  · have H := hid (show cmp3 x y = -1 by unfold cmp3; rw [if_pos h])
    go_enter Tryd.func30, Tryd.ntmps30
    go_wp2_with fail
    refine (isNaN_any x w hx).mono ?_
    rintro e w' ⟨rfl, rfl⟩
    go_wp2_with fail
    refine (isNaN_any y _ hy).mono ?_
    rintro e w' ⟨rfl, rfl⟩
    go_wp2_with fail
    go_ret
    exact ⟨by rw [H.out]; rfl, rfl⟩
  · have H := hid (show cmp3 x y = 0 by unfold cmp3; rw [if_neg (by omega), if_neg (by omega)])
    have h1 : x ≤ y := by omega
    have h2 : y ≤ x := by omega
    clear h
    go_enter Tryd.func30, Tryd.ntmps30
    go_wp2_with fail
    refine (isNaN_any x w hx).mono ?_
    rintro e w' ⟨rfl, rfl⟩
    go_wp2_with fail
    refine (isNaN_any y _ hy).mono ?_
    rintro e w' ⟨rfl, rfl⟩
    go_wp2_with fail
    go_ret
    exact ⟨by rw [H.out]; rfl, rfl⟩
  · have H := hid (show cmp3 x y = 1 by unfold cmp3; rw [if_neg (by omega), if_pos h])
    go_enter Tryd.func30, Tryd.ntmps30
    go_wp2_with fail
    refine (isNaN_any x w hx).mono ?_
    rintro e w' ⟨rfl, rfl⟩
    go_wp2_with fail
    refine (isNaN_any y _ hy).mono ?_
    rintro e w' ⟨rfl, rfl⟩
    go_wp2_with fail
    go_ret
    exact ⟨by rw [H.out]; rfl, rfl⟩
set_option maxHeartbeats 1000000 in
theorem or_any (g : Nat) (x y : Int) (w : World) (h0 : w.cell? ⟨g, 0, none⟩ = some (.int .i64 x)) (h1 : w.cell? ⟨g, 1, none⟩ = some (.int .i64 y)) :
    Calls Tryd.prog 29 #[.slice (some ⟨g, 0, none⟩) 2 2] w fun e w' => e = .returned (.int .i64 (if x = 0 then y else x)) ∧ w' = w := by
  have hg : g < w.heap.size := World.block_lt_of_cell? w _ h0
  by_cases hx : x = 0
  · rw [if_pos hx]
    have hx1 : (x != 0) = false := by rw [hx]; rfl
    clear hx
    by_cases hy : y = 0
    · have hy1 : (y != 0) = false := by rw [hy]; rfl
      have HY := hid hy
      clear hy
      go_enter Tryd.func29, Tryd.ntmps29
      go_wp2_with fail
      refine wp_loop_rounds 3 ?_
      rw [rounds_succ]
      go_wp2_with fail
      rw [rounds_succ]
      go_wp2_with fail
      rw [rounds_succ]
      go_wp2_with fail
      go_ret
      exact ⟨by rw [HY.out]; rfl, rfl⟩
    · have hy1 : (y != 0) = true := by rw [bne_iff_ne]; exact hy
      clear hy
      go_enter Tryd.func29, Tryd.ntmps29
      go_wp2_with fail
      refine wp_loop_rounds 2 ?_
      rw [rounds_succ]
      go_wp2_with fail
      rw [rounds_succ]
      go_wp2_with fail
      go_ret
      exact ⟨rfl, rfl⟩
  · rw [if_neg hx]
    have hx1 : (x != 0) = true := by rw [bne_iff_ne]; exact hx
    clear hx
    go_enter Tryd.func29, Tryd.ntmps29
    go_wp2_with fail
    refine wp_loop_rounds 1 ?_
    rw [rounds_succ]
    go_wp2_with fail
    go_ret
    exact ⟨rfl, rfl⟩

/-- A number of 128 bits with its sign. -/
def wideV (neg : Bool) (P : Nat) : Value := .agg #[.bool neg, .int .u64 ((P / 18446744073709551616 : Nat) : Int), .int .u64 ((P % 18446744073709551616 : Nat) : Int)]
end Go.Proofs.YtkhjgfbiemllmaaDoor
