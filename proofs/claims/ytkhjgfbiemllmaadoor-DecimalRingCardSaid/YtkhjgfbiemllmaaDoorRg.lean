/- The walk of the reference's Quo, small cases. -/
import Derived.Test.YtkhjgfbiemllmaaDoorRf
import Derived.Deep.RegionWith
namespace Go.Proofs.YtkhjgfbiemllmaaDoor
open Go.RowKit

theorem Kb.of_drew {S : Nat → Prop} {w w' : World} (k : Kb S w.drew w') : Kb S w w' := ⟨k.os, k.tape, k.output, k.size, k.block⟩
theorem Of_nat (n : Nat) (w : World) (hn : n ≤ 9223372036854775807) :
    Calls Tryd.prog 39 #[.int .i64 n] w fun e w' => e = .returned (.string (natS n)) ∧ Kb (fun _ => False) w w' := by
  have h := Of_any n w (by omega)
  rwa [Int.toNat_natCast] at h
set_option maxHeartbeats 4000000 in
theorem Quo_zero (a b : ByteArray) (w : World) (hb : b.size ≤ 10000000) (h0 : sv b = 0) :
    Calls Tryd.prog 38 #[.string a, .string b] w fun e w' => e = .returned (.tuple #[.string (natS 0), .string (natS 0), .bool false]) ∧ w' = w := by
  have ht : natS (sv b) = ByteArray.empty := by rw [h0]; rfl
  have HT := hid ht
  clear ht h0
  go_enter Tryd.func38, Tryd.ntmps38
  go_wp2_with fail
  refine (canon_is b _ w (by omega) HT.out).mono ?_
  rintro e w' ⟨rfl, rfl⟩
  go_wp2_with fail
  go_ret3
  exact ⟨rfl, rfl⟩
attribute [local go_sem ↓] Go.wp_at_zero Go.wp_at_succ
set_option maxHeartbeats 1000000 in
set_option maxRecDepth 100000 in
theorem Quo_small (a b : ByteArray) (w : World) (ha : a.size ≤ 10000000) (hb : b.size ≤ 10000000) (h1 : sv a < 256 ^ 7) (h2 : sv b < 256 ^ 7) (h0 : 0 < sv b) :
    Calls Tryd.prog 38 #[.string a, .string b] w fun e w' => e = .returned (.tuple #[.string (natS (sv a / sv b)), .string (natS (sv a % sv b)), .bool true]) ∧ Kb (fun _ => False) w w' := by
  obtain ⟨t, ht, hts, hsz, hsv⟩ : ∃ t : ByteArray, 0 < t.size ∧ natS (sv b) = t ∧ t.size ≤ b.size ∧ sv t = sv b := by
    refine ⟨_, ?_, rfl, ?_, sv_natS _⟩
    · rcases Nat.eq_zero_or_pos (natS (sv b)).size with h | h
      · have := (natS_len (sv b) 0).1 (by omega)
        rw [Nat.pow_zero] at this
        omega
      · exact h
    · rw [natS_sv]
      exact canon_length b.data.toList
  have htz : ((t.size : Int) == 0) = false := by rw [beq_eq_false_iff_ne]; omega
  obtain ⟨x, hx⟩ : ∃ x, x = sv a := ⟨_, rfl⟩
  obtain ⟨y, hy⟩ : ∃ y, y = sv b := ⟨_, rfl⟩
  have H1 := hid (show (if sv a < 256 ^ 7 then sv a else 0) = x by rw [if_pos h1, hx])
  have H2 := hid (show (if sv t < 256 ^ 7 then sv t else 0) = y by rw [hsv, if_pos h2, hy])
  have H3 := hid (show decide (sv a < 256 ^ 7) = true from decide_eq_true h1)
  have H4 := hid (show decide (sv t < 256 ^ 7) = true by rw [hsv]; exact decide_eq_true h2)
  have HTS := hid hts
  rw [← hx, ← hy]
  rw [← hx] at h1
  rw [← hy] at h2 h0
  have h3 : x < 72057594037927936 := h1
  have h4 : y < 72057594037927936 := h2
  clear hts h1 h2 hsv hx hy
  obtain ⟨q, hq⟩ : ∃ q, q = x / y := ⟨_, rfl⟩
  obtain ⟨r, hr⟩ : ∃ r, r = x % y := ⟨_, rfl⟩
  have hqx : q ≤ 72057594037927936 := by
    have : x / y ≤ x := Nat.div_le_self x y
    omega
  have hry : r ≤ 72057594037927936 := by
    have : x % y < y := Nat.mod_lt _ h0
    omega
  have e1 : IntKind.i64.wrap ((x : Int) / (y : Int)) = (q : Int) := by
    have h : (x : Int) / (y : Int) = (q : Int) := by rw [hq]; rfl
    rw [h]
    exact IntWalk.i64_in _ (by omega)
  have e2 : (x : Int).tmod (y : Int) = (r : Int) := by rw [hr]; rfl
  have bq : q ≤ 9223372036854775807 := by omega
  have br : r ≤ 9223372036854775807 := by omega
  rw [← hq, ← hr]
  clear hq hr
  go_enter Tryd.func38, Tryd.ntmps38
  go_wp2_with fail
  refine (canon_is b _ w (by omega) HTS.out).mono ?_
  rintro e w' ⟨rfl, rfl⟩
  go_wp2_with fail
  refine (small_is a 7 x true w' (by omega) (by omega) H1.out H3.out).mono ?_
  rintro e w1 ⟨rfl, rfl⟩
  go_wp2_with fail
  refine (small_is t 7 y true _ (by omega) (by omega) H2.out H4.out).mono ?_
  rintro e w2 ⟨rfl, rfl⟩
  go_wp2_with fail
  go_region_with (go_at_call 39; refine (Of_nat _ _ ?_).mono ?_; (assumption); rintro e w' ⟨rfl, k⟩)
  all_goals
    go_wp2_with fail
    go_ret3
    refine ⟨rfl, Kb.trans ?_ k⟩
    first
      | assumption
      | (exact Kb.of_drew (by assumption))
end Go.Proofs.YtkhjgfbiemllmaaDoor
