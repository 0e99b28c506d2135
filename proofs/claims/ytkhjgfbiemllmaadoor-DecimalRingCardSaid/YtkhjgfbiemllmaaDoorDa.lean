/- Decimals: the plain part, and the walks of the reference's natural and fit. -/
import Derived.Test.YtkhjgfbiemllmaaDoorRh
namespace Go.Proofs.YtkhjgfbiemllmaaDoor
open Go.RowKit

theorem Quo_any (a b : ByteArray) (w : World) (ha : a.size ≤ 1000000) (hb : b.size ≤ 1000000) (h0 : 0 < sv b) :
    Calls Tryd.prog 38 #[.string a, .string b] w fun e w' => e = .returned (.tuple #[.string (natS (sv a / sv b)), .string (natS (sv a % sv b)), .bool true]) ∧ Kb (fun _ => False) w w' := by
  by_cases h1 : sv a < 256 ^ 7 ∧ sv b < 256 ^ 7
  · exact Quo_small a b w (by omega) (by omega) h1.1 h1.2 h0
  · refine Quo_big a b _ _ _ _ w ha hb h0 rfl rfl rfl rfl ?_
    by_cases h : sv a < 256 ^ 7
    · have : ¬ sv b < 256 ^ 7 := fun e => h1 ⟨h, e⟩
      rw [decide_eq_false this, Bool.and_false]
    · rw [decide_eq_false h, Bool.false_and]
theorem natS_mono (a b : Nat) (h : a ≤ b) : (natS a).size ≤ (natS b).size := by
  have h1 := (natS_len b (natS b).size).1 (Nat.le_refl _)
  exact (natS_len a _).2 (Nat.lt_of_le_of_lt h h1)
theorem natS_small (n : Nat) (h : n < 18446744073709551616) : (natS n).size ≤ 8 := (natS_len n 8).2 h
theorem quo10 (N : Nat) (w : World) (h : (natS N).size ≤ 1000000) :
    Calls Tryd.prog 38 #[.string (natS N), .string (natS 10)] w fun e w' => e = .returned (.tuple #[.string (natS (N / 10)), .string (natS (N % 10)), .bool true]) ∧ Kb (fun _ => False) w w' := by
  have := Quo_any (natS N) (natS 10) w h (by decide) (by rw [sv_natS]; omega)
  rwa [sv_natS, sv_natS] at this
theorem Of_lit (n : Int) (m : Nat) (w : World) (h : n.toNat = m) (hn : n ≤ 9223372036854775807) :
    Calls Tryd.prog 39 #[.int .i64 n] w fun e w' => e = .returned (.string (natS m)) ∧ Kb (fun _ => False) w w' := by
  subst h
  exact Of_any n w hn
theorem Add_nat (a b : Nat) (w : World) (ha : (natS a).size ≤ 1000000) (hb : (natS b).size ≤ 1000000) :
    Calls Tryd.prog 41 #[.string (natS a), .string (natS b)] w fun e w' => e = .returned (.string (natS (a + b))) ∧ Kb (fun _ => False) w w' := by
  have := Add_any (natS a) (natS b) w (by omega) (by omega)
  rwa [sv_natS, sv_natS] at this

/-- Zeros at the end are taken away, as long as there is a scale. -/
def strip : Nat → Nat → Nat × Nat
  | 0, n => (n, 0)
  | s + 1, n => if n % 10 = 0 then strip s (n / 10) else (n, s + 1)
theorem strip_le : ∀ s n, (strip s n).1 ≤ n ∧ (strip s n).2 ≤ s := by
  intro s
  induction s with
  | zero => intro n; exact ⟨Nat.le_refl _, Nat.le_refl _⟩
  | succ s ih =>
    intro n
    rw [strip]
    split
    · have := ih (n / 10)
      omega
    · exact ⟨Nat.le_refl _, Nat.le_refl _⟩
def sgn (neg : Bool) (n : Nat) : Int := if neg then -(n : Int) else n
def noDec : Value := .tuple #[.agg #[.int .i64 0, .int .i64 0], .bool false]
def okDec (n : Int) (s : Nat) : Value := .tuple #[.agg #[.int .i64 n, .int .i64 s], .bool true]
/-- The decimal of a number, if it fits. -/
def fitV (neg : Bool) (N s : Nat) : Value := if (strip s N).1 ≤ 1000000000000000 ∧ (strip s N).2 ≤ 6 then okDec (sgn neg (strip s N).1) (strip s N).2 else noDec

set_option maxHeartbeats 1000000 in
theorem natural_any (n : Int) (w : World) (h1 : -9223372036854775808 ≤ n) (h2 : n ≤ 9223372036854775807) :
    Calls Tryd.prog 27 #[.int .i64 n] w fun e w' => e = .returned (.string (natS n.natAbs)) ∧ Kb (fun _ => False) w w' := by
  by_cases h : 0 ≤ n
  · go_enter Tryd.func27, Tryd.ntmps27
    go_wp2_with fail
    refine (Of_lit n n.natAbs w (by omega) h2).mono ?_
    rintro e w' ⟨rfl, k⟩
    go_wp2_with fail
    go_ret
    exact ⟨rfl, k⟩
  · have hs1 : (natS (n.natAbs - 1)).size ≤ 1000000 := Nat.le_trans (natS_small _ (by omega)) (by omega)
    have hs2 : (natS 1).size ≤ 1000000 := by decide
    have he : n.natAbs - 1 + 1 = n.natAbs := by omega
    have HE := hid he
    clear he
    go_enter Tryd.func27, Tryd.ntmps27
    go_wp2_with fail
    refine (Of_lit _ (n.natAbs - 1) w (by omega) (by omega)).mono ?_
    rintro e w' ⟨rfl, k⟩
    go_wp2_with fail
    refine (Of_lit _ 1 w' (by omega) (by omega)).mono ?_
    rintro e w2 ⟨rfl, k2⟩
    go_wp2_with fail
    refine (Add_nat (n.natAbs - 1) 1 w2 hs1 hs2).mono ?_
    rintro e w3 ⟨rfl, k3⟩
    rw [HE.out]
    go_wp2_with fail
    go_ret
    exact ⟨rfl, (k.trans k2).trans k3⟩
end Go.Proofs.YtkhjgfbiemllmaaDoor
