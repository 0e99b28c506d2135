/- The walks of units (any) and of Div64 by ten. -/
import Derived.Test.YtkhjgfbiemllmaaDoorLb
import Derived.Laws.Bits64b
namespace Go.Proofs.YtkhjgfbiemllmaaDoor
open Go.RowKit

theorem and32 (a : Int) (n : Nat) (h : a = n) (hn : n < 18446744073709551616) : bits BinOp.and IntKind.u64 a 4294967295 = ((n % 4294967296 : Nat) : Int) := by
  subst h
  rw [show (4294967295 : Int) = ((4294967295 : Nat) : Int) from rfl, bits_and_u64_nat n 4294967295 hn (by omega)]
  rw [show (4294967295 : Nat) = 2 ^ 32 - 1 from rfl, Nat.and_two_pow_sub_one_eq_mod]
theorem dn1 (h l U : Nat) (hh : h < 10) (hl : l < 18446744073709551616) (hU : U = h * 1152921504606846976 + l / 16) : U < 11529215046068469760 := by omega
theorem dn2 (l V : Nat) (hV : V = (l % 16) * 1152921504606846976) : V < 18446744073709551616 ∧ V % 4294967296 = 0 := by omega
theorem dn3 (U q1 rh : Nat) (hU : U < 11529215046068469760) (h1 : q1 = U / 2684354560) (h2 : rh = U % 2684354560) : q1 < 4294967296 ∧ rh < 2684354560 ∧ q1 * 2684354560 + rh = U := by omega
theorem dn4 (V u1 : Nat) (hV : V < 18446744073709551616 ∧ V % 4294967296 = 0) (h1 : u1 = V / 4294967296) : u1 < 4294967296 ∧ u1 * 4294967296 = V := by omega
theorem dn5 (rh u1 U2 : Nat) (h1 : rh < 2684354560) (h2 : u1 < 4294967296) (h : U2 = rh * 4294967296 + u1) : U2 < 11529215046068469760 := by omega
theorem dn6a (m V u1 : Nat) (hV : V = m * 1152921504606846976) (a2 : u1 * 4294967296 = V) : u1 = m * 268435456 := by omega
theorem dn6b (h l U : Nat) (hU : U = h * 1152921504606846976 + l / 16) : h * 18446744073709551616 + l = 16 * U + l % 16 := by omega
theorem dn6c (U q1 rh u1 U2 q0 r0 : Nat) (a1 : q1 * 2684354560 + rh = U) (a3 : U2 = rh * 4294967296 + u1) (a4 : q0 * 2684354560 + r0 = U2) : U * 4294967296 + u1 = (q1 * 4294967296 + q0) * 2684354560 + r0 := by
  rw [Nat.add_mul, Nat.mul_assoc, Nat.mul_comm 4294967296 2684354560, ← Nat.mul_assoc]
  generalize 4294967296 = c at *
  subst a3
  rw [← a1, Nat.add_mul]
  omega
theorem dn6 (h l U V q1 rh u1 U2 q0 r0 : Nat) (hU : U = h * 1152921504606846976 + l / 16) (hV : V = (l % 16) * 1152921504606846976) (a1 : q1 * 2684354560 + rh = U) (a2 : u1 * 4294967296 = V) (a3 : U2 = rh * 4294967296 + u1) (a4 : q0 * 2684354560 + r0 = U2) :
    (h * 18446744073709551616 + l) * 268435456 = (q1 * 4294967296 + q0) * 2684354560 + r0 := by
  rw [dn6b h l U hU, ← dn6c U q1 rh u1 U2 q0 r0 a1 a3 a4, dn6a _ V u1 hV a2]
  generalize l % 16 = m
  rw [Nat.add_mul, Nat.mul_comm 16 U, Nat.mul_assoc]
theorem dn7 (N Q r0 q r : Nat) (h : N * 268435456 = Q * 2684354560 + r0) (hr : r0 < 2684354560) (hq : N / 10 = q) (hrr : N % 10 = r) : Q = q ∧ r0 = r * 268435456 := by omega
theorem dn12a (a b c M : Int) : (((a % M + b) % M) - c % M) % M = (a + b - c) % M := by
  rw [Int.sub_emod_emod, Int.emod_sub_emod]
  rw [Int.add_sub_assoc, Int.emod_add_emod, ← Int.add_sub_assoc]
theorem dn12b (U q1 rh u1 U2 : Nat) (hU : q1 * 2684354560 + rh = U) (h2 : U2 = rh * 4294967296 + u1) : (U : Int) * 4294967296 + u1 - (q1 : Int) * 11529215046068469760 = U2 := by
  have hU' : (U : Int) = (q1 : Int) * 2684354560 + rh := by omega
  have h2' : (U2 : Int) = (rh : Int) * 4294967296 + u1 := by omega
  rw [show (11529215046068469760 : Int) = 2684354560 * 4294967296 from rfl, ← Int.mul_assoc, hU', h2', Int.add_mul]
  generalize (q1 : Int) * 2684354560 * 4294967296 = a
  omega
theorem dn12 (U q1 rh u1 U2 : Nat) (hU : q1 * 2684354560 + rh = U) (h2 : U2 = rh * 4294967296 + u1) (hlt : U2 < 11529215046068469760) :
    IntKind.u64.wrap (IntKind.u64.wrap (IntKind.u64.wrap ((U : Int) * 4294967296) + (u1 : Int)) - IntKind.u64.wrap ((q1 : Int) * 11529215046068469760)) = (U2 : Int) := by
  simp only [IntKind.wrap_u64]
  rw [dn12a, dn12b U q1 rh u1 U2 hU h2]
  omega
theorem dn15 (U2 q0 r0 r : Nat) (h : q0 * 2684354560 + r0 = U2) (hr : r0 = r * 268435456) (hr10 : r < 10) :
    IntKind.u64.wrap (IntKind.u64.wrap (IntKind.u64.wrap ((U2 : Int) * 4294967296)) - IntKind.u64.wrap ((q0 : Int) * 11529215046068469760)) / 1152921504606846976 = (r : Int) := by
  have e := dn12b U2 q0 r0 0 (r0 * 4294967296) h (Nat.add_zero _).symm
  have f := dn12a ((U2 : Int) * 4294967296) ((0 : Nat) : Int) ((q0 : Int) * 11529215046068469760) 18446744073709551616
  rw [e] at f
  rw [show ((0 : Nat) : Int) = 0 from rfl, Int.add_zero] at f
  simp only [IntKind.wrap_u64]
  rw [f]
  clear e f h
  omega
theorem dn13 (q1 q0 q : Nat) (h1 : q1 < 4294967296) (h0 : q0 < 4294967296) (h : q1 * 4294967296 + q0 = q) : IntKind.u64.wrap (IntKind.u64.wrap ((q1 : Int) * 4294967296) + (q0 : Int)) = (q : Int) := by
  simp only [IntKind.wrap_u64]
  omega
theorem dn14 (a : Int) : decide (IntKind.u64.wrap a < 0) = false := by
  apply decide_eq_false
  rw [IntKind.wrap_u64]
  omega
theorem dn8 (l V : Nat) (hV : V = (l % 16) * 1152921504606846976) : IntKind.u64.wrap ((l : Int) * 1152921504606846976) = (V : Int) := by
  rw [IntKind.wrap_u64, hV, show (18446744073709551616 : Int) = 16 * 1152921504606846976 from rfl, Int.mul_comm (l : Int), Int.mul_comm 16, Int.mul_emod_mul_of_pos _ _ (by omega)]
  omega
theorem dn9 (U q1 rh : Nat) (hU : U < 11529215046068469760) (h : q1 * 2684354560 + rh = U) : IntKind.u64.wrap ((U : Int) - IntKind.u64.wrap ((q1 : Int) * 2684354560)) = (rh : Int) := by
  rw [IntKind.wrap_u64, IntKind.wrap_u64]; omega
theorem dn10 (U q1 : Nat) (hU : U < 11529215046068469760) (h : q1 = U / 2684354560) : IntKind.u64.wrap ((U : Int) / 2684354560) = (q1 : Int) := by
  rw [IntKind.wrap_u64]; omega
theorem dn11 (V : Nat) (h : V < 18446744073709551616 ∧ V % 4294967296 = 0) : bits BinOp.and IntKind.u64 (V : Int) 4294967295 = 0 := by
  rw [and32 _ V rfl h.1, h.2]; rfl
theorem or60 (h l : Nat) (hh : h < 10) (hl : l < 18446744073709551616) : bits BinOp.or IntKind.u64 ((h : Int) * 1152921504606846976) ((l : Int) / 16) = ((h * 1152921504606846976 + l / 16 : Nat) : Int) := by
  rw [show ((h : Int) * 1152921504606846976) = ((h * 1152921504606846976 : Nat) : Int) from by omega, show ((l : Int) / 16) = ((l / 16 : Nat) : Int) from by omega]
  rw [bits_or_u64_nat _ _ (by omega) (by omega)]
  have e := Nat.two_pow_add_eq_or_of_lt (i := 60) (b := l / 16) (by omega) h
  rw [show (2 : Nat) ^ 60 = 1152921504606846976 from rfl] at e
  rw [Nat.mul_comm h, ← e]
theorem lz10_is (x : Int) (w : World) (hx : x = 10) :
    Calls Tryd.prog 66 #[.int .u64 x] w fun e w' => e = .returned (.int .i64 60) ∧ w' = w := by
  subst hx
  refine (Tryd.bits_LeadingZeros64 10 w (by omega) (by omega)).mono ?_
  rintro e w' ⟨rfl, rfl⟩
  exact ⟨by rw [show (10 : Int).toNat = 10 from rfl, show Lib.bitLen 10 = 4 from by decide]; rfl, rfl⟩
set_option maxHeartbeats 4000000 in
set_option maxRecDepth 100000 in
theorem div10_zero (l q r : Nat) (w : World) (hl : l < 18446744073709551616) (hq : l / 10 = q) (hr : l % 10 = r) :
    Calls Tryd.prog 45 #[.int .u64 ((0 : Nat) : Int), .int .u64 l, .int .u64 10] w fun e w' => e = .returned (.tuple #[.int .u64 q, .int .u64 r]) ∧ Kb (fun _ => False) w w' := by
  have h1 : IntKind.u64.wrap ((l : Int).tdiv 10) = q := by
    rw [Int.tdiv_eq_ediv_of_nonneg (by omega)]
    rw [IntKind.wrap_u64]
    omega
  have h2 : IntKind.u64.wrap ((l : Int).tmod 10) = r := by
    rw [Int.tmod_eq_emod_of_nonneg (by omega)]
    rw [IntKind.wrap_u64]
    omega
  go_enter Tryd.func45, Tryd.ntmps45
  go_wp2_with fail
  go_quiet (fail)
  go_wp2_with fail
  refine bodyPost_ret (v := .tuple #[.int .u64 q, .int .u64 r]) (by simp [results, Tryd.results45, go_sem]; omega) rfl ⟨rfl, Kb.drewN (Kb.refl _ _) _⟩
set_option maxHeartbeats 4000000 in
set_option maxRecDepth 100000 in
theorem div10_pos (h l q r : Nat) (w : World) (h0 : 0 < h) (hh : h < 10) (hl : l < 18446744073709551616) (hq : (h * 18446744073709551616 + l) / 10 = q) (hr : (h * 18446744073709551616 + l) % 10 = r) :
    Calls Tryd.prog 45 #[.int .u64 h, .int .u64 l, .int .u64 10] w fun e w' => e = .returned (.tuple #[.int .u64 q, .int .u64 r]) ∧ Kb (fun _ => False) w w' := by
  obtain ⟨U, hU⟩ : ∃ U, U = h * 1152921504606846976 + l / 16 := ⟨_, rfl⟩
  obtain ⟨V, hV⟩ : ∃ V, V = (l % 16) * 1152921504606846976 := ⟨_, rfl⟩
  obtain ⟨q1, hq1⟩ : ∃ q1, q1 = U / 2684354560 := ⟨_, rfl⟩
  obtain ⟨rh, hrh⟩ : ∃ rh, rh = U % 2684354560 := ⟨_, rfl⟩
  obtain ⟨u1, hu1⟩ : ∃ u1, u1 = V / 4294967296 := ⟨_, rfl⟩
  obtain ⟨U2, hU2⟩ : ∃ U2, U2 = rh * 4294967296 + u1 := ⟨_, rfl⟩
  obtain ⟨q0, hq0⟩ : ∃ q0, q0 = U2 / 2684354560 := ⟨_, rfl⟩
  obtain ⟨r0, hr0⟩ : ∃ r0, r0 = U2 % 2684354560 := ⟨_, rfl⟩
  have hUlt := dn1 h l U hh hl hU
  have hVlt := dn2 l V hV
  have h3 := dn3 U q1 rh hUlt hq1 hrh
  have h4 := dn4 V u1 hVlt hu1
  have hU2lt := dn5 rh u1 U2 h3.2.1 h4.1 hU2
  have h5 := dn3 U2 q0 r0 hU2lt hq0 hr0
  have h6 := dn6 h l U V q1 rh u1 U2 q0 r0 hU hV h3.2.2 h4.2 hU2 h5.2.2
  obtain ⟨h7, h8⟩ := dn7 _ _ r0 q r h6 h5.2.1 hq hr
  have hrl : r < 10 := by rw [← hr]; exact Nat.mod_lt _ (by omega)
  clear h6
  have e1 : decide (10 ≤ (h : Int)) = false := decide_eq_false (by clear hU hV hq hr h7 h8; omega)
  have e2 : ((h : Int) == 0) = false := by rw [beq_eq_false_iff_ne]; clear hU hV hq hr h7 h8; omega
  have eA : bits BinOp.and IntKind.u64 11529215046068469760 4294967295 = 0 := by
    exact (and32 (11529215046068469760 : Int) 11529215046068469760 rfl (by decide)).trans rfl
  have eO : bits BinOp.or IntKind.u64 (IntKind.u64.wrap ((h : Int) * 1152921504606846976)) ((l : Int) / 16) = (U : Int) := by
    rw [show IntKind.u64.wrap ((h : Int) * 1152921504606846976) = (h : Int) * 1152921504606846976 from by rw [IntKind.wrap_u64]; clear hU hV hq hr h7 h8; omega, or60 h l hh hl, hU]
  have eS := dn8 l V hV
  have eB := dn11 V hVlt
  have eV : (V : Int) / 4294967296 = (u1 : Int) := by rw [hu1]; rfl
  have eQ := dn10 U q1 hUlt hq1
  have eR := dn9 U q1 rh hUlt h3.2.2
  have e3 : decide (4294967296 ≤ (q1 : Int)) = false := decide_eq_false (by have := h3.1; clear hU hV hq hr h7 h8; omega)
  have e4 := dn14 (IntKind.u64.wrap (4294967296 * (rh : Int)) + (u1 : Int))
  have e5 := dn12 U q1 rh u1 U2 h3.2.2 hU2 hU2lt
  have e6 := dn10 U2 q0 hU2lt hq0
  have e7 := dn9 U2 q0 r0 hU2lt h5.2.2
  have e8 : decide (4294967296 ≤ (q0 : Int)) = false := decide_eq_false (by have := h5.1; clear hU hV hq hr h7 h8 hU2; omega)
  have e9 := dn13 q1 q0 q h3.1 h5.1 h7
  have e10 := dn14 (IntKind.u64.wrap (4294967296 * (r0 : Int)))
  have E5 := hid e5
  have E6 := hid e6
  have E7 := hid e7
  have E8 := hid e8
  have E9 := hid e9
  have E10 := hid e10
  clear e5 e6 e7 e8 e9 e10
  have E11 := hid (dn15 U2 q0 r0 r h5.2.2 h8 hrl)
  have HH := hid (And.intro h7 (And.intro h8 hrl))
  have HL := hid (And.intro h3 (And.intro h4 h5))
  clear hq hr hU hV hq1 hrh hu1 hU2 hq0 hr0 hUlt hVlt h3 h4 hU2lt h5 h7 h8 hrl hh hl h0
  go_enter Tryd.func45, Tryd.ntmps45
  go_wp2_with fail
  refine (lz10_is _ w rfl).mono ?_
  rintro e w' ⟨rfl, rfl⟩
  go_wp2_with fail
  go_loop [15, 16] (fun a b => a = .int .u64 q1 ∧ b = .int .u64 rh) (fun _ _ => 0)
  case atStart => exact ⟨rfl, rfl⟩
  case round =>
    obtain ⟨rfl, rfl⟩ := hrel
    have e5 := E5.out
    have e6 := E6.out
    have e7 := E7.out
    go_wp2_with fail
    have e8 := E8.out
    have e9 := E9.out
    have e10 := E10.out
    clear e5 e6 e7 e1 e2 eA eO eS eB eV eQ eR e3 e4
    go_loop [18, 16] (fun a b => a = .int .u64 q0 ∧ b = .int .u64 r0) (fun _ _ => 0)
    case atStart => exact ⟨rfl, rfl⟩
    case round =>
      obtain ⟨rfl, rfl⟩ := hrel
      go_wp2_with fail
      refine bodyPost_ret (v := .tuple #[.int .u64 q, .int .u64 r]) ?_ rfl ⟨rfl, Kb.refl _ _⟩
      simp [results, Tryd.results45, go_sem]
      exact E11.out
  
end Go.Proofs.YtkhjgfbiemllmaaDoor
