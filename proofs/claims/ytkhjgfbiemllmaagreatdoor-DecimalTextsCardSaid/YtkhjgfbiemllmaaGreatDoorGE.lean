/- The reference's Cmp and Sub of numbers. The reference's Sub of numbers. The reference's Mul of numbers. The reference's Mul of numbers: the walk. The reference's Text of numbers. -/
import Derived.Test.YtkhjgfbiemllmaaGreatDoorGB
import Derived.Test.YtkhjgfbiemllmaaGreatDoorGC
import Derived.WalkLawsBesides
import Derived.Deep.QuietTactic
import Derived.BigQuiet
import Derived.Lib.ItoaNum
namespace Go.Proofs.YtkhjgfbiemllmaaGreatDoor
set_option linter.unusedSimpArgs false
set_option linter.unusedVariables false
open Go.RowKit

theorem bytesLess_nv : ∀ l m : List UInt8, l.length = m.length → Op.bytesLess l m = decide (nv l < nv m) := by
  intro l
  induction l with
  | nil =>
    intro m h
    cases m with
    | nil => rfl
    | cons b m => simp at h
  | cons a l ih =>
    intro m h
    cases m with
    | nil => simp at h
    | cons b m =>
      have hl : l.length = m.length := by simpa using h
      have h1 := nv_lt l
      have h2 := nv_lt m
      unfold Op.bytesLess
      rw [ih m hl, nv_cons, nv_cons, hl]
      rw [hl] at h1
      generalize 256 ^ m.length = P at *
      by_cases hab : a.toNat < b.toNat
      · have e1 : decide (a < b) = true := decide_eq_true (UInt8.lt_iff_toNat_lt.2 hab)
        have hm : (a.toNat + 1) * P ≤ b.toNat * P := Nat.mul_le_mul_right _ hab
        rw [Nat.add_mul, Nat.one_mul] at hm
        rw [e1, Bool.true_or]
        exact (decide_eq_true (by omega)).symm
      · have e1 : decide (a < b) = false := decide_eq_false (fun h => hab (UInt8.lt_iff_toNat_lt.1 h))
        rw [e1, Bool.false_or]
        by_cases heq : a = b
        · subst heq
          rw [beq_self_eq_true, Bool.true_and]
          apply decide_eq_decide.2
          omega
        · have hne : a.toNat ≠ b.toNat := fun e => heq (UInt8.toNat_inj.1 e)
          have hm : (b.toNat + 1) * P ≤ a.toNat * P := Nat.mul_le_mul_right _ (by omega)
          rw [Nat.add_mul, Nat.one_mul] at hm
          rw [beq_eq_false_iff_ne.2 heq, Bool.false_and]
          exact (decide_eq_false (by omega)).symm
def ncmp (x y : Nat) : Int := if x < y then -1 else if y < x then 1 else 0
theorem natS_list (n : Nat) : (natS n).data.toList = enc n := rfl
theorem natS_szeq (n : Nat) : (natS n).size = (enc n).length := by unfold natS; rw [ByteArray.size]; simp
theorem natS_less (x y : Nat) (h : (natS x).size = (natS y).size) : Op.bytesLess (natS x).toList (natS y).toList = decide (x < y) := by
  rw [ByteArray.toList_eq, ByteArray.toList_eq, natS_list, natS_list, bytesLess_nv _ _ (by rw [← natS_szeq, ← natS_szeq]; exact h), nv_enc, nv_enc]
theorem natS_eq (x y : Nat) : ((natS x).toList == (natS y).toList) = decide (x = y) := by
  rw [ByteArray.toList_eq, ByteArray.toList_eq, natS_list, natS_list]
  by_cases h : x = y
  · subst h; simp
  · rw [decide_eq_false h, beq_eq_false_iff_ne]
    exact fun e => h (enc_inj e)
theorem natS_shorter {x y : Nat} (h : (natS x).size < (natS y).size) : x < y := by
  rw [natS_szeq, natS_szeq] at h
  have h1 := (enc_len x (enc x).length).1 (Nat.le_refl _)
  rcases Nat.lt_or_ge x y with hlt | hge
  · exact hlt
  · have h2 := (enc_len y (enc x).length).2 (Nat.lt_of_le_of_lt hge h1)
    omega
set_option maxHeartbeats 2000000 in
theorem rCmp_c (a b : ByteArray) (w : World) (ha : a.size ≤ 1000000000) (hb : b.size ≤ 1000000000) :
    Calls Tryz.prog 78 #[.string a, .string b] w fun e w' => e = .returned (.int .i64 (ncmp (sv a) (sv b))) ∧ w' = w := by
  obtain ⟨x, hx⟩ : ∃ x, sv a = x := ⟨_, rfl⟩
  obtain ⟨y, hy⟩ : ∃ y, sv b = y := ⟨_, rfl⟩
  have H1 := hid (fun w => canon_any a w (by omega))
  have H2 := hid (fun w => canon_any b w (by omega))
  rw [hx] at H1 ⊢
  rw [hy] at H2 ⊢
  have hl := natS_less x y
  have he := natS_eq x y
  have hs1 := @natS_shorter x y
  have hs2 := @natS_shorter y x
  have hbx : (natS x).size ≤ 1000000000 := by rw [← hx, natS_szeq, sv, enc_nv]; exact Nat.le_trans (canon_length _) (by rw [Array.length_toList]; exact ha)
  have hby : (natS y).size ≤ 1000000000 := by rw [← hy, natS_szeq, sv, enc_nv]; exact Nat.le_trans (canon_length _) (by rw [Array.length_toList]; exact hb)
  clear hx hy ha hb
  generalize natS x = A at *
  generalize natS y = B at *
  rcases Nat.lt_trichotomy A.size B.size with h | h | h
  · have hv := hid (show ncmp x y = -1 by unfold ncmp; rw [if_pos (hs1 h)])
    have h1 : ((A.size : Int) == (B.size : Int)) = false := by rw [beq_eq_false_iff_ne]; omega
    have h2 : ((A.size : Int) != (B.size : Int)) = true := by rw [bne_iff_ne]; omega
    have h3 : ¬ A.size = B.size := by omega
    have h4 : decide (A.size < B.size) = true := decide_eq_true h
    clear hl he hs1 hs2
    go_enter Tryz.func78, Tryz.ntmps78
    go_wp2_with fail
    refine (H1.out _).mono ?_; rintro e w1 ⟨rfl, rfl⟩
    go_wp2_with fail
    refine (H2.out _).mono ?_; rintro e w1 ⟨rfl, rfl⟩
    go_wp2_with fail
    go_ret
    exact ⟨by rw [hv.out]; rfl, rfl⟩
  · replace hl := hl h
    by_cases h1 : x < y
    · have hv := hid (show ncmp x y = -1 by unfold ncmp; rw [if_pos h1])
      rw [decide_eq_true h1] at hl
      rw [decide_eq_false (by omega)] at he
      clear hs1 hs2
      go_enter Tryz.func78, Tryz.ntmps78
      go_wp2_with fail
      refine (H1.out _).mono ?_; rintro e w1 ⟨rfl, rfl⟩
      go_wp2_with fail
      refine (H2.out _).mono ?_; rintro e w1 ⟨rfl, rfl⟩
      go_wp2_with fail
      go_ret
      exact ⟨by rw [hv.out]; rfl, rfl⟩
    · by_cases h2 : x = y
      · have hv := hid (show ncmp x y = 0 by unfold ncmp; rw [if_neg h1, if_neg (by omega)])
        rw [decide_eq_false h1] at hl
        rw [decide_eq_true h2] at he
        clear hs1 hs2 h1 h2
        go_enter Tryz.func78, Tryz.ntmps78
        go_wp2_with fail
        refine (H1.out _).mono ?_; rintro e w1 ⟨rfl, rfl⟩
        go_wp2_with fail
        refine (H2.out _).mono ?_; rintro e w1 ⟨rfl, rfl⟩
        go_wp2_with fail
        go_ret
        exact ⟨by rw [hv.out]; rfl, rfl⟩
      · have hv := hid (show ncmp x y = 1 by unfold ncmp; rw [if_neg h1, if_pos (by omega)])
        rw [decide_eq_false h1] at hl
        rw [decide_eq_false h2] at he
        clear hs1 hs2 h1 h2
        go_enter Tryz.func78, Tryz.ntmps78
        go_wp2_with fail
        refine (H1.out _).mono ?_; rintro e w1 ⟨rfl, rfl⟩
        go_wp2_with fail
        refine (H2.out _).mono ?_; rintro e w1 ⟨rfl, rfl⟩
        go_wp2_with fail
        go_ret
        exact ⟨by rw [hv.out]; rfl, rfl⟩
  · have hv := hid (show ncmp x y = 1 by unfold ncmp; rw [if_neg (by have := hs2 h; omega), if_pos (hs2 h)])
    have h1 : ((A.size : Int) == (B.size : Int)) = false := by rw [beq_eq_false_iff_ne]; omega
    have h2 : ((A.size : Int) != (B.size : Int)) = true := by rw [bne_iff_ne]; omega
    have h3 : ¬ A.size = B.size := by omega
    have h4 : decide (A.size < B.size) = false := decide_eq_false (by omega)
    clear hl he hs1 hs2
    go_enter Tryz.func78, Tryz.ntmps78
    go_wp2_with fail
    refine (H1.out _).mono ?_; rintro e w1 ⟨rfl, rfl⟩
    go_wp2_with fail
    refine (H2.out _).mono ?_; rintro e w1 ⟨rfl, rfl⟩
    go_wp2_with fail
    go_ret
    exact ⟨by rw [hv.out]; rfl, rfl⟩
end Go.Proofs.YtkhjgfbiemllmaaGreatDoor
namespace Go.Proofs.YtkhjgfbiemllmaaGreatDoor
set_option linter.unusedSimpArgs false
set_option linter.unusedVariables false
open Go.RowKit

set_option maxHeartbeats 2000000 in
theorem rSub_c (a b : ByteArray) (w : World) (ha : a.size ≤ 10000000) (hb : b.size ≤ 10000000) :
    Calls Tryz.prog 79 #[.string a, .string b] w fun e w' => e = .returned (.tuple #[.string (natS (sv a - sv b)), .bool (decide (sv b ≤ sv a))]) ∧ Kb (fun _ => False) w w' := by
  have HC := hid (fun w => rCmp_c a b w (by omega) (by omega))
  by_cases hlt : sv a < sv b
  · have e1 : ncmp (sv a) (sv b) = -1 := by unfold ncmp; rw [if_pos hlt]
    rw [e1] at HC
    have e2 := hid (show natS (sv a - sv b) = ⟨#[]⟩ by rw [show sv a - sv b = 0 by omega]; rfl)
    have e3 := hid (show decide (sv b ≤ sv a) = false from decide_eq_false (by omega))
    clear hlt e1
    go_enter Tryz.func79, Tryz.ntmps79
    go_wp2_with fail
    refine (HC.out _).mono ?_; rintro e w1 ⟨rfl, rfl⟩
    go_wp2_with fail
    go_ret2
    rw [e2.out, e3.out]
    exact ⟨rfl, Kb.refl _ _⟩
  · have e1 : decide (ncmp (sv a) (sv b) < 0) = false := by
      apply decide_eq_false
      unfold ncmp
      rw [if_neg hlt]
      split <;> omega
    have e3 := hid (show decide (sv b ≤ sv a) = true from decide_eq_true (by omega))
    have hla := digs_size a 10000000 ha
    have hlb := digs_size b 10000000 hb
    have hda : dv P24 (digs P24 (sv a)) = sv a := dv_digs P24 (by decide) _
    have hdb : dv P24 (digs P24 (sv b)) = sv b := dv_digs P24 (by decide) _
    have hma := digs_lt P24 (by decide) (sv a)
    have hmb := digs_lt P24 (by decide) (sv b)
    have hll : (digs P24 (sv b)).length ≤ (digs P24 (sv a)).length := (digs_len P24 (by decide) _ _).2 (Nat.lt_of_le_of_lt (by omega) ((digs_len P24 (by decide) _ _).1 (Nat.le_refl _)))
    have HF := hid (And.intro hla (And.intro hlb (And.intro hda (And.intro hdb (And.intro hma (And.intro hmb hll))))))
    have HLE := hid (show sv b ≤ sv a by omega)
    clear hlt hla hlb hda hdb hma hmb hll
    go_enter Tryz.func79, Tryz.ntmps79
    go_wp2_with fail
    refine (HC.out _).mono ?_; rintro e w1 ⟨rfl, rfl⟩
    go_wp2_with fail
    refine (of_any a _ (by omega)).mono ?_
    rintro e w1 ⟨uv, rfl, hu, k1⟩
    have HU := hid hu
    have K1 := hid k1
    clear hu k1
    go_wp2_with fail
    refine (of_any b _ (by omega)).mono ?_
    rintro e w2 ⟨vv, rfl, hv, k2⟩
    have HV := hid hv
    have HU2 := hid (HU.out.kb0 k2)
    have K2 := hid (K1.out.trans k2)
    clear hv k2 HU K1
    go_wp2_with fail
    obtain ⟨hla, hlb, hda, hdb, hma, hmb, hll⟩ := HF.out
    refine (minus_any uv vv _ _ _ _ w2 HU2.out HV.out hma hmb (by omega) hll (by rw [hda, hdb]; exact HLE.out)).mono ?_
    rw [hda, hdb]
    clear hla hlb hda hdb hma hmb hll
    rintro e w3 ⟨⟨v3, rfl, h3⟩, k3⟩
    have H3 := hid h3
    have K3 := hid (K2.out.trans k3)
    clear h3 k3 HU2 HV K2
    have hl3 : (digs P24 (sv a - sv b)).length ≤ 100000000 := by
      have := HF.out.1
      have h2 : (digs P24 (sv a - sv b)).length ≤ (digs P24 (sv a)).length := (digs_len P24 (by decide) _ _).2 (Nat.lt_of_le_of_lt (by omega) ((digs_len P24 (by decide) _ _).1 (Nat.le_refl _)))
      omega
    go_wp2_with fail
    refine (number_any v3 _ _ w3 H3.out (fun d hd => digs_lt P24 (by decide) _ d hd) hl3).mono ?_
    rw [dv_digs P24 (by decide)]
    rintro e w4 ⟨rfl, k4⟩
    go_wp2_with fail
    go_ret2
    rw [e3.out]
    exact ⟨rfl, K3.out.trans k4⟩
end Go.Proofs.YtkhjgfbiemllmaaGreatDoor
namespace Go.Proofs.YtkhjgfbiemllmaaGreatDoor
set_option linter.unusedSimpArgs false
set_option linter.unusedVariables false
open Go.RowKit

theorem dv_set (O : List Nat) (k d : Nat) (h : k < O.length) : dv P24 (O.set k d) + O[k]! * P24 ^ k = dv P24 O + d * P24 ^ k := by
  induction O generalizing k with
  | nil => simp at h
  | cons a O ih =>
    cases k with
    | zero => simp [dv]; omega
    | succ k =>
      have hk : k < O.length := by simpa using h
      have := ih k hk
      simp only [List.set_cons_succ, dv, List.getElem!_cons_succ, Nat.pow_succ]
      have e1 : O[k]! * (P24 ^ k * P24) = P24 * (O[k]! * P24 ^ k) := by rw [← Nat.mul_assoc, Nat.mul_comm]
      have e2 : d * (P24 ^ k * P24) = P24 * (d * P24 ^ k) := by rw [← Nat.mul_assoc, Nat.mul_comm]
      rw [e1, e2, Nat.add_assoc, ← Nat.mul_add, this, Nat.mul_add, Nat.add_assoc]
theorem dV_set (O : List Nat) (k d : Nat) : (dV O).toArray.setIfInBounds k (.int .i64 (d : Int)) = (dV (O.set k d)).toArray := by
  apply Array.ext'
  simp [dV, List.map_set]
/-- A whole block of ints. -/
def Arr (w : World) (b : Nat) (O : List Nat) : Prop := w.heap[b]? = some (.cells (dV O).toArray 3 (0, 0))
theorem Arr.cell {w : World} {b : Nat} {O : List Nat} (h : Arr w b O) (k : Nat) (hk : k < O.length) : w.cell? ⟨b, k, none⟩ = some (.int .i64 ((O[k]! : Nat) : Int)) := by
  rw [cell_of_heap h k, List.getElem?_toArray]
  exact dV_get O k hk
theorem Arr.set {w : World} {b : Nat} {O : List Nat} (h : Arr w b O) (k d : Nat) : Arr (w.setCell ⟨b, k, none⟩ (.int .i64 (d : Int))) b (O.set k d) := by
  unfold Arr
  rw [heap_setCell_same w b k _ 3 _ h, dV_set]
theorem zeros_arr (n : Nat) : madeCells (Value.cells (.int .i64 0)) n = (dV (List.replicate n 0)).toArray := by
  apply Array.ext'
  simp [madeCells, dV, Value.cells]
  apply List.ext_getElem
  · simp
  · intro i h1 h2
    simp [Nat.mod_one]
theorem mul_step (i j o u v c s O' S k : Nat) (hk : k = i + j) (hs : s = o + u * v + c) (dO dU dV' q : Nat) (h : dO + c * P24 ^ k = dU + u * P24 ^ i * q) (hq : dV' = q + P24 ^ j * v) (hO : O' + o * P24 ^ k = dO + s % P24 * P24 ^ k) :
    O' + s / P24 * P24 ^ (k + 1) = dU + u * P24 ^ i * dV' := by
  have e1 : s / P24 * P24 ^ (k + 1) = s / P24 * P24 * P24 ^ k := by rw [Nat.pow_succ, Nat.mul_comm (P24 ^ k), Nat.mul_assoc]
  have e2 : s % P24 * P24 ^ k + s / P24 * P24 * P24 ^ k = s * P24 ^ k := by
    rw [← Nat.add_mul, Nat.mul_comm (s / P24), Nat.mod_add_div]
  have e3 : s * P24 ^ k = o * P24 ^ k + u * v * P24 ^ k + c * P24 ^ k := by rw [hs, Nat.add_mul, Nat.add_mul]
  have e4 : u * P24 ^ i * (P24 ^ j * v) = u * v * P24 ^ k := by
    rw [hk, Nat.pow_add, Nat.mul_comm (P24 ^ j) v, Nat.mul_assoc, Nat.mul_assoc, ← Nat.mul_assoc (P24 ^ i) v, Nat.mul_comm (P24 ^ i) v, Nat.mul_assoc]
  rw [hq, Nat.mul_add, e4, e1]
  generalize u * P24 ^ i * q = a at *
  generalize s % P24 * P24 ^ k = b at *
  generalize s / P24 * P24 * P24 ^ k = d at *
  generalize s * P24 ^ k = e at *
  generalize o * P24 ^ k = f at *
  generalize u * v * P24 ^ k = g at *
  generalize c * P24 ^ k = m at *
  omega
theorem smul_bound (o u v c : Nat) (ho : o < P24) (hu : u < P24) (hv : v < P24) (hc : c < P24) : o + u * v + c < P24 * P24 := by
  have h : u * v ≤ (P24 - 1) * (P24 - 1) := Nat.mul_le_mul (by omega) (by omega)
  have e : (P24 - 1) * (P24 - 1) + (P24 - 1) + (P24 - 1) + 1 = P24 * P24 := by decide
  omega
end Go.Proofs.YtkhjgfbiemllmaaGreatDoor
namespace Go.Proofs.YtkhjgfbiemllmaaGreatDoor
set_option linter.unusedSimpArgs false
set_option linter.unusedVariables false
open Go.RowKit

theorem run_zeros (n : Nat) (z : Int) (hz : z = (n : Int)) (hn : n ≤ 1000000000) (w : World) : (Instr.makeSlice 35 (.int .i64 z) (.int .i64 z)).run Tryz.prog w = .ok (.slice (some ⟨w.heap.size, 0, none⟩) n n) (w.alloc (.cells (dV (List.replicate n 0)).toArray 3)) := by
  subst hz
  obtain ⟨i0, hi0, hz0, hz1, hz2⟩ := info_parts infoInt
  have h := run_make (P := Tryz.prog) (w := w) 35 3 i0 (.int .i64 0) Tryz.underlying35 hi0 hz0 .i64 .i64 (n : Int) (n : Int) (by omega) (by omega) (by rw [hz2]; omega) (by omega)
  rw [h, hz1, Int.toNat_natCast, Nat.mul_one, zeros_arr]
theorem oset_lt (O : List Nat) (k d : Nat) (h : ∀ x ∈ O, x < P24) (hd : d < P24) : ∀ x ∈ O.set k d, x < P24 := by
  intro x hx
  rcases List.mem_or_eq_of_mem_set hx with h1 | h1
  · exact h x h1
  · rw [h1]; exact hd
theorem oget_lt (O : List Nat) (k : Nat) (h : ∀ x ∈ O, x < P24) : O[k]! < P24 := by
  by_cases hk : k < O.length
  · rw [List.getElem!_eq_getElem?_getD, List.getElem?_eq_getElem hk]
    exact h _ (List.getElem_mem hk)
  · rw [List.getElem!_eq_getElem?_getD, List.getElem?_eq_none (by omega)]
    decide
theorem dv_take_succ (l : List Nat) (j : Nat) (h : j < l.length) : dv P24 (l.take (j + 1)) = dv P24 (l.take j) + P24 ^ j * l[j]! := by
  rw [take_snoc l j h, dv_snoc, List.length_take, Nat.min_eq_left (by omega)]
theorem dv_zeros (L : Nat) : dv P24 (List.replicate L 0) = 0 := by
  induction L with
  | zero => rfl
  | succ L ih => rw [List.replicate_succ, dv, ih]; rfl
set_option maxHeartbeats 8000000 in
set_option maxRecDepth 100000 in
theorem Mul_big (a b : ByteArray) (x y : Nat) (p q : Bool) (w : World) (ha : a.size ≤ 10000000) (hb : b.size ≤ 10000000) (hx : (if sv a < 256 ^ 3 then sv a else 0) = x) (hp : decide (sv a < 256 ^ 3) = p) (hy : (if sv b < 256 ^ 4 then sv b else 0) = y) (hq : decide (sv b < 256 ^ 4) = q) (hpq : (p && q) = false) :
    Calls Tryz.prog 35 #[.string a, .string b] w fun e w' => e = .returned (.string (natS (sv a * sv b))) ∧ Kb (fun _ => False) w w' := by
  have HX := hid hx
  have HP := hid hp
  have HY := hid hy
  have HQ := hid hq
  clear hx hp hy hq
  have hlu := digs_size a 10000000 ha
  have hlv := digs_size b 10000000 hb
  have hdu : dv P24 (digs P24 (sv a)) = sv a := dv_digs P24 (by decide) _
  have hdw : dv P24 (digs P24 (sv b)) = sv b := dv_digs P24 (by decide) _
  have hmu := digs_lt P24 (by decide) (sv a)
  have hmv := digs_lt P24 (by decide) (sv b)
  obtain ⟨N, hN⟩ : ∃ N, N = sv a * sv b := ⟨_, rfl⟩
  rw [← hN]
  rw [← hdu, ← hdw] at hN
  have HN := hid hN
  have HMU := hid hmu
  have HMV := hid hmv
  clear hdu hdw hN hmu hmv
  go_enter Tryz.func35, Tryz.ntmps35
  go_wp2_with fail
  refine (small_is a 3 x p w (by omega) (by omega) HX.out HP.out).mono ?_
  rintro e w' ⟨rfl, rfl⟩
  go_wp2_with fail
  refine (small_is b 4 y q _ (by omega) (by omega) HY.out HQ.out).mono ?_
  rintro e w' ⟨rfl, rfl⟩
  clear HX HP HY HQ
  cases p <;> cases q <;> try (simp at hpq; done)
  all_goals
    clear hpq
    go_wp2_with fail
    refine (of_any a _ (by omega)).mono ?_
    rintro e w1 ⟨uv, rfl, hu, k1⟩
    obtain ⟨ua, uc, rfl⟩ := hu.slice
    have HU := hid hu
    have K1 := hid k1
    clear hu k1
    go_wp2_with fail
    refine (of_any b _ (by omega)).mono ?_
    rintro e w2 ⟨vv, rfl, hv, k2⟩
    obtain ⟨va, vc, rfl⟩ := hv.slice
    have HV := hid hv
    have HU2 := hid (HU.out.kb0 k2)
    have K2 := hid (K1.out.trans k2)
    clear hv k2 HU K1
    generalize digs P24 (sv a) = U at *
    generalize digs P24 (sv b) = V at *
    obtain ⟨L, hL⟩ : ∃ L, L = U.length + V.length := ⟨_, rfl⟩
    have hLi : (U.length : Int) + (V.length : Int) = (L : Int) := by omega
    have hmk := run_zeros L (L : Int) rfl (by omega)
    have HL := hid hL
    clear hL
    go_wp2_with fail
    generalize hW : World.alloc _ _ = W
    have KW := hid (show Kb (fun _ => False) w2 W by subst hW; exact (Kb.refl _ _).alloc _)
    have AW := hid (show Arr W w2.heap.size (List.replicate L 0) by subst hW; exact heap_alloc_new w2 _)
    clear hW hmk
    obtain ⟨bo, hbo⟩ : ∃ bo, bo = w2.heap.size := ⟨_, rfl⟩
    have hbo2 : w2.heap.size ≤ bo := by omega
    rw [← hbo] at AW
    rw [← hbo]
    have HBO := hid hbo
    clear hbo
    go_loopw [12, 13, 14, 15] (fun iv _ _ _ wr => ∃ (i : Nat) (O : List Nat), iv = .int .i64 i ∧ i ≤ U.length ∧ Hid (O.length = L) ∧ Hid (∀ x ∈ O, x < P24) ∧ Hid (dv P24 O = dv P24 (U.take i) * dv P24 V) ∧ Hid (∀ k, i + V.length ≤ k → O[k]! = 0) ∧ Hid (Arr wr bo O) ∧ Hid (Kb (fun _ => False) w2 wr)) (fun iv _ _ _ _ => U.length - (intOf iv).toNat)
    case atStart =>
      refine ⟨0, List.replicate L 0, rfl, by omega, ?_, ?_, ?_, ?_, AW, KW⟩
      · show _ = _; simp
      · intro x hx; rw [(List.mem_replicate.1 hx).2]; decide
      · show _ = _
        rw [List.take_zero]
        show dv P24 (List.replicate L 0) = dv P24 [] * _
        rw [dv, Nat.zero_mul]
        exact dv_zeros L
      · intro k _
        show (List.replicate L 0)[k]! = 0
        rw [List.getElem!_eq_getElem?_getD, List.getElem?_replicate]
        split <;> rfl
    case round =>
      obtain ⟨i, O, rfl, hi, hOl, hOm, hOv, hOz, hA, hK⟩ := hrel
      by_cases hlt : i < U.length
      · obtain ⟨gu, rfl, _, _, hgu, hcu⟩ := HU2.out.form (by omega)
        have cu := hid (hcu i hlt)
        have hu1 := oget_lt U i HMU.out
        have hus := hid (dv_take_succ U i hlt)
        clear hcu
        generalize U[i]! = u at *
        go_wp2_with fail
        go_loopw [13, 14, 15] (fun cv jv _ wq => ∃ (j c : Nat) (O' : List Nat), cv = .int .i64 c ∧ jv = .int .i64 j ∧ j ≤ V.length ∧ c < 16777216 ∧ Hid (O'.length = L) ∧ Hid (∀ x ∈ O', x < P24) ∧ Hid (dv P24 O' + c * P24 ^ (i + j) = dv P24 (U.take i) * dv P24 V + u * P24 ^ i * dv P24 (V.take j)) ∧ Hid (∀ k, i + V.length ≤ k → O'[k]! = 0) ∧ Hid (Arr wq bo O') ∧ Hid (Kb (fun _ => False) w2 wq)) (fun _ jv _ _ => V.length - (intOf jv).toNat)
        case atStart =>
          refine ⟨0, 0, O, rfl, rfl, by omega, by omega, hOl, hOm, ?_, hOz, hA, hK⟩
          show _ = _
          rw [hOv.out, List.take_zero]
          simp [dv]
        case round =>
          obtain ⟨j, c, O', rfl, rfl, hj, hc, hOl', hOm', hOv', hOz', hA', hK'⟩ := hrel
          clear hOv hA hK hOl hOm hOz
          by_cases hjt : j < V.length
          · obtain ⟨gv, rfl, _, _, hgv, hcv⟩ := HV.out.form (by omega)
            have cv := hK'.out.cell (hcv j hjt) (by simp)
            have cu' := hK'.out.cell cu.out (by simp)
            have hv1 := oget_lt V j HMV.out
            have hvs := hid (dv_take_succ V j hjt)
            obtain ⟨k, hk⟩ : ∃ k, k = i + j := ⟨_, rfl⟩
            have hkL : k < L := by have := HL.out; omega
            have co := hA'.out.cell k (by rw [hOl'.out]; exact hkL)
            have ho1 := oget_lt O' k hOm'.out
            have hset := hid (dv_set O' k)
            have hbq := hK'.out.size
            have hfz := frozen_of_heap hA'.out k
            have hbl := block_lt hA'.out
            clear hcv
            generalize V[j]! = v at *
            generalize hog : O'[k]! = o at *
            obtain ⟨s, hs⟩ : ∃ s, s = o + u * v + c := ⟨_, rfl⟩
            have hsb := smul_bound o u v c ho1 hu1 hv1 hc
            rw [← hs] at hsb
            have hsb2 : s < 281474976710656 := hsb
            have huv : u * v ≤ s := by omega
            obtain ⟨m, hm⟩ : ∃ m, m = u * v := ⟨_, rfl⟩
            have q1 : IntKind.i64.wrap ((i : Int) + (j : Int)) = (k : Int) := by rw [show (i : Int) + (j : Int) = (k : Int) by omega]; exact IntWalk.i64_in _ (by omega)
            have q2 : IntKind.i64.wrap ((u : Int) * (v : Int)) = (m : Int) := by rw [← Int.natCast_mul, ← hm]; exact IntWalk.i64_in _ (by omega)
            have q3 : IntKind.i64.wrap ((o : Int) + (m : Int)) = (o : Int) + (m : Int) := IntWalk.i64_in _ (by omega)
            have q4 : IntKind.i64.wrap ((o : Int) + (m : Int) + (c : Int)) = (s : Int) := by rw [show (o : Int) + (m : Int) + (c : Int) = (s : Int) by omega]; exact IntWalk.i64_in _ (by omega)
            have q5 : 0 ≤ (s : Int) := by omega
            have r1 : (0 : Int) ≤ (k : Int) := by omega
            have r2 : (k : Int) < (L : Int) := by omega
            have r3 : (0 : Int) ≤ (i : Int) := by omega
            have r4 : (i : Int) < (U.length : Int) := by omega
            have r5 : (0 : Int) ≤ (j : Int) := by omega
            have r6 : (j : Int) < (V.length : Int) := by omega
            have HS := hid hs
            have HK := hid hk
            have HM := hid hm
            have HOG := hid hog
            have HSB := hid hsb
            clear hs hk hm hog hsb huv ho1 hv1
            go_wp2_with fail
            go_quiet (fail)
            go_wp2_with fail
            rw [show (s : Int) % 16777216 = ((s % 16777216 : Nat) : Int) by omega]
            have hlen : k < O'.length := by rw [hOl'.out]; exact hkL
            have hst := hset.out (s % 16777216) hlen
            have hsv := mul_step i j o u v c s _ 0 k HK.out HS.out _ _ _ _ (by have := hOv'.out; rwa [← HK.out] at this) hvs.out hst
            have hcz : s / 16777216 < 16777216 := by have := HSB.out; unfold P24 at this; omega
            refine ⟨⟨j + 1, s / 16777216, O'.set k (s % 16777216), by go_num, by go_num, by omega, hcz, ?_, oset_lt O' k _ hOm'.out (Nat.mod_lt _ (by decide)), ?_, ?_, ?_, ?_⟩, by simp [intOf]; omega⟩
            · show _ = _; rw [List.length_set]; exact hOl'.out
            · show _ = _; rw [show i + (j + 1) = k + 1 by have := HK.out; omega]; exact hsv
            · intro k' hk'
              show (O'.set k (s % 16777216))[k']! = 0
              rw [List.getElem!_eq_getElem?_getD, List.getElem?_set_ne (by have := HK.out; omega), ← List.getElem!_eq_getElem?_getD]
              exact hOz'.out k' hk'
            · exact Arr.set (w := wr.drewN nq) hA'.out k (s % 16777216)
            · exact (hK'.out.drewN nq).setC hbo2
          · have hje : j = V.length := by omega
            subst hje
            obtain ⟨k, hk⟩ : ∃ k, k = i + V.length := ⟨_, rfl⟩
            have hkL : k < L := by have := HL.out; omega
            have hfz := frozen_of_heap hA'.out k
            have hbl := block_lt hA'.out
            have co := hA'.out.cell k (by rw [hOl'.out]; exact hkL)
            have hbq := hK'.out.size
            have q1 : (i : Int) + (V.length : Int) = (k : Int) := by omega
            have r1 : (0 : Int) ≤ (k : Int) := by omega
            have r2 : (k : Int) < (L : Int) := by omega
            have HK := hid hk
            have HQ := hid q1
            clear hk
            go_wp2_with fail
            have hlen : k < O'.length := by rw [hOl'.out]; exact hkL
            have hst := dv_set O' k c hlen
            rw [hOz'.out k (by have := HK.out; omega), Nat.zero_mul, Nat.add_zero] at hst
            have hval : dv P24 (O'.set k c) = dv P24 (U.take (i + 1)) * dv P24 V := by
              have h1 := hOv'.out
              rw [List.take_of_length_le (Nat.le_refl V.length), ← HK.out] at h1
              rw [hst, h1, hus.out, Nat.add_mul, Nat.mul_comm (P24 ^ i) u]
            refine ⟨⟨i + 1, O'.set k c, by go_num, by omega, ?_, oset_lt O' k _ hOm'.out hc, hval, ?_, hA'.out.set k c, hK'.out.setC hbo2⟩, by simp [intOf]; omega⟩
            · show _ = _; rw [List.length_set]; exact hOl'.out
            · intro k' hk'
              show (O'.set k c)[k']! = 0
              rw [List.getElem!_eq_getElem?_getD, List.getElem?_set_ne (by have := HK.out; omega), ← List.getElem!_eq_getElem?_getD]
              exact hOz'.out k' (by omega)
      · have hie : i = U.length := by omega
        subst hie
        have hrow : RowD wr bo (.slice (some ⟨bo, 0, none⟩) L L) O := by
          unfold RowD
          have h1 := hOl.out
          refine ⟨by rw [dV_len, Nat.mul_one], Or.inr ⟨bo, L, (dV O).toArray, by rw [h1], Nat.le_refl _, hA.out, by omega, by unfold maxLen; omega, by rw [List.size_toArray, dV_len, h1, Nat.mul_one], ?_⟩⟩
          rw [List.take_of_length_le (by simp [dV_len])]
        have hv : dv P24 O = N := by
          rw [hOv.out, List.take_of_length_le (Nat.le_refl _)]
          exact HN.out.symm
        have HV2 := hid hv
        have HR := hid hrow
        have HKK := hid (K2.out.trans hK.out)
        clear hv hrow
        go_wp2_with fail
        refine (number_any _ O bo wr HR.out (fun d hd => hOm.out d hd) (by rw [hOl.out]; omega)).mono ?_
        rintro e w4 ⟨rfl, k4⟩
        rw [HV2.out]
        go_wp2_with fail
        go_ret
        exact ⟨rfl, HKK.out.trans k4⟩
set_option maxHeartbeats 4000000 in
theorem Mul_small (a b : ByteArray) (w : World) (ha : a.size ≤ 10000000) (hb : b.size ≤ 10000000) (h1 : sv a < 256 ^ 3) (h2 : sv b < 256 ^ 4) :
    Calls Tryz.prog 35 #[.string a, .string b] w fun e w' => e = .returned (.string (natS (sv a * sv b))) ∧ Kb (fun _ => False) w w' := by
  have H1 := hid (fun w => small_yes a 3 w (by omega) (by omega) h1)
  have H2 := hid (fun w => small_yes b 4 w (by omega) (by omega) h2)
  have hp : sv a * sv b ≤ 16777216 * 4294967296 := Nat.mul_le_mul (Nat.le_of_lt h1) (Nat.le_of_lt h2)
  obtain ⟨m, hm⟩ : ∃ m, sv a * sv b = m := ⟨_, rfl⟩
  rw [hm] at hp ⊢
  generalize sv a = x at *
  generalize sv b = y at *
  have hmi : (x : Int) * (y : Int) = (m : Int) := by rw [← hm]; simp
  have HO := hid (fun w => Of_any (m : Int) w (by omega))
  rw [Int.toNat_natCast] at HO
  have q2 : IntKind.i64.wrap ((x : Int) * (y : Int)) = (m : Int) := by rw [hmi]; exact IntWalk.i64_in _ (by omega)
  have HMI := hid hmi
  clear hm h1 h2 hmi
  go_enter Tryz.func35, Tryz.ntmps35
  go_wp2_with fail
  refine (H1.out _).mono ?_; rintro e w1 ⟨rfl, rfl⟩
  go_wp2_with fail
  refine (H2.out _).mono ?_; rintro e w1 ⟨rfl, rfl⟩
  go_wp2_with fail
  first | (refine (HO.out _).mono ?_) | (rw [HMI.out]; refine (HO.out _).mono ?_) | (rw [show wrap64 ((x : Int) * (y : Int)) = (m : Int) from q2]; refine (HO.out _).mono ?_)
  rintro e w' ⟨rfl, k⟩
  go_wp2_with fail
  go_ret
  exact ⟨rfl, k⟩
theorem Mul_any (a b : ByteArray) (w : World) (ha : a.size ≤ 10000000) (hb : b.size ≤ 10000000) :
    Calls Tryz.prog 35 #[.string a, .string b] w fun e w' => e = .returned (.string (natS (sv a * sv b))) ∧ Kb (fun _ => False) w w' := by
  by_cases h1 : sv a < 256 ^ 3 ∧ sv b < 256 ^ 4
  · exact Mul_small a b w ha hb h1.1 h1.2
  · refine Mul_big a b _ _ _ _ w ha hb rfl rfl rfl rfl ?_
    by_cases h : sv a < 256 ^ 3
    · have : ¬ sv b < 256 ^ 4 := fun e => h1 ⟨h, e⟩
      rw [decide_eq_false this, Bool.and_false]
    · rw [decide_eq_false h, Bool.false_and]
end Go.Proofs.YtkhjgfbiemllmaaGreatDoor
namespace Go.Proofs.YtkhjgfbiemllmaaGreatDoor
set_option linter.unusedSimpArgs false
set_option linter.unusedVariables false
open Go.RowKit

set_option maxRecDepth 100000 in
theorem conv_one (w : World) (z : Int) (b : UInt8) (hz : z = (b.toNat : Int)) :
    (convert 84 9 (.slice (some ⟨w.heap.size, 0, none⟩) 1 1)).run Tryz.prog (w.alloc (.cells #[.int .u8 z] 5)) = .ok (.string ⟨#[b]⟩) (w.alloc (.cells #[.int .u8 z] 5)) := by
  subst hz
  have h := run_convert_bytes_back (P := Tryz.prog) (w.alloc (.cells #[.int .u8 (b.toNat : Int)] 5)) 84 9 5 ⟨w.heap.size, 0, none⟩ 1 [b] Tryz.underlying84 Tryz.underlying5 Tryz.underlying9 (fun j hj => by
    have : j = 0 := by simpa using hj
    subst this
    simp [go_sem])
  exact h
theorem conv_grew (w : World) (C : Array Obj) (m : Nat) (z : Int) (b : UInt8) (hz : z = (b.toNat : Int)) :
    (convert 84 9 (.slice (some ⟨gsz w C 0, 0, none⟩) 1 1)).run Tryz.prog ((grew w C m).alloc (.cells #[.int .u8 z] 5)) = .ok (.string ⟨#[b]⟩) ((grew w C m).alloc (.cells #[.int .u8 z] 5)) := by
  have h := conv_one (grew w C m) z b hz
  rwa [size_grew] at h
theorem natS_pos (n : Nat) (h : 0 < n) : 0 < (natS n).size := by
  rw [natS_szeq]
  have := enc_ne_nil (n := n) (by omega)
  cases he : enc n with
  | nil => exact absurd he this
  | cons a l => simp
theorem dec_step (n : Nat) (h : 0 < n) (s : List UInt8) : Lib.decDigits n ++ s = (if n / 10 = 0 then [] else Lib.decDigits (n / 10)) ++ (UInt8.ofNat (48 + n % 10) :: s) := by
  rw [Lib.decDigits]
  by_cases h10 : n < 10
  · rw [dif_pos h10, if_pos (by omega), Nat.mod_eq_of_lt h10]; rfl
  · rw [dif_neg h10, if_neg (by omega), List.append_assoc]; rfl
theorem q10_c (n : Nat) (w : World) (h : (natS n).size ≤ 1000000) :
    Calls Tryz.prog 39 #[.string (natS n), .string (natS 10)] w fun e w' => e = .returned (.tuple #[.string (natS (n / 10)), .string (natS (n % 10)), .bool true]) ∧ Kb (fun _ => False) w w' := by
  have := Quo_any (natS n) (natS 10) w h (by decide) (by rw [sv_natS]; omega)
  rwa [sv_natS, sv_natS] at this
theorem dec_len (n k : Nat) (h : n < 10 ^ (k + 1)) : (Lib.decDigits n).length ≤ k + 1 := by
  rw [Lib.decDigits_length]
  induction k generalizing n with
  | zero => rw [Lib.nDigits_small (by simpa using h)]; omega
  | succ k ih =>
    by_cases h10 : n < 10
    · rw [Lib.nDigits_small h10]; omega
    · rw [Lib.nDigits_big h10]
      have := ih (n / 10) (by rw [Nat.pow_succ] at h; omega)
      omega
theorem pow_256 (k : Nat) : 256 ^ k ≤ 10 ^ (3 * k) := by
  rw [Nat.pow_mul]
  exact Nat.pow_le_pow_left (by omega) k
theorem dec_len_k (n k : Nat) (h : (natS n).size ≤ k) : (Lib.decDigits n).length ≤ 3 * k + 1 := by
  have h1 := (natS_len n k).1 h
  have h2 := pow_256 k
  exact dec_len n (3 * k) (Nat.lt_of_lt_of_le h1 (Nat.le_trans h2 (Nat.pow_le_pow_right (by omega) (by omega))))
theorem dec_len_nat (n : Nat) (h : (natS n).size ≤ 1000000) : (Lib.decDigits n).length ≤ 3000001 := dec_len_k n 1000000 h
theorem natS_sv_size (a : ByteArray) (k : Nat) (ha : a.size ≤ k) : (natS (sv a)).size ≤ k := by
  rw [natS_szeq, sv, enc_nv]
  exact Nat.le_trans (canon_length _) (by rw [Array.length_toList]; exact ha)
def natOf (v : Value) : Nat := match v with | .string t => sv t | _ => 0
def decP (n : Nat) : List UInt8 := if n = 0 then [] else Lib.decDigits n
set_option maxHeartbeats 4000000 in
set_option maxRecDepth 100000 in
theorem rText_c (a : ByteArray) (w : World) (ha : a.size ≤ 1000000) :
    Calls Tryz.prog 42 #[.string a] w fun e w' => e = .returned (.string ⟨(Lib.decDigits (sv a)).toArray⟩) ∧ Kb (fun _ => False) w w' := by
  have H1 := hid (fun w => canon_any a w (by omega))
  have hN := natS_sv_size a 1000000 ha
  generalize sv a = N at *
  by_cases h0 : N = 0
  · subst h0
    have hz := hid (show (⟨(Lib.decDigits 0).toArray⟩ : ByteArray) = ⟨#[48]⟩ by rw [Lib.decDigits_one (by omega)]; rfl)
    have hz2 : (natS 0).size = 0 := rfl
    generalize natS 0 = Z at *
    go_enter Tryz.func42, Tryz.ntmps42
    go_wp2_with fail
    refine (H1.out _).mono ?_; rintro e w1 ⟨rfl, rfl⟩
    go_wp2_with fail
    go_ret
    rw [hz.out]
    exact ⟨rfl, Kb.refl _ _⟩
  · have hp := natS_pos N (by omega)
    have hp2 : (((natS N).size : Int) == 0) = false := by rw [beq_eq_false_iff_ne]; omega
    have HN := hid hN
    have hH0 := hid h0
    go_enter Tryz.func42, Tryz.ntmps42
    go_wp2_with fail
    refine (H1.out _).mono ?_; rintro e w1 ⟨rfl, rfl⟩
    go_wp2_with fail
    have hlen := dec_len_nat N HN.out
    have HLEN := hid hlen
    clear hlen hp hp2
    go_loopw [0, 3, 4, 5, 6, 7, 8] (fun av tv _ _ _ _ _ wr => ∃ (n : Nat) (s : ByteArray), av = .string (natS n) ∧ tv = .string s ∧ Hid (n ≤ N) ∧ Hid (Lib.decDigits N = decP n ++ s.data.toList) ∧ Hid (Kb (fun _ => False) w1 wr)) (fun av _ _ _ _ _ _ _ => natOf av)
    case atStart =>
      refine ⟨N, ⟨#[]⟩, rfl, rfl, Nat.le_refl N, ?_, Kb.refl _ _⟩
      show _ = _
      unfold decP
      rw [if_neg hH0.out]
      simp
    case round =>
      obtain ⟨n, s, rfl, rfl, hn, hs, hK⟩ := hrel
      by_cases hz : n = 0
      · subst hz
        have hz2 : (natS 0).size = 0 := rfl
        have HR := hid (show (⟨(Lib.decDigits N).toArray⟩ : ByteArray) = s by rw [hs.out]; rfl)
        generalize natS 0 = Z at *
        go_wp2_with fail
        go_ret
        rw [HR.out]
        exact ⟨rfl, hK.out⟩
      · have hp := natS_pos n (by omega)
        have hsz : (natS n).size ≤ 1000000 := Nat.le_trans (natS_mono n N hn.out) HN.out
        have hsl : s.size ≤ 3000001 := by
          have h1 : (Lib.decDigits N).length = (decP n).length + s.size := by rw [hs.out, List.length_append, Array.length_toList]; rfl
          have h2 := HLEN.out
          rw [h1] at h2
          exact Nat.le_trans (Nat.le_add_left _ _) h2
        have HQ := hid (fun w => q10_c n w hsz)
        have HO := hid (fun w => Of_any 10 w (by omega))
        have hI := fun w => int_ok (natS (n % 10)) w (by have := natS_mono (n % 10) n (Nat.mod_le _ _); omega) (by rw [sv_natS]; omega)
        rw [sv_natS] at hI
        have HI := hid hI
        clear hI
        have hst := hid (dec_step n (by omega) s.data.toList)
        have hdv : natOf (.string (natS (n / 10))) < natOf (.string (natS n)) := by
          show sv (natS (n / 10)) < sv (natS n)
          rw [sv_natS, sv_natS]; omega
        have HDV := hid hdv
        have hd : n % 10 < 10 := by omega
        obtain ⟨d, hdd⟩ : ∃ d, n % 10 = d := ⟨_, rfl⟩
        rw [hdd] at HQ HI hst hd
        obtain ⟨bb, hbb⟩ : ∃ bb, UInt8.ofNat (48 + d) = bb := ⟨_, rfl⟩
        have hcv := fun (C : Array Obj) (m : Nat) => conv_grew wr C m (48 + (d : Int)) bb (by rw [← hbb, UInt8.toNat_ofNat']; omega)
        rw [hbb] at hst
        clear hbb
        have HZ := hid hz
        clear hdv hdd hz
        go_wp2_with fail
        refine (HO.out _).mono ?_; rintro e w1 ⟨rfl, k1⟩; obtain ⟨C1, m, rfl⟩ := grew_of k1; clear k1
        go_wp2_with fail
        refine (HQ.out _).mono ?_; rintro e w1 ⟨rfl, k1⟩; obtain ⟨C2, m, rfl⟩ := grew_of k1; clear k1
        go_wp2_with fail
        refine (HI.out _).mono ?_; rintro e w1 ⟨rfl, rfl⟩
        go_wp2_with fail
        refine ⟨⟨n / 10, ⟨#[bb]⟩ ++ s, rfl, rfl, ?_, ?_, ?_⟩, ?_⟩
        · exact Nat.le_trans (Nat.div_le_self _ _) hn.out
        · show _ = _
          have h1 := hs.out
          have h2 := hst.out
          unfold decP at h1 ⊢
          rw [if_neg HZ.out] at h1
          have e : ((⟨#[bb]⟩ ++ s : ByteArray)).data.toList = bb :: s.data.toList := by rw [ByteArray.data_append]; simp
          rw [h1, h2, e]
        · have KW := hK
          exact hid (by repeat (with_reducible first | exact Kb.refl _ _ | exact KW.out | refine Kb.setC ?_ (by assumption) | apply Kb.drew | apply Kb.drewN | apply Kb.grew | apply Kb.alloc))
        · exact HDV.out
end Go.Proofs.YtkhjgfbiemllmaaGreatDoor
