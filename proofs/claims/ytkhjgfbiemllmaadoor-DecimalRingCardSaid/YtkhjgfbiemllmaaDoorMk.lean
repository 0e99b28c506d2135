/- Decimal: what Text writes is read again. -/
import Derived.Test.YtkhjgfbiemllmaaDoorMj
import Derived.Lib.IndexBytes
namespace Go.Proofs.YtkhjgfbiemllmaaDoor
set_option linter.unusedSimpArgs false
set_option linter.unusedVariables false
open Go.RowKit

def IsDig (l : List UInt8) : Prop := ∀ b ∈ l, 48 ≤ b.toNat ∧ b.toNat ≤ 57
def dvl (a : Nat) (l : List UInt8) : Nat := l.foldl (fun a b => a * 10 + (b.toNat - 48)) a
theorem dvl_nil (a : Nat) : dvl a [] = a := rfl
theorem dvl_cons (a : Nat) (b : UInt8) (l : List UInt8) : dvl a (b :: l) = dvl (a * 10 + (b.toNat - 48)) l := by unfold dvl; rw [List.foldl_cons]
theorem dvl_append (a : Nat) (l m : List UInt8) : dvl a (l ++ m) = dvl (dvl a l) m := by unfold dvl; rw [List.foldl_append]
theorem dvl_ge (a : Nat) (l : List UInt8) : a ≤ dvl a l := by
  induction l generalizing a with
  | nil => exact Nat.le_refl _
  | cons b l ih => rw [dvl_cons]; have := ih (a * 10 + (b.toNat - 48)); omega
theorem parse_dig (l : List UInt8) (a : Nat) (h : IsDig l) (hv : dvl a l < 1000000000000000000) : Lib.parseUint10 a l = .ok (dvl a l) := by
  induction l generalizing a with
  | nil => rfl
  | cons b l ih =>
    have hb := h b (by simp)
    rw [dvl_cons] at hv ⊢
    have hg := dvl_ge (a * 10 + (b.toNat - 48)) l
    unfold Lib.parseUint10
    rw [if_pos hb, if_neg (by omega), if_neg (by omega)]
    exact ih _ (fun x hx => h x (List.mem_cons_of_mem _ hx)) hv
theorem dig_byte (d : Nat) (h : d < 10) : (UInt8.ofNat (48 + d)).toNat = 48 + d := by rw [UInt8.toNat_ofNat']; omega
theorem decDigits_dig (n : Nat) : IsDig (Lib.decDigits n) := by
  induction n using Nat.strongRecOn with
  | ind n ih =>
    intro b hb
    unfold Lib.decDigits at hb
    split at hb
    · rw [List.mem_singleton] at hb
      subst hb
      rw [dig_byte n (by omega)]; omega
    · rw [List.mem_append, List.mem_singleton] at hb
      rcases hb with hb | rfl
      · exact ih (n / 10) (by omega) b hb
      · rw [dig_byte _ (by omega)]; omega
theorem dvl_dec (n : Nat) : dvl 0 (Lib.decDigits n) = n := by
  induction n using Nat.strongRecOn with
  | ind n ih =>
    unfold Lib.decDigits
    split
    · rw [dvl_cons, dvl_nil, dig_byte n (by omega)]; omega
    · rw [dvl_append, ih (n / 10) (by omega), dvl_cons, dvl_nil, dig_byte _ (by omega)]; omega
theorem dvl_zeros (j : Nat) (l : List UInt8) : dvl 0 (List.replicate j 48 ++ l) = dvl 0 l := by
  induction j with
  | zero => rfl
  | succ j ih => rw [List.replicate_succ, List.cons_append, dvl_cons]; exact ih
theorem padL_dig (x c : Nat) : IsDig (padL x c) := by
  intro b hb
  unfold padL at hb
  rw [List.mem_append] at hb
  rcases hb with hb | hb
  · rw [(List.mem_replicate.1 hb).2]; decide
  · exact decDigits_dig x b hb
theorem dvl_pad (x c : Nat) : dvl 0 (padL x c) = x := by unfold padL; rw [dvl_zeros, dvl_dec]
theorem padL_len (x c : Nat) : c + 1 ≤ (padL x c).length ∧ 1 ≤ (padL x c).length := by
  unfold padL
  rw [List.length_append, List.length_replicate]
  omega
theorem indexByte_none (l : List UInt8) (h : ∀ b ∈ l, b ≠ 46) : Lib.index l [46] = -1 := by
  apply Lib.index_none
  intro j _
  unfold Lib.occAt
  cases hd : l.drop j with
  | nil => rfl
  | cons b r =>
    have hb : b ∈ l := List.mem_of_mem_drop (i := j) (by rw [hd]; simp)
    have := h b hb
    simp [List.isPrefixOf]
    exact fun e => this e.symm
theorem index_dot (a b : List UInt8) (h : ∀ x ∈ a, x ≠ 46) : Lib.index (a ++ 46 :: b) [46] = (a.length : Int) := by
  apply Lib.index_first
  · simp
  · unfold Lib.occAt
    rw [List.drop_left' rfl]
    simp [List.isPrefixOf]
  · intro j hj
    unfold Lib.occAt
    rw [List.drop_append_of_le_length (by omega)]
    cases hd : a.drop j with
    | nil => have := congrArg List.length hd; simp at this; omega
    | cons c r =>
      have hb : c ∈ a := List.mem_of_mem_drop (i := j) (by rw [hd]; simp)
      have := h c hb
      simp [List.isPrefixOf]
      exact fun e => this e.symm
theorem cut_none (l : List UInt8) (h : ∀ b ∈ l, b ≠ 46) : Lib.cut l [46] = (l, [], false) := by
  unfold Lib.cut
  rw [indexByte_none l h, if_neg (by omega)]
theorem cut_dot (a b : List UInt8) (h : ∀ x ∈ a, x ≠ 46) : Lib.cut (a ++ 46 :: b) [46] = (a, b, true) := by
  unfold Lib.cut
  rw [index_dot a b h, if_pos (by omega)]
  simp
theorem dig_ne (l : List UInt8) (h : IsDig l) (k : Nat) (hk : k < 48) : ∀ b ∈ l, b ≠ UInt8.ofNat k := by
  intro b hb e
  have h1 := h b hb
  rw [e, UInt8.toNat_ofNat'] at h1
  omega
/-- A signed row of digits is read. -/
theorem atoi_dig (X : Int) (l : List UInt8) (h : IsDig l) (h1 : 1 ≤ l.length) (hv : dvl 0 l = X.natAbs) (hb : X.natAbs < 1000000000000000000) : Lib.atoiAll ((if X < 0 then [45] else []) ++ l) = .ok X := by
  have hp := parse_dig l 0 h (by omega)
  have hm : Lib.parseMag l = .ok X.natAbs := by
    unfold Lib.parseMag
    rw [if_neg (by intro e; rw [e] at h1; simp at h1), hp, hv]
  by_cases hX : X < 0
  · rw [if_pos hX]
    show Lib.atoiAll (45 :: l) = _
    rw [Lib.atoiAll_minus, hm]
    show (if 9223372036854775808 < X.natAbs then _ else Lib.NumEnd.ok (-(X.natAbs : Int))) = _
    rw [if_neg (by omega)]
    congr 1
    omega
  · rw [if_neg hX, List.nil_append]
    cases l with
    | nil => simp at h1
    | cons c r =>
      have hc := h c (by simp)
      rw [Lib.atoiAll_plain c r (by omega) (by omega), hm]
      show (if 9223372036854775808 ≤ X.natAbs then _ else Lib.NumEnd.ok (X.natAbs : Int)) = _
      rw [if_neg (by omega)]
      congr 1
      omega
theorem sign_ne (X : Int) : ∀ b ∈ (if X < 0 then [45] else [] : List UInt8), b ≠ 46 := by
  intro b hb
  split at hb
  · rw [List.mem_singleton] at hb; subst hb; decide
  · cases hb
theorem parse_text {n s : Int} (h : rightB n s = true) : parseD (textS n s) = ⟨n, s, true⟩ := by
  have b := rightB_bd h
  obtain ⟨k1, k2⟩ := kn_of h
  obtain ⟨c, rfl⟩ : ∃ c : Nat, s = c := ⟨s.toNat, by omega⟩
  have hkc : knS n c = c := by omega
  have hmk : makeD n c = ⟨n, c, true⟩ := by
    unfold makeD
    rw [if_pos (by omega), Int.toNat_natCast]
    exact mkD_of_right n c c n h (Nat.le_refl _) (by simp)
  obtain ⟨p, q, f, hcut, hat, hlen⟩ : ∃ p q f, Lib.cut (textS n c).data.toList [46] = (p, q, f) ∧ Lib.atoiAll (p ++ q) = .ok n ∧ q.length = c := by
    have ht : (textS n c).data.toList = (if n < 0 then [45] else []) ++ magL n.natAbs c := by
      unfold textS
      rw [strL_list, k1, hkc]
      rfl
    rw [ht]
    unfold magL
    by_cases h0 : c = 0
    · subst h0
      rw [if_pos rfl]
      refine ⟨_, _, _, cut_none _ ?_, ?_, rfl⟩
      · intro x hx
        rw [List.mem_append] at hx
        rcases hx with hx | hx
        · exact sign_ne n x hx
        · exact dig_ne _ (decDigits_dig _) 46 (by omega) x hx
      · rw [List.append_nil]
        exact atoi_dig n _ (decDigits_dig _) (by rw [Lib.decDigits_length]; exact Lib.nDigits_pos _) (dvl_dec _) (by omega)
    · rw [if_neg h0]
      have hl := padL_len n.natAbs c
      have hd := padL_dig n.natAbs c
      have hv := dvl_pad n.natAbs c
      generalize padL n.natAbs c = P at *
      rw [List.append_assoc, List.singleton_append, ← List.append_assoc]
      refine ⟨_, _, _, cut_dot _ _ ?_, ?_, ?_⟩
      · intro x hx
        rw [List.mem_append] at hx
        rcases hx with hx | hx
        · exact sign_ne n x hx
        · exact dig_ne _ hd 46 (by omega) x (List.mem_of_mem_take hx)
      · rw [List.append_assoc, List.take_append_drop]
        exact atoi_dig n P hd hl.2 hv (by omega)
      · rw [List.length_drop]; omega
  unfold parseD
  rw [hcut]
  simp only [hat, hlen, hmk, and_self, if_true]
end Go.Proofs.YtkhjgfbiemllmaaDoor
