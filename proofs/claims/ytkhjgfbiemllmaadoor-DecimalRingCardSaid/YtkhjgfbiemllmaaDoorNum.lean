/- Numbers as bytes, and as digits: the plain part. -/
import Derived.Test.YtkhjgfbiemllmaaDoorBase
namespace Go.Proofs.YtkhjgfbiemllmaaDoor
open Go.RowKit

theorem snoc_ind {α : Type} {P : List α → Prop} (h0 : P []) (h1 : ∀ l a, P l → P (l ++ [a])) : ∀ l, P l := by
  intro l
  have h : ∀ m : List α, P m.reverse := by
    intro m
    induction m with
    | nil => exact h0
    | cons a m ih => rw [List.reverse_cons]; exact h1 _ _ ih
  have := h l.reverse
  rwa [List.reverse_reverse] at this

/-- The value of bytes, the most significant one first. -/
def nv (l : List UInt8) : Nat := l.foldl (fun a b => a * 256 + b.toNat) 0
theorem nv_nil : nv [] = 0 := rfl
theorem nv_snoc (l : List UInt8) (b : UInt8) : nv (l ++ [b]) = nv l * 256 + b.toNat := by simp [nv]
theorem nv_append (a b : List UInt8) : nv (a ++ b) = nv a * 256 ^ b.length + nv b := by
  revert b
  refine snoc_ind ?_ ?_
  · simp [nv]
  · intro b x ih
    rw [← List.append_assoc, nv_snoc, ih, nv_snoc, List.length_append, List.length_singleton, Nat.pow_succ, Nat.add_mul, Nat.mul_assoc, Nat.add_assoc]
theorem nv_one (b : UInt8) : nv [b] = b.toNat := by simp [nv]
theorem nv_cons (b : UInt8) (l : List UInt8) : nv (b :: l) = b.toNat * 256 ^ l.length + nv l := by
  have := nv_append [b] l
  rwa [nv_one] at this
theorem nv_lt : ∀ l : List UInt8, nv l < 256 ^ l.length := by
  refine snoc_ind ?_ ?_
  · simp [nv]
  · intro l b ih
    rw [nv_snoc, List.length_append, List.length_singleton, Nat.pow_succ]
    have := b.toNat_lt
    omega

/-- Without zeros in front. -/
def canon (l : List UInt8) : List UInt8 := l.dropWhile (· == 0)
theorem canon_nil : canon [] = [] := rfl
theorem canon_cons (b : UInt8) (l : List UInt8) : canon (b :: l) = if b = 0 then canon l else b :: l := by
  unfold canon
  rw [List.dropWhile_cons]
  by_cases h : b = 0 <;> simp [h]
theorem nv_canon (l : List UInt8) : nv (canon l) = nv l := by
  induction l with
  | nil => rfl
  | cons b l ih =>
    rw [canon_cons]
    split
    · rename_i h
      rw [ih, nv_cons, h]
      simp
    · rfl
theorem canon_canon (l : List UInt8) : canon (canon l) = canon l := by
  induction l with
  | nil => rfl
  | cons b l ih =>
    rw [canon_cons]
    split
    · exact ih
    · rename_i h
      rw [canon_cons, if_neg h]
theorem canon_length (l : List UInt8) : (canon l).length ≤ l.length := by
  induction l with
  | nil => simp [canon]
  | cons b l ih =>
    rw [canon_cons]
    split
    · simp only [List.length_cons]; omega
    · simp
def encF : Nat → Nat → List UInt8
  | 0, _ => []
  | f + 1, n => if n = 0 then [] else encF f (n / 256) ++ [UInt8.ofNat (n % 256)]
/-- The bytes of a number, without zeros in front. -/
def enc (n : Nat) : List UInt8 := encF n n
theorem encF_enough : ∀ f g n, n ≤ f → n ≤ g → encF f n = encF g n := by
  intro f
  induction f with
  | zero =>
    intro g n hf hg
    obtain rfl : n = 0 := by omega
    cases g <;> simp [encF]
  | succ f ih =>
    intro g n hf hg
    cases g with
    | zero =>
      obtain rfl : n = 0 := by omega
      simp [encF]
    | succ g =>
      simp only [encF]
      split
      · rfl
      · rw [ih g (n / 256) (by omega) (by omega)]
theorem enc_zero : enc 0 = [] := rfl
theorem enc_pos (n : Nat) (h : n ≠ 0) : enc n = enc (n / 256) ++ [UInt8.ofNat (n % 256)] := by
  unfold enc
  cases n with
  | zero => exact absurd rfl h
  | succ n =>
    rw [encF, if_neg (by omega)]
    rw [encF_enough n ((n + 1) / 256) ((n + 1) / 256) (by omega) (Nat.le_refl _)]
theorem nv_enc (n : Nat) : nv (enc n) = n := by
  induction n using Nat.strongRecOn with
  | ind n ih =>
    by_cases h : n = 0
    · subst h; rfl
    · rw [enc_pos n h, nv_snoc, ih (n / 256) (by omega), UInt8.toNat_ofNat']
      omega
theorem enc_snoc (l : List UInt8) (b : UInt8) (h : nv l ≠ 0 ∨ b ≠ 0) : enc (nv (l ++ [b])) = enc (nv l) ++ [b] := by
  have hb := b.toNat_lt
  have hn : nv (l ++ [b]) ≠ 0 := by
    rw [nv_snoc]
    rcases h with h | h
    · omega
    · have : b.toNat ≠ 0 := fun e => h (UInt8.toNat_inj.1 (by rw [e]; rfl))
      omega
  rw [enc_pos _ hn, nv_snoc]
  have e1 : (nv l * 256 + b.toNat) / 256 = nv l := by omega
  have e2 : (nv l * 256 + b.toNat) % 256 = b.toNat := by omega
  rw [e1, e2]
  congr 2
  exact UInt8.ofNat_toNat
theorem canon_nil_of (l : List UInt8) (h : nv l = 0) : canon l = [] := by
  induction l with
  | nil => rfl
  | cons b l ih =>
    rw [nv_cons] at h
    have hb : b.toNat = 0 := by
      rcases Nat.eq_zero_or_pos b.toNat with h0 | h0
      · exact h0
      · have : 0 < b.toNat * 256 ^ l.length := Nat.mul_pos h0 (Nat.pow_pos (by omega))
        omega
    have hb' : b = 0 := UInt8.toNat_inj.1 (by rw [hb]; rfl)
    rw [canon_cons, if_pos hb']
    refine ih ?_
    omega
theorem canon_snoc (l : List UInt8) (b : UInt8) : canon (l ++ [b]) = if nv l = 0 then canon [b] else canon l ++ [b] := by
  induction l with
  | nil => rw [List.nil_append, if_pos nv_nil]
  | cons a l ih =>
    rw [List.cons_append, canon_cons a (l ++ [b]), canon_cons a l]
    by_cases ha : a = 0
    · subst ha
      rw [if_pos rfl, if_pos rfl, ih]
      have : nv (0 :: l) = nv l := by rw [nv_cons]; simp
      rw [this]
    · rw [if_neg ha, if_neg ha]
      have h0 : a.toNat ≠ 0 := fun e => ha (UInt8.toNat_inj.1 (by rw [e]; rfl))
      have : nv (a :: l) ≠ 0 := by
        rw [nv_cons]
        have : 0 < a.toNat * 256 ^ l.length := Nat.mul_pos (by omega) (Nat.pow_pos (by omega))
        omega
      rw [if_neg this]
      rfl
theorem enc_nv : ∀ l : List UInt8, enc (nv l) = canon l := by
  refine snoc_ind rfl ?_
  intro l b ih
  rw [canon_snoc]
  by_cases h : nv l = 0
  · rw [if_pos h]
    by_cases hb : b = 0
    · subst hb
      rw [nv_snoc, h]
      rfl
    · rw [enc_snoc l b (Or.inr hb), h, canon_cons, if_neg hb]
      rfl
  · rw [if_neg h, enc_snoc l b (Or.inl h), ih]
theorem canon_enc (n : Nat) : canon (enc n) = enc n := by rw [← enc_nv, nv_enc]
theorem enc_len (n k : Nat) : (enc n).length ≤ k ↔ n < 256 ^ k := by
  induction k generalizing n with
  | zero =>
    rw [Nat.pow_zero]
    by_cases h : n = 0
    · subst h; simp [enc_zero]
    · rw [enc_pos n h]; simp; omega
  | succ k ih =>
    rw [Nat.pow_succ]
    by_cases h : n = 0
    · subst h
      have := Nat.pow_pos (n := k) (show 0 < 256 by omega)
      simp [enc_zero]
      omega
    · rw [enc_pos n h, List.length_append, List.length_singleton, Nat.add_le_add_iff_right, ih]
      omega
theorem enc_inj {a b : Nat} (h : enc a = enc b) : a = b := by rw [← nv_enc a, h, nv_enc]
theorem enc_ne_nil {n : Nat} (h : n ≠ 0) : enc n ≠ [] := by
  intro e
  exact h (enc_inj (e.trans enc_zero.symm))
theorem canon_len_pos (l : List UInt8) (h : 0 < (canon l).length) : 256 ^ ((canon l).length - 1) ≤ nv l := by
  have h1 := enc_len (nv l) ((canon l).length - 1)
  rw [enc_nv] at h1
  omega

/-- The value of digits, the least significant one first. -/
def dv (B : Nat) : List Nat → Nat
  | [] => 0
  | d :: l => d + B * dv B l
theorem dv_append (B : Nat) (a b : List Nat) : dv B (a ++ b) = dv B a + B ^ a.length * dv B b := by
  induction a with
  | nil => simp [dv]
  | cons d a ih =>
    rw [List.cons_append, dv, dv, ih, List.length_cons, Nat.pow_succ, Nat.mul_add, Nat.mul_comm (B ^ a.length) B, Nat.mul_assoc]
    omega
theorem dv_snoc (B : Nat) (a : List Nat) (d : Nat) : dv B (a ++ [d]) = dv B a + B ^ a.length * d := by
  rw [dv_append]
  simp [dv]
theorem dv_lt (B : Nat) (l : List Nat) (h : ∀ d ∈ l, d < B) : dv B l < B ^ l.length := by
  induction l with
  | nil => simp [dv]
  | cons d l ih =>
    have h1 := ih (fun x hx => h x (List.mem_cons_of_mem _ hx))
    have h2 := h d (by simp)
    rw [dv, List.length_cons, Nat.pow_succ, Nat.mul_comm (B ^ l.length) B]
    have h3 : B * dv B l + B ≤ B * B ^ l.length := by
      rw [← Nat.mul_succ]
      exact Nat.mul_le_mul_left _ h1
    omega
def digsF (B : Nat) : Nat → Nat → List Nat
  | 0, _ => []
  | f + 1, n => if n = 0 then [] else n % B :: digsF B f (n / B)
/-- The digits of a number, without zeros at the end. -/
def digs (B n : Nat) : List Nat := digsF B n n
theorem digsF_enough (B : Nat) (hB : 2 ≤ B) : ∀ f g n, n ≤ f → n ≤ g → digsF B f n = digsF B g n := by
  intro f
  induction f with
  | zero =>
    intro g n hf hg
    obtain rfl : n = 0 := by omega
    cases g <;> simp [digsF]
  | succ f ih =>
    intro g n hf hg
    cases g with
    | zero =>
      obtain rfl : n = 0 := by omega
      simp [digsF]
    | succ g =>
      simp only [digsF]
      split
      · rfl
      · have : n / B < n := Nat.div_lt_self (by omega) hB
        rw [ih g (n / B) (by omega) (by omega)]
theorem digs_zero (B : Nat) : digs B 0 = [] := rfl
theorem digs_pos (B : Nat) (hB : 2 ≤ B) (n : Nat) (h : n ≠ 0) : digs B n = n % B :: digs B (n / B) := by
  unfold digs
  cases n with
  | zero => exact absurd rfl h
  | succ n =>
    have : (n + 1) / B < n + 1 := Nat.div_lt_self (by omega) hB
    rw [digsF, if_neg (by omega), digsF_enough B hB n ((n + 1) / B) ((n + 1) / B) (by omega) (Nat.le_refl _)]
theorem dv_digs (B : Nat) (hB : 2 ≤ B) (n : Nat) : dv B (digs B n) = n := by
  induction n using Nat.strongRecOn with
  | ind n ih =>
    by_cases h : n = 0
    · subst h; rfl
    · have : n / B < n := Nat.div_lt_self (by omega) hB
      rw [digs_pos B hB n h, dv, ih _ this]
      exact Nat.mod_add_div n B
theorem digs_lt (B : Nat) (hB : 2 ≤ B) (n : Nat) : ∀ d ∈ digs B n, d < B := by
  induction n using Nat.strongRecOn with
  | ind n ih =>
    by_cases h : n = 0
    · subst h; intro d hd; cases hd
    · have : n / B < n := Nat.div_lt_self (by omega) hB
      rw [digs_pos B hB n h]
      intro d hd
      rw [List.mem_cons] at hd
      rcases hd with rfl | hd
      · exact Nat.mod_lt _ (by omega)
      · exact ih _ this d hd
theorem digs_cons (B : Nat) (hB : 2 ≤ B) (d m : Nat) (hd : d < B) (h : d ≠ 0 ∨ m ≠ 0) : digs B (d + B * m) = d :: digs B m := by
  have hn : d + B * m ≠ 0 := by
    rcases h with h | h
    · omega
    · have : 0 < B * m := Nat.mul_pos (by omega) (by omega)
      omega
  rw [digs_pos B hB _ hn, Nat.add_mul_mod_self_left, Nat.mod_eq_of_lt hd, Nat.add_mul_div_left _ _ (by omega : 0 < B), Nat.div_eq_of_lt hd, Nat.zero_add]
/-- Without zeros at the end. -/
def trimL : List Nat → List Nat
  | [] => []
  | d :: l => if d = 0 ∧ trimL l = [] then [] else d :: trimL l
theorem digs_nil (B : Nat) (hB : 2 ≤ B) (n : Nat) (h : digs B n = []) : n = 0 := by
  rw [← dv_digs B hB n, h]
  rfl
theorem digs_dv (B : Nat) (hB : 2 ≤ B) (l : List Nat) (h : ∀ d ∈ l, d < B) : digs B (dv B l) = trimL l := by
  induction l with
  | nil => rfl
  | cons d l ih =>
    have h1 := ih (fun x hx => h x (List.mem_cons_of_mem _ hx))
    have h2 := h d (by simp)
    rw [dv, trimL]
    split
    · rename_i hz
      obtain ⟨rfl, hz⟩ := hz
      rw [hz] at h1
      rw [digs_nil B hB _ h1]
      simp [digs_zero]
    · rename_i hz
      rw [digs_cons B hB d _ h2, h1]
      by_cases hd : d = 0
      · right
        intro e
        rw [e, digs_zero] at h1
        exact hz ⟨hd, h1.symm⟩
      · exact Or.inl hd
theorem trimL_snoc_zero (l : List Nat) : trimL (l ++ [0]) = trimL l := by
  induction l with
  | nil => simp [trimL]
  | cons d l ih => rw [List.cons_append, trimL, trimL, ih]
theorem trimL_snoc (l : List Nat) (d : Nat) (h : d ≠ 0) : trimL (l ++ [d]) = l ++ [d] := by
  induction l with
  | nil => simp [trimL, h]
  | cons a l ih => rw [List.cons_append, trimL, ih]; simp
theorem trimL_length (l : List Nat) : (trimL l).length ≤ l.length := by
  induction l with
  | nil => simp [trimL]
  | cons d l ih =>
    rw [trimL]
    split
    · simp
    · simp only [List.length_cons]; omega
theorem digs_len (B : Nat) (hB : 2 ≤ B) (n k : Nat) : (digs B n).length ≤ k ↔ n < B ^ k := by
  induction k generalizing n with
  | zero =>
    rw [Nat.pow_zero]
    by_cases h : n = 0
    · subst h; simp [digs_zero]
    · rw [digs_pos B hB n h]; simp; omega
  | succ k ih =>
    rw [Nat.pow_succ]
    by_cases h : n = 0
    · subst h
      have : 0 < B ^ k * B := Nat.mul_pos (Nat.pow_pos (by omega)) (by omega)
      simp only [digs_zero, List.length_nil, Nat.zero_le, true_iff]
      exact this
    · rw [digs_pos B hB n h, List.length_cons, Nat.add_le_add_iff_right, ih, Nat.div_lt_iff_lt_mul (by omega)]
end Go.Proofs.YtkhjgfbiemllmaaDoor
