/- Helpers of one's own: which blocks a call may have changed (Kb), and what follows from it. Numbers as bytes, and as digits: the plain part. The walks of the reference's small functions on numbers. Rows of ints and of bytes that a call has made: append, and what follows. The walk of the reference's 'of': the digits of a number. The walks of the reference's Of and number. -/
import Derived.Test.YtkhjgfbiemllmaaGreatDoorRows
import Derived.WalkKit
import Derived.WalkSpells
import Derived.Deep.Draws
import Derived.LoopTactic
import Derived.Lib.IndexBytes
import Derived.Deep.DeepCutAuto
import Derived.Maps.AppendAt
import Derived.Deep.AppendLies
import Derived.Deep.Onto
import Derived.Laws.OwnMore
import Derived.Laws.IdiomStrings
import Derived.OwnWalk
import Derived.ProofKit
import Derived.Deep.RegionHeld3
import Derived.Deep.DrawnRows
namespace Go.Proofs.YtkhjgfbiemllmaaGreatDoor
open Go.RowKit

/-- All blocks of w but those in S are in w' as they were; the rest of the world but its count of draws, too. -/
structure Kb (S : Nat → Prop) (w w' : World) : Prop where
  os : w'.os = w.os
  tape : w'.tape = w.tape
  output : w'.output = w.output
  size : w.heap.size ≤ w'.heap.size
  block : ∀ k, k < w.heap.size → ¬ S k → w'.heap[k]? = w.heap[k]?

namespace Kb
theorem refl (S : Nat → Prop) (w : World) : Kb S w w := ⟨rfl, rfl, rfl, Nat.le_refl _, fun _ _ _ => rfl⟩
theorem trans' {S T : Nat → Prop} {a b c : World} (h : Kb S a b) (k : Kb T b c) (hT : ∀ i, i < a.heap.size → T i → S i) : Kb S a c :=
  ⟨k.os.trans h.os, k.tape.trans h.tape, k.output.trans h.output, Nat.le_trans h.size k.size,
   fun i hi hs => (k.block i (Nat.lt_of_lt_of_le hi h.size) (fun t => hs (hT i hi t))).trans (h.block i hi hs)⟩
theorem trans {S : Nat → Prop} {a b c : World} (h : Kb S a b) (k : Kb S b c) : Kb S a c := h.trans' k (fun _ _ x => x)
theorem mono {S T : Nat → Prop} {a b : World} (h : Kb S a b) (hT : ∀ i, i < a.heap.size → S i → T i) : Kb T a b :=
  ⟨h.os, h.tape, h.output, h.size, fun i hi ht => h.block i hi (fun s => ht (hT i hi s))⟩
theorem drewN {S : Nat → Prop} {a w : World} (h : Kb S a w) (n : Nat) : Kb S a (w.drewN n) := ⟨h.os, h.tape, h.output, h.size, h.block⟩
theorem drew {S : Nat → Prop} {a w : World} (h : Kb S a w) : Kb S a w.drew := ⟨h.os, h.tape, h.output, h.size, h.block⟩
theorem alloc {S : Nat → Prop} {a w : World} (h : Kb S a w) (o : Obj) : Kb S a (w.alloc o) :=
  h.trans ⟨rfl, rfl, rfl, by simp, fun k hk _ => Below.heap_alloc _ _ _ (by omega)⟩
theorem setCell {S : Nat → Prop} {a w : World} (h : Kb S a w) {p : Addr} (hp : S p.block ∨ a.heap.size ≤ p.block) (u : Value) : Kb S a (w.setCell p u) :=
  ⟨h.os, h.tape, h.output, by have := h.size; simpa using this, fun k hk hs => by
    rw [Below.heap_setCell _ _ _ _ (by rintro rfl; rcases hp with hp | hp; exact hs hp; omega)]; exact h.block k hk hs⟩
theorem grown {S : Nat → Prop} {a w w' : World} {row : Option Nat} (h : Kb S a w) (hg : w.grownBy w' row) (hr : ∀ k, row = some k → S k ∨ a.heap.size ≤ k) : Kb S a w' :=
  ⟨hg.os.trans h.os, hg.tape.trans h.tape, hg.output.trans h.output, Nat.le_trans h.size hg.size,
   fun k hk hs => (hg.block k (Nat.lt_of_lt_of_le hk h.size) (fun e => by rcases hr k e.symm with r | r; exact hs r; omega)).trans (h.block k hk hs)⟩
theorem heap {S : Nat → Prop} {w w' : World} (h : Kb S w w') {b : Nat} {o : Obj} (hb : w.heap[b]? = some o) (hs : ¬ S b) : w'.heap[b]? = some o := by
  have hlt : b < w.heap.size := by
    rcases Nat.lt_or_ge b w.heap.size with hlt | hge
    · exact hlt
    · rw [Array.getElem?_eq_none hge] at hb; cases hb
  rw [h.block b hlt hs, hb]
theorem cell {S : Nat → Prop} {w w' : World} (h : Kb S w w') {p : Addr} {v : Value} (hv : w.cell? p = some v) (hs : ¬ S p.block) : w'.cell? p = some v := by
  rw [World.cell?_of_block (w := w) (h.block p.block (World.block_lt_of_cell? w p hv) hs)]; exact hv
theorem frozen {S : Nat → Prop} {w w' : World} (h : Kb S w w') {p : Addr} (hp : p.block < w.heap.size) (hs : ¬ S p.block) : w'.frozen? p = w.frozen? p :=
  World.frozen?_of_block (w := w) (h.block p.block hp hs)
theorem row {S : Nat → Prop} {w w' : World} {base : Nat} {e : TypeId} {size : Nat} {v : Value} {n : Nat} {xs : List Value} (h : Kb S w w') (ho : w.ownsRow base e size v n xs)
    (hs : ∀ k, v.ownBlock = some k → ¬ S k) : w'.ownsRow base e size v n xs := by
  refine ⟨ho.1, ?_⟩
  rcases ho.2 with h2 | ⟨g, cap, cur, hv, hg, hh, r⟩
  · exact Or.inl h2
  · exact Or.inr ⟨g, cap, cur, hv, hg, h.heap hh (hs g (by rw [hv]; rfl)), r⟩
theorem below {w w' : World} (h : Kb (fun _ => False) w w') : Below w.heap.size w w' := ⟨h.os, h.tape, h.output, h.size, fun k hk => h.block k hk (fun x => x)⟩
theorem ofDrewN (S : Nat → Prop) (w : World) (n : Nat) : Kb S w (w.drewN n) := (refl S w).drewN n
end Kb

theorem hid {p : Prop} (h : p) : Hid p := h
theorem block_lt {w : World} {b : Nat} {o : Obj} (hb : w.heap[b]? = some o) : b < w.heap.size := by
  rcases Nat.lt_or_ge b w.heap.size with hlt | hge
  · exact hlt
  · rw [Array.getElem?_eq_none hge] at hb; cases hb
theorem cell_of_heap {w : World} {b : Nat} {c : Array Value} {t : TypeId} {fz : Nat × Nat} (hb : w.heap[b]? = some (.cells c t fz)) (j : Nat) : w.cell? ⟨b, j, none⟩ = c[j]? := cell_of_row w b j c t fz hb
theorem frozen_of_heap {w : World} {b : Nat} {c : Array Value} {t : TypeId} (hb : w.heap[b]? = some (.cells c t (0, 0))) (j : Nat) : w.frozen? ⟨b, j, none⟩ = false := frozen_of_row w b j c t hb
end Go.Proofs.YtkhjgfbiemllmaaGreatDoor
namespace Go.Proofs.YtkhjgfbiemllmaaGreatDoor
open Go.RowKit

theorem snoc_ind {α : Type} {P : List α → Prop} (h0 : P []) (h1 : ∀ l a, P l → P (l ++ [a])) : ∀ l, P l := by
  intro l
  have h : ∀ m : List α, P m.reverse := by
    intro m
    induction m with
    | nil => exact h0
    | cons a m ih => rw [List.reverse_cons]; exact h1 _ _ ih
  have := h l.reverse
  rwa [List.reverse_reverse] at this

/-- The value of bytes, the most significant one first. -/
def nv (l : List UInt8) : Nat := l.foldl (fun a b => a * 256 + b.toNat) 0
theorem nv_nil : nv [] = 0 := rfl
theorem nv_snoc (l : List UInt8) (b : UInt8) : nv (l ++ [b]) = nv l * 256 + b.toNat := by simp [nv]
theorem nv_append (a b : List UInt8) : nv (a ++ b) = nv a * 256 ^ b.length + nv b := by
  revert b
  refine snoc_ind ?_ ?_
  · simp [nv]
  · intro b x ih
    rw [← List.append_assoc, nv_snoc, ih, nv_snoc, List.length_append, List.length_singleton, Nat.pow_succ, Nat.add_mul, Nat.mul_assoc, Nat.add_assoc]
theorem nv_one (b : UInt8) : nv [b] = b.toNat := by simp [nv]
theorem nv_cons (b : UInt8) (l : List UInt8) : nv (b :: l) = b.toNat * 256 ^ l.length + nv l := by
  have := nv_append [b] l
  rwa [nv_one] at this
theorem nv_lt : ∀ l : List UInt8, nv l < 256 ^ l.length := by
  refine snoc_ind ?_ ?_
  · simp [nv]
  · intro l b ih
    rw [nv_snoc, List.length_append, List.length_singleton, Nat.pow_succ]
    have := b.toNat_lt
    omega

/-- Without zeros in front. -/
def canon (l : List UInt8) : List UInt8 := l.dropWhile (· == 0)
theorem canon_nil : canon [] = [] := rfl
theorem canon_cons (b : UInt8) (l : List UInt8) : canon (b :: l) = if b = 0 then canon l else b :: l := by
  unfold canon
  rw [List.dropWhile_cons]
  by_cases h : b = 0 <;> simp [h]
theorem nv_canon (l : List UInt8) : nv (canon l) = nv l := by
  induction l with
  | nil => rfl
  | cons b l ih =>
    rw [canon_cons]
    split
    · rename_i h
      rw [ih, nv_cons, h]
      simp
    · rfl
theorem canon_canon (l : List UInt8) : canon (canon l) = canon l := by
  induction l with
  | nil => rfl
  | cons b l ih =>
    rw [canon_cons]
    split
    · exact ih
    · rename_i h
      rw [canon_cons, if_neg h]
theorem canon_length (l : List UInt8) : (canon l).length ≤ l.length := by
  induction l with
  | nil => simp [canon]
  | cons b l ih =>
    rw [canon_cons]
    split
    · simp only [List.length_cons]; omega
    · simp
def encF : Nat → Nat → List UInt8
  | 0, _ => []
  | f + 1, n => if n = 0 then [] else encF f (n / 256) ++ [UInt8.ofNat (n % 256)]
/-- The bytes of a number, without zeros in front. -/
def enc (n : Nat) : List UInt8 := encF n n
theorem encF_enough : ∀ f g n, n ≤ f → n ≤ g → encF f n = encF g n := by
  intro f
  induction f with
  | zero =>
    intro g n hf hg
    obtain rfl : n = 0 := by omega
    cases g <;> simp [encF]
  | succ f ih =>
    intro g n hf hg
    cases g with
    | zero =>
      obtain rfl : n = 0 := by omega
      simp [encF]
    | succ g =>
      simp only [encF]
      split
      · rfl
      · rw [ih g (n / 256) (by omega) (by omega)]
theorem enc_zero : enc 0 = [] := rfl
theorem enc_pos (n : Nat) (h : n ≠ 0) : enc n = enc (n / 256) ++ [UInt8.ofNat (n % 256)] := by
  unfold enc
  cases n with
  | zero => exact absurd rfl h
  | succ n =>
    rw [encF, if_neg (by omega)]
    rw [encF_enough n ((n + 1) / 256) ((n + 1) / 256) (by omega) (Nat.le_refl _)]
theorem nv_enc (n : Nat) : nv (enc n) = n := by
  induction n using Nat.strongRecOn with
  | ind n ih =>
    by_cases h : n = 0
    · subst h; rfl
    · rw [enc_pos n h, nv_snoc, ih (n / 256) (by omega), UInt8.toNat_ofNat']
      omega
theorem enc_snoc (l : List UInt8) (b : UInt8) (h : nv l ≠ 0 ∨ b ≠ 0) : enc (nv (l ++ [b])) = enc (nv l) ++ [b] := by
  have hb := b.toNat_lt
  have hn : nv (l ++ [b]) ≠ 0 := by
    rw [nv_snoc]
    rcases h with h | h
    · omega
    · have : b.toNat ≠ 0 := fun e => h (UInt8.toNat_inj.1 (by rw [e]; rfl))
      omega
  rw [enc_pos _ hn, nv_snoc]
  have e1 : (nv l * 256 + b.toNat) / 256 = nv l := by omega
  have e2 : (nv l * 256 + b.toNat) % 256 = b.toNat := by omega
  rw [e1, e2]
  congr 2
  exact UInt8.ofNat_toNat
theorem canon_nil_of (l : List UInt8) (h : nv l = 0) : canon l = [] := by
  induction l with
  | nil => rfl
  | cons b l ih =>
    rw [nv_cons] at h
    have hb : b.toNat = 0 := by
      rcases Nat.eq_zero_or_pos b.toNat with h0 | h0
      · exact h0
      · have : 0 < b.toNat * 256 ^ l.length := Nat.mul_pos h0 (Nat.pow_pos (by omega))
        omega
    have hb' : b = 0 := UInt8.toNat_inj.1 (by rw [hb]; rfl)
    rw [canon_cons, if_pos hb']
    refine ih ?_
    omega
theorem canon_snoc (l : List UInt8) (b : UInt8) : canon (l ++ [b]) = if nv l = 0 then canon [b] else canon l ++ [b] := by
  induction l with
  | nil => rw [List.nil_append, if_pos nv_nil]
  | cons a l ih =>
    rw [List.cons_append, canon_cons a (l ++ [b]), canon_cons a l]
    by_cases ha : a = 0
    · subst ha
      rw [if_pos rfl, if_pos rfl, ih]
      have : nv (0 :: l) = nv l := by rw [nv_cons]; simp
      rw [this]
    · rw [if_neg ha, if_neg ha]
      have h0 : a.toNat ≠ 0 := fun e => ha (UInt8.toNat_inj.1 (by rw [e]; rfl))
      have : nv (a :: l) ≠ 0 := by
        rw [nv_cons]
        have : 0 < a.toNat * 256 ^ l.length := Nat.mul_pos (by omega) (Nat.pow_pos (by omega))
        omega
      rw [if_neg this]
      rfl
theorem enc_nv : ∀ l : List UInt8, enc (nv l) = canon l := by
  refine snoc_ind rfl ?_
  intro l b ih
  rw [canon_snoc]
  by_cases h : nv l = 0
  · rw [if_pos h]
    by_cases hb : b = 0
    · subst hb
      rw [nv_snoc, h]
      rfl
    · rw [enc_snoc l b (Or.inr hb), h, canon_cons, if_neg hb]
      rfl
  · rw [if_neg h, enc_snoc l b (Or.inl h), ih]
theorem canon_enc (n : Nat) : canon (enc n) = enc n := by rw [← enc_nv, nv_enc]
theorem enc_len (n k : Nat) : (enc n).length ≤ k ↔ n < 256 ^ k := by
  induction k generalizing n with
  | zero =>
    rw [Nat.pow_zero]
    by_cases h : n = 0
    · subst h; simp [enc_zero]
    · rw [enc_pos n h]; simp; omega
  | succ k ih =>
    rw [Nat.pow_succ]
    by_cases h : n = 0
    · subst h
      have := Nat.pow_pos (n := k) (show 0 < 256 by omega)
      simp [enc_zero]
      omega
    · rw [enc_pos n h, List.length_append, List.length_singleton, Nat.add_le_add_iff_right, ih]
      omega
theorem enc_inj {a b : Nat} (h : enc a = enc b) : a = b := by rw [← nv_enc a, h, nv_enc]
theorem enc_ne_nil {n : Nat} (h : n ≠ 0) : enc n ≠ [] := by
  intro e
  exact h (enc_inj (e.trans enc_zero.symm))
theorem canon_len_pos (l : List UInt8) (h : 0 < (canon l).length) : 256 ^ ((canon l).length - 1) ≤ nv l := by
  have h1 := enc_len (nv l) ((canon l).length - 1)
  rw [enc_nv] at h1
  omega

/-- The value of digits, the least significant one first. -/
def dv (B : Nat) : List Nat → Nat
  | [] => 0
  | d :: l => d + B * dv B l
theorem dv_append (B : Nat) (a b : List Nat) : dv B (a ++ b) = dv B a + B ^ a.length * dv B b := by
  induction a with
  | nil => simp [dv]
  | cons d a ih =>
    rw [List.cons_append, dv, dv, ih, List.length_cons, Nat.pow_succ, Nat.mul_add, Nat.mul_comm (B ^ a.length) B, Nat.mul_assoc]
    omega
theorem dv_snoc (B : Nat) (a : List Nat) (d : Nat) : dv B (a ++ [d]) = dv B a + B ^ a.length * d := by
  rw [dv_append]
  simp [dv]
theorem dv_lt (B : Nat) (l : List Nat) (h : ∀ d ∈ l, d < B) : dv B l < B ^ l.length := by
  induction l with
  | nil => simp [dv]
  | cons d l ih =>
    have h1 := ih (fun x hx => h x (List.mem_cons_of_mem _ hx))
    have h2 := h d (by simp)
    rw [dv, List.length_cons, Nat.pow_succ, Nat.mul_comm (B ^ l.length) B]
    have h3 : B * dv B l + B ≤ B * B ^ l.length := by
      rw [← Nat.mul_succ]
      exact Nat.mul_le_mul_left _ h1
    omega
def digsF (B : Nat) : Nat → Nat → List Nat
  | 0, _ => []
  | f + 1, n => if n = 0 then [] else n % B :: digsF B f (n / B)
/-- The digits of a number, without zeros at the end. -/
def digs (B n : Nat) : List Nat := digsF B n n
theorem digsF_enough (B : Nat) (hB : 2 ≤ B) : ∀ f g n, n ≤ f → n ≤ g → digsF B f n = digsF B g n := by
  intro f
  induction f with
  | zero =>
    intro g n hf hg
    obtain rfl : n = 0 := by omega
    cases g <;> simp [digsF]
  | succ f ih =>
    intro g n hf hg
    cases g with
    | zero =>
      obtain rfl : n = 0 := by omega
      simp [digsF]
    | succ g =>
      simp only [digsF]
      split
      · rfl
      · have : n / B < n := Nat.div_lt_self (by omega) hB
        rw [ih g (n / B) (by omega) (by omega)]
theorem digs_zero (B : Nat) : digs B 0 = [] := rfl
theorem digs_pos (B : Nat) (hB : 2 ≤ B) (n : Nat) (h : n ≠ 0) : digs B n = n % B :: digs B (n / B) := by
  unfold digs
  cases n with
  | zero => exact absurd rfl h
  | succ n =>
    have : (n + 1) / B < n + 1 := Nat.div_lt_self (by omega) hB
    rw [digsF, if_neg (by omega), digsF_enough B hB n ((n + 1) / B) ((n + 1) / B) (by omega) (Nat.le_refl _)]
theorem dv_digs (B : Nat) (hB : 2 ≤ B) (n : Nat) : dv B (digs B n) = n := by
  induction n using Nat.strongRecOn with
  | ind n ih =>
    by_cases h : n = 0
    · subst h; rfl
    · have : n / B < n := Nat.div_lt_self (by omega) hB
      rw [digs_pos B hB n h, dv, ih _ this]
      exact Nat.mod_add_div n B
theorem digs_lt (B : Nat) (hB : 2 ≤ B) (n : Nat) : ∀ d ∈ digs B n, d < B := by
  induction n using Nat.strongRecOn with
  | ind n ih =>
    by_cases h : n = 0
    · subst h; intro d hd; cases hd
    · have : n / B < n := Nat.div_lt_self (by omega) hB
      rw [digs_pos B hB n h]
      intro d hd
      rw [List.mem_cons] at hd
      rcases hd with rfl | hd
      · exact Nat.mod_lt _ (by omega)
      · exact ih _ this d hd
theorem digs_cons (B : Nat) (hB : 2 ≤ B) (d m : Nat) (hd : d < B) (h : d ≠ 0 ∨ m ≠ 0) : digs B (d + B * m) = d :: digs B m := by
  have hn : d + B * m ≠ 0 := by
    rcases h with h | h
    · omega
    · have : 0 < B * m := Nat.mul_pos (by omega) (by omega)
      omega
  rw [digs_pos B hB _ hn, Nat.add_mul_mod_self_left, Nat.mod_eq_of_lt hd, Nat.add_mul_div_left _ _ (by omega : 0 < B), Nat.div_eq_of_lt hd, Nat.zero_add]
/-- Without zeros at the end. -/
def trimL : List Nat → List Nat
  | [] => []
  | d :: l => if d = 0 ∧ trimL l = [] then [] else d :: trimL l
theorem digs_nil (B : Nat) (hB : 2 ≤ B) (n : Nat) (h : digs B n = []) : n = 0 := by
  rw [← dv_digs B hB n, h]
  rfl
theorem digs_dv (B : Nat) (hB : 2 ≤ B) (l : List Nat) (h : ∀ d ∈ l, d < B) : digs B (dv B l) = trimL l := by
  induction l with
  | nil => rfl
  | cons d l ih =>
    have h1 := ih (fun x hx => h x (List.mem_cons_of_mem _ hx))
    have h2 := h d (by simp)
    rw [dv, trimL]
    split
    · rename_i hz
      obtain ⟨rfl, hz⟩ := hz
      rw [hz] at h1
      rw [digs_nil B hB _ h1]
      simp [digs_zero]
    · rename_i hz
      rw [digs_cons B hB d _ h2, h1]
      by_cases hd : d = 0
      · right
        intro e
        rw [e, digs_zero] at h1
        exact hz ⟨hd, h1.symm⟩
      · exact Or.inl hd
theorem trimL_snoc_zero (l : List Nat) : trimL (l ++ [0]) = trimL l := by
  induction l with
  | nil => simp [trimL]
  | cons d l ih => rw [List.cons_append, trimL, trimL, ih]
theorem trimL_snoc (l : List Nat) (d : Nat) (h : d ≠ 0) : trimL (l ++ [d]) = l ++ [d] := by
  induction l with
  | nil => simp [trimL, h]
  | cons a l ih => rw [List.cons_append, trimL, ih]; simp
theorem trimL_length (l : List Nat) : (trimL l).length ≤ l.length := by
  induction l with
  | nil => simp [trimL]
  | cons d l ih =>
    rw [trimL]
    split
    · simp
    · simp only [List.length_cons]; omega
theorem digs_len (B : Nat) (hB : 2 ≤ B) (n k : Nat) : (digs B n).length ≤ k ↔ n < B ^ k := by
  induction k generalizing n with
  | zero =>
    rw [Nat.pow_zero]
    by_cases h : n = 0
    · subst h; simp [digs_zero]
    · rw [digs_pos B hB n h]; simp; omega
  | succ k ih =>
    rw [Nat.pow_succ]
    by_cases h : n = 0
    · subst h
      have : 0 < B ^ k * B := Nat.mul_pos (Nat.pow_pos (by omega)) (by omega)
      simp only [digs_zero, List.length_nil, Nat.zero_le, true_iff]
      exact this
    · rw [digs_pos B hB n h, List.length_cons, Nat.add_le_add_iff_right, ih, Nat.div_lt_iff_lt_mul (by omega)]
end Go.Proofs.YtkhjgfbiemllmaaGreatDoor
namespace Go.Proofs.YtkhjgfbiemllmaaGreatDoor
open Go.RowKit

/-- The number that a string is; the string of a number. -/
def sv (s : ByteArray) : Nat := nv s.data.toList
def natS (n : Nat) : ByteArray := ⟨(enc n).toArray⟩
theorem sv_natS (n : Nat) : sv (natS n) = n := by unfold sv natS; simp [nv_enc]
theorem natS_sv (s : ByteArray) : natS (sv s) = ⟨(canon s.data.toList).toArray⟩ := by unfold sv natS; rw [enc_nv]
theorem natS_size (n : Nat) : (natS n).size = (enc n).length := rfl
theorem natS_len (n k : Nat) : (natS n).size ≤ k ↔ n < 256 ^ k := by rw [natS_size]; exact enc_len n k

theorem str_drop (s : ByteArray) (k : Nat) : s.extract k s.size = ⟨(s.data.toList.drop k).toArray⟩ := by
  apply ByteArray.ext
  apply Array.toList_inj.1
  rw [Lib.extract_to_end]
theorem canon_drop_zero (s : ByteArray) (k : Nat) (hk : k < s.size) (h0 : s[k] = 0) : canon (s.data.toList.drop (k + 1)) = canon (s.data.toList.drop k) := by
  have hl : k < s.data.toList.length := by simpa using hk
  rw [List.drop_eq_getElem_cons hl, canon_cons, if_pos]
  rw [← h0]; rfl
theorem canon_drop_pos (s : ByteArray) (k : Nat) (hk : k < s.size) (h0 : s[k] ≠ 0) : canon (s.data.toList.drop k) = s.data.toList.drop k := by
  have hl : k < s.data.toList.length := by simpa using hk
  rw [List.drop_eq_getElem_cons hl, canon_cons, if_neg]
  intro e
  exact h0 (by rw [← e]; rfl)
set_option maxHeartbeats 1000000 in
theorem canon_any (s : ByteArray) (w : World) (hs : s.size ≤ 9223372036854775807) :
    Calls Tryz.prog 58 #[.string s] w fun e w' => e = .returned (.string (natS (sv s))) ∧ w' = w := by
  go_enter Tryz.func58, Tryz.ntmps58
  go_wp2
  go_loop [3] (fun i => ∃ k : Nat, k ≤ s.size ∧ i = .int .i64 k ∧ Hid (canon (s.data.toList.drop k) = canon s.data.toList)) (fun i => s.size - (intOf i).toNat)
  case atStart => exact ⟨0, Nat.zero_le _, rfl, by (show canon _ = canon _); simp⟩
  case round =>
    obtain ⟨k, hk, rfl, hc⟩ := hrel
    by_cases hlt : k < s.size
    · by_cases h0 : s[k] = 0
      · have hc2 := hid ((canon_drop_zero s k hlt h0).trans hc.out)
        have h1 : ((s[k].toNat : Int) == 0) = true := by rw [h0]; rfl
        clear h0
        go_wp2
        exact ⟨⟨k + 1, by omega, by go_num, hc2⟩, by simp [intOf]; omega⟩
      · have hc2 := hid ((canon_drop_pos s k hlt h0).symm.trans hc.out)
        have h1 : ((s[k].toNat : Int) == 0) = false := by
          rw [beq_eq_false_iff_ne]
          intro e
          exact h0 (UInt8.toNat_inj.1 (by rw [show (0 : UInt8).toNat = 0 from rfl]; omega))
        clear h0
        go_wp2
        go_ret
        exact ⟨by rw [natS_sv, ← hc2.out, ← str_drop]; rfl, rfl⟩
    · have hkl : k = s.size := by omega
      subst hkl
      go_wp2
      go_ret
      have h := hc.out
      rw [List.drop_of_length_le (by simp)] at h
      exact ⟨by rw [natS_sv, ← h]; rfl, rfl⟩
theorem canon_is (s t : ByteArray) (w : World) (hs : s.size ≤ 9223372036854775807) (ht : natS (sv s) = t) :
    Calls Tryz.prog 58 #[.string s] w fun e w' => e = .returned (.string t) ∧ w' = w := by
  subst ht
  exact canon_any s w hs

theorem nv_take_le (l : List UInt8) (k : Nat) : nv (l.take k) * 256 ^ (l.length - k) ≤ nv l := by
  have h := nv_append (l.take k) (l.drop k)
  rw [List.take_append_drop, List.length_drop] at h
  omega
theorem nv_take_le' (l : List UInt8) (k : Nat) : nv (l.take k) ≤ nv l := by
  have h := nv_take_le l k
  have := Nat.pow_pos (n := l.length - k) (show 0 < 256 by omega)
  exact Nat.le_trans (Nat.le_mul_of_pos_right _ this) h
theorem nv_take_succ (s : ByteArray) (k : Nat) (hk : k < s.size) : nv (s.data.toList.take (k + 1)) = nv (s.data.toList.take k) * 256 + s[k].toNat := by
  have hl : k < s.data.toList.length := by simpa using hk
  rw [List.take_succ_eq_append_getElem hl, nv_snoc]
  rfl
theorem nat_head (n : Nat) (h8 : (natS n).size = 8) : (n < 9223372036854775808 ↔ ((natS n)[0]'(by omega)).toNat ≤ 127) := by
  have hl : (enc n).length = 8 := h8
  have e : enc n = (natS n)[0] :: (enc n).drop 1 := by
    exact List.drop_eq_getElem_cons (l := enc n) (i := 0) (by omega)
  have h1 := nv_enc n
  rw [e, nv_cons, List.length_drop, hl] at h1
  have h2 := nv_lt ((enc n).drop 1)
  rw [List.length_drop, hl] at h2
  omega
set_option maxHeartbeats 1000000 in
theorem int_ok (s : ByteArray) (w : World) (hs : s.size ≤ 9223372036854775807) (hn : sv s < 9223372036854775808) :
    Calls Tryz.prog 54 #[.string s] w fun e w' => e = .returned (.tuple #[.int .i64 (sv s), .bool true]) ∧ w' = w := by
  obtain ⟨t, h8, hh, ht, hts⟩ : ∃ t : ByteArray, t.size ≤ 8 ∧ (∀ h : t.size = 8, (t[0]'(by omega)).toNat ≤ 127) ∧ (∀ k, nv (t.data.toList.take k) ≤ sv s) ∧ natS (sv s) = t := by
    refine ⟨_, (natS_len _ _).2 (by omega), fun h => (nat_head _ h).1 hn, fun k => ?_, rfl⟩
    have h := nv_take_le' (natS (sv s)).data.toList k
    rwa [show nv (natS (sv s)).data.toList = sv s from sv_natS _] at h
  have hfull : nv t.data.toList = sv s := by rw [← hts]; exact sv_natS _
  obtain ⟨n, hns⟩ : ∃ n, n = sv s := ⟨_, rfl⟩
  rw [← hns] at hfull ht hn ⊢
  have HF := hid hfull
  have HT := hid ht
  have HTS := hid hts
  have HH := hid hh
  clear hfull ht hts hh hns
  go_enter Tryz.func54, Tryz.ntmps54
  go_wp2_with fail
  refine (canon_is s t w hs HTS.out).mono ?_
  rintro e w' ⟨rfl, rfl⟩
  rcases (show t.size < 8 ∨ t.size = 8 by omega) with h7 | h7
  · have h70 : ((t.size : Int) == 8) = false := by rw [beq_eq_false_iff_ne]; omega
    go_wp2_with fail
    go_loop [4, 5] (fun v i => ∃ k : Nat, k ≤ t.size ∧ i = .int .i64 k ∧ v = .int .i64 (nv (t.data.toList.take k))) (fun _ i => t.size - (intOf i).toNat)
    case atStart => exact ⟨0, Nat.zero_le _, rfl, rfl⟩
    case round =>
      obtain ⟨k, hk, rfl, rfl⟩ := hrel
      by_cases hlt : k < t.size
      · have h1 := nv_take_succ t k hlt
        have h2 := HT.out (k + 1)
        rw [h1] at h2
        have H1 := hid h1
        have h3 := t[k].toNat_lt
        clear h1
        generalize nv (t.data.toList.take k) = m at *
        go_wp2_with fail
        exact ⟨⟨k + 1, by omega, by go_num, by rw [H1.out]; go_num⟩, by simp [intOf]; omega⟩
      · have hkl : k = t.size := by omega
        subst hkl
        have H1 := hid (show nv (t.data.toList.take t.size) = n by rw [List.take_of_length_le (by simp)]; exact HF.out)
        generalize nv (t.data.toList.take t.size) = m at *
        go_wp2_with fail
        go_ret2
        exact ⟨by rw [← H1.out]; rfl, rfl⟩
  · have h72 : 0 < t.size := by omega
    have hb : (t[0]'h72).toNat ≤ 127 := HH.out h7
    have h70 : ((t.size : Int) == 8) = true := by rw [h7]; rfl
    have h71 : 8 ≤ t.size := by omega
    clear h7
    go_wp2_with fail
    go_loop [4, 5] (fun v i => ∃ k : Nat, k ≤ t.size ∧ i = .int .i64 k ∧ v = .int .i64 (nv (t.data.toList.take k))) (fun _ i => t.size - (intOf i).toNat)
    case atStart => exact ⟨0, Nat.zero_le _, rfl, rfl⟩
    case round =>
      obtain ⟨k, hk, rfl, rfl⟩ := hrel
      by_cases hlt : k < t.size
      · have h1 := nv_take_succ t k hlt
        have h2 := HT.out (k + 1)
        rw [h1] at h2
        have H1 := hid h1
        have h3 := t[k].toNat_lt
        clear h1
        generalize nv (t.data.toList.take k) = m at *
        go_wp2_with fail
        exact ⟨⟨k + 1, by omega, by go_num, by rw [H1.out]; go_num⟩, by simp [intOf]; omega⟩
      · have hkl : k = t.size := by omega
        subst hkl
        have H1 := hid (show nv (t.data.toList.take t.size) = n by rw [List.take_of_length_le (by simp)]; exact HF.out)
        generalize nv (t.data.toList.take t.size) = m at *
        go_wp2_with fail
        go_ret2
        exact ⟨by rw [← H1.out]; rfl, rfl⟩

theorem nat_len8 (n : Nat) (h1 : 9223372036854775808 ≤ n) : 8 < (natS n).size ∨ ∃ h : (natS n).size = 8, 128 ≤ ((natS n)[0]'(by omega)).toNat := by
  rcases Nat.lt_or_ge 8 (natS n).size with h | h
  · exact Or.inl h
  · have h7 : ¬ (natS n).size ≤ 7 := fun e => by have := (natS_len n 7).1 e; omega
    have h8 : (natS n).size = 8 := by omega
    refine Or.inr ⟨h8, ?_⟩
    have := nat_head n h8
    omega
set_option maxHeartbeats 1000000 in
theorem int_no (s : ByteArray) (w : World) (hs : s.size ≤ 9223372036854775807) (hn : 9223372036854775808 ≤ sv s) :
    Calls Tryz.prog 54 #[.string s] w fun e w' => e = .returned (.tuple #[.int .i64 0, .bool false]) ∧ w' = w := by
  obtain ⟨t, ht, hts⟩ : ∃ t : ByteArray, (8 < t.size ∨ ∃ h : t.size = 8, 128 ≤ (t[0]'(by omega)).toNat) ∧ natS (sv s) = t := ⟨_, nat_len8 _ hn, rfl⟩
  have HTS := hid hts
  clear hts hn
  rcases ht with h8 | ⟨h8, hb⟩
  · go_enter Tryz.func54, Tryz.ntmps54
    go_wp2_with fail
    refine (canon_is s t w hs HTS.out).mono ?_
    rintro e w' ⟨rfl, rfl⟩
    go_wp2_with fail
    go_ret2
    exact ⟨rfl, rfl⟩
  · have h72 : 0 < t.size := by omega
    have hb' : 128 ≤ (t[0]'h72).toNat := hb
    have h70 : ((t.size : Int) == 8) = true := by rw [h8]; rfl
    have h71 : 8 ≤ t.size := by omega
    have h73 : t.size ≤ 8 := by omega
    clear hb h8
    go_enter Tryz.func54, Tryz.ntmps54
    go_wp2_with fail
    refine (canon_is s t w hs HTS.out).mono ?_
    rintro e w' ⟨rfl, rfl⟩
    go_wp2_with fail
    go_ret2
    exact ⟨rfl, rfl⟩
set_option maxHeartbeats 1000000 in
theorem small_yes (s : ByteArray) (k : Nat) (w : World) (hs : s.size ≤ 9223372036854775807) (hk : k ≤ 7) (hn : sv s < 256 ^ k) :
    Calls Tryz.prog 55 #[.string s, .int .i64 k] w fun e w' => e = .returned (.tuple #[.int .i64 (sv s), .bool true]) ∧ w' = w := by
  obtain ⟨t, ht, hts⟩ : ∃ t : ByteArray, t.size ≤ k ∧ natS (sv s) = t := ⟨_, (natS_len _ _).2 hn, rfl⟩
  have h63 : sv s < 9223372036854775808 := Nat.lt_of_lt_of_le hn (Nat.le_trans (Nat.pow_le_pow_right (by omega) hk) (by omega))
  have HTS := hid hts
  have H63 := hid h63
  clear hts hn h63
  go_enter Tryz.func55, Tryz.ntmps55
  go_wp2_with fail
  refine (canon_is s t w hs HTS.out).mono ?_
  rintro e w' ⟨rfl, rfl⟩
  go_wp2_with fail
  refine (int_ok s _ hs H63.out).mono ?_
  rintro e w' ⟨rfl, rfl⟩
  go_wp2_with fail
  go_ret2
  exact ⟨rfl, rfl⟩
set_option maxHeartbeats 1000000 in
theorem small_no (s : ByteArray) (k : Nat) (w : World) (hs : s.size ≤ 9223372036854775807) (hn : 256 ^ k ≤ sv s) :
    Calls Tryz.prog 55 #[.string s, .int .i64 k] w fun e w' => e = .returned (.tuple #[.int .i64 0, .bool false]) ∧ w' = w := by
  obtain ⟨t, ht, hts⟩ : ∃ t : ByteArray, k < t.size ∧ natS (sv s) = t := ⟨_, by have := natS_len (sv s) k; omega, rfl⟩
  have HTS := hid hts
  clear hts hn
  go_enter Tryz.func55, Tryz.ntmps55
  go_wp2_with fail
  refine (canon_is s t w hs HTS.out).mono ?_
  rintro e w' ⟨rfl, rfl⟩
  go_wp2_with fail
  go_ret2
  exact ⟨rfl, rfl⟩
end Go.Proofs.YtkhjgfbiemllmaaGreatDoor
namespace Go.Proofs.YtkhjgfbiemllmaaGreatDoor
open Go.RowKit

def dV (l : List Nat) : List Value := l.map (fun d : Nat => .int .i64 (d : Int))
def bV (l : List UInt8) : List Value := l.map (fun b : UInt8 => .int .u8 (b.toNat : Int))
theorem dV_len (l : List Nat) : (dV l).length = l.length := by simp [dV]
theorem bV_len (l : List UInt8) : (bV l).length = l.length := by simp [bV]
theorem dV_snoc (l : List Nat) (d : Nat) : dV (l ++ [d]) = dV l ++ [.int .i64 (d : Int)] := by simp [dV]
theorem bV_append (l m : List UInt8) : bV (l ++ m) = bV l ++ bV m := by simp [bV]
theorem dV_append (l m : List Nat) : dV (l ++ m) = dV l ++ dV m := by simp [dV]
theorem dV_get (l : List Nat) (i : Nat) (h : i < l.length) : (dV l)[i]? = some (.int .i64 ((l[i]! : Nat) : Int)) := by
  simp [dV, List.getElem?_eq_getElem h, List.getElem!_eq_getElem?_getD]
theorem bV_get (l : List UInt8) (i : Nat) (h : i < l.length) : (bV l)[i]? = some (.int .u8 (l[i].toNat : Int)) := by
  simp [bV, List.getElem?_eq_getElem h]
theorem dV_one (l : List Nat) : ∀ u ∈ dV l, u.oneCell' = true := by
  intro u hu
  simp only [dV, List.mem_map] at hu
  obtain ⟨t, _, rfl⟩ := hu
  rfl
theorem bV_one (l : List UInt8) : ∀ u ∈ bV l, u.oneCell' = true := by
  intro u hu
  simp only [bV, List.mem_map] at hu
  obtain ⟨t, _, rfl⟩ := hu
  rfl
theorem infoInt : (Tryz.prog.info? 3).map (fun i => (i.zero, i.size, i.bytes)) = some (some (.int .i64 0), 1, 8) := by kernel_rfl
theorem infoU8 : (Tryz.prog.info? 5).map (fun i => (i.zero, i.size, i.bytes)) = some (some (.int .u8 0), 1, 1) := by kernel_rfl
theorem own_slice {w : World} {base : Nat} {e : TypeId} {size : Nat} {v : Value} {n : Nat} {xs : List Value} (h : w.ownsRow base e size v n xs) : ∃ a c, v = .slice a n c := by
  rcases h.2 with ⟨rfl, rfl⟩ | ⟨g', cap, cur, rfl, _, hh, _⟩
  · exact ⟨_, _, rfl⟩
  · exact ⟨_, _, rfl⟩
/-- A row of ints in blocks from B on. -/
def RowD (w : World) (B : Nat) (v : Value) (l : List Nat) : Prop := w.ownsRow B 3 1 v l.length (dV l)
/-- A row of bytes in blocks from B on. -/
def RowB (w : World) (B : Nat) (v : Value) (l : List UInt8) : Prop := w.ownsRow B 5 1 v l.length (bV l)
theorem RowD.nil (w : World) (B : Nat) : RowD w B (.slice none 0 0) [] := World.ownsRow_nil ..
theorem RowB.nil (w : World) (B : Nat) : RowB w B (.slice none 0 0) [] := World.ownsRow_nil ..
theorem RowD.slice {w : World} {B : Nat} {v : Value} {l : List Nat} (h : RowD w B v l) : ∃ a c, v = .slice a l.length c := own_slice h
theorem RowB.slice {w : World} {B : Nat} {v : Value} {l : List UInt8} (h : RowB w B v l) : ∃ a c, v = .slice a l.length c := own_slice h
theorem RowD.base {w : World} {B B' : Nat} {v : Value} {l : List Nat} (h : RowD w B v l) (hB : B' ≤ B) : RowD w B' v l := World.ownsRow.mono h hB
theorem RowD.kb {S : Nat → Prop} {w w' : World} {B : Nat} {v : Value} {l : List Nat} (h : RowD w B v l) (k : Kb S w w') (hs : ∀ x, S x → x < B ∨ w.heap.size ≤ x) : RowD w' B v l :=
  k.row h (fun g e hg => by
    have := World.ownsRow.lt h g e
    rcases hs g hg with h | h <;> omega)
theorem RowD.kb0 {w w' : World} {B : Nat} {v : Value} {l : List Nat} (h : RowD w B v l) (k : Kb (fun _ => False) w w') : RowD w' B v l := k.row h (fun _ _ x => x)
theorem RowD.form {w : World} {B : Nat} {a : Option Addr} {n c : Nat} {l : List Nat} (h : RowD w B (.slice a n c) l) (hn : 0 < l.length) :
    ∃ g, a = some ⟨g, 0, none⟩ ∧ n = l.length ∧ B ≤ g ∧ g < w.heap.size ∧ ∀ i, i < l.length → w.cell? ⟨g, i, none⟩ = some (.int .i64 ((l[i]! : Nat) : Int)) := by
  rcases h.2 with ⟨_, h0⟩ | ⟨g, cap, cur, e, hg, hh, _⟩
  · omega
  · simp only [Value.slice.injEq] at e
    obtain ⟨rfl, rfl, rfl⟩ := e
    refine ⟨g, rfl, rfl, hg, block_lt hh, fun i hi => ?_⟩
    rw [World.ownsRow.cellAt h i (by omega), dV_get l i hi]
theorem kb_le {B : Nat} {w w' : World} (k : Kb (fun x => B ≤ x) w w') {w0 : World} (k0 : Kb (fun _ => False) w0 w) (h0 : w0.heap.size ≤ B) : Kb (fun _ => False) w0 w' :=
  k0.trans' k (fun i hi hx => by omega)

section
variable {ops : Array Oper} {rest : List Oper} {o : Oper} {a : Act} {Q : Exit → Act → World → Prop}
theorem grown_kb {B : Nat} {w w' : World} {v : Value} (hg : w.grownBy w' v.ownBlock) (hv : ∀ k, v.ownBlock = some k → B ≤ k) : Kb (fun x => B ≤ x) w w' :=
  (Kb.refl _ _).grown hg (fun k e => Or.inl (hv k e))
/-- append of one int. -/
theorem app_int1 {wr : World} {z : Int} (hgd : o.guard = none) (s x : Operand)
    (ho : o.op = .call { callee := .builtin .append, args := #[s, x], argTypes := #[35, 35] }) (B : Nat) (v : Value) (l : List Nat) (d : Nat) (hs : a.eval s = v)
    (hx : a.eval x = .slice (some ⟨wr.heap.size, 0, none⟩) 1 1) (hown : RowD wr B v l) (hz : z = (d : Int)) (hl : l.length ≤ 1000000000) (hB : B ≤ wr.heap.size)
    (h : ∀ a' c' w', RowD w' B (.slice a' (l.length + 1) c') (l ++ [d]) → Kb (fun x => B ≤ x) wr w' → wpList Tryz.prog ops Q rest (a.put o.dst (.slice a' (l.length + 1) c')) w') :
    wpList Tryz.prog ops Q (o :: rest) a (wr.alloc (.cells #[.int .i64 z] 3)) := by
  obtain ⟨i0, hi0, hz0, hz1, hz2⟩ := info_parts infoInt
  subst hz
  refine wpList_append_own_at _ hgd s x _ ho B 3 i0 _ 1 8 Tryz.underlying35 hi0 hz0 hz1 hz2 rfl (by omega) v l.length (dV l) hs (World.ownsRow.alloc hown _) ⟨wr.heap.size, 0, none⟩ 1 1 [.int .i64 (d : Int)] hx (by rfl)
    (World.news_of_block (cs := #[.int .i64 (d : Int)]) (t := 3) (fr := (0, 0)) (heap_alloc_new wr _)) (by simp [Value.oneCell']) (by unfold maxLen; omega) (by omega) (by simp; omega) ?_
  intro v' w' hown1 hgrow _ _
  obtain ⟨a', c', rfl⟩ := own_slice hown1
  refine h a' c' w' ?_ ?_
  · unfold RowD
    rw [dV_snoc, List.length_append, List.length_singleton]
    exact hown1
  · exact ((Kb.refl _ wr).alloc _).trans (grown_kb hgrow (fun k e => (World.ownsRow.lt hown k e).1))
/-- append of one byte. -/
theorem app_u81 {wr : World} {z : Int} (hgd : o.guard = none) (s x : Operand)
    (ho : o.op = .call { callee := .builtin .append, args := #[s, x], argTypes := #[84, 84] }) (B : Nat) (v : Value) (l : List UInt8) (d : UInt8) (hs : a.eval s = v)
    (hx : a.eval x = .slice (some ⟨wr.heap.size, 0, none⟩) 1 1) (hown : RowB wr B v l) (hz : z = (d.toNat : Int)) (hl : l.length ≤ 1000000000) (hB : B ≤ wr.heap.size)
    (h : ∀ a' c' w', RowB w' B (.slice a' (l.length + 1) c') (l ++ [d]) → Kb (fun x => B ≤ x) wr w' → wpList Tryz.prog ops Q rest (a.put o.dst (.slice a' (l.length + 1) c')) w') :
    wpList Tryz.prog ops Q (o :: rest) a (wr.alloc (.cells #[.int .u8 z] 5)) := by
  obtain ⟨i0, hi0, hz0, hz1, hz2⟩ := info_parts infoU8
  subst hz
  refine wpList_append_own_at _ hgd s x _ ho B 5 i0 _ 1 1 Tryz.underlying84 hi0 hz0 hz1 hz2 rfl (by omega) v l.length (bV l) hs (World.ownsRow.alloc hown _) ⟨wr.heap.size, 0, none⟩ 1 1 [.int .u8 (d.toNat : Int)] hx (by rfl)
    (World.news_of_block (cs := #[.int .u8 (d.toNat : Int)]) (t := 5) (fr := (0, 0)) (heap_alloc_new wr _)) (by simp [Value.oneCell']) (by unfold maxLen; omega) (by omega) (by simp; omega) ?_
  intro v' w' hown1 hgrow _ _
  obtain ⟨a', c', rfl⟩ := own_slice hown1
  refine h a' c' w' ?_ ?_
  · unfold RowB
    rw [bV_append, List.length_append, List.length_singleton]
    exact hown1
  · exact ((Kb.refl _ wr).alloc _).trans (grown_kb hgrow (fun k e => (World.ownsRow.lt hown k e).1))
end
/-- 'string(b)'. -/
theorem conv_row {w : World} {B : Nat} {a : Option Addr} {n c : Nat} {l : List UInt8} (h : RowB w B (.slice a n c) l) (dst : TypeId) (hd : Tryz.prog.underlying dst = some .string) :
    (convert 84 dst (.slice a n c)).run Tryz.prog w = .ok (.string ⟨l.toArray⟩) w := by
  rcases h.2 with ⟨e, h0⟩ | ⟨g, cap, cur, e, hg, hh, _⟩
  · simp only [Value.slice.injEq] at e
    obtain ⟨rfl, rfl, rfl⟩ := e
    obtain rfl : l = [] := List.eq_nil_of_length_eq_zero h0
    rw [run_convert_bytes_string w _ dst 5 none 0 0 Tryz.underlying84 Tryz.underlying5 hd]
    simp [Conv.bytesToString]
    rfl
  · simp only [Value.slice.injEq] at e
    obtain ⟨rfl, rfl, rfl⟩ := e
    exact run_convert_bytes_back w _ dst 5 ⟨g, 0, none⟩ c l Tryz.underlying84 Tryz.underlying5 hd (fun j hj => by
      have h1 := World.ownsRow.cells (g := g) h rfl j (.int .u8 (l[j].toNat : Int)) (bV_get l j hj)
      exact h1)
end Go.Proofs.YtkhjgfbiemllmaaGreatDoor
namespace Go.Proofs.YtkhjgfbiemllmaaGreatDoor
open Go.RowKit

def P24 : Nat := 16777216
theorem enc_head (n : Nat) (b : UInt8) (r : List UInt8) (h : enc n = b :: r) : b ≠ 0 := by
  rintro rfl
  have h1 := canon_enc n
  rw [h, canon_cons, if_pos rfl] at h1
  have h2 := canon_length r
  rw [h1] at h2
  simp only [List.length_cons] at h2
  omega
theorem enc_take_pos (n e : Nat) (h0 : 0 < e) (he : e ≤ (enc n).length) : nv ((enc n).take e) ≠ 0 := by
  cases hl : enc n with
  | nil => rw [hl] at he; simp at he; omega
  | cons b r =>
    have hb := enc_head n b r hl
    have hb' : b.toNat ≠ 0 := fun e => hb (UInt8.toNat_inj.1 (by rw [e]; rfl))
    obtain ⟨e', rfl⟩ : ∃ e', e = e' + 1 := ⟨e - 1, by omega⟩
    rw [List.take_succ_cons, nv_cons]
    have : 0 < b.toNat * 256 ^ (r.take e').length := Nat.mul_pos (by omega) (Nat.pow_pos (by omega))
    omega
theorem chunk (l : List UInt8) (e : Nat) (h0 : 0 < e) (he : e ≤ l.length) (hp : nv (l.take e) ≠ 0) :
    digs P24 (nv (l.take e)) = nv ((l.take e).drop (e - 3)) :: digs P24 (nv (l.take (e - 3))) := by
  have h1 := nv_append ((l.take e).take (e - 3)) ((l.take e).drop (e - 3))
  rw [List.take_append_drop, List.take_take, Nat.min_eq_left (by omega : e - 3 ≤ e), List.length_drop, List.length_take, Nat.min_eq_left he] at h1
  have h2 := nv_lt ((l.take e).drop (e - 3))
  rw [List.length_drop, List.length_take, Nat.min_eq_left he] at h2
  have h3 : 256 ^ (e - (e - 3)) ≤ 256 ^ 3 := Nat.pow_le_pow_right (by omega) (by omega)
  have h5 : nv (l.take (e - 3)) * 256 ^ (e - (e - 3)) = P24 * nv (l.take (e - 3)) := by
    by_cases h : 3 ≤ e
    · rw [show e - (e - 3) = 3 by omega, Nat.mul_comm]; rfl
    · rw [show e - 3 = 0 by omega]
      simp [nv]
  rw [h5] at h1
  rw [h1, Nat.add_comm]
  refine digs_cons P24 (by decide) _ _ (by unfold P24; omega) ?_
  rw [h1] at hp
  by_cases h : nv ((l.take e).drop (e - 3)) = 0
  · right
    intro hz
    rw [h, hz] at hp
    simp at hp
  · exact Or.inl h
theorem take_chunk (s : ByteArray) (lo k : Nat) (hl : lo ≤ k) (hk : k < s.size) : nv ((s.data.toList.take (k + 1)).drop lo) = nv ((s.data.toList.take k).drop lo) * 256 + s[k].toNat := by
  have h : k < s.data.toList.length := by simpa using hk
  rw [List.take_succ_eq_append_getElem h, List.drop_append_of_le_length (by simp; omega), nv_snoc]
  rfl
theorem chunk_lt (l : List UInt8) (lo k : Nat) (h : k ≤ lo + 3) : nv ((l.take k).drop lo) < 16777216 := by
  have h2 := nv_lt ((l.take k).drop lo)
  have h3 : 256 ^ ((l.take k).drop lo).length ≤ 256 ^ 3 := Nat.pow_le_pow_right (by omega) (by rw [List.length_drop, List.length_take]; omega)
  omega

set_option maxHeartbeats 2000000 in
theorem of_any (s : ByteArray) (w : World) (hs : s.size ≤ 1000000000) :
    Calls Tryz.prog 56 #[.string s] w fun e w' => ∃ v, e = .returned v ∧ RowD w' w.heap.size v (digs P24 (sv s)) ∧ Kb (fun _ => False) w w' := by
  obtain ⟨t, hts, htp, htl, htn⟩ : ∃ t : ByteArray, natS (sv s) = t ∧ (∀ e, 0 < e → e ≤ t.size → nv (t.data.toList.take e) ≠ 0) ∧ t.size ≤ s.size ∧ sv t = sv s := by
    refine ⟨_, rfl, fun e h0 he => ?_, ?_, sv_natS _⟩
    · exact enc_take_pos (sv s) e h0 he
    · rw [natS_sv]
      exact canon_length s.data.toList
  have HTS := hid hts
  have HTP := hid htp
  have HN := hid htn
  clear hts htp htn
  go_enter Tryz.func56, Tryz.ntmps56
  go_wp2_with fail
  refine (canon_is s t w (by omega) HTS.out).mono ?_
  rintro e w' ⟨rfl, rfl⟩
  obtain ⟨w0, rfl⟩ : ∃ w0 : World, w0 = w' := ⟨_, rfl⟩
  go_wp2_with fail
  go_loopw [3, 4, 5, 6] (fun ov ev _ _ wr => ∃ (out : List Nat) (oa : Option Addr) (oc : Nat), ov = .slice oa out.length oc ∧ ev = .int .i64 ((t.size : Int) - 3 * (out.length : Int)) ∧ 3 * out.length ≤ t.size + 2 ∧ RowD wr w0.heap.size (.slice oa out.length oc) out ∧
      Kb (fun _ => False) w0 wr ∧ Hid (digs P24 (sv s) = out ++ digs P24 (nv (t.data.toList.take (t.size - 3 * out.length))))) (fun _ ev _ _ _ => (intOf ev).toNat)
  case atStart =>
    refine ⟨[], none, 0, rfl, by simp, by simp, RowD.nil _ _, Kb.refl _ _, ?_⟩
    show digs P24 (sv s) = [] ++ digs P24 (nv (t.data.toList.take (t.size - 3 * 0)))
    rw [List.nil_append, Nat.mul_zero, Nat.sub_zero, List.take_of_length_le (by simp)]
    exact congrArg (digs P24) HN.out.symm
  case round =>
    obtain ⟨out, oa, oc, rfl, rfl, hb, hrow, hkb, hdig⟩ := hrel
    by_cases hgt : 3 * out.length < t.size
    · obtain ⟨e, he⟩ : ∃ e, e = t.size - 3 * out.length := ⟨_, rfl⟩
      have hE := hid he
      have he0 : 0 < e := by omega
      have hel : e ≤ t.size := by omega
      have hei : (t.size : Int) - 3 * (out.length : Int) = (e : Int) := by omega
      rw [hei]
      clear he hei
      go_wp2_with fail
      all_goals
        go_loop [5, 6] (fun dv kv => ∃ k : Nat, kv = .int .i64 k ∧ e - 3 ≤ k ∧ k ≤ e ∧ dv = .int .i64 (nv ((t.data.toList.take k).drop (e - 3)))) (fun _ kv => e - (intOf kv).toNat)
        case atStart =>
          refine ⟨e - 3, by go_num, Nat.le_refl _, by omega, ?_⟩
          have h : nv ((t.data.toList.take (e - 3)).drop (e - 3)) = 0 := by rw [List.drop_of_length_le (by rw [List.length_take]; omega)]; rfl
          rw [h]; rfl
        case round =>
          obtain ⟨k, rfl, hk1, hk2, rfl⟩ := hrel
          by_cases hlt : k < e
          · have h1 := take_chunk t (e - 3) k hk1 (by omega)
            have h2 := chunk_lt t.data.toList (e - 3) (k + 1) (by omega)
            have H1 := hid h1
            rw [h1] at h2
            have h3 := t[k].toNat_lt
            have hkt : k < t.size := by omega
            clear h1
            generalize nv ((t.data.toList.take k).drop (e - 3)) = m at *
            go_wp2_with fail
            exact ⟨⟨k + 1, by go_num, by omega, by omega, by rw [H1.out]; go_num⟩, by simp [intOf]; omega⟩
          · have hke : k = e := by omega
            subst hke
            have hch := chunk t.data.toList k he0 (by simpa using hel) (HTP.out k he0 hel)
            have HCH := hid hch
            clear hch
            generalize nv ((t.data.toList.take k).drop (k - 3)) = d at *
            go_wp2_with (at_builtin; go_must (refine app_int1 rfl _ _ rfl w0.heap.size (.slice oa out.length oc) out d (by rfl) (by rfl) hrow rfl (by omega) hkb.size ?_); intro oa' oc' w2 hrow2 hkb2)
            refine ⟨⟨out ++ [d], oa', oc', by rw [List.length_append, List.length_singleton], ?_, ?_, ?_, hkb.trans' hkb2 (fun i hi hx => by omega), ?_⟩, ?_⟩
            · rw [List.length_append, List.length_singleton]
              have := hE.out
              go_num
            · rw [List.length_append, List.length_singleton]
              have := hE.out
              omega
            · rw [List.length_append, List.length_singleton]
              exact hrow2
            · have h1 := hdig.out
              rw [← hE.out, HCH.out] at h1
              show digs P24 (sv s) = (out ++ [d]) ++ digs P24 (nv (t.data.toList.take (t.size - 3 * (out ++ [d]).length)))
              rw [h1, List.append_assoc, List.length_append, List.length_singleton, show t.size - 3 * (out.length + 1) = k - 3 by have := hE.out; omega]
              rfl
            · have := hE.out
              simp [intOf]
              omega
    · go_wp2_with fail
      go_ret
      refine ⟨_, rfl, ?_, hkb⟩
      have h1 := hdig.out
      rw [show t.size - 3 * out.length = 0 by omega, List.take_zero, nv_nil, digs_zero, List.append_nil] at h1
      rw [h1]
      exact hrow
end Go.Proofs.YtkhjgfbiemllmaaGreatDoor
namespace Go.Proofs.YtkhjgfbiemllmaaGreatDoor
open Go.RowKit

theorem natS_zero : natS 0 = ByteArray.empty := rfl
theorem sv_mk (l : List UInt8) : sv ⟨l.toArray⟩ = nv l := by unfold sv; simp
set_option maxHeartbeats 2000000 in
set_option maxRecDepth 10000 in
theorem Of_nonpos (n : Int) (w : World) (hn : n ≤ 0) :
    Calls Tryz.prog 38 #[.int .i64 n] w fun e w' => e = .returned (.string (natS 0)) ∧ Kb (fun _ => False) w w' := by
  have hcv := conv_row (RowB.nil w w.heap.size) 52 Tryz.underlying52
  go_enter Tryz.func38, Tryz.ntmps38
  go_wp2_with fail
  refine wp_loop_rounds 1 ?_
  rw [rounds_succ]
  go_wp2_with fail
  refine (canon_is _ (natS 0) _ (by decide) rfl).mono ?_
  rintro e w' ⟨rfl, rfl⟩
  go_wp2_with fail
  go_ret
  exact ⟨rfl, Kb.refl _ _⟩
set_option maxHeartbeats 4000000 in
theorem Of_pos (n : Nat) (w : World) (h0 : 0 < n) (hn : n < 9223372036854775808) :
    Calls Tryz.prog 38 #[.int .i64 n] w fun e w' => e = .returned (.string (natS n)) ∧ Kb (fun _ => False) w w' := by
  go_enter Tryz.func38, Tryz.ntmps38
  go_wp2_with fail
  go_loopw [3, 4] (fun ov kv wr => ∃ (j : Nat) (l : List UInt8) (oa : Option Addr) (oc : Nat), ov = .slice oa l.length oc ∧ kv = .int .i64 (56 - 8 * (j : Int)) ∧ j ≤ 8 ∧ Hid (l.length = j) ∧ RowB wr w.heap.size (.slice oa l.length oc) l ∧
      Kb (fun _ => False) w wr ∧ Hid (nv l = n / 256 ^ (8 - j))) (fun _ kv _ => (intOf kv + 8).toNat)
  case atStart => exact ⟨0, [], none, 0, rfl, by simp, by omega, rfl, RowB.nil _ _, Kb.refl _ _, by (show nv [] = n / 256 ^ 8); rw [Nat.div_eq_of_lt (by omega)]; rfl⟩
  case round =>
    obtain ⟨j, l, oa, oc, rfl, rfl, hj, hl, hrow, hkb, hv⟩ := hrel
    by_cases hlt : j < 8
    · obtain ⟨b, hb⟩ : ∃ b : UInt8, b.toNat = n / 256 ^ (7 - j) % 256 := ⟨UInt8.ofNat (n / 256 ^ (7 - j)), by rw [UInt8.toNat_ofNat']⟩
      have hv2 : nv (l ++ [b]) = n / 256 ^ (7 - j) := by
        rw [nv_snoc, hb, hv.out, show 8 - j = (7 - j) + 1 by omega, Nat.pow_succ, ← Nat.div_div_eq_div_mul]
        omega
      have HB := hid hb
      have HV2 := hid hv2
      clear hb hv2
      have hc : j = 0 ∨ j = 1 ∨ j = 2 ∨ j = 3 ∨ j = 4 ∨ j = 5 ∨ j = 6 ∨ j = 7 := by omega
      rcases hc with rfl | rfl | rfl | rfl | rfl | rfl | rfl | rfl
      all_goals
        go_wp2_with (at_builtin; go_must (refine app_u81 rfl _ _ rfl w.heap.size _ l b (by rfl) (by rfl) hrow (by have h := HB.out; simp at h; omega) (by have := hl.out; omega) hkb.size ?_); intro oa' oc' w2 hrow2 hkb2)
        have hll := hl.out
        refine ⟨⟨(l ++ [b]).length, l ++ [b], oa', oc', by rw [List.length_append, List.length_singleton], ?_, ?_, rfl, ?_, hkb.trans' hkb2 (fun i hi hx => by omega), ?_⟩, by simp [intOf]⟩
        · rw [List.length_append, List.length_singleton, hll]; rfl
        · rw [List.length_append, List.length_singleton, hll]; omega
        · rw [List.length_append, List.length_singleton]
          exact hrow2
        · show nv (l ++ [b]) = n / 256 ^ (8 - (l ++ [b]).length)
          rw [List.length_append, List.length_singleton, hll]
          exact HV2.out
    · have hj8 : j = 8 := by omega
      subst hj8
      have hcv := conv_row hrow 52 Tryz.underlying52
      have hn2 : natS (sv ⟨l.toArray⟩) = natS n := by rw [sv_mk, hv.out]; simp
      have HN2 := hid hn2
      have HK := hid hkb
      clear hn2 hkb
      go_wp2_with fail
      refine (canon_is _ (natS n) _ (by show l.length ≤ _; have := hl.out; omega) HN2.out).mono ?_
      rintro e w' ⟨rfl, rfl⟩
      go_wp2_with fail
      go_ret
      exact ⟨rfl, HK.out⟩
theorem Of_any (n : Int) (w : World) (hn : n ≤ 9223372036854775807) :
    Calls Tryz.prog 38 #[.int .i64 n] w fun e w' => e = .returned (.string (natS n.toNat)) ∧ Kb (fun _ => False) w w' := by
  by_cases h : n ≤ 0
  · rw [show n.toNat = 0 by omega]
    exact Of_nonpos n w h
  · obtain ⟨m, rfl⟩ := Int.eq_ofNat_of_zero_le (show 0 ≤ n by omega)
    rw [Int.toNat_natCast]
    exact Of_pos m w (by omega) (by omega)

theorem Kb.drew_left {S : Nat → Prop} {w w' : World} {o : Obj} (k : Kb S (w.alloc o).drew w') : Kb S w w' :=
  ((Kb.refl S w).alloc o).trans ⟨k.os, k.tape, k.output, k.size, k.block⟩
/-- append of bytes, at a step of a region that draws its order. -/
theorem step_app_u8 {ops : Array Oper} {o : Oper} {a : Act} {K : Act → World → Prop} {Q : Exit → Act → World → Prop} {E : Prop} (W : World) (hgd : o.guard = none) (s x : Operand)
    (ho : o.op = .call { callee := .builtin .append, args := #[s, x], argTypes := #[84, 84] }) (B : Nat) (v : Value) (l : List UInt8) (news : List UInt8) (q m c : Nat) (hs : a.eval s = v)
    (hx : a.eval x = .slice (some ⟨q, 0, none⟩) m c) (hm : news.length = m) (hown : RowB W B v l) (hq : W.heap[q]? = some (.cells (bV news).toArray 5 (0, 0))) (hl : l.length + m ≤ 1000000000) (hB : B ≤ W.heap.size)
    (h : ∀ a' c' w', RowB w' B (.slice a' (l.length + m) c') (l ++ news) → Kb (fun x => B ≤ x) W w' → K (a.put o.dst (.slice a' (l.length + m) c')) w') :
    if Region.wanted o (yielded ops a.tmps) = true then Oper.wp Tryz.prog o a W K Q else E := by
  have hw : Region.wanted o (yielded ops a.tmps) = true := by simp [Region.wanted, hgd]
  rw [if_pos hw]
  obtain ⟨i0, hi0, hz0, hz1, hz2⟩ := info_parts infoU8
  obtain ⟨v', w', hrun, h2, h3, _, _⟩ := run_append_own_at (P := Tryz.prog) W B 84 o.type 5 i0 _ 1 1 Tryz.underlying84 hi0 hz0 hz1 hz2 rfl (by omega) v l.length (bV l) hown ⟨q, 0, none⟩ m c (bV news) (by rw [bV_len, hm, Nat.mul_one])
    (World.news_of_block hq) (bV_one _) (by unfold maxLen; omega) (by omega) hB
  obtain ⟨a', c', rfl⟩ := own_slice h2
  unfold Oper.wp execOp
  simp only [ho, resolve, invoke, builtin, Sem.run_bind, Sem.run_pure, Result.andThen_ok, List.map_toArray, List.map_cons, List.map_nil, hs, hx, hrun]
  refine h a' c' w' ?_ (grown_kb h3 (fun k e => (World.ownsRow.lt hown k e).1))
  unfold RowB
  rw [bV_append, List.length_append, hm]
  exact h2
theorem dv_drop (l : List Nat) (m : Nat) (h : m < l.length) : dv P24 (l.drop m) = l[m]! + P24 * dv P24 (l.drop (m + 1)) := by
  rw [List.drop_eq_getElem_cons h, dv, List.getElem!_eq_getElem?_getD, List.getElem?_eq_getElem h]
  rfl
theorem nv_three (L : List UInt8) (b0 b1 b2 : UInt8) (d : Nat) (h0 : b0.toNat = d / 65536) (h1 : b1.toNat = d / 256 % 256) (h2 : b2.toNat = d % 256) : nv (L ++ [b0, b1, b2]) = nv L * 16777216 + d := by
  have : L ++ [b0, b1, b2] = ((L ++ [b0]) ++ [b1]) ++ [b2] := by simp
  rw [this, nv_snoc, nv_snoc, nv_snoc, h0, h1, h2]
  omega
attribute [local go_sem ↓] Go.wp_at_zero Go.wp_at_succ
set_option maxHeartbeats 4000000 in
set_option maxRecDepth 100000 in
theorem number_any (v : Value) (l : List Nat) (B : Nat) (w : World) (hrow : RowD w B v l) (hd : ∀ d ∈ l, d < 16777216) (hl : l.length ≤ 100000000) :
    Calls Tryz.prog 57 #[v] w fun e w' => e = .returned (.string (natS (dv P24 l))) ∧ Kb (fun _ => False) w w' := by
  obtain ⟨a, c, rfl⟩ := hrow.slice
  have HD := hid hd
  have HR := hid hrow
  clear hd hrow
  go_enter Tryz.func57, Tryz.ntmps57
  go_wp2_with fail
  go_loopw [3, 4] (fun ov kv wr => ∃ (j : Nat) (L : List UInt8) (oa : Option Addr) (oc : Nat), ov = .slice oa L.length oc ∧ kv = .int .i64 ((j : Int) - 1) ∧ j ≤ l.length ∧ Hid (L.length = 3 * (l.length - j)) ∧ RowB wr w.heap.size (.slice oa L.length oc) L ∧
      Kb (fun _ => False) w wr ∧ Hid (nv L = dv P24 (l.drop j))) (fun _ kv _ => (intOf kv + 1).toNat)
  case atStart => exact ⟨l.length, [], none, 0, rfl, rfl, Nat.le_refl _, by (show [].length = _); simp, RowB.nil _ _, Kb.refl _ _, by (show nv [] = _); simp [nv, dv]⟩
  case round =>
    obtain ⟨j, L, oa, oc, rfl, rfl, hj, hLl, hrow, hkb, hv⟩ := hrel
    cases j with
    | zero =>
      have hcv := conv_row hrow 52 Tryz.underlying52
      have hn2 : natS (sv ⟨L.toArray⟩) = natS (dv P24 l) := by rw [sv_mk, hv.out]; simp
      have HN2 := hid hn2
      have HK := hid hkb
      have hLb : L.length ≤ 300000000 := by have := hLl.out; omega
      clear hn2 hkb
      go_wp2_with fail
      refine (canon_is _ (natS (dv P24 l)) _ (by show L.length ≤ _; omega) HN2.out).mono ?_
      rintro e w' ⟨rfl, rfl⟩
      go_wp2_with fail
      go_ret
      exact ⟨rfl, HK.out⟩
    | succ m =>
      rw [show ((m + 1 : Nat) : Int) - 1 = (m : Int) by omega]
      obtain ⟨g, rfl, _, _, hg, hc⟩ := HR.out.form (by omega)
      have c0 := hkb.cell (hc m (by omega)) (by simp)
      have hdm : l[m]! < 16777216 := HD.out _ (by rw [List.getElem!_eq_getElem?_getD, List.getElem?_eq_getElem (by omega : m < l.length)]; exact List.getElem_mem _)
      have hdr := dv_drop l m (by omega)
      generalize l[m]! = d at *
      obtain ⟨b0, h0⟩ : ∃ b : UInt8, b.toNat = d / 65536 := ⟨UInt8.ofNat (d / 65536), by rw [UInt8.toNat_ofNat']; omega⟩
      obtain ⟨b1, h1⟩ : ∃ b : UInt8, b.toNat = d / 256 % 256 := ⟨UInt8.ofNat (d / 256), by rw [UInt8.toNat_ofNat']⟩
      obtain ⟨b2, h2⟩ : ∃ b : UInt8, b.toNat = d % 256 := ⟨UInt8.ofNat d, by rw [UInt8.toNat_ofNat']⟩
      have hv2 := nv_three L b0 b1 b2 d h0 h1 h2
      have HV2 := hid hv2
      have HDR := hid hdr
      have HB0 := hid h0
      have HB1 := hid h1
      have HB2 := hid h2
      have hm0 : (0 : Int) ≤ (m : Int) := Int.natCast_nonneg _
      have hm1 : (m : Int) < (l.length : Int) := by omega
      have hgl : g < wr.heap.size := World.block_lt_of_cell? wr _ c0
      clear hv2 hdr h0 h1 h2 hc
      have hbv : (bV [b0, b1, b2]).toArray = #[.int .u8 (IntKind.u8.wrap ((d : Int) / 65536)), .int .u8 (IntKind.u8.wrap ((d : Int) / 256)), .int .u8 (IntKind.u8.wrap (d : Int))] := by
        have e0 : IntKind.u8.wrap ((d : Int) / 65536) = ((b0.toNat : Nat) : Int) := by rw [IntKind.wrap_u8, HB0.out]; omega
        have e1 : IntKind.u8.wrap ((d : Int) / 256) = ((b1.toNat : Nat) : Int) := by rw [IntKind.wrap_u8, HB1.out]; omega
        have e2 : IntKind.u8.wrap (d : Int) = ((b2.toNat : Nat) : Int) := by rw [IntKind.wrap_u8, HB2.out]; omega
        rw [e0, e1, e2]; rfl
      have HBV := hid hbv
      have hLb : L.length ≤ 300000000 := by have := hLl.out; omega
      have hz := hkb.size
      clear hbv
      go_wp2_with fail
      go_region_held3 (fun w' => w'.cell? ⟨g, m, none⟩ = some (.int .i64 d)) (first | go_keep | (exact hkb2.cell (by assumption) (by show ¬ w.heap.size ≤ g; omega)))
        ((refine step_app_u8 _ (by rfl) _ _ (by rfl) w.heap.size (.slice oa L.length oc) L [b0, b1, b2] wr.heap.size 3 3 (by rfl) (by rfl) (by rfl) ((World.ownsRow.alloc hrow _).drew) (by rw [HBV.out]; exact heap_alloc_new wr _) (by omega) (by simp; omega) ?_; intro oa' oc' w2 hrow2 hkb2))
      have hkb2' := hkb2.drew_left
      go_wp2_with fail
      refine ⟨⟨m, L ++ [b0, b1, b2], oa', oc', by rw [List.length_append]; rfl, by rfl, by omega, ?_, ?_, hkb.trans' hkb2' (fun i hi hx => by omega), ?_⟩, by simp [intOf]⟩
      · show (L ++ [b0, b1, b2]).length = _
        rw [List.length_append]
        have := hLl.out
        show L.length + 3 = _
        omega
      · rw [List.length_append]
        exact hrow2
      · show nv (L ++ [b0, b1, b2]) = _
        rw [HV2.out, HDR.out, ← hv.out]
        unfold P24
        omega
end Go.Proofs.YtkhjgfbiemllmaaGreatDoor
