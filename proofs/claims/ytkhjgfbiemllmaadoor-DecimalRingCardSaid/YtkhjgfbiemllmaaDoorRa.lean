/- The walks of the reference's small functions on numbers. -/
import Derived.Test.YtkhjgfbiemllmaaDoorNum
import Derived.LoopTactic
import Derived.Lib.IndexBytes
import Derived.Deep.DeepCutAuto
namespace Go.Proofs.YtkhjgfbiemllmaaDoor
open Go.RowKit

/-- The number that a string is; the string of a number. -/
def sv (s : ByteArray) : Nat := nv s.data.toList
def natS (n : Nat) : ByteArray := ⟨(enc n).toArray⟩
theorem sv_natS (n : Nat) : sv (natS n) = n := by unfold sv natS; simp [nv_enc]
theorem natS_sv (s : ByteArray) : natS (sv s) = ⟨(canon s.data.toList).toArray⟩ := by unfold sv natS; rw [enc_nv]
theorem natS_size (n : Nat) : (natS n).size = (enc n).length := rfl
theorem natS_len (n k : Nat) : (natS n).size ≤ k ↔ n < 256 ^ k := by rw [natS_size]; exact enc_len n k

theorem str_drop (s : ByteArray) (k : Nat) : s.extract k s.size = ⟨(s.data.toList.drop k).toArray⟩ := by
  apply ByteArray.ext
  apply Array.toList_inj.1
  rw [Lib.extract_to_end]
theorem canon_drop_zero (s : ByteArray) (k : Nat) (hk : k < s.size) (h0 : s[k] = 0) : canon (s.data.toList.drop (k + 1)) = canon (s.data.toList.drop k) := by
  have hl : k < s.data.toList.length := by simpa using hk
  rw [List.drop_eq_getElem_cons hl, canon_cons, if_pos]
  rw [← h0]; rfl
theorem canon_drop_pos (s : ByteArray) (k : Nat) (hk : k < s.size) (h0 : s[k] ≠ 0) : canon (s.data.toList.drop k) = s.data.toList.drop k := by
  have hl : k < s.data.toList.length := by simpa using hk
  rw [List.drop_eq_getElem_cons hl, canon_cons, if_neg]
  intro e
  exact h0 (by rw [← e]; rfl)
set_option maxHeartbeats 1000000 in
theorem canon_any (s : ByteArray) (w : World) (hs : s.size ≤ 9223372036854775807) :
    Calls Tryd.prog 57 #[.string s] w fun e w' => e = .returned (.string (natS (sv s))) ∧ w' = w := by
  go_enter Tryd.func57, Tryd.ntmps57
  go_wp2
  go_loop [3] (fun i => ∃ k : Nat, k ≤ s.size ∧ i = .int .i64 k ∧ Hid (canon (s.data.toList.drop k) = canon s.data.toList)) (fun i => s.size - (intOf i).toNat)
  case atStart => exact ⟨0, Nat.zero_le _, rfl, by (show canon _ = canon _); simp⟩
  case round =>
    obtain ⟨k, hk, rfl, hc⟩ := hrel
    by_cases hlt : k < s.size
    · by_cases h0 : s[k] = 0
      · have hc2 := hid ((canon_drop_zero s k hlt h0).trans hc.out)
        have h1 : ((s[k].toNat : Int) == 0) = true := by rw [h0]; rfl
        clear h0
        go_wp2
        exact ⟨⟨k + 1, by omega, by go_num, hc2⟩, by simp [intOf]; omega⟩
      · have hc2 := hid ((canon_drop_pos s k hlt h0).symm.trans hc.out)
        have h1 : ((s[k].toNat : Int) == 0) = false := by
          rw [beq_eq_false_iff_ne]
          intro e
          exact h0 (UInt8.toNat_inj.1 (by rw [show (0 : UInt8).toNat = 0 from rfl]; omega))
        clear h0
        go_wp2
        go_ret
        exact ⟨by rw [natS_sv, ← hc2.out, ← str_drop]; rfl, rfl⟩
    · have hkl : k = s.size := by omega
      subst hkl
      go_wp2
      go_ret
      have h := hc.out
      rw [List.drop_of_length_le (by simp)] at h
      exact ⟨by rw [natS_sv, ← h]; rfl, rfl⟩
theorem canon_is (s t : ByteArray) (w : World) (hs : s.size ≤ 9223372036854775807) (ht : natS (sv s) = t) :
    Calls Tryd.prog 57 #[.string s] w fun e w' => e = .returned (.string t) ∧ w' = w := by
  subst ht
  exact canon_any s w hs

theorem nv_take_le (l : List UInt8) (k : Nat) : nv (l.take k) * 256 ^ (l.length - k) ≤ nv l := by
  have h := nv_append (l.take k) (l.drop k)
  rw [List.take_append_drop, List.length_drop] at h
  omega
theorem nv_take_le' (l : List UInt8) (k : Nat) : nv (l.take k) ≤ nv l := by
  have h := nv_take_le l k
  have := Nat.pow_pos (n := l.length - k) (show 0 < 256 by omega)
  exact Nat.le_trans (Nat.le_mul_of_pos_right _ this) h
theorem nv_take_succ (s : ByteArray) (k : Nat) (hk : k < s.size) : nv (s.data.toList.take (k + 1)) = nv (s.data.toList.take k) * 256 + s[k].toNat := by
  have hl : k < s.data.toList.length := by simpa using hk
  rw [List.take_succ_eq_append_getElem hl, nv_snoc]
  rfl
theorem nat_head (n : Nat) (h8 : (natS n).size = 8) : (n < 9223372036854775808 ↔ ((natS n)[0]'(by omega)).toNat ≤ 127) := by
  have hl : (enc n).length = 8 := h8
  have e : enc n = (natS n)[0] :: (enc n).drop 1 := by
    exact List.drop_eq_getElem_cons (l := enc n) (i := 0) (by omega)
  have h1 := nv_enc n
  rw [e, nv_cons, List.length_drop, hl] at h1
  have h2 := nv_lt ((enc n).drop 1)
  rw [List.length_drop, hl] at h2
  omega
set_option maxHeartbeats 1000000 in
theorem int_ok (s : ByteArray) (w : World) (hs : s.size ≤ 9223372036854775807) (hn : sv s < 9223372036854775808) :
    Calls Tryd.prog 40 #[.string s] w fun e w' => e = .returned (.tuple #[.int .i64 (sv s), .bool true]) ∧ w' = w := by
  obtain ⟨t, h8, hh, ht, hts⟩ : ∃ t : ByteArray, t.size ≤ 8 ∧ (∀ h : t.size = 8, (t[0]'(by omega)).toNat ≤ 127) ∧ (∀ k, nv (t.data.toList.take k) ≤ sv s) ∧ natS (sv s) = t := by
    refine ⟨_, (natS_len _ _).2 (by omega), fun h => (nat_head _ h).1 hn, fun k => ?_, rfl⟩
    have h := nv_take_le' (natS (sv s)).data.toList k
    rwa [show nv (natS (sv s)).data.toList = sv s from sv_natS _] at h
  have hfull : nv t.data.toList = sv s := by rw [← hts]; exact sv_natS _
  obtain ⟨n, hns⟩ : ∃ n, n = sv s := ⟨_, rfl⟩
  rw [← hns] at hfull ht hn ⊢
  have HF := hid hfull
  have HT := hid ht
  have HTS := hid hts
  have HH := hid hh
  clear hfull ht hts hh hns
  go_enter Tryd.func40, Tryd.ntmps40
  go_wp2_with fail
  refine (canon_is s t w hs HTS.out).mono ?_
  rintro e w' ⟨rfl, rfl⟩
  rcases (show t.size < 8 ∨ t.size = 8 by omega) with h7 | h7
  · have h70 : ((t.size : Int) == 8) = false := by rw [beq_eq_false_iff_ne]; omega
    go_wp2_with fail
    go_loop [4, 5] (fun v i => ∃ k : Nat, k ≤ t.size ∧ i = .int .i64 k ∧ v = .int .i64 (nv (t.data.toList.take k))) (fun _ i => t.size - (intOf i).toNat)
    case atStart => exact ⟨0, Nat.zero_le _, rfl, rfl⟩
    case round =>
      obtain ⟨k, hk, rfl, rfl⟩ := hrel
      by_cases hlt : k < t.size
      · have h1 := nv_take_succ t k hlt
        have h2 := HT.out (k + 1)
        rw [h1] at h2
        have H1 := hid h1
        have h3 := t[k].toNat_lt
        clear h1
        generalize nv (t.data.toList.take k) = m at *
        go_wp2_with fail
        exact ⟨⟨k + 1, by omega, by go_num, by rw [H1.out]; go_num⟩, by simp [intOf]; omega⟩
      · have hkl : k = t.size := by omega
        subst hkl
        have H1 := hid (show nv (t.data.toList.take t.size) = n by rw [List.take_of_length_le (by simp)]; exact HF.out)
        generalize nv (t.data.toList.take t.size) = m at *
        go_wp2_with fail
        go_ret2
        exact ⟨by rw [← H1.out]; rfl, rfl⟩
  · have h72 : 0 < t.size := by omega
    have hb : (t[0]'h72).toNat ≤ 127 := HH.out h7
    have h70 : ((t.size : Int) == 8) = true := by rw [h7]; rfl
    have h71 : 8 ≤ t.size := by omega
    clear h7
    go_wp2_with fail
    go_loop [4, 5] (fun v i => ∃ k : Nat, k ≤ t.size ∧ i = .int .i64 k ∧ v = .int .i64 (nv (t.data.toList.take k))) (fun _ i => t.size - (intOf i).toNat)
    case atStart => exact ⟨0, Nat.zero_le _, rfl, rfl⟩
    case round =>
      obtain ⟨k, hk, rfl, rfl⟩ := hrel
      by_cases hlt : k < t.size
      · have h1 := nv_take_succ t k hlt
        have h2 := HT.out (k + 1)
        rw [h1] at h2
        have H1 := hid h1
        have h3 := t[k].toNat_lt
        clear h1
        generalize nv (t.data.toList.take k) = m at *
        go_wp2_with fail
        exact ⟨⟨k + 1, by omega, by go_num, by rw [H1.out]; go_num⟩, by simp [intOf]; omega⟩
      · have hkl : k = t.size := by omega
        subst hkl
        have H1 := hid (show nv (t.data.toList.take t.size) = n by rw [List.take_of_length_le (by simp)]; exact HF.out)
        generalize nv (t.data.toList.take t.size) = m at *
        go_wp2_with fail
        go_ret2
        exact ⟨by rw [← H1.out]; rfl, rfl⟩

theorem nat_len8 (n : Nat) (h1 : 9223372036854775808 ≤ n) : 8 < (natS n).size ∨ ∃ h : (natS n).size = 8, 128 ≤ ((natS n)[0]'(by omega)).toNat := by
  rcases Nat.lt_or_ge 8 (natS n).size with h | h
  · exact Or.inl h
  · have h7 : ¬ (natS n).size ≤ 7 := fun e => by have := (natS_len n 7).1 e; omega
    have h8 : (natS n).size = 8 := by omega
    refine Or.inr ⟨h8, ?_⟩
    have := nat_head n h8
    omega
set_option maxHeartbeats 1000000 in
theorem int_no (s : ByteArray) (w : World) (hs : s.size ≤ 9223372036854775807) (hn : 9223372036854775808 ≤ sv s) :
    Calls Tryd.prog 40 #[.string s] w fun e w' => e = .returned (.tuple #[.int .i64 0, .bool false]) ∧ w' = w := by
  obtain ⟨t, ht, hts⟩ : ∃ t : ByteArray, (8 < t.size ∨ ∃ h : t.size = 8, 128 ≤ (t[0]'(by omega)).toNat) ∧ natS (sv s) = t := ⟨_, nat_len8 _ hn, rfl⟩
  have HTS := hid hts
  clear hts hn
  rcases ht with h8 | ⟨h8, hb⟩
  · go_enter Tryd.func40, Tryd.ntmps40
    go_wp2_with fail
    refine (canon_is s t w hs HTS.out).mono ?_
    rintro e w' ⟨rfl, rfl⟩
    go_wp2_with fail
    go_ret2
    exact ⟨rfl, rfl⟩
  · have h72 : 0 < t.size := by omega
    have hb' : 128 ≤ (t[0]'h72).toNat := hb
    have h70 : ((t.size : Int) == 8) = true := by rw [h8]; rfl
    have h71 : 8 ≤ t.size := by omega
    have h73 : t.size ≤ 8 := by omega
    clear hb h8
    go_enter Tryd.func40, Tryd.ntmps40
    go_wp2_with fail
    refine (canon_is s t w hs HTS.out).mono ?_
    rintro e w' ⟨rfl, rfl⟩
    go_wp2_with fail
    go_ret2
    exact ⟨rfl, rfl⟩
set_option maxHeartbeats 1000000 in
theorem small_yes (s : ByteArray) (k : Nat) (w : World) (hs : s.size ≤ 9223372036854775807) (hk : k ≤ 7) (hn : sv s < 256 ^ k) :
    Calls Tryd.prog 58 #[.string s, .int .i64 k] w fun e w' => e = .returned (.tuple #[.int .i64 (sv s), .bool true]) ∧ w' = w := by
  obtain ⟨t, ht, hts⟩ : ∃ t : ByteArray, t.size ≤ k ∧ natS (sv s) = t := ⟨_, (natS_len _ _).2 hn, rfl⟩
  have h63 : sv s < 9223372036854775808 := Nat.lt_of_lt_of_le hn (Nat.le_trans (Nat.pow_le_pow_right (by omega) hk) (by omega))
  have HTS := hid hts
  have H63 := hid h63
  clear hts hn h63
  go_enter Tryd.func58, Tryd.ntmps58
  go_wp2_with fail
  refine (canon_is s t w hs HTS.out).mono ?_
  rintro e w' ⟨rfl, rfl⟩
  go_wp2_with fail
  refine (int_ok s _ hs H63.out).mono ?_
  rintro e w' ⟨rfl, rfl⟩
  go_wp2_with fail
  go_ret2
  exact ⟨rfl, rfl⟩
set_option maxHeartbeats 1000000 in
theorem small_no (s : ByteArray) (k : Nat) (w : World) (hs : s.size ≤ 9223372036854775807) (hn : 256 ^ k ≤ sv s) :
    Calls Tryd.prog 58 #[.string s, .int .i64 k] w fun e w' => e = .returned (.tuple #[.int .i64 0, .bool false]) ∧ w' = w := by
  obtain ⟨t, ht, hts⟩ : ∃ t : ByteArray, k < t.size ∧ natS (sv s) = t := ⟨_, by have := natS_len (sv s) k; omega, rfl⟩
  have HTS := hid hts
  clear hts hn
  go_enter Tryd.func58, Tryd.ntmps58
  go_wp2_with fail
  refine (canon_is s t w hs HTS.out).mono ?_
  rintro e w' ⟨rfl, rfl⟩
  go_wp2_with fail
  go_ret2
  exact ⟨rfl, rfl⟩
end Go.Proofs.YtkhjgfbiemllmaaDoor
