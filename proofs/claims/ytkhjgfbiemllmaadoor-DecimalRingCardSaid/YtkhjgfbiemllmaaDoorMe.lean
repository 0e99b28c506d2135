/- Decimal: Text in plain words. -/
import Derived.Test.YtkhjgfbiemllmaaDoorMd
import Derived.Lib.ItoaMem
import Derived.Deep.QuietTactic
import Derived.BigQuiet
namespace Go.Proofs.YtkhjgfbiemllmaaDoor
open Go.RowKit

/-- The digits of a decimal, with zeros in front. -/
def padL (x : Nat) (c : Nat) : List UInt8 := List.replicate (c + 1 - (Lib.decDigits x).length) 48 ++ Lib.decDigits x
def magL (x c : Nat) : List UInt8 := if c = 0 then Lib.decDigits x else (padL x c).take ((padL x c).length - c) ++ [46] ++ (padL x c).drop ((padL x c).length - c)
def textL (x : Int) (c : Nat) : List UInt8 := (if x < 0 then [45] else []) ++ magL x.natAbs c
def strL (l : List UInt8) : ByteArray := ⟨l.toArray⟩
theorem strL_list (l : List UInt8) : (strL l).data.toList = l := rfl
theorem strL_size (l : List UInt8) : (strL l).size = l.length := by simp [strL, ByteArray.size]
theorem ba_eq {a b : ByteArray} (h : a.data.toList = b.data.toList) : a = b := by
  cases a; cases b
  simp only at h
  congr 1
  exact Array.toList_inj.1 h
theorem kb_below {w w' : World} (h : Below w.heap.size w w') : Kb (fun _ => False) w w' := ⟨h.os, h.tape, h.output, h.size, fun k hk _ => h.block k hk⟩
theorem itoa_c (n : Nat) (w : World) (env : Env w) (_h1 : n ≤ 9223372036854775807) :
    Calls Tryd.prog 36 #[.int .i64 n] w fun e w' => e = .returned (.string (strL (Lib.decDigits n))) ∧ Kb (fun _ => False) w w' := by
  refine (Tryd.strconv_Itoa (n : Int) (by omega) (by omega) w env.tab).mono ?_
  rintro e w' ⟨rfl, k, os, rfl⟩
  rw [Lib.itoa_nonneg]
  exact ⟨rfl, kb_below ⟨rfl, rfl, rfl, by simp [Sort.grow], fun i hi => by simp [Sort.grow, Array.getElem?_append, hi, World.drewN]⟩⟩
theorem repeatL_one (c : UInt8) (k : Nat) : Lib.repeatL [c] k = List.replicate k c := by
  induction k with
  | zero => rfl
  | succ k ih => rw [Lib.repeatL, ih]; rfl
theorem rep_c (k : Nat) (w : World) (h : k ≤ 100) :
    Calls Tryd.prog 37 #[.string ⟨#[48]⟩, .int .i64 k] w fun e w' => e = .returned (.string (strL (List.replicate k 48))) ∧ Kb (fun _ => False) w w' := by
  refine (Tryd.strings_Repeat ⟨#[48]⟩ k w (by omega) (by show 1 * k ≤ _; omega)).mono ?_
  rintro e w' ⟨rfl, hb⟩
  rw [show (⟨#[48]⟩ : ByteArray).data.toList = [48] from rfl, repeatL_one]
  exact ⟨rfl, kb_below hb⟩
theorem decDigits_len (n k : Nat) (h : n < 10 ^ (k + 1)) : 1 ≤ (Lib.decDigits n).length ∧ (Lib.decDigits n).length ≤ k + 1 := by
  rw [Lib.decDigits_length]
  refine ⟨Lib.nDigits_pos n, ?_⟩
  induction k generalizing n with
  | zero => rw [Lib.nDigits_small (by simpa using h)]; omega
  | succ k ih =>
    by_cases h10 : n < 10
    · rw [Lib.nDigits_small h10]; omega
    · rw [Lib.nDigits_big h10]
      have := ih (n / 10) (by rw [Nat.pow_succ] at h; omega)
      omega
theorem app_strL (a b : List UInt8) : strL a ++ strL b = strL (a ++ b) := by
  apply ba_eq
  rw [ByteArray.data_append]
  simp [strL]
theorem ext_strL (l : List UInt8) (a b : Nat) : (strL l).extract a b = strL ((l.take b).drop a) := by
  apply ba_eq
  rw [ByteArray.data_extract]
  simp [strL, List.extract_eq_take_drop, List.drop_take]
theorem text_fin (sg D : List UInt8) (x c : Nat) (hD : Lib.decDigits x = D) (hc : c ≠ 0) (h1 : 1 ≤ D.length) (X : Int) (hX : X.natAbs = x) (hs : (if X < 0 then [45] else []) = sg) :
    strL sg ++ (strL (List.replicate (c + 1 - (strL D).size) 48) ++ strL D).extract 0 ((strL (List.replicate (c + 1 - (strL D).size) 48)).size + (strL D).size - c) ++ ⟨#[46]⟩ ++
      (strL (List.replicate (c + 1 - (strL D).size) 48) ++ strL D).extract ((strL (List.replicate (c + 1 - (strL D).size) 48)).size + (strL D).size - c) ((strL (List.replicate (c + 1 - (strL D).size) 48)).size + (strL D).size) = strL (textL X c) := by
  rw [show (⟨#[46]⟩ : ByteArray) = strL [46] from rfl, app_strL, ext_strL, ext_strL, app_strL, app_strL, app_strL]
  congr 1
  unfold textL magL padL
  rw [hX, hs, if_neg hc, hD]
  simp only [strL_size, List.length_replicate, List.length_append, List.drop_zero]
  rw [List.take_of_length_le (l := List.replicate (c + 1 - D.length) 48 ++ D) (i := c + 1 - D.length + D.length) (by simp)]
  simp only [List.append_assoc]
set_option maxHeartbeats 4000000 in
theorem text_dot (n s : Int) (X : Int) (x c : Nat) (sg : List UInt8) (w : World) (env : Env w) (hx : knN n s = X) (hc : knS n s = c) (hX : (X = (x : Int) ∧ sg = []) ∨ (X = -(x : Int) ∧ 0 < x ∧ sg = [45])) (hx1 : x ≤ 1000000000000000) (hc0 : 0 < c) (hc6 : c ≤ 6) :
    Calls Tryd.prog 22 #[.agg #[.int .i64 n, .int .i64 s]] w fun e w' => e = .returned (.string (strL (textL X c))) ∧ Kb (fun _ => False) w w' := by
  have HK := hid (fun w => known_c n s w)
  rw [hx, hc] at HK
  have EN := hid env
  clear env hx hc
  obtain ⟨D, hD⟩ : ∃ D, Lib.decDigits x = D := ⟨_, rfl⟩
  have hl := decDigits_len x 15 (Nat.lt_of_le_of_lt hx1 (by decide))
  have HI := hid (fun w env => itoa_c x w env (by omega))
  rw [hD] at HI hl
  have HF := hid (text_fin sg D x c hD (by omega) hl.1 X (by omega) (by
    rcases hX with ⟨rfl, rfl⟩ | ⟨rfl, h, rfl⟩
    · rw [if_neg (by omega)]
    · rw [if_pos (by omega)]))
  obtain ⟨S, hS⟩ : ∃ S, strL D = S := ⟨_, rfl⟩
  have hSl : S.size = D.length := by rw [← hS, strL_size]
  rw [← hSl] at hl
  obtain ⟨hl1, hl2⟩ := hl
  rw [hS] at HI HF
  clear hD hS hSl
  obtain ⟨R, hR⟩ : ∃ R, strL (List.replicate (c + 1 - S.size) 48) = R := ⟨_, rfl⟩
  have HR := hid (fun w => rep_c (c + 1 - S.size) w (by omega))
  rw [hR] at HR HF
  have hRs : R.size = c + 1 - S.size := by rw [← hR, strL_size, List.length_replicate]
  have hR1 : c + 1 ≤ R.size + S.size := by omega
  have hR2 : R.size ≤ 7 := by omega
  clear hR hRs
  rcases hX with ⟨rfl, rfl⟩ | ⟨rfl, hx0, rfl⟩
  all_goals
    go_enter Tryd.func22, Tryd.ntmps22
    go_wp2_with fail
    refine (HK.out _).mono ?_; rintro e w1 ⟨rfl, k1⟩; obtain ⟨C, m, rfl⟩ := grew_of k1; clear k1
    go_wp2_with fail
    first | rw [show max (-(x : Int)) (x : Int) = x by omega] | rw [show max (x : Int) (-(x : Int)) = x by omega]
    refine (HI.out _ (EN.out.kb (by repeat (with_reducible first | exact Kb.refl _ _ | exact KW.out | refine Kb.setC ?_ (by assumption) | apply Kb.drew | apply Kb.drewN | apply Kb.grew | apply Kb.alloc)))).mono ?_; rintro e w1 ⟨rfl, k1⟩; obtain ⟨C, m, rfl⟩ := grew_of k1; clear k1
    go_wp2_with fail
    rw [show max 0 ((c : Int) + 1 - (S.size : Int)) = ((c + 1 - S.size : Nat) : Int) by omega]
    refine (HR.out _).mono ?_; rintro e w1 ⟨rfl, k1⟩; obtain ⟨C, m, rfl⟩ := grew_of k1; clear k1
    go_wp2_with fail
    go_quiet (fail)
    go_wp2_with fail
    go_ret
    exact ⟨congrArg (fun x => Ending.returned (.string x)) HF.out, (by repeat (with_reducible first | exact Kb.refl _ _ | exact KW.out | refine Kb.setC ?_ (by assumption) | apply Kb.drew | apply Kb.drewN | apply Kb.grew | apply Kb.alloc))⟩
set_option maxHeartbeats 4000000 in
theorem text_whole (n s : Int) (X : Int) (x : Nat) (w : World) (env : Env w) (hx : knN n s = X) (hc : knS n s = 0) (hX : (X = (x : Int)) ∨ (X = -(x : Int) ∧ 0 < x)) (hx1 : x ≤ 1000000000000000) :
    Calls Tryd.prog 22 #[.agg #[.int .i64 n, .int .i64 s]] w fun e w' => e = .returned (.string (strL (textL X 0))) ∧ Kb (fun _ => False) w w' := by
  have HK := hid (fun w => known_c n s w)
  rw [hx, hc] at HK
  have EN := hid env
  clear env hx hc
  have HF := hid (show strL (textL X 0) = strL (if X < 0 then [45] else []) ++ strL (Lib.decDigits x) by
    rw [app_strL]
    unfold textL magL
    rw [if_pos rfl, show X.natAbs = x by omega])
  obtain ⟨S, hS⟩ : ∃ S, strL (Lib.decDigits x) = S := ⟨_, rfl⟩
  have HI := hid (fun w env => itoa_c x w env (by omega))
  rw [hS] at HI HF
  have hl := decDigits_len x 15 (Nat.lt_of_le_of_lt hx1 (by decide))
  have hl2 : S.size ≤ 16 := by rw [← hS, strL_size]; exact hl.2
  clear hS hl
  rcases hX with rfl | ⟨rfl, hx0⟩
  all_goals
    go_enter Tryd.func22, Tryd.ntmps22
    go_wp2_with fail
    refine (HK.out _).mono ?_; rintro e w1 ⟨rfl, k1⟩; obtain ⟨C, m, rfl⟩ := grew_of k1; clear k1
    go_wp2_with fail
    first | rw [show max (-(x : Int)) (x : Int) = x by omega] | rw [show max (x : Int) (-(x : Int)) = x by omega]
    refine (HI.out _ (EN.out.kb (by repeat (with_reducible first | exact Kb.refl _ _ | exact KW.out | refine Kb.setC ?_ (by assumption) | apply Kb.drew | apply Kb.drewN | apply Kb.grew | apply Kb.alloc)))).mono ?_; rintro e w1 ⟨rfl, k1⟩; obtain ⟨C, m, rfl⟩ := grew_of k1; clear k1
    go_wp2_with fail
    go_ret
    refine ⟨congrArg (fun x => Ending.returned (.string x)) ?_, (by repeat (with_reducible first | exact Kb.refl _ _ | exact KW.out | refine Kb.setC ?_ (by assumption) | apply Kb.drew | apply Kb.drewN | apply Kb.grew | apply Kb.alloc))⟩
    rw [HF.out]
    first | (rw [if_neg (by omega)]; rfl) | (rw [if_pos (by omega)]; rfl)
/-- The text of a decimal. -/
def textS (n s : Int) : ByteArray := strL (textL (knN n s) (knS n s))
theorem text_c (n s : Int) (w : World) (env : Env w) :
    Calls Tryd.prog 22 #[.agg #[.int .i64 n, .int .i64 s]] w fun e w' => e = .returned (.string (textS n s)) ∧ Kb (fun _ => False) w w' := by
  have hb := kn_bd n s
  unfold textS
  by_cases hc : knS n s = 0
  · rw [hc]
    exact text_whole n s _ (knN n s).natAbs w env rfl hc (by omega) (by omega)
  · by_cases hx : knN n s < 0
    · exact text_dot n s _ (knN n s).natAbs _ [45] w env rfl rfl (Or.inr ⟨by omega, by omega, rfl⟩) (by omega) (by omega) hb.2.2
    · exact text_dot n s _ (knN n s).natAbs _ [] w env rfl rfl (Or.inl ⟨by omega, rfl⟩) (by omega) (by omega) hb.2.2
end Go.Proofs.YtkhjgfbiemllmaaDoor
