/- Decimal: Text in plain words. Decimal: Parse in plain words. Decimal: the law's small helpers d and gives. Decimal: sanity. -/
import Derived.Test.YtkhjgfbiemllmaaGreatDoorGH
import Derived.Lib.ItoaMem
import Derived.Deep.QuietTactic
import Derived.BigQuiet
import Derived.Lib.AtoiAllCases
import Derived.Lib.AtoiErrMem
import Derived.Deep.RegionHeld3
namespace Go.Proofs.YtkhjgfbiemllmaaGreatDoor
open Go.RowKit

/-- The digits of a decimal, with zeros in front. -/
def padL (x : Nat) (c : Nat) : List UInt8 := List.replicate (c + 1 - (Lib.decDigits x).length) 48 ++ Lib.decDigits x
def magL (x c : Nat) : List UInt8 := if c = 0 then Lib.decDigits x else (padL x c).take ((padL x c).length - c) ++ [46] ++ (padL x c).drop ((padL x c).length - c)
def textL (x : Int) (c : Nat) : List UInt8 := (if x < 0 then [45] else []) ++ magL x.natAbs c
def strL (l : List UInt8) : ByteArray := ⟨l.toArray⟩
theorem strL_list (l : List UInt8) : (strL l).data.toList = l := rfl
theorem strL_size (l : List UInt8) : (strL l).size = l.length := by simp [strL, ByteArray.size]
theorem ba_eq {a b : ByteArray} (h : a.data.toList = b.data.toList) : a = b := by
  cases a; cases b
  simp only at h
  congr 1
  exact Array.toList_inj.1 h
theorem kb_below {w w' : World} (h : Below w.heap.size w w') : Kb (fun _ => False) w w' := ⟨h.os, h.tape, h.output, h.size, fun k hk _ => h.block k hk⟩
theorem itoa_c (n : Nat) (w : World) (env : Env w) (_h1 : n ≤ 9223372036854775807) :
    Calls Tryz.prog 40 #[.int .i64 n] w fun e w' => e = .returned (.string (strL (Lib.decDigits n))) ∧ Kb (fun _ => False) w w' := by
  refine (Tryz.strconv_Itoa (n : Int) (by omega) (by omega) w env.tab).mono ?_
  rintro e w' ⟨rfl, k, os, rfl⟩
  rw [Lib.itoa_nonneg]
  exact ⟨rfl, kb_below ⟨rfl, rfl, rfl, by simp [Sort.grow], fun i hi => by simp [Sort.grow, Array.getElem?_append, hi, World.drewN]⟩⟩
theorem repeatL_one (c : UInt8) (k : Nat) : Lib.repeatL [c] k = List.replicate k c := by
  induction k with
  | zero => rfl
  | succ k ih => rw [Lib.repeatL, ih]; rfl
theorem rep_c (k : Nat) (w : World) (h : k ≤ 100) :
    Calls Tryz.prog 41 #[.string ⟨#[48]⟩, .int .i64 k] w fun e w' => e = .returned (.string (strL (List.replicate k 48))) ∧ Kb (fun _ => False) w w' := by
  refine (Tryz.strings_Repeat ⟨#[48]⟩ k w (by omega) (by show 1 * k ≤ _; omega)).mono ?_
  rintro e w' ⟨rfl, hb⟩
  rw [show (⟨#[48]⟩ : ByteArray).data.toList = [48] from rfl, repeatL_one]
  exact ⟨rfl, kb_below hb⟩
theorem decDigits_len (n k : Nat) (h : n < 10 ^ (k + 1)) : 1 ≤ (Lib.decDigits n).length ∧ (Lib.decDigits n).length ≤ k + 1 := by
  rw [Lib.decDigits_length]
  refine ⟨Lib.nDigits_pos n, ?_⟩
  induction k generalizing n with
  | zero => rw [Lib.nDigits_small (by simpa using h)]; omega
  | succ k ih =>
    by_cases h10 : n < 10
    · rw [Lib.nDigits_small h10]; omega
    · rw [Lib.nDigits_big h10]
      have := ih (n / 10) (by rw [Nat.pow_succ] at h; omega)
      omega
theorem app_strL (a b : List UInt8) : strL a ++ strL b = strL (a ++ b) := by
  apply ba_eq
  rw [ByteArray.data_append]
  simp [strL]
theorem ext_strL (l : List UInt8) (a b : Nat) : (strL l).extract a b = strL ((l.take b).drop a) := by
  apply ba_eq
  rw [ByteArray.data_extract]
  simp [strL, List.extract_eq_take_drop, List.drop_take]
theorem text_fin (sg D : List UInt8) (x c : Nat) (hD : Lib.decDigits x = D) (hc : c ≠ 0) (_h1 : 1 ≤ D.length) (X : Int) (hX : X.natAbs = x) (hs : (if X < 0 then [45] else []) = sg) :
    strL sg ++ (strL (List.replicate (c + 1 - (strL D).size) 48) ++ strL D).extract 0 ((strL (List.replicate (c + 1 - (strL D).size) 48)).size + (strL D).size - c) ++ ⟨#[46]⟩ ++
      (strL (List.replicate (c + 1 - (strL D).size) 48) ++ strL D).extract ((strL (List.replicate (c + 1 - (strL D).size) 48)).size + (strL D).size - c) ((strL (List.replicate (c + 1 - (strL D).size) 48)).size + (strL D).size) = strL (textL X c) := by
  rw [show (⟨#[46]⟩ : ByteArray) = strL [46] from rfl, app_strL, ext_strL, ext_strL, app_strL, app_strL, app_strL]
  congr 1
  unfold textL magL padL
  rw [hX, hs, if_neg hc, hD]
  simp only [strL_size, List.length_replicate, List.length_append, List.drop_zero]
  rw [List.take_of_length_le (l := List.replicate (c + 1 - D.length) 48 ++ D) (i := c + 1 - D.length + D.length) (by simp)]
  simp only [List.append_assoc]
set_option maxHeartbeats 4000000 in
theorem text_dot (n s : Int) (X : Int) (x c : Nat) (sg : List UInt8) (w : World) (env : Env w) (hx : knN n s = X) (hc : knS n s = c) (hX : (X = (x : Int) ∧ sg = []) ∨ (X = -(x : Int) ∧ 0 < x ∧ sg = [45])) (hx1 : x ≤ 1000000000000000) (hc0 : 0 < c) (hc6 : c ≤ 6) :
    Calls Tryz.prog 14 #[.agg #[.int .i64 n, .int .i64 s]] w fun e w' => e = .returned (.string (strL (textL X c))) ∧ Kb (fun _ => False) w w' := by
  have HK := hid (fun w => known_c n s w)
  rw [hx, hc] at HK
  have EN := hid env
  clear env hx hc
  obtain ⟨D, hD⟩ : ∃ D, Lib.decDigits x = D := ⟨_, rfl⟩
  have hl := decDigits_len x 15 (Nat.lt_of_le_of_lt hx1 (by decide))
  have HI := hid (fun w env => itoa_c x w env (by omega))
  rw [hD] at HI hl
  have HF := hid (text_fin sg D x c hD (by omega) hl.1 X (by omega) (by
    rcases hX with ⟨rfl, rfl⟩ | ⟨rfl, h, rfl⟩
    · rw [if_neg (by omega)]
    · rw [if_pos (by omega)]))
  obtain ⟨S, hS⟩ : ∃ S, strL D = S := ⟨_, rfl⟩
  have hSl : S.size = D.length := by rw [← hS, strL_size]
  rw [← hSl] at hl
  obtain ⟨hl1, hl2⟩ := hl
  rw [hS] at HI HF
  clear hD hS hSl
  obtain ⟨R, hR⟩ : ∃ R, strL (List.replicate (c + 1 - S.size) 48) = R := ⟨_, rfl⟩
  have HR := hid (fun w => rep_c (c + 1 - S.size) w (by omega))
  rw [hR] at HR HF
  have hRs : R.size = c + 1 - S.size := by rw [← hR, strL_size, List.length_replicate]
  have hR1 : c + 1 ≤ R.size + S.size := by omega
  have hR2 : R.size ≤ 7 := by omega
  clear hR hRs
  rcases hX with ⟨rfl, rfl⟩ | ⟨rfl, hx0, rfl⟩
  all_goals
    go_enter Tryz.func14, Tryz.ntmps14
    go_wp2_with fail
    refine (HK.out _).mono ?_; rintro e w1 ⟨rfl, k1⟩; obtain ⟨C, m, rfl⟩ := grew_of k1; clear k1
    go_wp2_with fail
    first | rw [show max (-(x : Int)) (x : Int) = x by omega] | rw [show max (x : Int) (-(x : Int)) = x by omega]
    refine (HI.out _ (EN.out.kb (by repeat (with_reducible first | exact Kb.refl _ _ | exact KW.out | refine Kb.setC ?_ (by assumption) | apply Kb.drew | apply Kb.drewN | apply Kb.grew | apply Kb.alloc)))).mono ?_; rintro e w1 ⟨rfl, k1⟩; obtain ⟨C, m, rfl⟩ := grew_of k1; clear k1
    go_wp2_with fail
    rw [show max 0 ((c : Int) + 1 - (S.size : Int)) = ((c + 1 - S.size : Nat) : Int) by omega]
    refine (HR.out _).mono ?_; rintro e w1 ⟨rfl, k1⟩; obtain ⟨C, m, rfl⟩ := grew_of k1; clear k1
    go_wp2_with fail
    go_quiet (fail)
    go_wp2_with fail
    go_ret
    exact ⟨congrArg (fun x => Ending.returned (.string x)) HF.out, (by repeat (with_reducible first | exact Kb.refl _ _ | exact KW.out | refine Kb.setC ?_ (by assumption) | apply Kb.drew | apply Kb.drewN | apply Kb.grew | apply Kb.alloc))⟩
set_option maxHeartbeats 4000000 in
theorem text_whole (n s : Int) (X : Int) (x : Nat) (w : World) (env : Env w) (hx : knN n s = X) (hc : knS n s = 0) (hX : (X = (x : Int)) ∨ (X = -(x : Int) ∧ 0 < x)) (hx1 : x ≤ 1000000000000000) :
    Calls Tryz.prog 14 #[.agg #[.int .i64 n, .int .i64 s]] w fun e w' => e = .returned (.string (strL (textL X 0))) ∧ Kb (fun _ => False) w w' := by
  have HK := hid (fun w => known_c n s w)
  rw [hx, hc] at HK
  have EN := hid env
  clear env hx hc
  have HF := hid (show strL (textL X 0) = strL (if X < 0 then [45] else []) ++ strL (Lib.decDigits x) by
    rw [app_strL]
    unfold textL magL
    rw [if_pos rfl, show X.natAbs = x by omega])
  obtain ⟨S, hS⟩ : ∃ S, strL (Lib.decDigits x) = S := ⟨_, rfl⟩
  have HI := hid (fun w env => itoa_c x w env (by omega))
  rw [hS] at HI HF
  have hl := decDigits_len x 15 (Nat.lt_of_le_of_lt hx1 (by decide))
  have hl2 : S.size ≤ 16 := by rw [← hS, strL_size]; exact hl.2
  clear hS hl
  rcases hX with rfl | ⟨rfl, hx0⟩
  all_goals
    go_enter Tryz.func14, Tryz.ntmps14
    go_wp2_with fail
    refine (HK.out _).mono ?_; rintro e w1 ⟨rfl, k1⟩; obtain ⟨C, m, rfl⟩ := grew_of k1; clear k1
    go_wp2_with fail
    first | rw [show max (-(x : Int)) (x : Int) = x by omega] | rw [show max (x : Int) (-(x : Int)) = x by omega]
    refine (HI.out _ (EN.out.kb (by repeat (with_reducible first | exact Kb.refl _ _ | exact KW.out | refine Kb.setC ?_ (by assumption) | apply Kb.drew | apply Kb.drewN | apply Kb.grew | apply Kb.alloc)))).mono ?_; rintro e w1 ⟨rfl, k1⟩; obtain ⟨C, m, rfl⟩ := grew_of k1; clear k1
    go_wp2_with fail
    go_ret
    refine ⟨congrArg (fun x => Ending.returned (.string x)) ?_, (by repeat (with_reducible first | exact Kb.refl _ _ | exact KW.out | refine Kb.setC ?_ (by assumption) | apply Kb.drew | apply Kb.drewN | apply Kb.grew | apply Kb.alloc))⟩
    rw [HF.out]
    first | (rw [if_neg (by omega)]; rfl) | (rw [if_pos (by omega)]; rfl)
/-- The text of a decimal. -/
def textS (n s : Int) : ByteArray := strL (textL (knN n s) (knS n s))
theorem text_c (n s : Int) (w : World) (env : Env w) :
    Calls Tryz.prog 14 #[.agg #[.int .i64 n, .int .i64 s]] w fun e w' => e = .returned (.string (textS n s)) ∧ Kb (fun _ => False) w w' := by
  have hb := kn_bd n s
  unfold textS
  by_cases hc : knS n s = 0
  · rw [hc]
    exact text_whole n s _ (knN n s).natAbs w env rfl hc (by omega) (by omega)
  · by_cases hx : knN n s < 0
    · exact text_dot n s _ (knN n s).natAbs _ [45] w env rfl rfl (Or.inr ⟨by omega, by omega, rfl⟩) (by omega) (by omega) hb.2.2
    · exact text_dot n s _ (knN n s).natAbs _ [] w env rfl rfl (Or.inl ⟨by omega, rfl⟩) (by omega) (by omega) hb.2.2
end Go.Proofs.YtkhjgfbiemllmaaGreatDoor
namespace Go.Proofs.YtkhjgfbiemllmaaGreatDoor
open Go.RowKit

theorem kb_drewN (w : World) (n : Nat) : Kb (fun _ => False) w (w.drewN n) := (Kb.refl _ w).drewN n
theorem cut_c (s : ByteArray) (w : World) (env : Env w) (h : s.size ≤ 1000000) :
    Calls Tryz.prog 43 #[.string s, .string ⟨#[46]⟩] w fun e w' => e = .returned (.tuple #[.string (strL (Lib.cut s.data.toList [46]).1), .string (strL (Lib.cut s.data.toList [46]).2.1), .bool (Lib.cut s.data.toList [46]).2.2]) ∧ Kb (fun _ => False) w w' := by
  obtain ⟨m, hm⟩ := env.max
  refine (Tryz.strings_Cut s ⟨#[46]⟩ m w (by omega) hm).mono ?_
  rintro e w' ⟨rfl, n, rfl⟩
  exact ⟨rfl, kb_drewN w n⟩
theorem atoi_ok_c (s : ByteArray) (v : Int) (w : World) (hs : s.size ≤ 1000000) (h : Lib.atoiAll s.data.toList = .ok v) :
    Calls Tryz.prog 44 #[.string s] w fun e w' => e = .returned (.tuple #[.int .i64 v, .nilIface]) ∧ Kb (fun _ => False) w w' := by
  refine (Tryz.strconv_Atoi_ok s (by omega) v h w).mono ?_
  rintro e w' ⟨rfl, hw⟩
  refine ⟨rfl, ?_⟩
  rcases hw with rfl | ⟨t, rfl⟩
  · exact Kb.refl _ _
  · exact kb_below (Lib.bytesWorld_below _ _ _)
theorem atoi_bad_c (s : ByteArray) (w : World) (env : Env w) (hs : s.size ≤ 1000000) (h : ∀ v, Lib.atoiAll s.data.toList ≠ .ok v) :
    Calls Tryz.prog 44 #[.string s] w fun e w' => (∃ T z p, e = .returned (.tuple #[.int .i64 z, .iface T p])) ∧ Kb (fun _ => False) w w' := by
  cases ha : Lib.atoiAll s.data.toList
  · rename_i v
    exact absurd ha (h v)
  · obtain ⟨tp, p, hv⟩ := env.syn
    refine (Any.strconv_Atoi_syntax_var Tryz.laysC172 s (by omega) ha tp p w hv).mono ?_
    rintro e w' ⟨N, rfl, _, _, hb⟩
    exact ⟨⟨_, _, _, rfl⟩, kb_below hb⟩
  · obtain ⟨tp, p, hv⟩ := env.ran
    refine (Any.strconv_Atoi_range_var Tryz.laysC172 s (by omega) ha tp p w hv).mono ?_
    rintro e w' ⟨N, rfl, _, _, hb⟩
    exact ⟨⟨_, _, _, rfl⟩, kb_below hb⟩
/-- What Parse gives. -/
def parseD (s : ByteArray) : DR :=
  match Lib.atoiAll ((Lib.cut s.data.toList [46]).1 ++ (Lib.cut s.data.toList [46]).2.1) with
  | .ok v => if (makeD v ((Lib.cut s.data.toList [46]).2.1.length : Nat)).ok = true ∧ textS (makeD v ((Lib.cut s.data.toList [46]).2.1.length : Nat)).n (makeD v ((Lib.cut s.data.toList [46]).2.1.length : Nat)).s = s then makeD v ((Lib.cut s.data.toList [46]).2.1.length : Nat) else noR
  | _ => noR
theorem cut_len (l : List UInt8) : (Lib.cut l [46]).1.length + (Lib.cut l [46]).2.1.length ≤ l.length := by
  unfold Lib.cut
  split
  · simp only [List.length_take, List.length_drop, List.length_singleton]; omega
  · simp
set_option maxHeartbeats 4000000 in
theorem parse_bad (s : ByteArray) (w : World) (env : Env w) (h : s.size ≤ 1000000) (hb : ∀ v, Lib.atoiAll ((Lib.cut s.data.toList [46]).1 ++ (Lib.cut s.data.toList [46]).2.1) ≠ .ok v) :
    Calls Tryz.prog 16 #[.string s] w fun e w' => e = .returned (.tuple #[.agg #[.int .i64 0, .int .i64 0], .bool false]) ∧ Kb (fun _ => False) w w' := by
  have EN := hid env
  have HC := hid (fun w env => cut_c s w env h)
  have hl := cut_len s.data.toList
  have hsl : s.data.toList.length = s.size := by rw [Array.length_toList]; rfl
  have HA := hid (fun w env => atoi_bad_c (strL ((Lib.cut s.data.toList [46]).1 ++ (Lib.cut s.data.toList [46]).2.1)) w env (by rw [strL_size, List.length_append]; omega) hb)
  rw [← app_strL] at HA
  have hB : (strL (Lib.cut s.data.toList [46]).1).size ≤ 1000000 := by rw [strL_size]; omega
  have hA : (strL (Lib.cut s.data.toList [46]).2.1).size ≤ 1000000 := by rw [strL_size]; omega
  generalize strL (Lib.cut s.data.toList [46]).1 = B at *
  generalize strL (Lib.cut s.data.toList [46]).2.1 = A at *
  generalize (Lib.cut s.data.toList [46]).2.2 = f at *
  clear env h hb hl hsl
  go_enter Tryz.func16, Tryz.ntmps16
  go_wp2_with fail
  refine (HC.out _ (EN.out.kb (by repeat (with_reducible first | exact Kb.refl _ _ | exact KW.out | refine Kb.setC ?_ (by assumption) | apply Kb.drew | apply Kb.drewN | apply Kb.grew | apply Kb.alloc)))).mono ?_; rintro e w1 ⟨rfl, k1⟩; obtain ⟨C, m, rfl⟩ := grew_of k1; clear k1
  go_wp2_with fail
  refine (HA.out _ (EN.out.kb (by repeat (with_reducible first | exact Kb.refl _ _ | exact KW.out | refine Kb.setC ?_ (by assumption) | apply Kb.drew | apply Kb.drewN | apply Kb.grew | apply Kb.alloc)))).mono ?_
  rintro e w1 ⟨⟨T, z, p, rfl⟩, k1⟩
  obtain ⟨C, m, rfl⟩ := grew_of k1; clear k1
  go_wp2_with fail
  exact bodyPost_ret (v := .tuple #[.agg #[.int .i64 0, .int .i64 0], .bool false]) (by simp [results, Tryz.results16, go_sem]) rfl ⟨rfl, (by repeat (with_reducible first | exact Kb.refl _ _ | exact KW.out | refine Kb.setC ?_ (by assumption) | apply Kb.drew | apply Kb.drewN | apply Kb.grew | apply Kb.alloc))⟩
set_option maxHeartbeats 4000000 in
theorem parse_ok (s : ByteArray) (v : Int) (w : World) (env : Env w) (h : s.size ≤ 1000000) (hv : Lib.atoiAll ((Lib.cut s.data.toList [46]).1 ++ (Lib.cut s.data.toList [46]).2.1) = .ok v) (n k : Int) (ok p : Bool)
    (hn : (makeD v ((Lib.cut s.data.toList [46]).2.1.length : Nat)).n = n) (hk : (makeD v ((Lib.cut s.data.toList [46]).2.1.length : Nat)).s = k) (hok : (makeD v ((Lib.cut s.data.toList [46]).2.1.length : Nat)).ok = ok) (hp : decide (textS n k = s) = p) :
    Calls Tryz.prog 16 #[.string s] w fun e w' => e = .returned (.tuple #[.agg #[.int .i64 (if ok && p then n else 0), .int .i64 (if ok && p then k else 0)], .bool (ok && p)]) ∧ Kb (fun _ => False) w w' := by
  have EN := hid env
  have HC := hid (fun w env => cut_c s w env h)
  have hl := cut_len s.data.toList
  have hsl : s.data.toList.length = s.size := by rw [Array.length_toList]; rfl
  have hvb := Lib.atoiAll_bounds hv
  have HA := hid (fun w => atoi_ok_c (strL ((Lib.cut s.data.toList [46]).1 ++ (Lib.cut s.data.toList [46]).2.1)) v w (by rw [strL_size, List.length_append]; omega) hv)
  rw [← app_strL] at HA
  have HM := hid (fun w => make_c v ((Lib.cut s.data.toList [46]).2.1.length : Nat) w hvb.1 hvb.2)
  rw [hn, hk, hok] at HM
  have HT := hid (fun w env => text_c n k w env)
  have hB : (strL (Lib.cut s.data.toList [46]).1).size ≤ 1000000 := by rw [strL_size]; omega
  have hA : (strL (Lib.cut s.data.toList [46]).2.1).size ≤ 1000000 := by rw [strL_size]; omega
  rw [← strL_size] at HM
  generalize textS n k = t at *
  generalize strL (Lib.cut s.data.toList [46]).1 = B at *
  generalize strL (Lib.cut s.data.toList [46]).2.1 = A at *
  generalize (Lib.cut s.data.toList [46]).2.2 = f at *
  clear env hl hsl hvb hv hn hk hok
  cases ok
  · clear hp
    go_enter Tryz.func16, Tryz.ntmps16
    go_wp2_with fail
    refine (HC.out _ (EN.out.kb (by repeat (with_reducible first | exact Kb.refl _ _ | exact KW.out | refine Kb.setC ?_ (by assumption) | apply Kb.drew | apply Kb.drewN | apply Kb.grew | apply Kb.alloc)))).mono ?_; rintro e w1 ⟨rfl, k1⟩; obtain ⟨C, m, rfl⟩ := grew_of k1; clear k1
    go_wp2_with fail
    refine (HA.out _).mono ?_; rintro e w1 ⟨rfl, k1⟩; obtain ⟨C, m, rfl⟩ := grew_of k1; clear k1
    go_wp2_with fail
    refine (HM.out _).mono ?_; rintro e w1 ⟨rfl, k1⟩; obtain ⟨C, m, rfl⟩ := grew_of k1; clear k1
    go_wp2_with fail
    exact bodyPost_ret (v := .tuple #[.agg #[.int .i64 0, .int .i64 0], .bool false]) (by simp [results, Tryz.results16, go_sem]) rfl ⟨rfl, (by repeat (with_reducible first | exact Kb.refl _ _ | exact KW.out | refine Kb.setC ?_ (by assumption) | apply Kb.drew | apply Kb.drewN | apply Kb.grew | apply Kb.alloc))⟩
  · cases p
    · have p2 : ¬ t.toList = s.toList := by
        intro e
        rw [ByteArray.toList_eq, ByteArray.toList_eq] at e
        exact of_decide_eq_false hp (ba_eq e)
      have p1 : (t.toList == s.toList) = false := by rw [beq_eq_false_iff_ne]; exact p2
      clear hp
      go_enter Tryz.func16, Tryz.ntmps16
      go_wp2_with fail
      refine (HC.out _ (EN.out.kb (by repeat (with_reducible first | exact Kb.refl _ _ | exact KW.out | refine Kb.setC ?_ (by assumption) | apply Kb.drew | apply Kb.drewN | apply Kb.grew | apply Kb.alloc)))).mono ?_; rintro e w1 ⟨rfl, k1⟩; obtain ⟨C, m, rfl⟩ := grew_of k1; clear k1
      go_wp2_with fail
      refine (HA.out _).mono ?_; rintro e w1 ⟨rfl, k1⟩; obtain ⟨C, m, rfl⟩ := grew_of k1; clear k1
      go_wp2_with fail
      refine (HM.out _).mono ?_; rintro e w1 ⟨rfl, k1⟩; obtain ⟨C, m, rfl⟩ := grew_of k1; clear k1
      go_wp2_with fail
      refine (HT.out _ (EN.out.kb (by repeat (with_reducible first | exact Kb.refl _ _ | exact KW.out | refine Kb.setC ?_ (by assumption) | apply Kb.drew | apply Kb.drewN | apply Kb.grew | apply Kb.alloc)))).mono ?_; rintro e w1 ⟨rfl, k1⟩; obtain ⟨C, m, rfl⟩ := grew_of k1; clear k1
      go_wp2_with fail
      exact bodyPost_ret (v := .tuple #[.agg #[.int .i64 0, .int .i64 0], .bool false]) (by simp [results, Tryz.results16, go_sem]) rfl ⟨rfl, (by repeat (with_reducible first | exact Kb.refl _ _ | exact KW.out | refine Kb.setC ?_ (by assumption) | apply Kb.drew | apply Kb.drewN | apply Kb.grew | apply Kb.alloc))⟩
    · obtain rfl : t = s := of_decide_eq_true hp
      clear hp
      go_enter Tryz.func16, Tryz.ntmps16
      go_wp2_with fail
      refine (HC.out _ (EN.out.kb (by repeat (with_reducible first | exact Kb.refl _ _ | exact KW.out | refine Kb.setC ?_ (by assumption) | apply Kb.drew | apply Kb.drewN | apply Kb.grew | apply Kb.alloc)))).mono ?_; rintro e w1 ⟨rfl, k1⟩; obtain ⟨C, m, rfl⟩ := grew_of k1; clear k1
      go_wp2_with fail
      refine (HA.out _).mono ?_; rintro e w1 ⟨rfl, k1⟩; obtain ⟨C, m, rfl⟩ := grew_of k1; clear k1
      go_wp2_with fail
      refine (HM.out _).mono ?_; rintro e w1 ⟨rfl, k1⟩; obtain ⟨C, m, rfl⟩ := grew_of k1; clear k1
      go_wp2_with fail
      refine (HT.out _ (EN.out.kb (by repeat (with_reducible first | exact Kb.refl _ _ | exact KW.out | refine Kb.setC ?_ (by assumption) | apply Kb.drew | apply Kb.drewN | apply Kb.grew | apply Kb.alloc)))).mono ?_; rintro e w1 ⟨rfl, k1⟩; obtain ⟨C, m, rfl⟩ := grew_of k1; clear k1
      go_wp2_with fail
      exact bodyPost_ret (v := .tuple #[.agg #[.int .i64 n, .int .i64 k], .bool true]) (by simp [results, Tryz.results16, go_sem]) rfl ⟨rfl, (by repeat (with_reducible first | exact Kb.refl _ _ | exact KW.out | refine Kb.setC ?_ (by assumption) | apply Kb.drew | apply Kb.drewN | apply Kb.grew | apply Kb.alloc))⟩
theorem parse_c (s : ByteArray) (w : World) (env : Env w) (h : s.size ≤ 1000000) :
    Calls Tryz.prog 16 #[.string s] w fun e w' => e = .returned (.tuple #[.agg #[.int .i64 (parseD s).n, .int .i64 (parseD s).s], .bool (parseD s).ok]) ∧ Kb (fun _ => False) w w' := by
  unfold parseD
  split
  · rename_i v hv
    have := parse_ok s v w env h hv _ _ _ _ rfl rfl rfl rfl
    generalize makeD v ((Lib.cut s.data.toList [46]).2.1.length : Nat) = r at *
    by_cases h1 : r.ok = true ∧ textS r.n r.s = s
    · rw [if_pos h1]
      rw [h1.1, decide_eq_true h1.2] at this
      rw [h1.1]
      exact this
    · rw [if_neg h1]
      have e : (r.ok && decide (textS r.n r.s = s)) = false := by
        cases ho : r.ok
        · rfl
        · rw [Bool.true_and]
          exact decide_eq_false (fun e => h1 ⟨ho, e⟩)
      rw [e] at this
      exact this
  · rename_i hv
    exact parse_bad s w env h (fun v hv' => hv v hv')
end Go.Proofs.YtkhjgfbiemllmaaGreatDoor
namespace Go.Proofs.YtkhjgfbiemllmaaGreatDoor
open Go.RowKit

set_option maxHeartbeats 1000000 in
theorem d_c (n s : Int) (w : World) :
    Calls Tryz.prog 27 #[.int .i64 n, .int .i64 s] w fun e w' => e = .returned (.agg #[.int .i64 n, .int .i64 s]) ∧ Kb (fun _ => False) w w' := by
  go_enter Tryz.func27, Tryz.ntmps27
  go_wp2_with fail
  exact bodyPost_ret (v := .agg #[.int .i64 n, .int .i64 s]) (by simp [results, Tryz.results27, go_sem]) rfl ⟨rfl, (by repeat (with_reducible first | exact Kb.refl _ _ | exact KW.out | refine Kb.setC ?_ (by assumption) | apply Kb.drew | apply Kb.drewN | apply Kb.grew | apply Kb.alloc))⟩
def givesB (n s : Int) (ok : Bool) (n2 s2 : Int) : Bool := ok && (n == n2 && s == s2)
set_option maxHeartbeats 1000000 in
theorem gives_c (n s : Int) (ok : Bool) (n2 s2 : Int) (w : World) :
    Calls Tryz.prog 26 #[.agg #[.int .i64 n, .int .i64 s], .bool ok, .agg #[.int .i64 n2, .int .i64 s2]] w fun e w' => e = .returned (.bool (givesB n s ok n2 s2)) ∧ Kb (fun _ => False) w w' := by
  unfold givesB
  cases ok
  · go_enter Tryz.func26, Tryz.ntmps26
    go_wp2_with fail
    go_ret
    exact ⟨rfl, (by repeat (with_reducible first | exact Kb.refl _ _ | exact KW.out | refine Kb.setC ?_ (by assumption) | apply Kb.drew | apply Kb.drewN | apply Kb.grew | apply Kb.alloc))⟩
  · by_cases h1 : n = n2
    · subst h1
      by_cases h2 : s = s2
      · subst h2
        go_enter Tryz.func26, Tryz.ntmps26
        go_wp2_with fail
        go_ret
        exact ⟨by simp, (by repeat (with_reducible first | exact Kb.refl _ _ | exact KW.out | refine Kb.setC ?_ (by assumption) | apply Kb.drew | apply Kb.drewN | apply Kb.grew | apply Kb.alloc))⟩
      · go_enter Tryz.func26, Tryz.ntmps26
        go_wp2_with fail
        go_ret
        exact ⟨by simp [h2], (by repeat (with_reducible first | exact Kb.refl _ _ | exact KW.out | refine Kb.setC ?_ (by assumption) | apply Kb.drew | apply Kb.drewN | apply Kb.grew | apply Kb.alloc))⟩
    · go_enter Tryz.func26, Tryz.ntmps26
      go_wp2_with fail
      all_goals
        go_ret
        exact ⟨by simp [h1], (by repeat (with_reducible first | exact Kb.refl _ _ | exact KW.out | refine Kb.setC ?_ (by assumption) | apply Kb.drew | apply Kb.drewN | apply Kb.grew | apply Kb.alloc))⟩
end Go.Proofs.YtkhjgfbiemllmaaGreatDoor
namespace Go.Proofs.YtkhjgfbiemllmaaGreatDoor
set_option linter.unusedSimpArgs false
set_option linter.unusedVariables false
open Go.RowKit

theorem make_is (n s x y : Int) (b : Bool) (h : makeD n s = ⟨x, y, b⟩) (w : World) (h1 : -9223372036854775808 ≤ n) (h2 : n ≤ 9223372036854775807) :
    Calls Tryz.prog 25 #[.int .i64 n, .int .i64 s] w fun e w' => e = .returned (.tuple #[.agg #[.int .i64 x, .int .i64 y], .bool b]) ∧ Kb (fun _ => False) w w' := by
  have := make_c n s w h1 h2
  rwa [h] at this
theorem of_is (n x y : Int) (b : Bool) (h : makeD n 0 = ⟨x, y, b⟩) (w : World) (h1 : -9223372036854775808 ≤ n) (h2 : n ≤ 9223372036854775807) :
    Calls Tryz.prog 28 #[.int .i64 n] w fun e w' => e = .returned (.tuple #[.agg #[.int .i64 x, .int .i64 y], .bool b]) ∧ Kb (fun _ => False) w w' := by
  have := of_c n w h1 h2
  rwa [h] at this
theorem add_is (n1 s1 n2 s2 x y : Int) (b : Bool) (h : addD n1 s1 n2 s2 = ⟨x, y, b⟩) (w : World) (env : Env w) :
    Calls Tryz.prog 20 #[.agg #[.int .i64 n1, .int .i64 s1], .agg #[.int .i64 n2, .int .i64 s2]] w fun e w' => e = .returned (.tuple #[.agg #[.int .i64 x, .int .i64 y], .bool b]) ∧ Kb (fun _ => False) w w' := by
  have := add_c n1 s1 n2 s2 w env
  rwa [h] at this
theorem mul_is (n1 s1 n2 s2 x y : Int) (b : Bool) (h : mulD n1 s1 n2 s2 = ⟨x, y, b⟩) (w : World) :
    Calls Tryz.prog 9 #[.agg #[.int .i64 n1, .int .i64 s1], .agg #[.int .i64 n2, .int .i64 s2]] w fun e w' => e = .returned (.tuple #[.agg #[.int .i64 x, .int .i64 y], .bool b]) ∧ Kb (fun _ => False) w w' := by
  have := mul_c n1 s1 n2 s2 w
  rwa [h] at this
theorem round_is (n s k x y : Int) (b : Bool) (h : roundD n s k = ⟨x, y, b⟩) (w : World) (env : Env w) :
    Calls Tryz.prog 12 #[.agg #[.int .i64 n, .int .i64 s], .int .i64 k] w fun e w' => e = .returned (.tuple #[.agg #[.int .i64 x, .int .i64 y], .bool b]) ∧ Kb (fun _ => False) w w' := by
  have := round_c n s k w env
  rwa [h] at this
theorem parse_is (s : ByteArray) (x y : Int) (b : Bool) (h : parseD s = ⟨x, y, b⟩) (w : World) (env : Env w) (hs : s.size ≤ 1000000) :
    Calls Tryz.prog 16 #[.string s] w fun e w' => e = .returned (.tuple #[.agg #[.int .i64 x, .int .i64 y], .bool b]) ∧ Kb (fun _ => False) w w' := by
  have := parse_c s w env hs
  rwa [h] at this
theorem text_is (n s : Int) (t : ByteArray) (h : textS n s = t) (w : World) (env : Env w) :
    Calls Tryz.prog 14 #[.agg #[.int .i64 n, .int .i64 s]] w fun e w' => e = .returned (.string t) ∧ Kb (fun _ => False) w w' := by
  have := text_c n s w env
  rwa [h] at this
theorem cmp_is (n1 s1 n2 s2 r : Int) (h : cmpZ (unitZ n1 s1) (unitZ n2 s2) = r) (w : World) (env : Env w) :
    Calls Tryz.prog 17 #[.agg #[.int .i64 n1, .int .i64 s1], .agg #[.int .i64 n2, .int .i64 s2]] w fun e w' => e = .returned (.int .i64 r) ∧ Kb (fun _ => False) w w' := by
  have := cmp_c n1 s1 n2 s2 w env
  rwa [h] at this
theorem gives_yes (n s : Int) (w : World) :
    Calls Tryz.prog 26 #[.agg #[.int .i64 n, .int .i64 s], .bool true, .agg #[.int .i64 n, .int .i64 s]] w fun e w' => e = .returned (.bool true) ∧ Kb (fun _ => False) w w' := by
  have := gives_c n s true n s w
  rwa [show givesB n s true n s = true by simp [givesB]] at this
theorem v1 : makeD 1500 3 = ⟨15, 1, true⟩ := by kernel_rfl
theorem v2 : makeD (-5) 1 = ⟨-5, 1, true⟩ := by kernel_rfl
theorem v3 : makeD 1 7 = ⟨0, 0, false⟩ := by kernel_rfl
theorem v4 : addD 1 1 2 1 = ⟨3, 1, true⟩ := by kernel_rfl
theorem v5 : mulD 15 1 4 1 = ⟨6, 1, true⟩ := by kernel_rfl
theorem v6 : mulD 1 3 1 4 = ⟨0, 0, false⟩ := by kernel_rfl
theorem v7 : roundD 2345 3 2 = ⟨235, 2, true⟩ := by kernel_rfl
theorem v8 : roundD (-2345) 3 2 = ⟨-235, 2, true⟩ := by kernel_rfl
theorem v9 : roundD 25 1 0 = ⟨3, 0, true⟩ := by kernel_rfl
theorem v10 : parseD ⟨#[49, 46, 53, 48]⟩ = ⟨0, 0, false⟩ := by kernel_rfl
theorem v11 : parseD ⟨#[45, 48]⟩ = ⟨0, 0, false⟩ := by kernel_rfl
theorem v12 : makeD 1000000000000001 0 = ⟨0, 0, false⟩ := by kernel_rfl
theorem v13 : textS (-5) 2 = ⟨#[45, 48, 46, 48, 53]⟩ := by kernel_rfl
theorem v14 : cmpZ (unitZ 1 1) (unitZ 2 2) = 1 := by kernel_rfl
attribute [local go_sem ↓] Go.wp_at_zero Go.wp_at_succ
set_option maxHeartbeats 8000000 in
set_option maxRecDepth 100000 in
theorem sanity_c (w : World) (env : Env w) :
    Calls Tryz.prog 7 #[] w fun e w' => e = .returned (.bool true) ∧ Kb (fun _ => False) w w' := by
  have EN := hid env
  clear env
  go_enter Tryz.func7, Tryz.ntmps7
  go_wp2_with fail
  refine (make_is _ _ _ _ _ v1 _ (by decide) (by decide)).mono ?_; rintro e w1 ⟨rfl, k1⟩; obtain ⟨C1, m, rfl⟩ := grew_of k1; clear k1
  go_wp2_with fail
  refine (make_is _ _ _ _ _ v2 _ (by decide) (by decide)).mono ?_; rintro e w1 ⟨rfl, k1⟩; obtain ⟨C2, m, rfl⟩ := grew_of k1; clear k1
  go_wp2_with fail
  refine (make_is _ _ _ _ _ v3 _ (by decide) (by decide)).mono ?_; rintro e w1 ⟨rfl, k1⟩; obtain ⟨C3, m, rfl⟩ := grew_of k1; clear k1
  go_wp2_with fail
  go_region_held3 (fun w' => w'.cell? ⟨gsz w C1 0, 0, none⟩ = some (.int .i64 (15)) ∧ w'.cell? ⟨gsz w C1 0, 1, none⟩ = some (.int .i64 1) ∧ w'.cell? ⟨gsz w (C1 ++ C2) 1, 0, none⟩ = some (.int .i64 (-5)) ∧ w'.cell? ⟨gsz w (C1 ++ C2) 1, 1, none⟩ = some (.int .i64 1)) ((simp [go_sem]; done)) (first
    | (go_at_call 27; refine (d_c _ _ _).mono ?_; rintro e w1 ⟨rfl, k1⟩; obtain ⟨C, m, rfl⟩ := grew_of k1; clear k1)
    | (go_at_call 26; refine (gives_yes _ _ _).mono ?_; rintro e w1 ⟨rfl, k1⟩; obtain ⟨C, m, rfl⟩ := grew_of k1; clear k1)
    | (go_at_call 14; refine (text_is _ _ _ v13 _ (EN.out.kb (by repeat (with_reducible first | exact Kb.refl _ _ | exact KW.out | refine Kb.setC ?_ (by assumption) | apply Kb.drew | apply Kb.drewN | apply Kb.grew | apply Kb.alloc)))).mono ?_; rintro e w1 ⟨rfl, k1⟩; obtain ⟨C, m, rfl⟩ := grew_of k1; clear k1)
    | (go_at_call 17; refine (cmp_is _ _ _ _ _ v14 _ (EN.out.kb (by repeat (with_reducible first | exact Kb.refl _ _ | exact KW.out | refine Kb.setC ?_ (by assumption) | apply Kb.drew | apply Kb.drewN | apply Kb.grew | apply Kb.alloc)))).mono ?_; rintro e w1 ⟨rfl, k1⟩; obtain ⟨C, m, rfl⟩ := grew_of k1; clear k1))
  go_upto_region 6 with fail
  have g1 : w.heap.size ≤ gsz w C1 0 := by unfold gsz; omega
  have g3 : w.heap.size ≤ gsz w (C1 ++ C2) 1 := by unfold gsz; omega
  have g4 : gsz w C1 0 ≠ gsz w (C1 ++ C2) 1 := by unfold gsz; simp; omega
  generalize hW : grew _ _ _ = W
  have KW := hid (show Kb (fun _ => False) w W by subst hW; exact (by repeat (with_reducible first | exact Kb.refl _ _ | exact KW.out | refine Kb.setC ?_ (by assumption) | apply Kb.drew | apply Kb.drewN | apply Kb.grew | apply Kb.alloc)))
  have p0 : W.cell? ⟨gsz w C1 0, 0, none⟩ = some (.int .i64 (15)) := by subst hW; simp [go_sem]
  have p1 : W.frozen? ⟨gsz w C1 0, 0, none⟩ = false := by subst hW; simp [go_sem]
  have p2 : W.cell? ⟨gsz w C1 0, 1, none⟩ = some (.int .i64 (1)) := by subst hW; simp [go_sem]
  have p3 : W.frozen? ⟨gsz w C1 0, 1, none⟩ = false := by subst hW; simp [go_sem]
  have p4 : gsz w C1 0 < W.heap.size := by subst hW; simp [go_sem]
  have p5 : W.cell? ⟨gsz w (C1 ++ C2) 1, 0, none⟩ = some (.int .i64 (-5)) := by subst hW; simp [go_sem]
  have p6 : W.frozen? ⟨gsz w (C1 ++ C2) 1, 0, none⟩ = false := by subst hW; simp [go_sem]
  have p7 : W.cell? ⟨gsz w (C1 ++ C2) 1, 1, none⟩ = some (.int .i64 (1)) := by subst hW; simp [go_sem]
  have p8 : W.frozen? ⟨gsz w (C1 ++ C2) 1, 1, none⟩ = false := by subst hW; simp [go_sem]
  have p9 : gsz w (C1 ++ C2) 1 < W.heap.size := by subst hW; simp [go_sem]
  clear hW
  generalize gsz w C1 0 = b1 at *
  generalize gsz w (C1 ++ C2) 1 = b3 at *
  go_wp2_with fail
  refine (d_c _ _ _).mono ?_; rintro e w1 ⟨rfl, k1⟩; obtain ⟨C4, m, rfl⟩ := grew_of k1; clear k1
  go_wp2_with fail
  refine (d_c _ _ _).mono ?_; rintro e w1 ⟨rfl, k1⟩; obtain ⟨C5, m, rfl⟩ := grew_of k1; clear k1
  go_wp2_with fail
  refine (add_is _ _ _ _ _ _ _ v4 _ (EN.out.kb (by repeat (with_reducible first | exact Kb.refl _ _ | exact KW.out | refine Kb.setC ?_ (by assumption) | apply Kb.drew | apply Kb.drewN | apply Kb.grew | apply Kb.alloc)))).mono ?_; rintro e w1 ⟨rfl, k1⟩; obtain ⟨C6, m, rfl⟩ := grew_of k1; clear k1
  go_wp2_with fail
  refine (d_c _ _ _).mono ?_; rintro e w1 ⟨rfl, k1⟩; obtain ⟨C7, m, rfl⟩ := grew_of k1; clear k1
  go_wp2_with fail
  refine (d_c _ _ _).mono ?_; rintro e w1 ⟨rfl, k1⟩; obtain ⟨C8, m, rfl⟩ := grew_of k1; clear k1
  go_wp2_with fail
  refine (mul_is _ _ _ _ _ _ _ v5 _).mono ?_; rintro e w1 ⟨rfl, k1⟩; obtain ⟨C9, m, rfl⟩ := grew_of k1; clear k1
  go_wp2_with fail
  refine (d_c _ _ _).mono ?_; rintro e w1 ⟨rfl, k1⟩; obtain ⟨C10, m, rfl⟩ := grew_of k1; clear k1
  go_wp2_with fail
  refine (d_c _ _ _).mono ?_; rintro e w1 ⟨rfl, k1⟩; obtain ⟨C11, m, rfl⟩ := grew_of k1; clear k1
  go_wp2_with fail
  refine (mul_is _ _ _ _ _ _ _ v6 _).mono ?_; rintro e w1 ⟨rfl, k1⟩; obtain ⟨C12, m, rfl⟩ := grew_of k1; clear k1
  go_wp2_with fail
  go_region_held3 (fun w' => w'.cell? ⟨b1, 0, none⟩ = some (.int .i64 (3)) ∧ w'.cell? ⟨b1, 1, none⟩ = some (.int .i64 1) ∧ w'.cell? ⟨b3, 0, none⟩ = some (.int .i64 (6)) ∧ w'.cell? ⟨b3, 1, none⟩ = some (.int .i64 1)) ((simp [go_sem, g4, g4.symm, p0, p1, p2, p3, p4, p5, p6, p7, p8, p9]; done)) (first
    | (go_at_call 27; refine (d_c _ _ _).mono ?_; rintro e w1 ⟨rfl, k1⟩; obtain ⟨C, m, rfl⟩ := grew_of k1; clear k1)
    | (go_at_call 26; refine (gives_yes _ _ _).mono ?_; rintro e w1 ⟨rfl, k1⟩; obtain ⟨C, m, rfl⟩ := grew_of k1; clear k1)
    | (go_at_call 14; refine (text_is _ _ _ v13 _ (EN.out.kb (by repeat (with_reducible first | exact Kb.refl _ _ | exact KW.out | refine Kb.setC ?_ (by assumption) | apply Kb.drew | apply Kb.drewN | apply Kb.grew | apply Kb.alloc)))).mono ?_; rintro e w1 ⟨rfl, k1⟩; obtain ⟨C, m, rfl⟩ := grew_of k1; clear k1)
    | (go_at_call 17; refine (cmp_is _ _ _ _ _ v14 _ (EN.out.kb (by repeat (with_reducible first | exact Kb.refl _ _ | exact KW.out | refine Kb.setC ?_ (by assumption) | apply Kb.drew | apply Kb.drewN | apply Kb.grew | apply Kb.alloc)))).mono ?_; rintro e w1 ⟨rfl, k1⟩; obtain ⟨C, m, rfl⟩ := grew_of k1; clear k1))
  go_upto_region 11 with fail
  generalize hW : grew _ _ _ = W2
  have KW := hid (show Kb (fun _ => False) w W2 by subst hW; exact (by repeat (with_reducible first | exact Kb.refl _ _ | exact KW.out | refine Kb.setC ?_ (by assumption) | apply Kb.drew | apply Kb.drewN | apply Kb.grew | apply Kb.alloc)))
  have q0 : W2.cell? ⟨b1, 0, none⟩ = some (.int .i64 (3)) := by subst hW; simp [go_sem, g4, g4.symm, p0, p1, p2, p3, p4, p5, p6, p7, p8, p9]
  have q1 : W2.frozen? ⟨b1, 0, none⟩ = false := by subst hW; simp [go_sem, g4, g4.symm, p0, p1, p2, p3, p4, p5, p6, p7, p8, p9]
  have q2 : W2.cell? ⟨b1, 1, none⟩ = some (.int .i64 (1)) := by subst hW; simp [go_sem, g4, g4.symm, p0, p1, p2, p3, p4, p5, p6, p7, p8, p9]
  have q3 : W2.frozen? ⟨b1, 1, none⟩ = false := by subst hW; simp [go_sem, g4, g4.symm, p0, p1, p2, p3, p4, p5, p6, p7, p8, p9]
  have q4 : b1 < W2.heap.size := by subst hW; simp [go_sem, g4, g4.symm, p0, p1, p2, p3, p4, p5, p6, p7, p8, p9]
  have q5 : W2.cell? ⟨b3, 0, none⟩ = some (.int .i64 (6)) := by subst hW; simp [go_sem, g4, g4.symm, p0, p1, p2, p3, p4, p5, p6, p7, p8, p9]
  have q6 : W2.frozen? ⟨b3, 0, none⟩ = false := by subst hW; simp [go_sem, g4, g4.symm, p0, p1, p2, p3, p4, p5, p6, p7, p8, p9]
  have q7 : W2.cell? ⟨b3, 1, none⟩ = some (.int .i64 (1)) := by subst hW; simp [go_sem, g4, g4.symm, p0, p1, p2, p3, p4, p5, p6, p7, p8, p9]
  have q8 : W2.frozen? ⟨b3, 1, none⟩ = false := by subst hW; simp [go_sem, g4, g4.symm, p0, p1, p2, p3, p4, p5, p6, p7, p8, p9]
  have q9 : b3 < W2.heap.size := by subst hW; simp [go_sem, g4, g4.symm, p0, p1, p2, p3, p4, p5, p6, p7, p8, p9]
  clear hW
  go_wp2_with fail
  refine (d_c _ _ _).mono ?_; rintro e w1 ⟨rfl, k1⟩; obtain ⟨C13, m, rfl⟩ := grew_of k1; clear k1
  go_wp2_with fail
  refine (round_is _ _ _ _ _ _ v7 _ (EN.out.kb (by repeat (with_reducible first | exact Kb.refl _ _ | exact KW.out | refine Kb.setC ?_ (by assumption) | apply Kb.drew | apply Kb.drewN | apply Kb.grew | apply Kb.alloc)))).mono ?_; rintro e w1 ⟨rfl, k1⟩; obtain ⟨C14, m, rfl⟩ := grew_of k1; clear k1
  go_wp2_with fail
  refine (d_c _ _ _).mono ?_; rintro e w1 ⟨rfl, k1⟩; obtain ⟨C15, m, rfl⟩ := grew_of k1; clear k1
  go_wp2_with fail
  refine (round_is _ _ _ _ _ _ v8 _ (EN.out.kb (by repeat (with_reducible first | exact Kb.refl _ _ | exact KW.out | refine Kb.setC ?_ (by assumption) | apply Kb.drew | apply Kb.drewN | apply Kb.grew | apply Kb.alloc)))).mono ?_; rintro e w1 ⟨rfl, k1⟩; obtain ⟨C16, m, rfl⟩ := grew_of k1; clear k1
  go_wp2_with fail
  refine (d_c _ _ _).mono ?_; rintro e w1 ⟨rfl, k1⟩; obtain ⟨C17, m, rfl⟩ := grew_of k1; clear k1
  go_wp2_with fail
  refine (round_is _ _ _ _ _ _ v9 _ (EN.out.kb (by repeat (with_reducible first | exact Kb.refl _ _ | exact KW.out | refine Kb.setC ?_ (by assumption) | apply Kb.drew | apply Kb.drewN | apply Kb.grew | apply Kb.alloc)))).mono ?_; rintro e w1 ⟨rfl, k1⟩; obtain ⟨C18, m, rfl⟩ := grew_of k1; clear k1
  go_wp2_with fail
  refine (parse_is _ _ _ _ v10 _ (EN.out.kb (by repeat (with_reducible first | exact Kb.refl _ _ | exact KW.out | refine Kb.setC ?_ (by assumption) | apply Kb.drew | apply Kb.drewN | apply Kb.grew | apply Kb.alloc))) (by decide)).mono ?_; rintro e w1 ⟨rfl, k1⟩; obtain ⟨C19, m, rfl⟩ := grew_of k1; clear k1
  go_wp2_with fail
  refine (parse_is _ _ _ _ v11 _ (EN.out.kb (by repeat (with_reducible first | exact Kb.refl _ _ | exact KW.out | refine Kb.setC ?_ (by assumption) | apply Kb.drew | apply Kb.drewN | apply Kb.grew | apply Kb.alloc))) (by decide)).mono ?_; rintro e w1 ⟨rfl, k1⟩; obtain ⟨C20, m, rfl⟩ := grew_of k1; clear k1
  go_wp2_with fail
  refine (of_is _ _ _ _ v12 _ (by decide) (by decide)).mono ?_; rintro e w1 ⟨rfl, k1⟩; obtain ⟨C21, m, rfl⟩ := grew_of k1; clear k1
  go_upto_region 17 with fail
  have g7 : b1 < W2.heap.size := by assumption
  have g8 : b3 < W2.heap.size := by assumption
  have g9 : b1 ≠ gsz W2 (C13 ++ (C14 ++ (C15 ++ (C16 ++ (C17 ++ C18))))) 0 := by unfold gsz; omega
  have g10 : b3 ≠ gsz W2 (C13 ++ (C14 ++ (C15 ++ (C16 ++ (C17 ++ C18))))) 0 := by unfold gsz; omega
  generalize hW : World.alloc _ _ = W3
  have KW := hid (show Kb (fun _ => False) w W3 by subst hW; exact (by repeat (with_reducible first | exact Kb.refl _ _ | exact KW.out | refine Kb.setC ?_ (by assumption) | apply Kb.drew | apply Kb.drewN | apply Kb.grew | apply Kb.alloc)))
  have r0 : W3.cell? ⟨b1, 0, none⟩ = some (.int .i64 (235)) := by subst hW; simp [go_sem, g4, g4.symm, g9, g10, g9.symm, g10.symm, q0, q1, q2, q3, q4, q5, q6, q7, q8, q9]
  have r1 : W3.frozen? ⟨b1, 0, none⟩ = false := by subst hW; simp [go_sem, g4, g4.symm, g9, g10, g9.symm, g10.symm, q0, q1, q2, q3, q4, q5, q6, q7, q8, q9]
  have r2 : W3.cell? ⟨b1, 1, none⟩ = some (.int .i64 (2)) := by subst hW; simp [go_sem, g4, g4.symm, g9, g10, g9.symm, g10.symm, q0, q1, q2, q3, q4, q5, q6, q7, q8, q9]
  have r3 : W3.frozen? ⟨b1, 1, none⟩ = false := by subst hW; simp [go_sem, g4, g4.symm, g9, g10, g9.symm, g10.symm, q0, q1, q2, q3, q4, q5, q6, q7, q8, q9]
  have r4 : b1 < W3.heap.size := by subst hW; simp [go_sem, g4, g4.symm, g9, g10, g9.symm, g10.symm, q0, q1, q2, q3, q4, q5, q6, q7, q8, q9]
  have r5 : W3.cell? ⟨b3, 0, none⟩ = some (.int .i64 (-235)) := by subst hW; simp [go_sem, g4, g4.symm, g9, g10, g9.symm, g10.symm, q0, q1, q2, q3, q4, q5, q6, q7, q8, q9]
  have r6 : W3.frozen? ⟨b3, 0, none⟩ = false := by subst hW; simp [go_sem, g4, g4.symm, g9, g10, g9.symm, g10.symm, q0, q1, q2, q3, q4, q5, q6, q7, q8, q9]
  have r7 : W3.cell? ⟨b3, 1, none⟩ = some (.int .i64 (2)) := by subst hW; simp [go_sem, g4, g4.symm, g9, g10, g9.symm, g10.symm, q0, q1, q2, q3, q4, q5, q6, q7, q8, q9]
  have r8 : W3.frozen? ⟨b3, 1, none⟩ = false := by subst hW; simp [go_sem, g4, g4.symm, g9, g10, g9.symm, g10.symm, q0, q1, q2, q3, q4, q5, q6, q7, q8, q9]
  have r9 : b3 < W3.heap.size := by subst hW; simp [go_sem, g4, g4.symm, g9, g10, g9.symm, g10.symm, q0, q1, q2, q3, q4, q5, q6, q7, q8, q9]
  have r10 : W3.cell? ⟨gsz W2 (C13 ++ (C14 ++ (C15 ++ (C16 ++ (C17 ++ C18))))) 0, 0, none⟩ = some (.int .i64 (3)) := by subst hW; simp [go_sem, g4, g4.symm, g9, g10, g9.symm, g10.symm, q0, q1, q2, q3, q4, q5, q6, q7, q8, q9]
  have r11 : W3.frozen? ⟨gsz W2 (C13 ++ (C14 ++ (C15 ++ (C16 ++ (C17 ++ C18))))) 0, 0, none⟩ = false := by subst hW; simp [go_sem, g4, g4.symm, g9, g10, g9.symm, g10.symm, q0, q1, q2, q3, q4, q5, q6, q7, q8, q9]
  have r12 : W3.cell? ⟨gsz W2 (C13 ++ (C14 ++ (C15 ++ (C16 ++ (C17 ++ C18))))) 0, 1, none⟩ = some (.int .i64 (0)) := by subst hW; simp [go_sem, g4, g4.symm, g9, g10, g9.symm, g10.symm, q0, q1, q2, q3, q4, q5, q6, q7, q8, q9]
  have r13 : W3.frozen? ⟨gsz W2 (C13 ++ (C14 ++ (C15 ++ (C16 ++ (C17 ++ C18))))) 0, 1, none⟩ = false := by subst hW; simp [go_sem, g4, g4.symm, g9, g10, g9.symm, g10.symm, q0, q1, q2, q3, q4, q5, q6, q7, q8, q9]
  have r14 : gsz W2 (C13 ++ (C14 ++ (C15 ++ (C16 ++ (C17 ++ C18))))) 0 < W3.heap.size := by subst hW; simp [go_sem, g4, g4.symm, g9, g10, g9.symm, g10.symm, q0, q1, q2, q3, q4, q5, q6, q7, q8, q9]
  clear hW
  generalize gsz W2 (C13 ++ (C14 ++ (C15 ++ (C16 ++ (C17 ++ C18))))) 0 = b7 at *
  go_region_held3 (fun w' => w'.cell? ⟨b1, 0, none⟩ = some (.int .i64 (235)) ∧ w'.cell? ⟨b1, 1, none⟩ = some (.int .i64 2) ∧ w'.cell? ⟨b3, 0, none⟩ = some (.int .i64 (-235)) ∧ w'.cell? ⟨b3, 1, none⟩ = some (.int .i64 2) ∧ w'.cell? ⟨b7, 0, none⟩ = some (.int .i64 (3)) ∧ w'.cell? ⟨b7, 1, none⟩ = some (.int .i64 0)) ((simp [go_sem, r0, r1, r2, r3, r4, r5, r6, r7, r8, r9, r10, r11, r12, r13, r14]; done)) (first
    | (go_at_call 27; refine (d_c _ _ _).mono ?_; rintro e w1 ⟨rfl, k1⟩; obtain ⟨C, m, rfl⟩ := grew_of k1; clear k1)
    | (go_at_call 26; refine (gives_yes _ _ _).mono ?_; rintro e w1 ⟨rfl, k1⟩; obtain ⟨C, m, rfl⟩ := grew_of k1; clear k1)
    | (go_at_call 14; refine (text_is _ _ _ v13 _ (EN.out.kb (by repeat (with_reducible first | exact Kb.refl _ _ | exact KW.out | refine Kb.setC ?_ (by assumption) | apply Kb.drew | apply Kb.drewN | apply Kb.grew | apply Kb.alloc)))).mono ?_; rintro e w1 ⟨rfl, k1⟩; obtain ⟨C, m, rfl⟩ := grew_of k1; clear k1)
    | (go_at_call 17; refine (cmp_is _ _ _ _ _ v14 _ (EN.out.kb (by repeat (with_reducible first | exact Kb.refl _ _ | exact KW.out | refine Kb.setC ?_ (by assumption) | apply Kb.drew | apply Kb.drewN | apply Kb.grew | apply Kb.alloc)))).mono ?_; rintro e w1 ⟨rfl, k1⟩; obtain ⟨C, m, rfl⟩ := grew_of k1; clear k1))
  go_wp2_with fail
  go_ret
  exact ⟨rfl, (by repeat (with_reducible first | exact Kb.refl _ _ | exact KW.out | refine Kb.setC ?_ (by assumption) | apply Kb.drew | apply Kb.drewN | apply Kb.grew | apply Kb.alloc))⟩
end Go.Proofs.YtkhjgfbiemllmaaGreatDoor
