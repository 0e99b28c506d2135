/- Decimal: Parse in plain words. -/
import Derived.Test.YtkhjgfbiemllmaaDoorMe
import Derived.Lib.AtoiAllCases
import Derived.Lib.AtoiErrMem
namespace Go.Proofs.YtkhjgfbiemllmaaDoor
open Go.RowKit

theorem kb_drewN (w : World) (n : Nat) : Kb (fun _ => False) w (w.drewN n) := (Kb.refl _ w).drewN n
theorem cut_c (s : ByteArray) (w : World) (env : Env w) (h : s.size ≤ 1000000) :
    Calls Tryd.prog 34 #[.string s, .string ⟨#[46]⟩] w fun e w' => e = .returned (.tuple #[.string (strL (Lib.cut s.data.toList [46]).1), .string (strL (Lib.cut s.data.toList [46]).2.1), .bool (Lib.cut s.data.toList [46]).2.2]) ∧ Kb (fun _ => False) w w' := by
  obtain ⟨m, hm⟩ := env.max
  refine (Tryd.strings_Cut s ⟨#[46]⟩ m w (by omega) hm).mono ?_
  rintro e w' ⟨rfl, n, rfl⟩
  exact ⟨rfl, kb_drewN w n⟩
theorem atoi_ok_c (s : ByteArray) (v : Int) (w : World) (hs : s.size ≤ 1000000) (h : Lib.atoiAll s.data.toList = .ok v) :
    Calls Tryd.prog 35 #[.string s] w fun e w' => e = .returned (.tuple #[.int .i64 v, .nilIface]) ∧ Kb (fun _ => False) w w' := by
  refine (Tryd.strconv_Atoi_ok s (by omega) v h w).mono ?_
  rintro e w' ⟨rfl, hw⟩
  refine ⟨rfl, ?_⟩
  rcases hw with rfl | ⟨t, rfl⟩
  · exact Kb.refl _ _
  · exact kb_below (Lib.bytesWorld_below _ _ _)
theorem atoi_bad_c (s : ByteArray) (w : World) (env : Env w) (hs : s.size ≤ 1000000) (h : ∀ v, Lib.atoiAll s.data.toList ≠ .ok v) :
    Calls Tryd.prog 35 #[.string s] w fun e w' => (∃ T z p, e = .returned (.tuple #[.int .i64 z, .iface T p])) ∧ Kb (fun _ => False) w w' := by
  cases ha : Lib.atoiAll s.data.toList
  · rename_i v
    exact absurd ha (h v)
  · obtain ⟨tp, p, hv⟩ := env.syn
    refine (Any.strconv_Atoi_syntax_var Tryd.laysC172 s (by omega) ha tp p w hv).mono ?_
    rintro e w' ⟨N, rfl, _, _, hb⟩
    exact ⟨⟨_, _, _, rfl⟩, kb_below hb⟩
  · obtain ⟨tp, p, hv⟩ := env.ran
    refine (Any.strconv_Atoi_range_var Tryd.laysC172 s (by omega) ha tp p w hv).mono ?_
    rintro e w' ⟨N, rfl, _, _, hb⟩
    exact ⟨⟨_, _, _, rfl⟩, kb_below hb⟩
/-- What Parse gives. -/
def parseD (s : ByteArray) : DR :=
  match Lib.atoiAll ((Lib.cut s.data.toList [46]).1 ++ (Lib.cut s.data.toList [46]).2.1) with
  | .ok v => if (makeD v ((Lib.cut s.data.toList [46]).2.1.length : Nat)).ok = true ∧ textS (makeD v ((Lib.cut s.data.toList [46]).2.1.length : Nat)).n (makeD v ((Lib.cut s.data.toList [46]).2.1.length : Nat)).s = s then makeD v ((Lib.cut s.data.toList [46]).2.1.length : Nat) else noR
  | _ => noR
theorem cut_len (l : List UInt8) : (Lib.cut l [46]).1.length + (Lib.cut l [46]).2.1.length ≤ l.length := by
  unfold Lib.cut
  split
  · simp only [List.length_take, List.length_drop, List.length_singleton]; omega
  · simp
set_option maxHeartbeats 4000000 in
theorem parse_bad (s : ByteArray) (w : World) (env : Env w) (h : s.size ≤ 1000000) (hb : ∀ v, Lib.atoiAll ((Lib.cut s.data.toList [46]).1 ++ (Lib.cut s.data.toList [46]).2.1) ≠ .ok v) :
    Calls Tryd.prog 21 #[.string s] w fun e w' => e = .returned (.tuple #[.agg #[.int .i64 0, .int .i64 0], .bool false]) ∧ Kb (fun _ => False) w w' := by
  have EN := hid env
  have HC := hid (fun w env => cut_c s w env h)
  have hl := cut_len s.data.toList
  have hsl : s.data.toList.length = s.size := by rw [Array.length_toList]; rfl
  have HA := hid (fun w env => atoi_bad_c (strL ((Lib.cut s.data.toList [46]).1 ++ (Lib.cut s.data.toList [46]).2.1)) w env (by rw [strL_size, List.length_append]; omega) hb)
  rw [← app_strL] at HA
  have hB : (strL (Lib.cut s.data.toList [46]).1).size ≤ 1000000 := by rw [strL_size]; omega
  have hA : (strL (Lib.cut s.data.toList [46]).2.1).size ≤ 1000000 := by rw [strL_size]; omega
  generalize strL (Lib.cut s.data.toList [46]).1 = B at *
  generalize strL (Lib.cut s.data.toList [46]).2.1 = A at *
  generalize (Lib.cut s.data.toList [46]).2.2 = f at *
  clear env h hb hl hsl
  go_enter Tryd.func21, Tryd.ntmps21
  go_wp2_with fail
  refine (HC.out _ (EN.out.kb (by repeat (with_reducible first | exact Kb.refl _ _ | exact KW.out | refine Kb.setC ?_ (by assumption) | apply Kb.drew | apply Kb.drewN | apply Kb.grew | apply Kb.alloc)))).mono ?_; rintro e w1 ⟨rfl, k1⟩; obtain ⟨C, m, rfl⟩ := grew_of k1; clear k1
  go_wp2_with fail
  refine (HA.out _ (EN.out.kb (by repeat (with_reducible first | exact Kb.refl _ _ | exact KW.out | refine Kb.setC ?_ (by assumption) | apply Kb.drew | apply Kb.drewN | apply Kb.grew | apply Kb.alloc)))).mono ?_
  rintro e w1 ⟨⟨T, z, p, rfl⟩, k1⟩
  obtain ⟨C, m, rfl⟩ := grew_of k1; clear k1
  go_wp2_with fail
  exact bodyPost_ret (v := .tuple #[.agg #[.int .i64 0, .int .i64 0], .bool false]) (by simp [results, Tryd.results21, go_sem]) rfl ⟨rfl, (by repeat (with_reducible first | exact Kb.refl _ _ | exact KW.out | refine Kb.setC ?_ (by assumption) | apply Kb.drew | apply Kb.drewN | apply Kb.grew | apply Kb.alloc))⟩
set_option maxHeartbeats 4000000 in
theorem parse_ok (s : ByteArray) (v : Int) (w : World) (env : Env w) (h : s.size ≤ 1000000) (hv : Lib.atoiAll ((Lib.cut s.data.toList [46]).1 ++ (Lib.cut s.data.toList [46]).2.1) = .ok v) (n k : Int) (ok p : Bool)
    (hn : (makeD v ((Lib.cut s.data.toList [46]).2.1.length : Nat)).n = n) (hk : (makeD v ((Lib.cut s.data.toList [46]).2.1.length : Nat)).s = k) (hok : (makeD v ((Lib.cut s.data.toList [46]).2.1.length : Nat)).ok = ok) (hp : decide (textS n k = s) = p) :
    Calls Tryd.prog 21 #[.string s] w fun e w' => e = .returned (.tuple #[.agg #[.int .i64 (if ok && p then n else 0), .int .i64 (if ok && p then k else 0)], .bool (ok && p)]) ∧ Kb (fun _ => False) w w' := by
  have EN := hid env
  have HC := hid (fun w env => cut_c s w env h)
  have hl := cut_len s.data.toList
  have hsl : s.data.toList.length = s.size := by rw [Array.length_toList]; rfl
  have hvb := Lib.atoiAll_bounds hv
  have HA := hid (fun w => atoi_ok_c (strL ((Lib.cut s.data.toList [46]).1 ++ (Lib.cut s.data.toList [46]).2.1)) v w (by rw [strL_size, List.length_append]; omega) hv)
  rw [← app_strL] at HA
  have HM := hid (fun w => make_c v ((Lib.cut s.data.toList [46]).2.1.length : Nat) w hvb.1 hvb.2)
  rw [hn, hk, hok] at HM
  have HT := hid (fun w env => text_c n k w env)
  have hB : (strL (Lib.cut s.data.toList [46]).1).size ≤ 1000000 := by rw [strL_size]; omega
  have hA : (strL (Lib.cut s.data.toList [46]).2.1).size ≤ 1000000 := by rw [strL_size]; omega
  rw [← strL_size] at HM
  generalize textS n k = t at *
  generalize strL (Lib.cut s.data.toList [46]).1 = B at *
  generalize strL (Lib.cut s.data.toList [46]).2.1 = A at *
  generalize (Lib.cut s.data.toList [46]).2.2 = f at *
  clear env hl hsl hvb hv hn hk hok
  cases ok
  · clear hp
    go_enter Tryd.func21, Tryd.ntmps21
    go_wp2_with fail
    refine (HC.out _ (EN.out.kb (by repeat (with_reducible first | exact Kb.refl _ _ | exact KW.out | refine Kb.setC ?_ (by assumption) | apply Kb.drew | apply Kb.drewN | apply Kb.grew | apply Kb.alloc)))).mono ?_; rintro e w1 ⟨rfl, k1⟩; obtain ⟨C, m, rfl⟩ := grew_of k1; clear k1
    go_wp2_with fail
    refine (HA.out _).mono ?_; rintro e w1 ⟨rfl, k1⟩; obtain ⟨C, m, rfl⟩ := grew_of k1; clear k1
    go_wp2_with fail
    refine (HM.out _).mono ?_; rintro e w1 ⟨rfl, k1⟩; obtain ⟨C, m, rfl⟩ := grew_of k1; clear k1
    go_wp2_with fail
    exact bodyPost_ret (v := .tuple #[.agg #[.int .i64 0, .int .i64 0], .bool false]) (by simp [results, Tryd.results21, go_sem]) rfl ⟨rfl, (by repeat (with_reducible first | exact Kb.refl _ _ | exact KW.out | refine Kb.setC ?_ (by assumption) | apply Kb.drew | apply Kb.drewN | apply Kb.grew | apply Kb.alloc))⟩
  · cases p
    · have p2 : ¬ t.toList = s.toList := by
        intro e
        rw [ByteArray.toList_eq, ByteArray.toList_eq] at e
        exact of_decide_eq_false hp (ba_eq e)
      have p1 : (t.toList == s.toList) = false := by rw [beq_eq_false_iff_ne]; exact p2
      clear hp
      go_enter Tryd.func21, Tryd.ntmps21
      go_wp2_with fail
      refine (HC.out _ (EN.out.kb (by repeat (with_reducible first | exact Kb.refl _ _ | exact KW.out | refine Kb.setC ?_ (by assumption) | apply Kb.drew | apply Kb.drewN | apply Kb.grew | apply Kb.alloc)))).mono ?_; rintro e w1 ⟨rfl, k1⟩; obtain ⟨C, m, rfl⟩ := grew_of k1; clear k1
      go_wp2_with fail
      refine (HA.out _).mono ?_; rintro e w1 ⟨rfl, k1⟩; obtain ⟨C, m, rfl⟩ := grew_of k1; clear k1
      go_wp2_with fail
      refine (HM.out _).mono ?_; rintro e w1 ⟨rfl, k1⟩; obtain ⟨C, m, rfl⟩ := grew_of k1; clear k1
      go_wp2_with fail
      refine (HT.out _ (EN.out.kb (by repeat (with_reducible first | exact Kb.refl _ _ | exact KW.out | refine Kb.setC ?_ (by assumption) | apply Kb.drew | apply Kb.drewN | apply Kb.grew | apply Kb.alloc)))).mono ?_; rintro e w1 ⟨rfl, k1⟩; obtain ⟨C, m, rfl⟩ := grew_of k1; clear k1
      go_wp2_with fail
      exact bodyPost_ret (v := .tuple #[.agg #[.int .i64 0, .int .i64 0], .bool false]) (by simp [results, Tryd.results21, go_sem]) rfl ⟨rfl, (by repeat (with_reducible first | exact Kb.refl _ _ | exact KW.out | refine Kb.setC ?_ (by assumption) | apply Kb.drew | apply Kb.drewN | apply Kb.grew | apply Kb.alloc))⟩
    · obtain rfl : t = s := of_decide_eq_true hp
      clear hp
      go_enter Tryd.func21, Tryd.ntmps21
      go_wp2_with fail
      refine (HC.out _ (EN.out.kb (by repeat (with_reducible first | exact Kb.refl _ _ | exact KW.out | refine Kb.setC ?_ (by assumption) | apply Kb.drew | apply Kb.drewN | apply Kb.grew | apply Kb.alloc)))).mono ?_; rintro e w1 ⟨rfl, k1⟩; obtain ⟨C, m, rfl⟩ := grew_of k1; clear k1
      go_wp2_with fail
      refine (HA.out _).mono ?_; rintro e w1 ⟨rfl, k1⟩; obtain ⟨C, m, rfl⟩ := grew_of k1; clear k1
      go_wp2_with fail
      refine (HM.out _).mono ?_; rintro e w1 ⟨rfl, k1⟩; obtain ⟨C, m, rfl⟩ := grew_of k1; clear k1
      go_wp2_with fail
      refine (HT.out _ (EN.out.kb (by repeat (with_reducible first | exact Kb.refl _ _ | exact KW.out | refine Kb.setC ?_ (by assumption) | apply Kb.drew | apply Kb.drewN | apply Kb.grew | apply Kb.alloc)))).mono ?_; rintro e w1 ⟨rfl, k1⟩; obtain ⟨C, m, rfl⟩ := grew_of k1; clear k1
      go_wp2_with fail
      exact bodyPost_ret (v := .tuple #[.agg #[.int .i64 n, .int .i64 k], .bool true]) (by simp [results, Tryd.results21, go_sem]) rfl ⟨rfl, (by repeat (with_reducible first | exact Kb.refl _ _ | exact KW.out | refine Kb.setC ?_ (by assumption) | apply Kb.drew | apply Kb.drewN | apply Kb.grew | apply Kb.alloc))⟩
theorem parse_c (s : ByteArray) (w : World) (env : Env w) (h : s.size ≤ 1000000) :
    Calls Tryd.prog 21 #[.string s] w fun e w' => e = .returned (.tuple #[.agg #[.int .i64 (parseD s).n, .int .i64 (parseD s).s], .bool (parseD s).ok]) ∧ Kb (fun _ => False) w w' := by
  unfold parseD
  split
  · rename_i v hv
    have := parse_ok s v w env h hv _ _ _ _ rfl rfl rfl rfl
    generalize makeD v ((Lib.cut s.data.toList [46]).2.1.length : Nat) = r at *
    by_cases h1 : r.ok = true ∧ textS r.n r.s = s
    · rw [if_pos h1]
      rw [h1.1, decide_eq_true h1.2] at this
      rw [h1.1]
      exact this
    · rw [if_neg h1]
      have e : (r.ok && decide (textS r.n r.s = s)) = false := by
        cases ho : r.ok
        · rfl
        · rw [Bool.true_and]
          exact decide_eq_false (fun e => h1 ⟨ho, e⟩)
      rw [e] at this
      exact this
  · rename_i hv
    exact parse_bad s w env h (fun v hv' => hv v hv')
end Go.Proofs.YtkhjgfbiemllmaaDoor
