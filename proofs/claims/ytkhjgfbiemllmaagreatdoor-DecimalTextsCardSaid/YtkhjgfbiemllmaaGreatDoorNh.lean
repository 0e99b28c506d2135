/- The walk of DecimalTexts. -/
import Derived.Test.YtkhjgfbiemllmaaGreatDoorGM
import Derived.Deep.RegionHeld3
namespace Go.Proofs.YtkhjgfbiemllmaaGreatDoor
set_option linter.unusedSimpArgs false
set_option linter.unusedVariables false
open Go.RowKit

theorem textS_len (n s : Int) : 1 ≤ (textS n s).size ∧ (textS n s).size ≤ 40 := by
  have hb := kn_bd n s
  unfold textS textL magL padL
  rw [strL_size]
  have hl := decDigits_len (knN n s).natAbs 15 (Nat.lt_of_le_of_lt (show (knN n s).natAbs ≤ 1000000000000000 by omega) (by decide))
  have h2 : (if knN n s < 0 then [45] else [] : List UInt8).length ≤ 1 := by split <;> simp
  rw [List.length_append]
  by_cases h0 : knS n s = 0
  · rw [if_pos h0]; omega
  · rw [if_neg h0]
    simp only [List.length_append, List.length_take, List.length_drop, List.length_replicate, List.length_singleton]
    omega
theorem textS_kn (n s : Int) : textS (knN n s) (knS n s : Nat) = textS n s := by
  obtain ⟨h1, h2⟩ := kn_of (kn_right n s)
  have h3 : knS (knN n s) (knS n s : Nat) = knS n s := by omega
  unfold textS
  rw [h1, h3]
theorem parse_back (n s : Int) : parseD (textS n s) = ⟨knN n s, (knS n s : Nat), true⟩ := by
  rw [← textS_kn]
  exact parse_text (kn_right n s)
theorem unit_kn (n s : Int) : unitZ (knN n s) (knS n s : Nat) = unitZ n s := by
  obtain ⟨h1, h2⟩ := kn_of (kn_right n s)
  have h3 : knS (knN n s) (knS n s : Nat) = knS n s := by omega
  rw [unitZ_kn, h1, h3, unitZ_kn]
/-- The strings that are tried. -/
def tt (T R : ByteArray) (j : Nat) : ByteArray :=
  if j = 0 then R else if j = 1 then T ++ R else if j = 2 then T ++ ⟨#[48]⟩ else if j = 3 then ⟨#[48]⟩ ++ T
  else if j = 4 then T.extract 1 T.size else if j = 5 then T ++ ⟨#[46]⟩ else if j = 6 then ⟨#[45]⟩ ++ T else ⟨#[43]⟩ ++ T
theorem tt_size (T R : ByteArray) (j : Nat) (hT : T.size ≤ 40) (hR : R.size ≤ 40) : (tt T R j).size ≤ 200 := by
  unfold tt
  repeat' split
  all_goals
    try simp only [ByteArray.size_append, ByteArray.size_extract]
    try (have : (⟨#[48]⟩ : ByteArray).size = 1 := rfl)
    try (have : (⟨#[46]⟩ : ByteArray).size = 1 := rfl)
    try (have : (⟨#[45]⟩ : ByteArray).size = 1 := rfl)
    try (have : (⟨#[43]⟩ : ByteArray).size = 1 := rfl)
    omega
def rt (n1 s1 : Int) (X : DR) (j : Nat) : Int := if j = 0 then n1 else if j = 1 then s1 else if j = 2 then X.n else X.s
attribute [local go_sem ↓] Go.wp_at_zero Go.wp_at_succ
set_option maxHeartbeats 8000000 in
set_option maxRecDepth 100000 in
theorem texts_c (n1 s1 q0 q1 : Int) (raw : ByteArray) (w : World) (env : Env w) :
    Calls Tryz.prog 5 #[.agg #[.int .i64 n1, .int .i64 s1], .agg #[.int .i64 q0, .int .i64 q1], .string raw] w fun e w' => e = .returned (.bool true) ∧ Kb (fun _ => False) w w' := by
  have EN := hid env
  have HD := hid made_c
  have HT := hid text_c
  have RT := hid rtext_c
  have HP := hid parse_c
  have RP := hid rparse_c
  clear env
  obtain ⟨R, hR⟩ : ∃ R, raw.extract 0 (min raw.size 40) = R := ⟨_, rfl⟩
  have hRs : R.size ≤ 40 := by rw [← hR, ByteArray.size_extract]; omega
  have hraw : min (raw.size : Int) 40 = ((min raw.size 40 : Nat) : Int) := by omega
  have hraw1 : min raw.size 40 ≤ raw.size := by omega
  go_enter Tryz.func5, Tryz.ntmps5
  go_upto_region 3 with fail
  refine (sanity_c _ (EN.out.kb (by repeat (with_reducible first | exact Kb.refl _ _ | exact KW.out | refine Kb.setC ?_ (by assumption) | apply Kb.drew | apply Kb.drewN | apply Kb.grew | apply Kb.alloc)))).mono ?_; rintro e w1 ⟨rfl, k1⟩; obtain ⟨C1, m, rfl⟩ := grew_of k1; clear k1
  go_upto_region 3 with fail
  go_cut [31, 32, 33] (fun v31 v32 v33 wx => ∃ bs : Nat, v31 = .slice (some ⟨bs, 0, none⟩) 2 2 ∧ v32 = .int .i64 2 ∧ v33 = .int .i64 0 ∧ Hid (∀ j, j < 4 → wx.cell? ⟨bs, j, none⟩ = some (.int .i64 (rt n1 s1 (madeD q0 q1) j))) ∧ Hid (Kb (fun _ => False) w wx))
  case first =>
    go_region_held3 (fun w' => w'.cell? ⟨w.heap.size, 0, none⟩ = some (.int .i64 n1) ∧ w'.cell? ⟨w.heap.size, 1, none⟩ = some (.int .i64 s1) ∧ w'.cell? ⟨w.heap.size + 1, 0, none⟩ = some (.int .i64 q0) ∧ w'.cell? ⟨w.heap.size + 1, 1, none⟩ = some (.int .i64 q1)) ((simp [go_sem]; done)) (first
      | (go_at_call 8; refine (HD.out _ _ _).mono ?_; rintro e w1 ⟨rfl, k1⟩; obtain ⟨C, m, rfl⟩ := grew_of k1; clear k1))
    all_goals
      go_wp2_with fail
      go_meet
      refine ⟨_, rfl, rfl, rfl, ?_, hid (by repeat (with_reducible first | exact Kb.refl _ _ | exact KW.out | refine Kb.setC ?_ (by assumption) | apply Kb.drew | apply Kb.drewN | apply Kb.grew | apply Kb.alloc))⟩
      intro j hj
      obtain rfl | rfl | rfl | rfl : j = 0 ∨ j = 1 ∨ j = 2 ∨ j = 3 := by omega
      all_goals simp [go_sem, rt]
  case rest =>
  obtain ⟨bs, rfl, rfl, rfl, hc, KW⟩ := hcut
  obtain ⟨P, hP⟩ : ∃ P, rt n1 s1 (madeD q0 q1) = P := ⟨_, rfl⟩
  rw [hP] at hc
  clear hP hraw hraw1 hR
  obtain ⟨wo, rfl⟩ : ∃ wo : World, wo = wc := ⟨_, rfl⟩
  go_wp2_with fail
  go_loopw [33] (fun iv wr => ∃ i : Nat, iv = .int .i64 i ∧ i ≤ 2 ∧ Hid (∀ j, j < 4 → wr.cell? ⟨bs, j, none⟩ = some (.int .i64 (P j))) ∧ Hid (Kb (fun _ => False) w wr)) (fun iv _ => 2 - (intOf iv).toNat)
  case atStart => exact ⟨0, rfl, by omega, hc, KW⟩
  case round =>
    obtain ⟨i, rfl, hi, hc, KW⟩ := hrel
    obtain ⟨wa, rfl⟩ : ∃ wa : World, wa = wr := ⟨_, rfl⟩
    by_cases hlt : i < 2
    · have e0 := hc.out (i * 2) (by omega)
      have e1 := hc.out (i * 2 + 1) (by omega)
      have lb := World.block_lt_of_cell? _ _ e0
      generalize P (i * 2) = n at *
      generalize P (i * 2 + 1) = s at *
      obtain ⟨T, hT⟩ : ∃ T, textS n s = T := ⟨_, rfl⟩
      have hTs := textS_len n s
      have HT1 := hid (fun w env => text_c n s w env)
      have RT1 := hid (fun w => rtext_c n s w)
      have HB := hid (fun w env hs => parse_is (textS n s) (knN n s) (knS n s : Nat) true (parse_back n s) w env hs)
      have HC := hid (fun w env => cmp_is (knN n s) (knS n s : Nat) n s 0 (by rw [unit_kn]; exact cmpZ_eq _) w env)
      have HG := hid (fun w => right_is (knN n s) (knS n s : Nat) true w (kn_right n s))
      rw [hT] at hTs HT1 RT1 HB
      obtain ⟨hT1, hT2⟩ := hTs
      generalize knN n s = kn at *
      generalize ((knS n s : Nat) : Int) = ks at *
      have hsz := fun j => tt_size T R j hT2 hRs
      have HSZ := hid hsz
      have hne : T.toList.isEmpty = false := by
        rw [ByteArray.toList_eq, List.isEmpty_eq_false_iff]
        intro e
        have : T.data.toList.length = 0 := by rw [e]; rfl
        rw [Array.length_toList] at this
        have h2 : T.data.size = T.size := rfl
        omega
      have o1 : ¬ 9223372036854775807 < T.size + R.size := by omega
      clear hT hsz
      go_wp2_with fail
      refine (HT1.out _ (EN.out.kb (by repeat (with_reducible first | exact Kb.refl _ _ | exact KW.out | refine Kb.setC ?_ (by assumption) | apply Kb.drew | apply Kb.drewN | apply Kb.grew | apply Kb.alloc)))).mono ?_; rintro e w1 ⟨rfl, k1⟩; obtain ⟨D1, m, rfl⟩ := grew_of k1; clear k1
      go_wp2_with fail
      refine (RT1.out _).mono ?_; rintro e w1 ⟨rfl, k1⟩; obtain ⟨D2, m, rfl⟩ := grew_of k1; clear k1
      go_wp2_with fail
      refine (HB.out _ (EN.out.kb (by repeat (with_reducible first | exact Kb.refl _ _ | exact KW.out | refine Kb.setC ?_ (by assumption) | apply Kb.drew | apply Kb.drewN | apply Kb.grew | apply Kb.alloc))) (by omega)).mono ?_; rintro e w1 ⟨rfl, k1⟩; obtain ⟨D3, m, rfl⟩ := grew_of k1; clear k1
      go_wp2_with fail
      refine (HC.out _ (EN.out.kb (by repeat (with_reducible first | exact Kb.refl _ _ | exact KW.out | refine Kb.setC ?_ (by assumption) | apply Kb.drew | apply Kb.drewN | apply Kb.grew | apply Kb.alloc)))).mono ?_; rintro e w1 ⟨rfl, k1⟩; obtain ⟨D4, m, rfl⟩ := grew_of k1; clear k1
      go_wp2_with fail
      refine (HG.out _).mono ?_; rintro e w1 ⟨rfl, k1⟩; obtain ⟨D5, m, rfl⟩ := grew_of k1; clear k1
      go_wp2_with fail
      generalize hW : World.alloc _ _ = W
      have KX := hid (show Kb (fun _ => False) wa W by subst hW; exact (by repeat (with_reducible first | exact Kb.refl _ _ | exact KW.out | refine Kb.setC ?_ (by assumption) | apply Kb.drew | apply Kb.drewN | apply Kb.grew | apply Kb.alloc)))
      have hk := hid (show ∀ j, j < 8 → W.cell? ⟨gsz wa (D1 ++ (D2 ++ (D3 ++ (D4 ++ D5)))) 2, j, none⟩ = some (.string (tt T R j)) by
        intro j hj
        subst hW
        obtain rfl | rfl | rfl | rfl | rfl | rfl | rfl | rfl : j = 0 ∨ j = 1 ∨ j = 2 ∨ j = 3 ∨ j = 4 ∨ j = 5 ∨ j = 6 ∨ j = 7 := by omega
        all_goals simp [go_sem, tt])
      clear hW e0 e1 lb hne o1
      generalize gsz wa (D1 ++ (D2 ++ (D3 ++ (D4 ++ D5)))) 2 = bk at *
      generalize gsz wa (D1 ++ (D2 ++ D3)) 1 = by1 at *
      generalize wa.heap.size = bx at *
      obtain ⟨F, hF⟩ : ∃ F, tt T R = F := ⟨_, rfl⟩
      rw [hF] at hk HSZ
      clear hF
      go_loopw [83] (fun jv wi => ∃ j : Nat, jv = .int .i64 j ∧ j ≤ 8 ∧ Hid (∀ j, j < 8 → wi.cell? ⟨bk, j, none⟩ = some (.string (F j))) ∧ Hid (Kb (fun _ => False) wa wi)) (fun jv _ => 8 - (intOf jv).toNat)
      case atStart => exact ⟨0, rfl, by omega, hk, KX⟩
      case round =>
        obtain ⟨j, rfl, hj, hk, KX⟩ := hrel
        by_cases hlt2 : j < 8
        · have c0 := hk.out j hlt2
          have lk := World.block_lt_of_cell? _ _ c0
          have hz := HSZ.out j
          generalize F j = f at *
          have KO := KW
          have KW := hid (KW.out.trans KX.out)
          go_wp2_with fail
          refine (HP.out _ _ (EN.out.kb (by repeat (with_reducible first | exact Kb.refl _ _ | exact KW.out | refine Kb.setC ?_ (by assumption) | apply Kb.drew | apply Kb.drewN | apply Kb.grew | apply Kb.alloc))) (by omega)).mono ?_; rintro e w1 ⟨rfl, k1⟩; obtain ⟨D6, m, rfl⟩ := grew_of k1; clear k1
          go_wp2_with fail
          refine (RP.out _ _ hz).mono ?_; rintro e w1 ⟨rfl, k1⟩; obtain ⟨D7, m, rfl⟩ := grew_of k1; clear k1
          go_wp2_with fail
          generalize hW : World.alloc _ _ = W'
          have k : Kb (fun _ => False) wr W' := by subst hW; exact (by repeat (with_reducible first | exact Kb.refl _ _ | exact KW.out | refine Kb.setC ?_ (by assumption) | apply Kb.drew | apply Kb.drewN | apply Kb.grew | apply Kb.alloc))
          exact ⟨⟨j + 1, by go_num, by omega, fun j hj => k.cell (hk.out j hj) (by simp), KX.out.trans k⟩, by simp [intOf]; omega⟩
        · go_wp2_with fail
          exact ⟨⟨i + 1, by go_num, by omega, fun j hj => KX.out.cell (hc.out j hj) (by simp), KW.out.trans KX.out⟩, by simp [intOf]; omega⟩
    · go_wp2_with fail
      go_ret
      exact ⟨rfl, KW.out⟩
end Go.Proofs.YtkhjgfbiemllmaaGreatDoor
