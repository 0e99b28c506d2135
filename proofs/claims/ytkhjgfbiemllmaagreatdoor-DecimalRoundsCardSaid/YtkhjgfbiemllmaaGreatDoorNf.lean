/- The walk of DecimalRounds. -/
import Derived.Test.YtkhjgfbiemllmaaGreatDoorGL
import Derived.Deep.RegionHeld3
namespace Go.Proofs.YtkhjgfbiemllmaaGreatDoor
set_option linter.unusedSimpArgs false
set_option linter.unusedVariables false
open Go.RowKit

theorem rk_rk (P : Nat) (hP : 0 < P) (z : Int) : rk P (rk P z) = rk P z := by
  have h : ∀ M : Nat, rk P ((M * P : Nat) : Int) = ((M * P : Nat) : Int) := by
    intro M
    unfold rk
    rw [if_neg (by omega), Int.natAbs_natCast, rk_mul P M hP]
  have h2 : ∀ M : Nat, rk P (-((M * P : Nat) : Int)) = -((M * P : Nat) : Int) := by
    intro M
    unfold rk
    rw [Int.natAbs_neg, Int.natAbs_natCast, rk_mul P M hP]
    split <;> omega
  generalize hz : rk P z = y
  unfold rk at hz
  split at hz
  · rw [← hz]; exact h2 _
  · rw [← hz]; exact h _
theorem roundD_kn (n s k : Int) : roundD n s k = roundD (knN n s) (knS n s : Nat) k := by
  obtain ⟨h1, h2⟩ := kn_of (kn_right n s)
  have h3 : knS (knN n s) (knS n s : Nat) = knS n s := by omega
  unfold roundD
  rw [h1, h3]
theorem round_again (n s k x y : Int) (h : roundD n s k = ⟨x, y, true⟩) : roundD x y k = ⟨x, y, true⟩ := by
  by_cases hk : 0 ≤ k ∧ k ≤ 6
  · obtain ⟨k, rfl⟩ : ∃ j : Nat, k = j := ⟨k.toNat, by omega⟩
    rw [roundD_kn] at h
    obtain ⟨_, r2, r3⟩ := round_spec (kn_right n s) k (by omega)
    rw [h] at r2 r3
    simp only at r2 r3
    obtain ⟨t1, t2, t3⟩ := round_spec r2 k (by omega)
    rw [r3, rk_rk _ (pow_pos10 _), ← r3] at t3
    obtain ⟨u1, u2⟩ := unit_inj t2 r2 t3
    cases hr : roundD x y k with
    | mk a b c =>
      rw [hr] at t1 u1 u2
      simp only at t1 u1 u2
      rw [t1, u1, u2]
  · unfold roundD at h
    rw [if_neg hk] at h
    unfold noR at h
    injection h with _ _ h3
    cases h3
def kk (s : Int) (j : Nat) : Int := if j = 0 then s else modZ s 7
def rq (n1 s1 : Int) (X U : DR) (j : Nat) : Int := if j = 0 then n1 else if j = 1 then s1 else if j = 2 then X.n else if j = 3 then X.s else if j = 4 then U.n else U.s
attribute [local go_sem ↓] Go.wp_at_zero Go.wp_at_succ
set_option maxHeartbeats 8000000 in
set_option maxRecDepth 100000 in
theorem rounds_c (n1 s1 q0 q1 sc : Int) (w : World) (env : Env w) :
    Calls Tryz.prog 4 #[.agg #[.int .i64 n1, .int .i64 s1], .agg #[.int .i64 q0, .int .i64 q1], .int .i64 sc] w fun e w' => e = .returned (.bool true) ∧ Kb (fun _ => False) w w' := by
  have EN := hid env
  have HD := hid made_c
  have HM := hid (fun w => mod_c sc 7 w (by omega) (by omega))
  have HR := hid round_c
  have HS := hid (fun n s k w => rround_c n s k (roundD n s k).n (roundD n s k).s (roundD n s k).ok rfl w)
  have b0 := tmod_bd q0 10000 (by omega)
  clear env
  obtain ⟨t0, ht0⟩ : ∃ t, q0.tmod 10000 = t := ⟨_, rfl⟩
  rw [ht0] at b0
  obtain ⟨b01, b02⟩ := b0
  have w0 : IntKind.i64.wrap t0 = t0 := IntWalk.i64_in _ (by omega)
  go_enter Tryz.func4, Tryz.ntmps4
  go_upto_region 2 with fail
  refine (sanity_c _ (EN.out.kb (by repeat (with_reducible first | exact Kb.refl _ _ | exact KW.out | refine Kb.setC ?_ (by assumption) | apply Kb.drew | apply Kb.drewN | apply Kb.grew | apply Kb.alloc)))).mono ?_; rintro e w1 ⟨rfl, k1⟩; obtain ⟨C1, m, rfl⟩ := grew_of k1; clear k1
  go_upto_region 2 with fail
  go_cut [31, 32, 33] (fun v31 v32 v33 wx => ∃ bs : Nat, v31 = .slice (some ⟨bs, 0, none⟩) 3 3 ∧ v32 = .int .i64 3 ∧ v33 = .int .i64 0 ∧ Hid (∀ j, j < 6 → wx.cell? ⟨bs, j, none⟩ = some (.int .i64 (rq n1 s1 (madeD q0 q1) (madeD t0 q1) j))) ∧ Hid (Kb (fun _ => False) w wx))
  case first =>
    go_region_held3 (fun w' => w'.cell? ⟨w.heap.size, 0, none⟩ = some (.int .i64 n1) ∧ w'.cell? ⟨w.heap.size, 1, none⟩ = some (.int .i64 s1) ∧ w'.cell? ⟨w.heap.size + 1, 0, none⟩ = some (.int .i64 q0) ∧ w'.cell? ⟨w.heap.size + 1, 1, none⟩ = some (.int .i64 q1)) ((simp [go_sem]; done)) (first
      | (go_at_call 8; refine (HD.out _ _ _).mono ?_; rintro e w1 ⟨rfl, k1⟩; obtain ⟨C, m, rfl⟩ := grew_of k1; clear k1))
    all_goals
      go_wp2_with fail
      go_meet
      refine ⟨_, rfl, rfl, rfl, ?_, hid (by repeat (with_reducible first | exact Kb.refl _ _ | exact KW.out | refine Kb.setC ?_ (by assumption) | apply Kb.drew | apply Kb.drewN | apply Kb.grew | apply Kb.alloc))⟩
      intro j hj
      obtain rfl | rfl | rfl | rfl | rfl | rfl : j = 0 ∨ j = 1 ∨ j = 2 ∨ j = 3 ∨ j = 4 ∨ j = 5 := by omega
      all_goals simp [go_sem, rq]
  case rest =>
  obtain ⟨bs, rfl, rfl, rfl, hc, KW⟩ := hcut
  obtain ⟨P, hP⟩ : ∃ P, rq n1 s1 (madeD q0 q1) (madeD t0 q1) = P := ⟨_, rfl⟩
  rw [hP] at hc
  clear hP
  obtain ⟨wo, rfl⟩ : ∃ wo : World, wo = wc := ⟨_, rfl⟩
  go_wp2_with fail
  go_loopw [33] (fun iv wr => ∃ i : Nat, iv = .int .i64 i ∧ i ≤ 3 ∧ Hid (∀ j, j < 6 → wr.cell? ⟨bs, j, none⟩ = some (.int .i64 (P j))) ∧ Hid (Kb (fun _ => False) w wr)) (fun iv _ => 3 - (intOf iv).toNat)
  case atStart => exact ⟨0, rfl, by omega, hc, KW⟩
  case round =>
    obtain ⟨i, rfl, hi, hc, KW⟩ := hrel
    obtain ⟨wa, rfl⟩ : ∃ wa : World, wa = wr := ⟨_, rfl⟩
    by_cases hlt : i < 3
    · have e0 := hc.out (i * 2) (by omega)
      have e1 := hc.out (i * 2 + 1) (by omega)
      have lb := World.block_lt_of_cell? _ _ e0
      generalize P (i * 2) = n at *
      generalize P (i * 2 + 1) = s at *
      go_wp2_with fail
      refine (HM.out _).mono ?_; rintro e w1 ⟨rfl, rfl⟩
      go_wp2_with fail
      generalize hW : World.alloc _ _ = W
      have KX := hid (show Kb (fun _ => False) wa W by subst hW; exact (by repeat (with_reducible first | exact Kb.refl _ _ | exact KW.out | refine Kb.setC ?_ (by assumption) | apply Kb.drew | apply Kb.drewN | apply Kb.grew | apply Kb.alloc)))
      have hk := hid (show ∀ j, j < 2 → W.cell? ⟨wa.heap.size + 1, j, none⟩ = some (.int .i64 (kk sc j)) by
        intro j hj
        subst hW
        obtain rfl | rfl : j = 0 ∨ j = 1 := by omega
        all_goals simp [go_sem, kk])
      have A0 := hid (show W.cell? ⟨wa.heap.size, 0, none⟩ = some (.int .i64 n) by subst hW; simp [go_sem])
      have A1 := hid (show W.cell? ⟨wa.heap.size, 1, none⟩ = some (.int .i64 s) by subst hW; simp [go_sem])
      clear hW e0 e1 lb
      generalize wa.heap.size + 1 = bk at *
      generalize wa.heap.size = bx at *
      go_loopw [42] (fun jv wi => ∃ j : Nat, jv = .int .i64 j ∧ j ≤ 2 ∧ Hid (∀ j, j < 2 → wi.cell? ⟨bk, j, none⟩ = some (.int .i64 (kk sc j))) ∧ Hid (wi.cell? ⟨bx, 0, none⟩ = some (.int .i64 n)) ∧ Hid (wi.cell? ⟨bx, 1, none⟩ = some (.int .i64 s)) ∧ Hid (Kb (fun _ => False) wa wi)) (fun jv _ => 2 - (intOf jv).toNat)
      case atStart => exact ⟨0, rfl, by omega, hk, A0, A1, KX⟩
      case round =>
        obtain ⟨j, rfl, hj, hk, A0, A1, KX⟩ := hrel
        by_cases hlt2 : j < 2
        · have c0 := hk.out j hlt2
          have a0 := A0.out
          have a1 := A1.out
          have lk := World.block_lt_of_cell? _ _ c0
          have lx := World.block_lt_of_cell? _ _ a0
          obtain ⟨k, hkk⟩ : ∃ k, kk sc j = k := ⟨_, rfl⟩
          rw [hkk] at c0
          clear hkk
          have KW := hid (KW.out.trans KX.out)
          have HT := hid (round_again n s k)
          cases hok : (roundD n s k).ok
          · go_wp2_with fail
            refine (HR.out _ _ _ _ (EN.out.kb (by repeat (with_reducible first | exact Kb.refl _ _ | exact KW.out | refine Kb.setC ?_ (by assumption) | apply Kb.drew | apply Kb.drewN | apply Kb.grew | apply Kb.alloc)))).mono ?_; rintro e w1 ⟨rfl, k1⟩; obtain ⟨D1, m, rfl⟩ := grew_of k1; clear k1
            go_wp2_with fail
            refine (HS.out _ _ _ _).mono ?_; rintro e w1 ⟨rfl, k1⟩; obtain ⟨D2, m, rfl⟩ := grew_of k1; clear k1
            go_wp2_with fail
            refine (HR.out _ _ _ _ (EN.out.kb (by repeat (with_reducible first | exact Kb.refl _ _ | exact KW.out | refine Kb.setC ?_ (by assumption) | apply Kb.drew | apply Kb.drewN | apply Kb.grew | apply Kb.alloc)))).mono ?_; rintro e w1 ⟨rfl, k1⟩; obtain ⟨D3, m, rfl⟩ := grew_of k1; clear k1
            go_wp2_with fail
            generalize hW : World.alloc _ _ = W'
            have k : Kb (fun _ => False) wr W' := by subst hW; exact (by repeat (with_reducible first | exact Kb.refl _ _ | exact KW.out | refine Kb.setC ?_ (by assumption) | apply Kb.drew | apply Kb.drewN | apply Kb.grew | apply Kb.alloc))
            exact ⟨⟨j + 1, by go_num, by omega, fun j hj => k.cell (hk.out j hj) (by simp), k.cell a0 (by simp), k.cell a1 (by simp), KX.out.trans k⟩, by simp [intOf]; omega⟩
          · have HE := hid (HT.out (roundD n s k).n (roundD n s k).s (by rw [← hok]))
            have HR2 := hid (fun w env => round_is _ _ _ _ _ _ HE.out w env)
            go_wp2_with fail
            refine (HR.out _ _ _ _ (EN.out.kb (by repeat (with_reducible first | exact Kb.refl _ _ | exact KW.out | refine Kb.setC ?_ (by assumption) | apply Kb.drew | apply Kb.drewN | apply Kb.grew | apply Kb.alloc)))).mono ?_; rintro e w1 ⟨rfl, k1⟩; obtain ⟨D1, m, rfl⟩ := grew_of k1; clear k1
            go_wp2_with fail
            refine (HS.out _ _ _ _).mono ?_; rintro e w1 ⟨rfl, k1⟩; obtain ⟨D2, m, rfl⟩ := grew_of k1; clear k1
            go_wp2_with fail
            refine (HR2.out _ (EN.out.kb (by repeat (with_reducible first | exact Kb.refl _ _ | exact KW.out | refine Kb.setC ?_ (by assumption) | apply Kb.drew | apply Kb.drewN | apply Kb.grew | apply Kb.alloc)))).mono ?_; rintro e w1 ⟨rfl, k1⟩; obtain ⟨D3, m, rfl⟩ := grew_of k1; clear k1
            go_wp2_with fail
            generalize hW : World.alloc _ _ = W'
            have k : Kb (fun _ => False) wr W' := by subst hW; exact (by repeat (with_reducible first | exact Kb.refl _ _ | exact KW.out | refine Kb.setC ?_ (by assumption) | apply Kb.drew | apply Kb.drewN | apply Kb.grew | apply Kb.alloc))
            exact ⟨⟨j + 1, by go_num, by omega, fun j hj => k.cell (hk.out j hj) (by simp), k.cell a0 (by simp), k.cell a1 (by simp), KX.out.trans k⟩, by simp [intOf]; omega⟩
        · go_wp2_with fail
          exact ⟨⟨i + 1, by go_num, by omega, fun j hj => KX.out.cell (hc.out j hj) (by simp), KW.out.trans KX.out⟩, by simp [intOf]; omega⟩
    · go_wp2_with fail
      go_ret
      exact ⟨rfl, KW.out⟩
end Go.Proofs.YtkhjgfbiemllmaaGreatDoor
