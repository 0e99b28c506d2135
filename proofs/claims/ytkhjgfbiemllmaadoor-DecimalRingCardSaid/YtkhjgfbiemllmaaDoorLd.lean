/- The walk of small. -/
import Derived.Test.YtkhjgfbiemllmaaDoorLc
namespace Go.Proofs.YtkhjgfbiemllmaaDoor
open Go.RowKit

theorem div10_any (h l q r : Nat) (w : World) (hh : h < 10) (hl : l < 18446744073709551616) (hq : (h * 18446744073709551616 + l) / 10 = q) (hr : (h * 18446744073709551616 + l) % 10 = r) :
    Calls Tryd.prog 45 #[.int .u64 h, .int .u64 l, .int .u64 10] w fun e w' => e = .returned (.tuple #[.int .u64 q, .int .u64 r]) ∧ Kb (fun _ => False) w w' := by
  cases h with
  | zero => exact div10_zero l q r w hl (by rw [← hq, Nat.zero_mul, Nat.zero_add]) (by rw [← hr, Nat.zero_mul, Nat.zero_add])
  | succ h => exact div10_pos (h + 1) l q r w (by omega) hh hl hq hr
theorem div10_is (p : Int) (h l q r : Nat) (w : World) (hp : p = h) (hh : h < 10) (hl : l < 18446744073709551616) (hq : (h * 18446744073709551616 + l) / 10 = q) (hr : (h * 18446744073709551616 + l) % 10 = r) :
    Calls Tryd.prog 45 #[.int .u64 p, .int .u64 l, .int .u64 10] w fun e w' => e = .returned (.tuple #[.int .u64 q, .int .u64 r]) ∧ Kb (fun _ => False) w w' := by
  subst hp
  exact div10_any h l q r w hh hl hq hr
theorem units_any (n s : Int) (w : World) (env : Env w) :
    Calls Tryd.prog 28 #[.agg #[.int .i64 n, .int .i64 s]] w fun e w' => e = .returned (unitsV n s) ∧ Kb (fun _ => False) w w' := by
  unfold unitsV
  cases hr : rightB n s
  · have hk : knownV n s = .agg #[.int .i64 0, .int .i64 ((0 : Nat) : Int)] := by unfold knownV; rw [hr]; rfl
    have h := units_core n s 0 0 0 0 0 false w env hk (by omega) (by omega) rfl rfl rfl rfl
    exact h
  · have hb := hr
    unfold rightB at hb
    simp only [decide_eq_true_eq] at hb
    have hk : knownV n s = .agg #[.int .i64 n, .int .i64 (s.toNat : Int)] := by
      unfold knownV
      rw [hr, show (s.toNat : Int) = s from by omega]
      rfl
    exact units_core n s n s.toNat _ _ _ _ w env hk (by omega) (by omega) rfl rfl rfl rfl
theorem sm_step (hi lo P h1 rs low last : Nat) (hlo : lo < 18446744073709551616) (hP : hi * 18446744073709551616 + lo = P) (e1 : hi / 10 = h1) (e2 : hi % 10 = rs)
    (e3 : (rs * 18446744073709551616 + lo) / 10 = low) (e4 : (rs * 18446744073709551616 + lo) % 10 = last) : h1 * 18446744073709551616 + low = P / 10 ∧ P % 10 = last ∧ low < 18446744073709551616 ∧ rs < 10 := by
  generalize 18446744073709551616 = M at *
  have h : hi = 10 * h1 + rs := by clear hP e3 e4; omega
  have hrs : rs < 10 := by clear hP e3 e4; omega
  have hx : rs * M ≤ 9 * M := Nat.mul_le_mul_right _ (by omega)
  have hPP : P = 10 * (h1 * M) + (rs * M + lo) := by
    rw [← hP, h, Nat.add_mul, Nat.mul_assoc, Nat.add_assoc]
  clear hP h e1 e2
  generalize h1 * M = a at *
  generalize rs * M = b at *
  omega
theorem wsmall_yes (neg : Bool) (P s P' k : Nat) (h : strip k P' = strip s P) (hk : k = 0 ∨ P' % 10 ≠ 0) (h1 : P' ≤ 1000000000000000) (h2 : k ≤ 6) : fitV neg P s = okDec (sgn neg P') k := by
  rw [strip_stop k _ hk] at h
  have := fitV_yes neg P s (by rw [← h]; exact h1) (by rw [← h]; exact h2)
  rw [this, ← h]
theorem wsmall_no (neg : Bool) (P s P' k : Nat) (h : strip k P' = strip s P) (hk : k = 0 ∨ P' % 10 ≠ 0) (h1 : 1000000000000000 < P' ∨ 6 < k) : fitV neg P s = noDec := by
  rw [strip_stop k _ hk] at h
  exact fitV_no neg P s (by rw [← h]; exact h1)
def scaleOf (v : Value) : Nat := (intOf v).toNat
attribute [local go_sem ↓] Go.wp_at_zero Go.wp_at_succ
set_option maxHeartbeats 4000000 in
set_option maxRecDepth 100000 in
theorem wide_small (neg : Bool) (hi lo s P : Nat) (w : World) (hhi : hi < 18446744073709551616) (hlo : lo < 18446744073709551616) (hs : s ≤ 1000) (hP : hi * 18446744073709551616 + lo = P) :
    Calls Tryd.prog 32 #[.agg #[.bool neg, .int .u64 hi, .int .u64 lo], .int .i64 s] w fun e w' => e = .returned (fitV neg P s) ∧ Kb (fun _ => False) w w' := by
  have HP := hid hP
  have HHI := hid hhi
  have HLO := hid hlo
  clear hP hhi hlo
  go_enter Tryd.func32, Tryd.ntmps32
  go_wp2_with fail
  generalize hW : World.alloc _ _ = W
  have kW : Kb (fun _ => False) w W := by subst hW; exact ((Kb.refl _ _).alloc _).alloc _
  have bW : W.heap[w.heap.size]? = some (.cells #[.bool neg, .int .u64 hi, .int .u64 lo] 53 (0, 0)) := by
    subst hW
    rw [Below.heap_alloc _ _ _ (by simp)]
    exact heap_alloc_new w _
  have rW : W.heap[w.heap.size + 1]? = some (.cells #[.int .i64 0, .int .i64 0] 23 (0, 0)) := by
    subst hW
    have h := heap_alloc_new (w.alloc (.cells #[.bool neg, .int .u64 hi, .int .u64 lo] 53)) (.cells #[.int .i64 0, .int .i64 0] 23)
    simpa using h
  obtain ⟨tb, htb⟩ : ∃ tb, tb = w.heap.size := ⟨_, rfl⟩
  have HTB := hid htb
  rw [← htb]
  rw [← htb] at bW rW
  have KW := hid kW
  have BW := hid bW
  have RW := hid rW
  clear hW htb kW bW rW
  go_loopw [1, 6, 7, 8, 9] (fun kv _ _ _ _ wr => ∃ h l k : Nat, kv = .int .i64 k ∧ k ≤ s ∧ Hid (wr.heap[tb]? = some (.cells #[.bool neg, .int .u64 h, .int .u64 l] 53 (0, 0))) ∧ Hid (wr.heap[tb + 1]? = some (.cells #[.int .i64 0, .int .i64 0] 23 (0, 0))) ∧ Hid (Kb (fun _ => False) w wr) ∧ h < 18446744073709551616 ∧ l < 18446744073709551616 ∧ Hid (strip k (h * 18446744073709551616 + l) = strip s P))
    (fun kv _ _ _ _ _ => scaleOf kv)
  case atStart => exact ⟨hi, lo, s, rfl, Nat.le_refl _, BW.out, RW.out, KW.out, HHI.out, HLO.out, by (show strip s _ = _); rw [HP.out]⟩
  case round =>
    obtain ⟨h, l, k, rfl, hk, hB, hR, hkb, hh, hl, hst⟩ := hrel
    have hbl : tb + 1 < wr.heap.size := block_lt hR.out
    have b0 := cell_of_heap hB.out 0
    have b1 := cell_of_heap hB.out 1
    have b2 := cell_of_heap hB.out 2
    have f1 := frozen_of_heap hB.out 1
    have f2 := frozen_of_heap hB.out 2
    simp only [List.getElem?_toArray, List.getElem?_cons_succ, List.getElem?_cons_zero] at b0 b1 b2
    have hbl0 : tb < wr.heap.size := by omega
    have r0 := cell_of_heap hR.out 0
    have r1 := cell_of_heap hR.out 1
    have q0 := frozen_of_heap hR.out 0
    have q1 := frozen_of_heap hR.out 1
    simp only [List.getElem?_toArray, List.getElem?_cons_succ, List.getElem?_cons_zero] at r0 r1
    cases k with
    | zero =>
      have HF := hid (show (0 : Nat) = 0 ∨ (h * 18446744073709551616 + l) % 10 ≠ 0 from Or.inl rfl)
      have HST := hst
      by_cases ch : 0 < h
      · have HV := hid (wsmall_no neg P s (h * 18446744073709551616 + l) 0 HST.out HF.out (Or.inl (by omega)))
        have c1 : decide (0 < (h : Int)) = true := decide_eq_true (by omega)
        have c2 : decide (0 < h) = true := decide_eq_true ch
        go_wp2_with fail
        refine bodyPost_ret (v := noDec) (by simp [results, Tryd.results32, go_sem, noDec, r0, r1]) rfl ⟨congrArg Ending.returned HV.out.symm, ?_⟩
        exact Kb.setCell (Kb.setCell hkb.out (Or.inr (by have := HTB.out; show w.heap.size ≤ tb + 1; omega)) _) (Or.inr (by have := HTB.out; show w.heap.size ≤ tb + 1; omega)) _
      · have hz : h = 0 := by omega
        subst hz
        have HST2 := hid (show strip (0) l = strip s P from by have := HST.out; rwa [Nat.zero_mul, Nat.zero_add] at this)
        have HF2 := hid (show (0) = 0 ∨ l % 10 ≠ 0 from by have := HF.out; rwa [Nat.zero_mul, Nat.zero_add] at this)
        clear ch
        by_cases cl : 1000000000000000 < l
        · have HV := hid (wsmall_no neg P s l (0) HST2.out HF2.out (Or.inl cl))
          have c1 : decide (1000000000000000 < (l : Int)) = true := decide_eq_true (by omega)
          have c2 : decide (1000000000000000 < l) = true := decide_eq_true cl
          go_wp2_with fail
          refine bodyPost_ret (v := noDec) (by simp [results, Tryd.results32, go_sem, noDec, r0, r1]) rfl ⟨congrArg Ending.returned HV.out.symm, ?_⟩
          exact Kb.setCell (Kb.setCell hkb.out (Or.inr (by have := HTB.out; show w.heap.size ≤ tb + 1; omega)) _) (Or.inr (by have := HTB.out; show w.heap.size ≤ tb + 1; omega)) _
        · have c1 : decide (1000000000000000 < (l : Int)) = false := decide_eq_false (by omega)
          by_cases ck : 6 < 0
          · exfalso; omega
          · have HV := hid (wsmall_yes neg P s l (0) HST2.out HF2.out (by omega) (by omega))
            have c2 : decide (6 < ((0 : Nat) : Int)) = false := decide_eq_false (by omega)
            have HL := hid cl
            have e1 : IntKind.i64.wrap (l : Int) = l := IntWalk.i64_in _ (by omega)
            have e2 : IntKind.i64.wrap (-(l : Int)) = -(l : Int) := IntWalk.i64_in _ (by omega)
            cases neg
            · go_wp2_with fail
              refine bodyPost_ret (v := okDec ((l : Nat) : Int) (0)) (by simp [results, Tryd.results32, go_sem, okDec, r0, r1]) rfl ⟨congrArg Ending.returned HV.out.symm, ?_⟩
              exact Kb.setCell (Kb.setCell hkb.out (Or.inr (by have := HTB.out; show w.heap.size ≤ tb + 1; omega)) _) (Or.inr (by have := HTB.out; show w.heap.size ≤ tb + 1; omega)) _
            · go_wp2_with fail
              refine bodyPost_ret (v := okDec (-((l : Nat) : Int)) (0)) (by simp [results, Tryd.results32, go_sem, okDec, r0, r1]) rfl ⟨congrArg Ending.returned HV.out.symm, ?_⟩
              exact Kb.setCell (Kb.setCell hkb.out (Or.inr (by have := HTB.out; show w.heap.size ≤ tb + 1; omega)) _) (Or.inr (by have := HTB.out; show w.heap.size ≤ tb + 1; omega)) _
    | succ k =>
      obtain ⟨h1, e1⟩ : ∃ h1, h / 10 = h1 := ⟨_, rfl⟩
      obtain ⟨rs, e2⟩ : ∃ rs, h % 10 = rs := ⟨_, rfl⟩
      obtain ⟨low, e3⟩ : ∃ low, (rs * 18446744073709551616 + l) / 10 = low := ⟨_, rfl⟩
      obtain ⟨last, e4⟩ : ∃ last, (rs * 18446744073709551616 + l) % 10 = last := ⟨_, rfl⟩
      obtain ⟨s1, s2, s3, s4⟩ := sm_step h l _ h1 rs low last hl rfl e1 e2 e3 e4
      have hh1 : h1 < 18446744073709551616 := by clear s1 s2 s3 e3 e4; omega
      have E1 : (h : Int) / 10 = (h1 : Int) := by rw [← e1]; rfl
      have E2 : (h : Int) % 10 = (rs : Int) := by rw [← e2]; rfl
      have E5 : (h : Int).tmod 10 = (rs : Int) := by rw [Int.tmod_eq_emod_of_nonneg (by omega)]; exact E2
      have E6 : IntKind.u64.wrap (h1 : Int) = (h1 : Int) := by rw [IntKind.wrap_u64]; clear s1 s2 s3 e3 e4; omega
      have S1 := hid s1
      have S2 := hid s2
      have E3 := hid e3
      have E4 := hid e4
      clear e1 e2 e3 e4 s1 s2
      go_wp2_with fail
      go_region_held3 (fun w' => w'.cell? ⟨tb, 1, none⟩ = some (.int .u64 h)) (first | go_keep | trivial) (fail)
      go_wp2_with fail
      refine (div10_is _ rs l low last wr.drew (by first | rfl | exact E5 | exact E2) (by omega) hl E3.out E4.out).mono ?_
      rintro e w1 ⟨rfl, kq⟩
      have b0 := kq.cell (p := ⟨tb, 0, none⟩) b0 (by simp)
      have b1 := kq.cell (p := ⟨tb, 1, none⟩) b1 (by simp)
      have b2 := kq.cell (p := ⟨tb, 2, none⟩) b2 (by simp)
      have r0 := kq.cell (p := ⟨tb + 1, 0, none⟩) r0 (by simp)
      have r1 := kq.cell (p := ⟨tb + 1, 1, none⟩) r1 (by simp)
      have f1 := (kq.frozen (p := ⟨tb, 1, none⟩) hbl0 (by simp)).trans f1
      have f2 := (kq.frozen (p := ⟨tb, 2, none⟩) hbl0 (by simp)).trans f2
      have q0 := (kq.frozen (p := ⟨tb + 1, 0, none⟩) hbl (by simp)).trans q0
      have q1 := (kq.frozen (p := ⟨tb + 1, 1, none⟩) hbl (by simp)).trans q1
      have hbl := Nat.lt_of_lt_of_le hbl kq.size
      have hbl0 := Nat.lt_of_lt_of_le hbl0 kq.size
      have B1 := hid (kq.heap hB.out (by simp))
      have R1 := hid (kq.heap hR.out (by simp))
      have KQ := hid (Kb.trans hkb.out (Kb.of_draw kq))
      clear kq hB hR hkb
      by_cases hz : last = 0
      · subst hz
        go_wp2_with fail
        generalize hW3 : World.setCell _ _ _ = W3
        have k3 : Kb (fun x => x = tb) w1 W3 := by subst hW3; exact Kb.setCell (S := fun x => x = tb) (Kb.setCell (S := fun x => x = tb) (Kb.refl _ _) (Or.inl rfl) _) (Or.inl rfl) _
        refine ⟨⟨h1, low, k, by go_num, by omega, ?_, ?_, ?_, hh1, s3, ?_⟩, by simp [scaleOf, intOf] <;> omega⟩
        · subst hW3
          show _ = _
          rw [heap_setCell_same _ tb 2 _ 53 _ (heap_setCell_same w1 tb 1 _ 53 _ B1.out)]
          rfl
        · exact k3.heap R1.out (by omega)
        · exact KQ.out.trans' k3 (fun i hi e => by have := HTB.out; omega)
        · have h1 := hst.out
          rw [strip_step k _ S2.out, ← S1.out] at h1
          exact h1
      · have c0 : ((last : Int) != 0) = true := by rw [bne_iff_ne]; omega
        have HF := hid (show (k + 1 = 0) ∨ (h * 18446744073709551616 + l) % 10 ≠ 0 from Or.inr (by rw [S2.out]; exact hz))
        have HST := hst
        clear hz hst
        clear E1 E2 E5 E6 hh1 s3 s4
        by_cases ch : 0 < h
        · have HV := hid (wsmall_no neg P s (h * 18446744073709551616 + l) (k + 1) HST.out HF.out (Or.inl (by omega)))
          have c1 : decide (0 < (h : Int)) = true := decide_eq_true (by omega)
          have c2 : decide (0 < h) = true := decide_eq_true ch
          go_wp2_with fail
          refine bodyPost_ret (v := noDec) (by simp [results, Tryd.results32, go_sem, noDec, r0, r1]) rfl ⟨congrArg Ending.returned HV.out.symm, ?_⟩
          exact Kb.setCell (Kb.setCell KQ.out (Or.inr (by have := HTB.out; show w.heap.size ≤ tb + 1; omega)) _) (Or.inr (by have := HTB.out; show w.heap.size ≤ tb + 1; omega)) _
        · have hz : h = 0 := by omega
          subst hz
          have HST2 := hid (show strip ((k + 1)) l = strip s P from by have := HST.out; rwa [Nat.zero_mul, Nat.zero_add] at this)
          have HF2 := hid (show ((k + 1)) = 0 ∨ l % 10 ≠ 0 from by have := HF.out; rwa [Nat.zero_mul, Nat.zero_add] at this)
          clear ch
          by_cases cl : 1000000000000000 < l
          · have HV := hid (wsmall_no neg P s l ((k + 1)) HST2.out HF2.out (Or.inl cl))
            have c1 : decide (1000000000000000 < (l : Int)) = true := decide_eq_true (by omega)
            have c2 : decide (1000000000000000 < l) = true := decide_eq_true cl
            go_wp2_with fail
            refine bodyPost_ret (v := noDec) (by simp [results, Tryd.results32, go_sem, noDec, r0, r1]) rfl ⟨congrArg Ending.returned HV.out.symm, ?_⟩
            exact Kb.setCell (Kb.setCell KQ.out (Or.inr (by have := HTB.out; show w.heap.size ≤ tb + 1; omega)) _) (Or.inr (by have := HTB.out; show w.heap.size ≤ tb + 1; omega)) _
          · have c1 : decide (1000000000000000 < (l : Int)) = false := decide_eq_false (by omega)
            by_cases ck : 6 < (k + 1)
            · have HV := hid (wsmall_no neg P s l ((k + 1)) HST2.out HF2.out (Or.inr ck))
              have c2 : decide (6 < (((k + 1) : Nat) : Int)) = true := decide_eq_true (by omega)
              go_wp2_with fail
              refine bodyPost_ret (v := noDec) (by simp [results, Tryd.results32, go_sem, noDec, r0, r1]) rfl ⟨congrArg Ending.returned HV.out.symm, ?_⟩
              exact Kb.setCell (Kb.setCell KQ.out (Or.inr (by have := HTB.out; show w.heap.size ≤ tb + 1; omega)) _) (Or.inr (by have := HTB.out; show w.heap.size ≤ tb + 1; omega)) _
            · have HV := hid (wsmall_yes neg P s l ((k + 1)) HST2.out HF2.out (by omega) (by omega))
              have c2 : decide (6 < (((k + 1) : Nat) : Int)) = false := decide_eq_false (by omega)
              have HL := hid cl
              have e1 : IntKind.i64.wrap (l : Int) = l := IntWalk.i64_in _ (by omega)
              have e2 : IntKind.i64.wrap (-(l : Int)) = -(l : Int) := IntWalk.i64_in _ (by omega)
              cases neg
              · go_wp2_with fail
                refine bodyPost_ret (v := okDec ((l : Nat) : Int) ((k + 1))) (by simp [results, Tryd.results32, go_sem, okDec, r0, r1]) rfl ⟨congrArg Ending.returned HV.out.symm, ?_⟩
                exact Kb.setCell (Kb.setCell KQ.out (Or.inr (by have := HTB.out; show w.heap.size ≤ tb + 1; omega)) _) (Or.inr (by have := HTB.out; show w.heap.size ≤ tb + 1; omega)) _
              · go_wp2_with fail
                refine bodyPost_ret (v := okDec (-((l : Nat) : Int)) ((k + 1))) (by simp [results, Tryd.results32, go_sem, okDec, r0, r1]) rfl ⟨congrArg Ending.returned HV.out.symm, ?_⟩
                exact Kb.setCell (Kb.setCell KQ.out (Or.inr (by have := HTB.out; show w.heap.size ≤ tb + 1; omega)) _) (Or.inr (by have := HTB.out; show w.heap.size ≤ tb + 1; omega)) _
end Go.Proofs.YtkhjgfbiemllmaaDoor
