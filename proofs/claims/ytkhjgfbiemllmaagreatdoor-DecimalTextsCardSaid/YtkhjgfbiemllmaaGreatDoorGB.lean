/- The walks of the reference's trim and Add. The walks of the reference's cmp, times, minus on digits. The walks of the reference's minus and digit. The walk of the reference's Quo, small cases. The walk of the reference's Quo: long division. The reference's Quo of numbers, all cases. -/
import Derived.Test.YtkhjgfbiemllmaaGreatDoorGA
import Derived.Deep.QuietTactic
import Derived.BigQuiet
import Derived.Deep.RegionWith
import Derived.Deep.OwnRows
namespace Go.Proofs.YtkhjgfbiemllmaaGreatDoor
open Go.RowKit

def lenOf : Value → Nat
  | .slice _ n _ => n
  | _ => 0
theorem RowD.take {w : World} {B : Nat} {a : Option Addr} {c : Nat} {l : List Nat} (h : RowD w B (.slice a l.length c) l) (k : Nat) (hk : k ≤ l.length) : RowD w B (.slice a k c) (l.take k) := by
  have hl : (l.take k).length = k := by rw [List.length_take]; omega
  unfold RowD at *
  rw [hl]
  refine ⟨by rw [dV_len, hl, Nat.mul_one], ?_⟩
  rcases h.2 with ⟨e, h0⟩ | ⟨g, cap, cur, e, hg, hh, hc1, hc2, hc3, hc4⟩
  · simp only [Value.slice.injEq] at e
    left
    have : k = 0 := by omega
    subst this
    exact ⟨by rw [e.1, e.2.2], rfl⟩
  · simp only [Value.slice.injEq] at e
    obtain ⟨rfl, _, rfl⟩ := e
    refine Or.inr ⟨g, c, cur, rfl, hg, hh, by omega, hc2, hc3, ?_⟩
    have : cur.toList.take (k * 1) = (cur.toList.take (l.length * 1)).take k := by rw [List.take_take]; congr 1; omega
    rw [this, hc4]
    simp [dV, List.map_take]
theorem RowD.cap {w : World} {B : Nat} {a : Option Addr} {n c : Nat} {l : List Nat} (h : RowD w B (.slice a n c) l) : n = l.length ∧ l.length ≤ c := by
  rcases h.2 with ⟨e, h0⟩ | ⟨g, cap, cur, e, _, _, hc1, _⟩
  · simp only [Value.slice.injEq] at e
    omega
  · simp only [Value.slice.injEq] at e
    omega
theorem take_snoc (l : List Nat) (m : Nat) (h : m < l.length) : l.take (m + 1) = l.take m ++ [l[m]!] := by
  rw [List.take_succ_eq_append_getElem h, List.getElem!_eq_getElem?_getD, List.getElem?_eq_getElem h]
  rfl
set_option maxHeartbeats 1000000 in
theorem trim_any (v : Value) (l : List Nat) (B : Nat) (w : World) (hrow : RowD w B v l) (hl : l.length ≤ 1000000000) :
    Calls Tryz.prog 59 #[v] w fun e w' => (∃ v', e = .returned v' ∧ RowD w B v' (trimL l)) ∧ w' = w := by
  obtain ⟨a, c, rfl⟩ := hrow.slice
  have hcap := hrow.cap.2
  have HR := hid hrow
  clear hrow
  go_enter Tryz.func59, Tryz.ntmps59
  go_wp2_with fail
  go_loop [0] (fun v => ∃ k : Nat, k ≤ l.length ∧ v = .slice a k c ∧ Hid (trimL (l.take k) = trimL l)) (fun v => lenOf v)
  case atStart => exact ⟨l.length, Nat.le_refl _, rfl, by (show trimL _ = trimL _); rw [List.take_length]⟩
  case round =>
    obtain ⟨k, hk, rfl, ht⟩ := hrel
    cases k with
    | zero =>
      go_wp2_with fail
      go_ret
      refine ⟨⟨_, rfl, ?_⟩, rfl⟩
      rw [← ht.out]
      exact HR.out.take 0 hk
    | succ m =>
      obtain ⟨g, rfl, _, _, hg, hc⟩ := HR.out.form (by omega)
      have c0 := hc m (by omega)
      have hts := take_snoc l m (by omega)
      have HTS := hid hts
      clear hts hc
      by_cases h0 : l[m]! = 0
      · have h1 : (((l[m]! : Nat) : Int) == 0) = true := by rw [h0]; rfl
        have ht2 := hid (show trimL (l.take m) = trimL l by rw [← ht.out, HTS.out, h0, trimL_snoc_zero])
        clear h0
        generalize l[m]! = d at *
        go_wp2_with fail
        exact ⟨⟨m, by omega, rfl, ht2⟩, by simp [lenOf]⟩
      · have h1 : (((l[m]! : Nat) : Int) == 0) = false := by rw [beq_eq_false_iff_ne]; omega
        have ht2 := hid (show l.take (m + 1) = trimL l by rw [← ht.out, HTS.out, trimL_snoc _ _ h0])
        clear h0
        generalize l[m]! = d at *
        go_wp2_with fail
        go_ret
        refine ⟨⟨_, rfl, ?_⟩, rfl⟩
        rw [← ht2.out]
        exact HR.out.take (m + 1) hk

theorem dv_drop' (l : List Nat) (m : Nat) : dv P24 (l.drop m) = l.getD m 0 + P24 * dv P24 (l.drop (m + 1)) := by
  by_cases h : m < l.length
  · rw [dv_drop l m h, List.getElem!_eq_getElem?_getD, List.getD_eq_getElem?_getD]
    rfl
  · rw [List.drop_of_length_le (by omega), List.drop_of_length_le (by omega), List.getD_eq_getElem?_getD, List.getElem?_eq_none (by omega)]
    simp [dv]
theorem getD_of_lt (l : List Nat) (m : Nat) : l.getD m 0 = l[m]! := by
  rw [List.getElem!_eq_getElem?_getD, List.getD_eq_getElem?_getD]; rfl
theorem getD_of_ge (l : List Nat) (m : Nat) (h : l.length ≤ m) : l.getD m 0 = 0 := by
  rw [List.getD_eq_getElem?_getD, List.getElem?_eq_none h]; rfl
theorem add_step (out u v : List Nat) (j cy d N : Nat) (hj : out.length = j) (h : dv P24 out + P24 ^ j * (cy + dv P24 (u.drop j) + dv P24 (v.drop j)) = N) (hd : d = cy + u.getD j 0 + v.getD j 0) :
    dv P24 (out ++ [d % P24]) + P24 ^ (j + 1) * (d / P24 + dv P24 (u.drop (j + 1)) + dv P24 (v.drop (j + 1))) = N := by
  rw [dv_drop' u j, dv_drop' v j] at h
  rw [dv_snoc, hj, Nat.pow_succ, ← h]
  have e1 : cy + (u.getD j 0 + P24 * dv P24 (u.drop (j + 1))) + (v.getD j 0 + P24 * dv P24 (v.drop (j + 1))) = d + P24 * (dv P24 (u.drop (j + 1)) + dv P24 (v.drop (j + 1))) := by rw [Nat.mul_add]; omega
  have e2 : d = d % P24 + P24 * (d / P24) := (Nat.mod_add_div d P24).symm
  rw [e1]
  have e3 : P24 ^ j * P24 * (d / P24 + dv P24 (u.drop (j + 1)) + dv P24 (v.drop (j + 1))) = P24 ^ j * (P24 * (d / P24) + P24 * (dv P24 (u.drop (j + 1)) + dv P24 (v.drop (j + 1)))) := by
    rw [Nat.mul_assoc, Nat.add_assoc, Nat.mul_add P24]
  rw [e3, Nat.add_assoc, ← Nat.mul_add, ← Nat.add_assoc, ← e2]
set_option maxHeartbeats 1000000 in
theorem small_any (s : ByteArray) (k : Nat) (w : World) (hs : s.size ≤ 9223372036854775807) (hk : k ≤ 7) :
    Calls Tryz.prog 55 #[.string s, .int .i64 k] w fun e w' => e = .returned (.tuple #[.int .i64 ((if sv s < 256 ^ k then sv s else 0 : Nat) : Int), .bool (decide (sv s < 256 ^ k))]) ∧ w' = w := by
  by_cases h : sv s < 256 ^ k
  · rw [if_pos h, decide_eq_true h]
    exact small_yes s k w hs hk h
  · rw [if_neg h, decide_eq_false h]
    exact small_no s k w hs (by omega)
theorem small_is (s : ByteArray) (k x : Nat) (p : Bool) (w : World) (hs : s.size ≤ 9223372036854775807) (hk : k ≤ 7) (hx : (if sv s < 256 ^ k then sv s else 0) = x) (hp : decide (sv s < 256 ^ k) = p) :
    Calls Tryz.prog 55 #[.string s, .int .i64 k] w fun e w' => e = .returned (.tuple #[.int .i64 (x : Int), .bool p]) ∧ w' = w := by
  subst hx hp
  exact small_any s k w hs hk
set_option maxHeartbeats 4000000 in
theorem Add_small (a b : ByteArray) (w : World) (ha : a.size ≤ 10000000) (hb : b.size ≤ 10000000) (h1 : sv a < 256 ^ 7) (h2 : sv b < 256 ^ 7) :
    Calls Tryz.prog 37 #[.string a, .string b] w fun e w' => e = .returned (.string (natS (sv a + sv b))) ∧ Kb (fun _ => False) w w' := by
  have h3 : sv a < 72057594037927936 := h1
  have h4 : sv b < 72057594037927936 := h2
  have H1 := hid h1
  have H2 := hid h2
  clear h1 h2
  go_enter Tryz.func37, Tryz.ntmps37
  go_wp2_with fail
  refine (small_yes a 7 w (by omega) (by omega) H1.out).mono ?_
  rintro e w' ⟨rfl, rfl⟩
  go_wp2_with fail
  refine (small_yes b 7 _ (by omega) (by omega) H2.out).mono ?_
  rintro e w' ⟨rfl, rfl⟩
  go_wp2_with fail
  refine (Of_any _ _ (by omega)).mono ?_
  rintro e w' ⟨rfl, k⟩
  rw [show ((sv a : Int) + (sv b : Int)).toNat = sv a + sv b by omega]
  go_wp2_with fail
  go_ret
  exact ⟨rfl, k⟩
theorem out_lt (out : List Nat) (d : Nat) (h : ∀ x ∈ out, x < P24) : ∀ x ∈ out ++ [d % P24], x < P24 := by
  intro x hx
  rw [List.mem_append, List.mem_singleton] at hx
  rcases hx with hx | rfl
  · exact h x hx
  · exact Nat.mod_lt _ (by decide)
theorem digs_size (s : ByteArray) (n : Nat) (h : s.size ≤ n) : (digs P24 (sv s)).length ≤ n :=
  (digs_len P24 (by decide) _ _).2 (Nat.lt_of_lt_of_le (nv_lt _) (by
    have : s.data.toList.length ≤ n := by simpa using h
    exact Nat.le_trans (Nat.pow_le_pow_right (by omega) this) (Nat.pow_le_pow_left (by decide) _)))
set_option maxHeartbeats 8000000 in
theorem Add_big (a b : ByteArray) (x y : Nat) (p q : Bool) (w : World) (ha : a.size ≤ 10000000) (hb : b.size ≤ 10000000) (hx : (if sv a < 256 ^ 7 then sv a else 0) = x) (hp : decide (sv a < 256 ^ 7) = p) (hy : (if sv b < 256 ^ 7 then sv b else 0) = y) (hq : decide (sv b < 256 ^ 7) = q) (hpq : (p && q) = false) :
    Calls Tryz.prog 37 #[.string a, .string b] w fun e w' => e = .returned (.string (natS (sv a + sv b))) ∧ Kb (fun _ => False) w w' := by
  have HX := hid hx
  have HP := hid hp
  have HY := hid hy
  have HQ := hid hq
  clear hx hp hy hq
  have hlu := digs_size a 10000000 ha
  have hlv := digs_size b 10000000 hb
  have hdu : dv P24 (digs P24 (sv a)) = sv a := dv_digs P24 (by decide) _
  have hdw : dv P24 (digs P24 (sv b)) = sv b := dv_digs P24 (by decide) _
  have hmu := digs_lt P24 (by decide) (sv a)
  have hmv := digs_lt P24 (by decide) (sv b)
  obtain ⟨N, hN⟩ : ∃ N, N = sv a + sv b := ⟨_, rfl⟩
  rw [← hN]
  rw [← hdu, ← hdw] at hN
  have HN := hid hN
  have HMU := hid hmu
  have HMV := hid hmv
  clear hdu hdw hN hmu hmv
  go_enter Tryz.func37, Tryz.ntmps37
  go_wp2_with fail
  refine (small_is a 7 x p w (by omega) (by omega) HX.out HP.out).mono ?_
  rintro e w' ⟨rfl, rfl⟩
  go_wp2_with fail
  refine (small_is b 7 y q _ (by omega) (by omega) HY.out HQ.out).mono ?_
  rintro e w' ⟨rfl, rfl⟩
  clear HX HP HY HQ
  cases p <;> cases q <;> try (simp at hpq; done)
  all_goals
    clear hpq
    go_wp2_with fail
    refine (of_any a _ (by omega)).mono ?_
    rintro e w1 ⟨uv, rfl, hu, k1⟩
    obtain ⟨ua, uc, rfl⟩ := hu.slice
    have HU := hid hu
    have K1 := hid k1
    clear hu k1
    go_wp2_with fail
    refine (of_any b _ (by omega)).mono ?_
    rintro e w2 ⟨vv, rfl, hv, k2⟩
    obtain ⟨va, vc, rfl⟩ := hv.slice
    have HV := hid hv
    have HU2 := hid (HU.out.kb0 k2)
    have K2 := hid (K1.out.trans k2)
    clear hv k2 HU K1
    generalize digs P24 (sv a) = U at *
    generalize digs P24 (sv b) = V at *
    go_wp2_with fail
    go_loopw [11, 12, 13, 14] (fun ov cv kv _ wr => ∃ (out : List Nat) (cy : Nat) (oa : Option Addr) (oc : Nat), ov = .slice oa out.length oc ∧ cv = .int .i64 cy ∧ kv = .int .i64 out.length ∧ cy ≤ 1 ∧ out.length + cy ≤ max U.length V.length + 1 ∧ Hid (∀ d ∈ out, d < P24) ∧
        RowD wr w2.heap.size (.slice oa out.length oc) out ∧ Kb (fun _ => False) w2 wr ∧ Hid (dv P24 out + P24 ^ out.length * (cy + dv P24 (U.drop out.length) + dv P24 (V.drop out.length)) = N)) (fun _ cv kv _ _ => 2 * (max U.length V.length - (intOf kv).toNat) + (intOf cv).toNat)
    case atStart =>
      refine ⟨[], 0, none, 0, rfl, rfl, rfl, by omega, by simp, (by intro d h; cases h), RowD.nil _ _, Kb.refl _ _, ?_⟩
      show dv P24 [] + P24 ^ 0 * (0 + dv P24 (U.drop 0) + dv P24 (V.drop 0)) = N
      rw [HN.out]
      simp [dv]
    case round =>
      obtain ⟨out, cy, oa, oc, rfl, rfl, rfl, hcy, hlen, HO, hrow, hkb, hinv⟩ := hrel
      have hst := fun d hd => add_step out U V out.length cy d N rfl hinv.out hd
      have HS := hid hst
      clear hst
      by_cases h1 : out.length < U.length
      · obtain ⟨g, rfl, _, _, hg, hc⟩ := HU2.out.form (by omega)
        have c1 := hkb.cell (hc out.length h1) (by simp)
        have hd1 : U[out.length]! < 16777216 := HMU.out _ (by rw [List.getElem!_eq_getElem?_getD, List.getElem?_eq_getElem h1]; exact List.getElem_mem _)
        have hg1 := hid (getD_of_lt U out.length)
        generalize U[out.length]! = du at *
        clear hc
        by_cases h2 : out.length < V.length
        · obtain ⟨g', rfl, _, _, hg', hc⟩ := HV.out.form (by omega)
          have c2 := hkb.cell (hc out.length h2) (by simp)
          have hd2 : V[out.length]! < 16777216 := HMV.out _ (by rw [List.getElem!_eq_getElem?_getD, List.getElem?_eq_getElem h2]; exact List.getElem_mem _)
          have hg2 := hid (getD_of_lt V out.length)
          generalize V[out.length]! = dw at *
          clear hc
          obtain ⟨d, hd⟩ : ∃ d, d = cy + du + dw := ⟨_, rfl⟩
          have HST := hid (HS.out d (by have q1 := hg1.out; have q2 := hg2.out; omega))
          have hdi : (cy : Int) + (du : Int) + (dw : Int) = (d : Int) := by omega
          have HD := hid hd
          have HDI := hid hdi
          have hdb : d < 33554432 := by omega
          have hz := hkb.size
          clear hd hdi
          go_wp2_with (at_builtin; go_must (rw [HDI.out]; refine app_int1 rfl _ _ rfl w2.heap.size _ out (d % P24) (by rfl) (by rfl) hrow (by unfold P24; omega) (by omega) hz ?_); intro oa' oc' w3 hrow2 hkb2)
          have hdd := HD.out
          refine ⟨⟨out ++ [d % P24], d / P24, oa', oc', by rw [List.length_append, List.length_singleton], by unfold P24; go_num, by rw [List.length_append, List.length_singleton]; go_num, ?_, ?_, out_lt out d HO.out, ?_, hkb.trans' hkb2 (fun i hi hx => by omega), ?_⟩, ?_⟩
          · unfold P24; omega
          · rw [List.length_append, List.length_singleton]; unfold P24; omega
          · rw [List.length_append, List.length_singleton]; exact hrow2
          · show dv P24 (out ++ [d % P24]) + P24 ^ (out ++ [d % P24]).length * (d / P24 + dv P24 (U.drop (out ++ [d % P24]).length) + dv P24 (V.drop (out ++ [d % P24]).length)) = N
            rw [List.length_append, List.length_singleton]
            exact HST.out
          · simp only [intOf]; omega
        · have h2' : V.length ≤ out.length := by omega
          clear h2
          obtain ⟨d, hd⟩ : ∃ d, d = cy + du := ⟨_, rfl⟩
          have HST := hid (HS.out d (by have q1 := hg1.out; have q2 := getD_of_ge V _ h2'; omega))
          have hdi : (cy : Int) + (du : Int) = (d : Int) := by omega
          have HD := hid hd
          have HDI := hid hdi
          have hdb : d < 33554432 := by omega
          have hz := hkb.size
          clear hd hdi
          go_wp2_with (at_builtin; go_must (rw [HDI.out]; refine app_int1 rfl _ _ rfl w2.heap.size _ out (d % P24) (by rfl) (by rfl) hrow (by unfold P24; omega) (by omega) hz ?_); intro oa' oc' w3 hrow2 hkb2)
          have hdd := HD.out
          refine ⟨⟨out ++ [d % P24], d / P24, oa', oc', by rw [List.length_append, List.length_singleton], by unfold P24; go_num, by rw [List.length_append, List.length_singleton]; go_num, ?_, ?_, out_lt out d HO.out, ?_, hkb.trans' hkb2 (fun i hi hx => by omega), ?_⟩, ?_⟩
          · unfold P24; omega
          · rw [List.length_append, List.length_singleton]; unfold P24; omega
          · rw [List.length_append, List.length_singleton]; exact hrow2
          · show dv P24 (out ++ [d % P24]) + P24 ^ (out ++ [d % P24]).length * (d / P24 + dv P24 (U.drop (out ++ [d % P24]).length) + dv P24 (V.drop (out ++ [d % P24]).length)) = N
            rw [List.length_append, List.length_singleton]
            exact HST.out
          · simp only [intOf]; omega
      · have h1' : U.length ≤ out.length := by omega
        clear h1
        by_cases h2 : out.length < V.length
        · obtain ⟨g', rfl, _, _, hg', hc⟩ := HV.out.form (by omega)
          have c2 := hkb.cell (hc out.length h2) (by simp)
          have hd2 : V[out.length]! < 16777216 := HMV.out _ (by rw [List.getElem!_eq_getElem?_getD, List.getElem?_eq_getElem h2]; exact List.getElem_mem _)
          have hg2 := hid (getD_of_lt V out.length)
          generalize V[out.length]! = dw at *
          clear hc
          obtain ⟨d, hd⟩ : ∃ d, d = cy + dw := ⟨_, rfl⟩
          have HST := hid (HS.out d (by have q1 := getD_of_ge U _ h1'; have q2 := hg2.out; omega))
          have hdi : (cy : Int) + (dw : Int) = (d : Int) := by omega
          have HD := hid hd
          have HDI := hid hdi
          have hdb : d < 33554432 := by omega
          have hz := hkb.size
          clear hd hdi
          go_wp2_with (at_builtin; go_must (rw [HDI.out]; refine app_int1 rfl _ _ rfl w2.heap.size _ out (d % P24) (by rfl) (by rfl) hrow (by unfold P24; omega) (by omega) hz ?_); intro oa' oc' w3 hrow2 hkb2)
          have hdd := HD.out
          refine ⟨⟨out ++ [d % P24], d / P24, oa', oc', by rw [List.length_append, List.length_singleton], by unfold P24; go_num, by rw [List.length_append, List.length_singleton]; go_num, ?_, ?_, out_lt out d HO.out, ?_, hkb.trans' hkb2 (fun i hi hx => by omega), ?_⟩, ?_⟩
          · unfold P24; omega
          · rw [List.length_append, List.length_singleton]; unfold P24; omega
          · rw [List.length_append, List.length_singleton]; exact hrow2
          · show dv P24 (out ++ [d % P24]) + P24 ^ (out ++ [d % P24]).length * (d / P24 + dv P24 (U.drop (out ++ [d % P24]).length) + dv P24 (V.drop (out ++ [d % P24]).length)) = N
            rw [List.length_append, List.length_singleton]
            exact HST.out
          · simp only [intOf]; omega
        · have h2' : V.length ≤ out.length := by omega
          clear h2
          by_cases hc : 0 < cy
          · obtain ⟨d, hd⟩ : ∃ d, d = cy := ⟨_, rfl⟩
            have HST := hid (HS.out d (by have q1 := getD_of_ge U _ h1'; have q2 := getD_of_ge V _ h2'; omega))
            have hdi : (cy : Int) = (d : Int) := by omega
            have HD := hid hd
            have HDI := hid hdi
            have hdb : d < 33554432 := by omega
            have hz := hkb.size
            clear hd hdi
            go_wp2_with (at_builtin; go_must (rw [HDI.out]; refine app_int1 rfl _ _ rfl w2.heap.size _ out (d % P24) (by rfl) (by rfl) hrow (by unfold P24; omega) (by omega) hz ?_); intro oa' oc' w3 hrow2 hkb2)
            have hdd := HD.out
            refine ⟨⟨out ++ [d % P24], d / P24, oa', oc', by rw [List.length_append, List.length_singleton], by unfold P24; go_num, by rw [List.length_append, List.length_singleton]; go_num, ?_, ?_, out_lt out d HO.out, ?_, hkb.trans' hkb2 (fun i hi hx => by omega), ?_⟩, ?_⟩
            · unfold P24; omega
            · rw [List.length_append, List.length_singleton]; unfold P24; omega
            · rw [List.length_append, List.length_singleton]; exact hrow2
            · show dv P24 (out ++ [d % P24]) + P24 ^ (out ++ [d % P24]).length * (d / P24 + dv P24 (U.drop (out ++ [d % P24]).length) + dv P24 (V.drop (out ++ [d % P24]).length)) = N
              rw [List.length_append, List.length_singleton]
              exact HST.out
            · simp only [intOf]; omega
          · have hc0 : cy = 0 := by omega
            subst hc0
            go_wp2_with fail
            have hfin : dv P24 out = N := by
              have h := hinv.out
              rw [List.drop_of_length_le h1', List.drop_of_length_le h2'] at h
              simpa [dv] using h
            have HF := hid hfin
            have HK := hid (K2.out.trans hkb)
            clear hfin
            refine (number_any _ out _ wr hrow HO.out (by omega)).mono ?_
            rintro e w4 ⟨rfl, k4⟩
            rw [HF.out]
            go_wp2_with fail
            go_ret
            exact ⟨rfl, HK.out.trans k4⟩
theorem Add_any (a b : ByteArray) (w : World) (ha : a.size ≤ 10000000) (hb : b.size ≤ 10000000) :
    Calls Tryz.prog 37 #[.string a, .string b] w fun e w' => e = .returned (.string (natS (sv a + sv b))) ∧ Kb (fun _ => False) w w' := by
  by_cases h1 : sv a < 256 ^ 7 ∧ sv b < 256 ^ 7
  · exact Add_small a b w (by omega) (by omega) h1.1 h1.2
  · refine Add_big a b _ _ _ _ w (by omega) (by omega) rfl rfl rfl rfl ?_
    by_cases h : sv a < 256 ^ 7
    · have : ¬ sv b < 256 ^ 7 := fun e => h1 ⟨h, e⟩
      rw [decide_eq_false this, Bool.and_false]
    · rw [decide_eq_false h, Bool.false_and]
end Go.Proofs.YtkhjgfbiemllmaaGreatDoor
namespace Go.Proofs.YtkhjgfbiemllmaaGreatDoor
open Go.RowKit

theorem digs_low (n k : Nat) (h : k < (digs P24 n).length) : P24 ^ k ≤ n := by
  have := digs_len P24 (by decide) n k
  omega
theorem dv_cut (l : List Nat) (m : Nat) : dv P24 l = dv P24 (l.take m) + P24 ^ (min m l.length) * dv P24 (l.drop m) := by
  have h := dv_append P24 (l.take m) (l.drop m)
  rw [List.take_append_drop, List.length_take] at h
  exact h
theorem take_all (l : List Nat) (m : Nat) (h : ∀ d ∈ l, d < P24) : dv P24 (l.take m) < P24 ^ (min m l.length) := by
  have := dv_lt P24 (l.take m) (fun d hd => h d (List.mem_of_mem_take hd))
  rwa [List.length_take] at this
theorem lex_lt (U V : List Nat) (m : Nat) (hl : U.length = V.length) (hm : m < U.length) (hU : ∀ d ∈ U, d < P24) (hd : U.drop (m + 1) = V.drop (m + 1)) (h : U[m]! < V[m]!) : dv P24 U < dv P24 V := by
  rw [dv_cut U m, dv_cut V m, dv_drop U m hm, dv_drop V m (by omega), hd, Nat.min_eq_left (by omega : m ≤ U.length), Nat.min_eq_left (by omega : m ≤ V.length)]
  have h1 := take_all U m hU
  rw [Nat.min_eq_left (by omega : m ≤ U.length)] at h1
  have h2 : P24 ^ m * (U[m]! + P24 * dv P24 (V.drop (m + 1))) + P24 ^ m ≤ P24 ^ m * (V[m]! + P24 * dv P24 (V.drop (m + 1))) := by
    rw [← Nat.mul_succ]
    exact Nat.mul_le_mul_left _ (by omega)
  omega
theorem len_lt (a b : Nat) (h : (digs P24 a).length < (digs P24 b).length) : a < b := by
  have h1 := (digs_len P24 (by decide) a (digs P24 a).length).1 (Nat.le_refl _)
  have h2 := digs_low b (digs P24 a).length h
  omega
attribute [local go_sem ↓] Go.wp_at_zero Go.wp_at_succ
set_option maxHeartbeats 4000000 in
theorem cmp_any (uv vv : Value) (a b B1 B2 : Nat) (w : World) (hu : RowD w B1 uv (digs P24 a)) (hv : RowD w B2 vv (digs P24 b)) (hla : (digs P24 a).length ≤ 1000000000) (hlb : (digs P24 b).length ≤ 1000000000) :
    Calls Tryz.prog 60 #[uv, vv] w fun e w' => (∃ c : Int, e = .returned (.int .i64 c) ∧ (c < 0 ↔ a < b) ∧ (0 < c ↔ b < a)) ∧ Kb (fun _ => False) w w' := by
  obtain ⟨ua, uc, rfl⟩ := hu.slice
  obtain ⟨va, vc, rfl⟩ := hv.slice
  have hmu := digs_lt P24 (by decide) a
  have hmv := digs_lt P24 (by decide) b
  have hdu : dv P24 (digs P24 a) = a := dv_digs P24 (by decide) _
  have hdw : dv P24 (digs P24 b) = b := dv_digs P24 (by decide) _
  have hll := len_lt a b
  have hll2 := len_lt b a
  have HMU := hid hmu
  have HMV := hid hmv
  have HDU := hid hdu
  have HDW := hid hdw
  have HU := hid hu
  have HV := hid hv
  have HL1 := hid hll
  have HL2 := hid hll2
  clear hmu hmv hdu hdw hu hv hll hll2
  generalize digs P24 a = U at *
  generalize digs P24 b = V at *
  by_cases hl : U.length = V.length
  · have h1 : (((U.length : Nat) : Int) != ((V.length : Nat) : Int)) = false := by rw [hl]; simp
    have HL := hid hl
    have hle : U.length ≤ V.length := by omega
    clear hl
    go_enter Tryz.func60, Tryz.ntmps60
    go_wp2_with fail
    go_loopw [5] (fun kv wr => ∃ j : Nat, kv = .int .i64 ((j : Int) - 1) ∧ j ≤ U.length ∧ Hid (U.drop j = V.drop j) ∧ Kb (fun _ => False) w wr) (fun kv _ => (intOf kv + 1).toNat)
    case atStart => exact ⟨U.length, rfl, Nat.le_refl _, by (show U.drop _ = V.drop _); rw [List.drop_of_length_le (Nat.le_refl _), List.drop_of_length_le (by rw [HL.out]; exact Nat.le_refl _)], Kb.refl _ _⟩
    case round =>
      obtain ⟨j, rfl, hj, hd, hkb⟩ := hrel
      cases j with
      | zero =>
        go_wp2_with fail
        go_ret
        have h := hd.out
        rw [List.drop_zero, List.drop_zero] at h
        have hab : a = b := by rw [← HDU.out, ← HDW.out, h]
        subst hab
        exact ⟨⟨0, rfl, by omega, by omega⟩, hkb⟩
      | succ m =>
        rw [show ((m + 1 : Nat) : Int) - 1 = (m : Int) by omega]
        obtain ⟨g, rfl, _, _, hg, hc⟩ := HU.out.form (by omega)
        obtain ⟨g', rfl, _, _, hg', hc'⟩ := HV.out.form (by omega)
        have c1 := hkb.cell (hc m (by omega)) (by simp)
        have c2 := hkb.cell (hc' m (by omega)) (by simp)
        have hx1 : U[m]! < 16777216 := HMU.out _ (by rw [List.getElem!_eq_getElem?_getD, List.getElem?_eq_getElem (by omega : m < U.length)]; exact List.getElem_mem _)
        have hx2 : V[m]! < 16777216 := HMV.out _ (by rw [List.getElem!_eq_getElem?_getD, List.getElem?_eq_getElem (by omega : m < V.length)]; exact List.getElem_mem _)
        have hlex1 := lex_lt U V m HL.out (by omega) HMU.out hd.out
        have hlex2 := lex_lt V U m HL.out.symm (by omega) HMV.out hd.out.symm
        rw [HDU.out, HDW.out] at hlex1 hlex2
        have hdr : U[m]! = V[m]! → U.drop m = V.drop m := by
          intro e
          rw [List.drop_eq_getElem_cons (by omega : m < U.length), List.drop_eq_getElem_cons (by omega : m < V.length), hd.out]
          congr 1
          rw [List.getElem!_eq_getElem?_getD, List.getElem!_eq_getElem?_getD, List.getElem?_eq_getElem (by omega : m < U.length), List.getElem?_eq_getElem (by omega : m < V.length)] at e
          exact e
        have HX1 := hid hlex1
        have HX2 := hid hlex2
        have HDR := hid hdr
        have hm0 : (0 : Int) ≤ (m : Int) := Int.natCast_nonneg _
        have hm1 : (m : Int) < (U.length : Int) := by omega
        have hm2 : (m : Int) < (V.length : Int) := by omega
        clear hlex1 hlex2 hdr hc hc'
        generalize U[m]! = x at *
        generalize V[m]! = y at *
        by_cases hxy : x = y
        · have hb : ((x : Int) != (y : Int)) = false := by rw [hxy]; simp
          have HXY := hid hxy
          clear hxy
          go_wp2_with fail
          go_quiet (fail)
          go_wp2_with fail
          exact ⟨⟨m, by go_num, by omega, HDR.out HXY.out, hkb.drewN _⟩, by simp [intOf]⟩
        · have hb : ((x : Int) != (y : Int)) = true := by rw [bne_iff_ne]; omega
          go_wp2_with fail
          go_quiet (fail)
          go_wp2_with fail
          go_quiet (fail)
          go_wp2_with fail
          go_ret
          refine ⟨⟨(x : Int) - y, rfl, ?_, ?_⟩, (hkb.drewN _).drewN _⟩
          · constructor
            · intro h; exact HX1.out (by omega)
            · intro h
              rcases Nat.lt_or_ge x y with h1 | h1
              · omega
              · have := HX2.out (by omega); omega
          · constructor
            · intro h; exact HX2.out (by omega)
            · intro h
              rcases Nat.lt_or_ge y x with h1 | h1
              · omega
              · have := HX1.out (by omega); omega
  · have h1 : (((U.length : Nat) : Int) != ((V.length : Nat) : Int)) = true := by rw [bne_iff_ne]; omega
    go_enter Tryz.func60, Tryz.ntmps60
    go_wp2_with fail
    go_ret
    refine ⟨⟨(U.length : Int) - V.length, rfl, ?_, ?_⟩, Kb.refl _ _⟩
    · constructor
      · intro h; exact HL1.out (by omega)
      · intro h
        rcases Nat.lt_or_ge U.length V.length with h2 | h2
        · omega
        · have := HL2.out (by omega); omega
    · constructor
      · intro h; exact HL2.out (by omega)
      · intro h
        rcases Nat.lt_or_ge V.length U.length with h2 | h2
        · omega
        · have := HL1.out (by omega); omega

theorem times_step (out u : List Nat) (j cy d s N : Nat) (hj : out.length = j) (h : dv P24 out + P24 ^ j * (cy + dv P24 (u.drop j) * d) = N) (hs : s = u.getD j 0 * d + cy) :
    dv P24 (out ++ [s % P24]) + P24 ^ (j + 1) * (s / P24 + dv P24 (u.drop (j + 1)) * d) = N := by
  rw [dv_drop' u j] at h
  rw [dv_snoc, hj, Nat.pow_succ, ← h]
  have e1 : cy + (u.getD j 0 + P24 * dv P24 (u.drop (j + 1))) * d = s + P24 * (dv P24 (u.drop (j + 1)) * d) := by rw [Nat.add_mul, Nat.mul_assoc]; omega
  have e2 : s = s % P24 + P24 * (s / P24) := (Nat.mod_add_div s P24).symm
  rw [e1]
  have e3 : P24 ^ j * P24 * (s / P24 + dv P24 (u.drop (j + 1)) * d) = P24 ^ j * (P24 * (s / P24) + P24 * (dv P24 (u.drop (j + 1)) * d)) := by
    rw [Nat.mul_assoc, Nat.mul_add P24]
  rw [e3, Nat.add_assoc, ← Nat.mul_add, ← Nat.add_assoc, ← e2]
theorem mul_lt24 (x d : Nat) (hx : x < 16777216) (hd : d < 16777216) : x * d ≤ 281474943156225 := Nat.le_trans (Nat.mul_le_mul (show x ≤ 16777215 by omega) (show d ≤ 16777215 by omega)) (by decide)
theorem out_snoc (out : List Nat) (d : Nat) (h : ∀ x ∈ out, x < P24) (hd : d < P24) : ∀ x ∈ out ++ [d], x < P24 := by
  intro x hx
  rw [List.mem_append, List.mem_singleton] at hx
  rcases hx with hx | rfl
  · exact h x hx
  · exact hd
set_option maxHeartbeats 4000000 in
theorem times_any (uv : Value) (U : List Nat) (d B : Nat) (w : World) (hu : RowD w B uv U) (hm : ∀ x ∈ U, x < P24) (hd : d < 16777216) (hl : U.length ≤ 100000000) :
    Calls Tryz.prog 63 #[uv, .int .i64 d] w fun e w' => (∃ v, e = .returned v ∧ RowD w' w.heap.size v (digs P24 (dv P24 U * d))) ∧ Kb (fun _ => False) w w' := by
  obtain ⟨ua, uc, rfl⟩ := hu.slice
  have HU := hid hu
  have HM := hid hm
  clear hu hm
  go_enter Tryz.func63, Tryz.ntmps63
  go_wp2_with fail
  go_loopw [5, 6, 7, 8] (fun ov cv kv _ wr => ∃ (out : List Nat) (cy : Nat) (oa : Option Addr) (oc : Nat), ov = .slice oa out.length oc ∧ cv = .int .i64 cy ∧ kv = .int .i64 out.length ∧ cy < 16777216 ∧ out.length ≤ U.length ∧ Hid (∀ x ∈ out, x < P24) ∧
      RowD wr w.heap.size (.slice oa out.length oc) out ∧ Kb (fun _ => False) w wr ∧ Hid (dv P24 out + P24 ^ out.length * (cy + dv P24 (U.drop out.length) * d) = dv P24 U * d)) (fun _ _ kv _ _ => U.length - (intOf kv).toNat)
  case atStart =>
    refine ⟨[], 0, none, 0, rfl, rfl, rfl, by omega, by simp, (by intro d h; cases h), RowD.nil _ _, Kb.refl _ _, ?_⟩
    show dv P24 [] + P24 ^ 0 * (0 + dv P24 (U.drop 0) * d) = _
    simp [dv]
  case round =>
    obtain ⟨out, cy, oa, oc, rfl, rfl, rfl, hcy, hlen, HO, hrow, hkb, hinv⟩ := hrel
    have hz := hkb.size
    by_cases h1 : out.length < U.length
    · have hst := fun s hs => times_step out U out.length cy d s _ rfl hinv.out hs
      obtain ⟨g, rfl, _, _, hg, hc⟩ := HU.out.form (by omega)
      have c1 := hkb.cell (hc out.length h1) (by simp)
      have hd1 : U[out.length]! < 16777216 := HM.out _ (by rw [List.getElem!_eq_getElem?_getD, List.getElem?_eq_getElem h1]; exact List.getElem_mem _)
      rw [getD_of_lt U out.length] at hst
      have HS := hid hst
      clear hst hc
      generalize U[out.length]! = x at *
      have hxd := mul_lt24 x d hd1 hd
      obtain ⟨y, hy⟩ : ∃ y, x * d = y := ⟨_, rfl⟩
      have hyi : (x : Int) * (d : Int) = (y : Int) := by rw [← hy, Int.natCast_mul]
      rw [hy] at hxd
      have HY := hid hy
      obtain ⟨s, hs⟩ : ∃ s, s = y + cy := ⟨_, rfl⟩
      have HST := hid (HS.out s (by rw [HY.out, hs]))
      have hsi : (y : Int) + (cy : Int) = (s : Int) := by omega
      have hsb : s ≤ 281474959933440 := by omega
      have HSI := hid hsi
      clear hs hsi hy
      go_wp2_with (at_builtin; go_must (rw [HSI.out]; refine app_int1 rfl _ _ rfl w.heap.size _ out (s % P24) (by rfl) (by rfl) hrow (by unfold P24; omega) (by omega) hz ?_); intro oa' oc' w3 hrow2 hkb2)
      refine ⟨⟨out ++ [s % P24], s / P24, oa', oc', by rw [List.length_append, List.length_singleton], by unfold P24; go_num, by rw [List.length_append, List.length_singleton]; go_num, ?_, ?_, out_lt out s HO.out, ?_, hkb.trans' hkb2 (fun i hi hx => by omega), ?_⟩, ?_⟩
      · unfold P24; omega
      · rw [List.length_append, List.length_singleton]; omega
      · rw [List.length_append, List.length_singleton]; exact hrow2
      · show dv P24 (out ++ [s % P24]) + P24 ^ (out ++ [s % P24]).length * (s / P24 + dv P24 (U.drop (out ++ [s % P24]).length) * d) = _
        rw [List.length_append, List.length_singleton]
        exact HST.out
      · simp only [intOf]; omega
    · have hll : out.length = U.length := by omega
      have hfin : dv P24 (out ++ [cy]) = dv P24 U * d := by
        have h := hinv.out
        rw [List.drop_of_length_le (by omega)] at h
        rw [dv_snoc, ← h]
        simp [dv]
      have HF := hid hfin
      clear hfin hll
      go_wp2_with (at_builtin; go_must (refine app_int1 rfl _ _ rfl w.heap.size _ out cy (by rfl) (by rfl) hrow rfl (by omega) hz ?_); intro oa' oc' w3 hrow2 hkb2)
      refine (trim_any _ (out ++ [cy]) w.heap.size w3 hrow2 (by rw [List.length_append, List.length_singleton]; omega)).mono ?_
      rintro e w4 ⟨⟨v', rfl, hr⟩, rfl⟩
      go_wp2_with fail
      go_ret
      refine ⟨⟨_, rfl, ?_⟩, hkb.trans' hkb2 (fun i hi hx => by omega)⟩
      rw [← HF.out, digs_dv P24 (by decide) _ (out_snoc out cy HO.out hcy)]
      exact hr

theorem minus_step (out U V : List Nat) (j bw bw' e : Nat) (hj : out.length = j) (hjU : j < U.length) (h : dv P24 (U.take j) + P24 ^ j * bw = dv P24 out + dv P24 (V.take j)) (he : e + V.getD j 0 + bw = U.getD j 0 + P24 * bw') :
    dv P24 (U.take (j + 1)) + P24 ^ (j + 1) * bw' = dv P24 (out ++ [e]) + dv P24 (V.take (j + 1)) := by
  have h1 : dv P24 (U.take (j + 1)) = dv P24 (U.take j) + P24 ^ j * U.getD j 0 := by
    rw [take_snoc U j hjU, dv_snoc, List.length_take, Nat.min_eq_left (by omega), getD_of_lt]
  have h2 : dv P24 (V.take (j + 1)) = dv P24 (V.take j) + P24 ^ j * V.getD j 0 := by
    by_cases hv : j < V.length
    · rw [take_snoc V j hv, dv_snoc, List.length_take, Nat.min_eq_left (by omega), getD_of_lt]
    · rw [List.take_of_length_le (by omega), List.take_of_length_le (by omega), getD_of_ge V j (by omega)]
      omega
  rw [h1, h2, dv_snoc, hj, Nat.pow_succ, Nat.mul_assoc]
  have h3 : P24 ^ j * (e + V.getD j 0 + bw) = P24 ^ j * (U.getD j 0 + P24 * bw') := by rw [he]
  simp only [Nat.mul_add] at h3
  omega
end Go.Proofs.YtkhjgfbiemllmaaGreatDoor
namespace Go.Proofs.YtkhjgfbiemllmaaGreatDoor
open Go.RowKit

set_option maxHeartbeats 8000000 in
theorem minus_any (uv vv : Value) (U V : List Nat) (B1 B2 : Nat) (w : World) (hu : RowD w B1 uv U) (hv : RowD w B2 vv V) (hm : ∀ x ∈ U, x < P24) (hn : ∀ x ∈ V, x < P24) (hl : U.length ≤ 100000000) (hvl : V.length ≤ U.length) (hle : dv P24 V ≤ dv P24 U) :
    Calls Tryz.prog 62 #[uv, vv] w fun e w' => (∃ v, e = .returned v ∧ RowD w' w.heap.size v (digs P24 (dv P24 U - dv P24 V))) ∧ Kb (fun _ => False) w w' := by
  obtain ⟨ua, uc, rfl⟩ := hu.slice
  obtain ⟨va, vc, rfl⟩ := hv.slice
  have HU := hid hu
  have HM := hid hm
  have HV := hid hv
  have HN := hid hn
  have HLE := hid hle
  clear hu hm hv hn hle
  go_enter Tryz.func62, Tryz.ntmps62
  go_wp2_with fail
  go_loopw [5, 6, 7, 8] (fun ov cv kv _ wr => ∃ (out : List Nat) (bw : Nat) (oa : Option Addr) (oc : Nat), ov = .slice oa out.length oc ∧ cv = .int .i64 bw ∧ kv = .int .i64 out.length ∧ bw ≤ 1 ∧ out.length ≤ U.length ∧ Hid (∀ x ∈ out, x < P24) ∧
      RowD wr w.heap.size (.slice oa out.length oc) out ∧ Kb (fun _ => False) w wr ∧ Hid (dv P24 (U.take out.length) + P24 ^ out.length * bw = dv P24 out + dv P24 (V.take out.length))) (fun _ _ kv _ _ => U.length - (intOf kv).toNat)
  case atStart =>
    exact ⟨[], 0, none, 0, rfl, rfl, rfl, by omega, by simp, (by intro d h; cases h), RowD.nil _ _, Kb.refl _ _, by (show dv P24 (U.take 0) + P24 ^ 0 * 0 = dv P24 [] + dv P24 (V.take 0)); simp [dv]⟩
  case round =>
    obtain ⟨out, bw, oa, oc, rfl, rfl, rfl, hbw, hlen, HO, hrow, hkb, hinv⟩ := hrel
    have hz := hkb.size
    by_cases h1 : out.length < U.length
    · have hst := fun bw' e he => minus_step out U V out.length bw bw' e rfl h1 hinv.out he
      obtain ⟨g, rfl, _, _, hg, hc⟩ := HU.out.form (by omega)
      have c1 := hkb.cell (hc out.length h1) (by simp)
      have hd1 : U[out.length]! < 16777216 := HM.out _ (by rw [List.getElem!_eq_getElem?_getD, List.getElem?_eq_getElem h1]; exact List.getElem_mem _)
      rw [getD_of_lt U out.length] at hst
      clear hc
      by_cases h2 : out.length < V.length
      · obtain ⟨g', rfl, _, _, hg', hc⟩ := HV.out.form (by omega)
        have c2 := hkb.cell (hc out.length h2) (by simp)
        have hd2 : V[out.length]! < 16777216 := HN.out _ (by rw [List.getElem!_eq_getElem?_getD, List.getElem?_eq_getElem h2]; exact List.getElem_mem _)
        rw [getD_of_lt V out.length] at hst
        have HS := hid hst
        clear hst hc
        generalize U[out.length]! = x at *
        generalize V[out.length]! = y at *
        by_cases h3 : x < y + bw
        · obtain ⟨e, he⟩ : ∃ e, e + y + bw = x + 16777216 := ⟨x + 16777216 - y - bw, by omega⟩
          have HST := hid (HS.out 1 e (by unfold P24; omega))
          have hel : e < 16777216 := by omega
          have hei : (x : Int) - (bw : Int) - (y : Int) + 16777216 = (e : Int) := by omega
          have HEI := hid hei
          clear he hei
          go_wp2_with (at_builtin; go_must (rw [HEI.out]; refine app_int1 rfl _ _ rfl w.heap.size _ out e (by rfl) (by rfl) hrow rfl (by omega) hz ?_); intro oa' oc' w3 hrow2 hkb2)
          refine ⟨⟨out ++ [e], 1, oa', oc', by rw [List.length_append, List.length_singleton], rfl, by rw [List.length_append, List.length_singleton]; go_num, by omega, ?_, out_snoc out e HO.out hel, ?_, hkb.trans' hkb2 (fun i hi hx => by omega), ?_⟩, ?_⟩
          · rw [List.length_append, List.length_singleton]; omega
          · rw [List.length_append, List.length_singleton]; exact hrow2
          · show dv P24 (U.take (out ++ [e]).length) + P24 ^ (out ++ [e]).length * 1 = dv P24 (out ++ [e]) + dv P24 (V.take (out ++ [e]).length)
            rw [List.length_append, List.length_singleton]
            exact HST.out
          · simp only [intOf]; omega
        · obtain ⟨e, he⟩ : ∃ e, e + y + bw = x := ⟨x - y - bw, by omega⟩
          have HST := hid (HS.out 0 e (by omega))
          have hel : e < 16777216 := by omega
          have hei : (x : Int) - (bw : Int) - (y : Int) = (e : Int) := by omega
          have HEI := hid hei
          clear he hei
          go_wp2_with (at_builtin; go_must (rw [HEI.out]; refine app_int1 rfl _ _ rfl w.heap.size _ out e (by rfl) (by rfl) hrow rfl (by omega) hz ?_); intro oa' oc' w3 hrow2 hkb2)
          refine ⟨⟨out ++ [e], 0, oa', oc', by rw [List.length_append, List.length_singleton], rfl, by rw [List.length_append, List.length_singleton]; go_num, by omega, ?_, out_snoc out e HO.out hel, ?_, hkb.trans' hkb2 (fun i hi hx => by omega), ?_⟩, ?_⟩
          · rw [List.length_append, List.length_singleton]; omega
          · rw [List.length_append, List.length_singleton]; exact hrow2
          · show dv P24 (U.take (out ++ [e]).length) + P24 ^ (out ++ [e]).length * 0 = dv P24 (out ++ [e]) + dv P24 (V.take (out ++ [e]).length)
            rw [List.length_append, List.length_singleton]
            exact HST.out
          · simp only [intOf]; omega
      · have h2' : V.length ≤ out.length := by omega
        rw [getD_of_ge V out.length h2'] at hst
        have HS := hid hst
        clear hst h2
        generalize U[out.length]! = x at *
        by_cases h3 : x < bw
        · obtain ⟨e, he⟩ : ∃ e, e + bw = x + 16777216 := ⟨x + 16777216 - bw, by omega⟩
          have HST := hid (HS.out 1 e (by unfold P24; omega))
          have hel : e < 16777216 := by omega
          have hei : (x : Int) - (bw : Int) + 16777216 = (e : Int) := by omega
          have HEI := hid hei
          clear he hei
          go_wp2_with (at_builtin; go_must (rw [HEI.out]; refine app_int1 rfl _ _ rfl w.heap.size _ out e (by rfl) (by rfl) hrow rfl (by omega) hz ?_); intro oa' oc' w3 hrow2 hkb2)
          refine ⟨⟨out ++ [e], 1, oa', oc', by rw [List.length_append, List.length_singleton], rfl, by rw [List.length_append, List.length_singleton]; go_num, by omega, ?_, out_snoc out e HO.out hel, ?_, hkb.trans' hkb2 (fun i hi hx => by omega), ?_⟩, ?_⟩
          · rw [List.length_append, List.length_singleton]; omega
          · rw [List.length_append, List.length_singleton]; exact hrow2
          · show dv P24 (U.take (out ++ [e]).length) + P24 ^ (out ++ [e]).length * 1 = dv P24 (out ++ [e]) + dv P24 (V.take (out ++ [e]).length)
            rw [List.length_append, List.length_singleton]
            exact HST.out
          · simp only [intOf]; omega
        · obtain ⟨e, he⟩ : ∃ e, e + bw = x := ⟨x - bw, by omega⟩
          have HST := hid (HS.out 0 e (by omega))
          have hel : e < 16777216 := by omega
          have hei : (x : Int) - (bw : Int) = (e : Int) := by omega
          have HEI := hid hei
          clear he hei
          go_wp2_with (at_builtin; go_must (rw [HEI.out]; refine app_int1 rfl _ _ rfl w.heap.size _ out e (by rfl) (by rfl) hrow rfl (by omega) hz ?_); intro oa' oc' w3 hrow2 hkb2)
          refine ⟨⟨out ++ [e], 0, oa', oc', by rw [List.length_append, List.length_singleton], rfl, by rw [List.length_append, List.length_singleton]; go_num, by omega, ?_, out_snoc out e HO.out hel, ?_, hkb.trans' hkb2 (fun i hi hx => by omega), ?_⟩, ?_⟩
          · rw [List.length_append, List.length_singleton]; omega
          · rw [List.length_append, List.length_singleton]; exact hrow2
          · show dv P24 (U.take (out ++ [e]).length) + P24 ^ (out ++ [e]).length * 0 = dv P24 (out ++ [e]) + dv P24 (V.take (out ++ [e]).length)
            rw [List.length_append, List.length_singleton]
            exact HST.out
          · simp only [intOf]; omega
    · have hll : out.length = U.length := by omega
      have hfin : dv P24 out = dv P24 U - dv P24 V := by
        have h := hinv.out
        rw [List.take_of_length_le (by omega), List.take_of_length_le (by omega)] at h
        have h2 := dv_lt P24 out HO.out
        have h3 := HLE.out
        have hb : bw = 0 := by
          rcases (show bw = 0 ∨ bw = 1 by omega) with h | h
          · exact h
          · exfalso
            subst h
            omega
        subst hb
        omega
      have HF := hid hfin
      clear hfin hll
      go_wp2_with fail
      refine (trim_any _ out w.heap.size wr hrow (by omega)).mono ?_
      rintro e w4 ⟨⟨v', rfl, hr⟩, rfl⟩
      go_wp2_with fail
      go_ret
      refine ⟨⟨_, rfl, ?_⟩, hkb⟩
      rw [← HF.out, digs_dv P24 (by decide) _ HO.out]
      exact hr

theorem digs_mul_len (M m k : Nat) (h : (digs P24 M).length ≤ k) (hm : m ≤ P24) : (digs P24 (M * m)).length ≤ k + 1 := by
  refine (digs_len P24 (by decide) _ _).2 ?_
  rw [Nat.pow_succ]
  have h1 := (digs_len P24 (by decide) M k).1 h
  exact Nat.lt_of_le_of_lt (Nat.mul_le_mul_left M hm) (Nat.mul_lt_mul_of_pos_right h1 (by decide))
set_option maxHeartbeats 4000000 in
theorem digit_any (uv vv : Value) (N M B1 B2 : Nat) (w : World) (hu : RowD w B1 uv (digs P24 N)) (hv : RowD w B2 vv (digs P24 M)) (hM : 0 < M) (hN : N < 16777216 * M) (hla : (digs P24 N).length ≤ 10000000) (hlb : (digs P24 M).length ≤ 10000000) :
    Calls Tryz.prog 61 #[uv, vv] w fun e w' => e = .returned (.int .i64 ((N / M : Nat) : Int)) ∧ Kb (fun _ => False) w w' := by
  have HU := hid hu
  have HV := hid hv
  have HN := hid hN
  clear hu hv hN
  go_enter Tryz.func61, Tryz.ntmps61
  go_wp2_with fail
  go_loopw [5, 6, 7] (fun lv hv _ wr => ∃ lo hi : Nat, lv = .int .i64 lo ∧ hv = .int .i64 hi ∧ lo ≤ hi ∧ hi ≤ 16777215 ∧ Hid (lo * M ≤ N ∧ N < (hi + 1) * M) ∧ Kb (fun _ => False) w wr) (fun lv hv _ _ => (intOf hv).toNat - (intOf lv).toNat)
  case atStart => exact ⟨0, 16777215, rfl, rfl, by omega, by omega, ⟨by omega, HN.out⟩, Kb.refl _ _⟩
  case round =>
    obtain ⟨lo, hi, rfl, rfl, hlh, hhi, hb, hkb⟩ := hrel
    by_cases hlt : lo < hi
    · obtain ⟨m, hm⟩ : ∃ m, m = (lo + hi + 1) / 2 := ⟨_, rfl⟩
      have hmi : ((lo : Int) + (hi : Int) + 1) / 2 = (m : Int) := by omega
      have hm1 : lo < m := by omega
      have hm2 : m ≤ hi := by omega
      have HMI := hid hmi
      clear hm hmi
      go_wp2_with fail
      rw [HMI.out]
      refine (times_any vv (digs P24 M) m B2 wr (HV.out.kb0 hkb) (digs_lt P24 (by decide) M) (by omega) (by omega)).mono ?_
      rintro e w1 ⟨⟨tv, rfl, ht⟩, k1⟩
      rw [dv_digs P24 (by decide) M] at ht
      have hlen := digs_mul_len M m 10000000 hlb (show m ≤ P24 by unfold P24; omega)
      go_wp2_with fail
      refine (cmp_any tv uv (M * m) N wr.heap.size B1 w1 ht ((HU.out.kb0 hkb).kb0 k1) (by omega) (by omega)).mono ?_
      rintro e w2 ⟨⟨c, rfl, hc1, hc2⟩, k2⟩
      have hk := (hkb.trans k1).trans k2
      have HK := hid hk
      have hbo := hb.out
      by_cases hc : M * m ≤ N
      · have hcc : c ≤ 0 := by
          rcases Int.lt_or_le 0 c with h | h
          · have := hc2.1 h; omega
          · exact h
        have hnb := hid (show m * M ≤ N ∧ N < (hi + 1) * M from ⟨by rw [Nat.mul_comm]; exact hc, hbo.2⟩)
        clear hk hc1 hc2 hbo hc k1 k2 ht hkb
        go_wp2_with fail
        exact ⟨⟨m, hi, rfl, rfl, hm2, hhi, hnb, HK.out⟩, by simp only [intOf]; omega⟩
      · have hcc : 0 < c := hc2.2 (by omega)
        obtain ⟨m', rfl⟩ : ∃ m', m = m' + 1 := ⟨m - 1, by omega⟩
        have hnb := hid (show lo * M ≤ N ∧ N < (m' + 1) * M from ⟨hbo.1, by rw [Nat.mul_comm]; omega⟩)
        clear hk hc1 hc2 hbo hc k1 k2 ht hkb
        go_wp2_with fail
        exact ⟨⟨lo, m', rfl, by go_num, by omega, by omega, hnb, HK.out⟩, by simp only [intOf]; omega⟩
    · have hlo : lo = hi := by omega
      subst hlo
      have hq : N / M = lo := by
        obtain ⟨h1, h2⟩ := hb.out
        have h3 : N / M < lo + 1 := (Nat.div_lt_iff_lt_mul hM).2 h2
        have h4 : lo ≤ N / M := (Nat.le_div_iff_mul_le hM).2 h1
        omega
      have HQ := hid hq
      clear hq
      go_wp2_with fail
      go_ret
      exact ⟨by rw [HQ.out]; rfl, hkb⟩
end Go.Proofs.YtkhjgfbiemllmaaGreatDoor
namespace Go.Proofs.YtkhjgfbiemllmaaGreatDoor
open Go.RowKit

theorem Kb.of_drew {S : Nat → Prop} {w w' : World} (k : Kb S w.drew w') : Kb S w w' := ⟨k.os, k.tape, k.output, k.size, k.block⟩
theorem Of_nat (n : Nat) (w : World) (hn : n ≤ 9223372036854775807) :
    Calls Tryz.prog 38 #[.int .i64 n] w fun e w' => e = .returned (.string (natS n)) ∧ Kb (fun _ => False) w w' := by
  have h := Of_any n w (by omega)
  rwa [Int.toNat_natCast] at h
set_option maxHeartbeats 4000000 in
theorem Quo_zero (a b : ByteArray) (w : World) (hb : b.size ≤ 10000000) (h0 : sv b = 0) :
    Calls Tryz.prog 39 #[.string a, .string b] w fun e w' => e = .returned (.tuple #[.string (natS 0), .string (natS 0), .bool false]) ∧ w' = w := by
  have ht : natS (sv b) = ByteArray.empty := by rw [h0]; rfl
  have HT := hid ht
  clear ht h0
  go_enter Tryz.func39, Tryz.ntmps39
  go_wp2_with fail
  refine (canon_is b _ w (by omega) HT.out).mono ?_
  rintro e w' ⟨rfl, rfl⟩
  go_wp2_with fail
  go_ret3
  exact ⟨rfl, rfl⟩
attribute [local go_sem ↓] Go.wp_at_zero Go.wp_at_succ
set_option maxHeartbeats 1000000 in
set_option maxRecDepth 100000 in
theorem Quo_small (a b : ByteArray) (w : World) (ha : a.size ≤ 10000000) (hb : b.size ≤ 10000000) (h1 : sv a < 256 ^ 7) (h2 : sv b < 256 ^ 7) (h0 : 0 < sv b) :
    Calls Tryz.prog 39 #[.string a, .string b] w fun e w' => e = .returned (.tuple #[.string (natS (sv a / sv b)), .string (natS (sv a % sv b)), .bool true]) ∧ Kb (fun _ => False) w w' := by
  obtain ⟨t, ht, hts, hsz, hsv⟩ : ∃ t : ByteArray, 0 < t.size ∧ natS (sv b) = t ∧ t.size ≤ b.size ∧ sv t = sv b := by
    refine ⟨_, ?_, rfl, ?_, sv_natS _⟩
    · rcases Nat.eq_zero_or_pos (natS (sv b)).size with h | h
      · have := (natS_len (sv b) 0).1 (by omega)
        rw [Nat.pow_zero] at this
        omega
      · exact h
    · rw [natS_sv]
      exact canon_length b.data.toList
  have htz : ((t.size : Int) == 0) = false := by rw [beq_eq_false_iff_ne]; omega
  obtain ⟨x, hx⟩ : ∃ x, x = sv a := ⟨_, rfl⟩
  obtain ⟨y, hy⟩ : ∃ y, y = sv b := ⟨_, rfl⟩
  have H1 := hid (show (if sv a < 256 ^ 7 then sv a else 0) = x by rw [if_pos h1, hx])
  have H2 := hid (show (if sv t < 256 ^ 7 then sv t else 0) = y by rw [hsv, if_pos h2, hy])
  have H3 := hid (show decide (sv a < 256 ^ 7) = true from decide_eq_true h1)
  have H4 := hid (show decide (sv t < 256 ^ 7) = true by rw [hsv]; exact decide_eq_true h2)
  have HTS := hid hts
  rw [← hx, ← hy]
  rw [← hx] at h1
  rw [← hy] at h2 h0
  have h3 : x < 72057594037927936 := h1
  have h4 : y < 72057594037927936 := h2
  clear hts h1 h2 hsv hx hy
  obtain ⟨q, hq⟩ : ∃ q, q = x / y := ⟨_, rfl⟩
  obtain ⟨r, hr⟩ : ∃ r, r = x % y := ⟨_, rfl⟩
  have hqx : q ≤ 72057594037927936 := by
    have : x / y ≤ x := Nat.div_le_self x y
    omega
  have hry : r ≤ 72057594037927936 := by
    have : x % y < y := Nat.mod_lt _ h0
    omega
  have e1 : IntKind.i64.wrap ((x : Int) / (y : Int)) = (q : Int) := by
    have h : (x : Int) / (y : Int) = (q : Int) := by rw [hq]; rfl
    rw [h]
    exact IntWalk.i64_in _ (by omega)
  have e2 : (x : Int).tmod (y : Int) = (r : Int) := by rw [hr]; rfl
  have bq : q ≤ 9223372036854775807 := by omega
  have br : r ≤ 9223372036854775807 := by omega
  rw [← hq, ← hr]
  clear hq hr
  go_enter Tryz.func39, Tryz.ntmps39
  go_wp2_with fail
  refine (canon_is b _ w (by omega) HTS.out).mono ?_
  rintro e w' ⟨rfl, rfl⟩
  go_wp2_with fail
  refine (small_is a 7 x true w' (by omega) (by omega) H1.out H3.out).mono ?_
  rintro e w1 ⟨rfl, rfl⟩
  go_wp2_with fail
  refine (small_is t 7 y true _ (by omega) (by omega) H2.out H4.out).mono ?_
  rintro e w2 ⟨rfl, rfl⟩
  go_wp2_with fail
  go_region_with (go_at_call 38; refine (Of_nat _ _ ?_).mono ?_; (assumption); rintro e w' ⟨rfl, k⟩)
  all_goals
    go_wp2_with fail
    go_ret3
    refine ⟨rfl, Kb.trans ?_ k⟩
    first
      | assumption
      | (exact Kb.of_drew (by assumption))
end Go.Proofs.YtkhjgfbiemllmaaGreatDoor
namespace Go.Proofs.YtkhjgfbiemllmaaGreatDoor
open Go.RowKit

theorem run_app_int (W : World) (B B2 : Nat) (ty : TypeId) (a a2 : Option Addr) (c n2 c2 : Nat) (l l2 : List Nat) (h : RowD W B (.slice a l.length c) l) (h2 : RowD W B2 (.slice a2 n2 c2) l2) (hl : l.length + l2.length ≤ 1000000000) (hB : B ≤ W.heap.size) :
    ∃ a' c' w', (Builtin.append_ #[35, 35] ty #[.slice a l.length c, .slice a2 n2 c2]).run Tryz.prog W = .ok (.slice a' (l.length + l2.length) c') w' ∧ RowD w' B (.slice a' (l.length + l2.length) c') (l ++ l2) ∧ Kb (fun x => B ≤ x) W w' := by
  obtain ⟨i0, hi0, hz0, hz1, hz2⟩ := info_parts infoInt
  rcases h2.2 with ⟨e, h0⟩ | ⟨g, cap, cur, e, hg, hh, _⟩
  · simp only [Value.slice.injEq] at e
    obtain ⟨rfl, rfl, rfl⟩ := e
    obtain rfl : l2 = [] := List.eq_nil_of_length_eq_zero h0
    refine ⟨a, c, W, ?_, by simpa using h, Kb.refl _ _⟩
    rcases h.2 with ⟨e, h1⟩ | ⟨g, cap, cur, e, _, _, hnc, _⟩
    · simp only [Value.slice.injEq] at e
      obtain ⟨rfl, _, rfl⟩ := e
      rw [h1]
      simp [Builtin.append_, run_underlying Tryz.underlying35, sizeOf, typeInfo, hi0, Builtin.lenOf, Builtin.firstCells]
    · simp only [Value.slice.injEq] at e
      obtain ⟨rfl, _, rfl⟩ := e
      simp [Builtin.append_, run_underlying Tryz.underlying35, sizeOf, typeInfo, hi0, Builtin.lenOf, Builtin.firstCells, hnc, storeCells]
  · simp only [Value.slice.injEq] at e
    obtain ⟨rfl, rfl, rfl⟩ := e
    obtain ⟨v', w', hrun, h3, h4, _, _⟩ := run_append_own_at (P := Tryz.prog) W B 35 ty 3 i0 _ 1 8 Tryz.underlying35 hi0 hz0 hz1 hz2 rfl (by omega) _ l.length (dV l) h ⟨g, 0, none⟩ l2.length c2 (dV l2) (by rw [dV_len, Nat.mul_one])
      (World.ownsRow.cells (g := g) h2 rfl) (dV_one _) (by unfold maxLen; omega) (by omega) hB
    obtain ⟨a', c', rfl⟩ := own_slice h3
    refine ⟨a', c', w', hrun, ?_, grown_kb h4 (fun k e => (World.ownsRow.lt h k e).1)⟩
    unfold RowD
    rw [dV_append, List.length_append]
    exact h3
/-- append of a row. -/
theorem app_int {ops : Array Oper} {rest : List Oper} {o : Oper} {a : Act} {Q : Exit → Act → World → Prop} (W : World) (hgd : o.guard = none) (s x : Operand)
    (ho : o.op = .call { callee := .builtin .append, args := #[s, x], argTypes := #[35, 35] }) (B B2 : Nat) (a1 a2 : Option Addr) (c n2 c2 : Nat) (l l2 : List Nat) (hs : a.eval s = .slice a1 l.length c)
    (hx : a.eval x = .slice a2 n2 c2) (h1 : RowD W B (.slice a1 l.length c) l) (h2 : RowD W B2 (.slice a2 n2 c2) l2) (hl : l.length + l2.length ≤ 1000000000) (hB : B ≤ W.heap.size)
    (h : ∀ a' c' w', RowD w' B (.slice a' (l.length + l2.length) c') (l ++ l2) → Kb (fun x => B ≤ x) W w' → wpList Tryz.prog ops Q rest (a.put o.dst (.slice a' (l.length + l2.length) c')) w') :
    wpList Tryz.prog ops Q (o :: rest) a W := by
  obtain ⟨a', c', w', hrun, h3, h4⟩ := run_app_int W B B2 o.type a1 a2 c n2 c2 l l2 h1 h2 hl hB
  refine wpList_plain hgd fun K hK => ?_
  unfold Oper.wp execOp
  simp only [ho, resolve, invoke, builtin, Sem.run_bind, Sem.run_pure, Result.andThen_ok, List.map_toArray, List.map_cons, List.map_nil, hs, hx, hrun]
  exact hK _ _ (h a' c' w' h3 h4)
theorem RowD.lit (w : World) (B d : Nat) (hB : B ≤ w.heap.size) : RowD (w.alloc (.cells #[.int .i64 (d : Int)] 3)) B (.slice (some ⟨w.heap.size, 0, none⟩) 1 1) [d] :=
  World.ownsRow_lit (base := B) (e := 3) (size := 1) w #[.int .i64 (d : Int)] 1 hB (by decide) rfl
theorem RowD.made (w : World) (B n : Nat) (hB : B ≤ w.heap.size) (hn : n ≤ 1000000000) : RowD (w.alloc (.cells (madeCells #[.int .i64 0] n) 3)) B (.slice (some ⟨w.heap.size, 0, none⟩) n n) (List.replicate n 0) := by
  have hc : (madeCells #[.int .i64 0] n).toList = dV (List.replicate n 0) := by
    apply List.ext_getElem
    · simp [madeCells, dV]
    · intro i h1 h2
      simp [madeCells, dV, Nat.mod_one]
  unfold RowD
  rw [List.length_replicate]
  refine ⟨by rw [dV_len, List.length_replicate, Nat.mul_one], Or.inr ⟨w.heap.size, n, madeCells #[.int .i64 0] n, rfl, hB, heap_alloc_new w _, Nat.le_refl _, by unfold maxLen; omega, by simp [madeCells], ?_⟩⟩
  rw [hc, List.take_of_length_le (by rw [dV_len, List.length_replicate]; omega)]
/-- One step of the long division. -/
theorem quo_step (U Q : List Nat) (m r M : Nat) (hm : m < U.length) (hQ : Q.length = U.length) (h : dv P24 (Q.drop (m + 1)) * M + r = dv P24 (U.drop (m + 1))) :
    dv P24 ((Q.set m ((U[m]! + P24 * r) / M)).drop m) * M + (U[m]! + P24 * r) % M = dv P24 (U.drop m) := by
  rw [dv_drop U m hm, dv_drop _ m (by rw [List.length_set]; omega), ← h]
  have e1 : (Q.set m ((U[m]! + P24 * r) / M))[m]! = (U[m]! + P24 * r) / M := by
    rw [List.getElem!_eq_getElem?_getD, List.getElem?_set_self (by omega)]
    rfl
  have e2 : (Q.set m ((U[m]! + P24 * r) / M)).drop (m + 1) = Q.drop (m + 1) := by
    rw [List.drop_set, if_pos (by omega)]
  rw [e1, e2]
  generalize dv P24 (Q.drop (m + 1)) = X
  generalize U[m]! = u
  have h1 := Nat.div_add_mod (u + P24 * r) M
  have h2 : (u + P24 * r) / M * M = M * ((u + P24 * r) / M) := Nat.mul_comm _ _
  rw [Nat.add_mul, Nat.mul_assoc P24 X M, Nat.mul_add P24]
  omega
theorem dv_replicate (n : Nat) : dv P24 (List.replicate n 0) = 0 := by
  induction n with
  | zero => rfl
  | succ n ih => rw [List.replicate_succ, dv, ih]; simp
theorem digs_mono (a b : Nat) (h : a ≤ b) : (digs P24 a).length ≤ (digs P24 b).length := by
  have h1 := (digs_len P24 (by decide) b (digs P24 b).length).1 (Nat.le_refl _)
  exact (digs_len P24 (by decide) a _).2 (Nat.lt_of_le_of_lt h h1)
theorem set_lt (Q : List Nat) (m q : Nat) (h : ∀ d ∈ Q, d < P24) (hq : q < P24) : ∀ d ∈ Q.set m q, d < P24 := by
  intro d hd
  rcases List.mem_or_eq_of_mem_set hd with h1 | h1
  · exact h d h1
  · rw [h1]; exact hq
set_option maxHeartbeats 8000000 in
set_option maxRecDepth 100000 in
theorem Quo_big (a b : ByteArray) (x y : Nat) (p q : Bool) (w : World) (ha : a.size ≤ 1000000) (hb : b.size ≤ 1000000) (h0 : 0 < sv b) (hx : (if sv a < 256 ^ 7 then sv a else 0) = x) (hp : decide (sv a < 256 ^ 7) = p) (hy : (if sv b < 256 ^ 7 then sv b else 0) = y) (hq : decide (sv b < 256 ^ 7) = q) (hpq : (p && q) = false) :
    Calls Tryz.prog 39 #[.string a, .string b] w fun e w' => e = .returned (.tuple #[.string (natS (sv a / sv b)), .string (natS (sv a % sv b)), .bool true]) ∧ Kb (fun _ => False) w w' := by
  obtain ⟨t, ht, hts, hsz, hsv⟩ : ∃ t : ByteArray, 0 < t.size ∧ natS (sv b) = t ∧ t.size ≤ b.size ∧ sv t = sv b := by
    refine ⟨_, ?_, rfl, ?_, sv_natS _⟩
    · rcases Nat.eq_zero_or_pos (natS (sv b)).size with h | h
      · have := (natS_len (sv b) 0).1 (by omega)
        rw [Nat.pow_zero] at this
        omega
      · exact h
    · rw [natS_sv]
      exact canon_length b.data.toList
  have htz : ((t.size : Int) == 0) = false := by rw [beq_eq_false_iff_ne]; omega
  have hlu := digs_size a 1000000 ha
  have hlv := digs_size b 1000000 hb
  have HX := hid hx
  have HP := hid hp
  have HY := hid (show (if sv t < 256 ^ 7 then sv t else 0) = y by rw [hsv]; exact hy)
  have HQ := hid (show decide (sv t < 256 ^ 7) = q by rw [hsv]; exact hq)
  have HTS := hid hts
  have HSV := hid hsv
  clear hx hp hy hq hts hsv
  go_enter Tryz.func39, Tryz.ntmps39
  go_wp2_with fail
  refine (canon_is b _ w (by omega) HTS.out).mono ?_
  rintro e w' ⟨rfl, rfl⟩
  go_wp2_with fail
  refine (small_is a 7 x p w' (by omega) (by omega) HX.out HP.out).mono ?_
  rintro e w1 ⟨rfl, rfl⟩
  go_wp2_with fail
  refine (small_is t 7 y q _ (by omega) (by omega) HY.out HQ.out).mono ?_
  rintro e w2 ⟨rfl, rfl⟩
  go_upto_region 6 with fail
  go_cut [34] (fun v wx => v = .bool false ∧ wx = w2)
  case first =>
    cases p <;> cases q <;> try (simp at hpq; done)
    all_goals
      go_wp2_with fail
      go_meet
      exact ⟨rfl, rfl⟩
  case rest =>
    obtain ⟨rfl, rfl⟩ := hcut
    clear HX HP HY HQ HTS hpq
    go_wp2_with fail
    refine (of_any a wc (by omega)).mono ?_
    rintro e w3 ⟨uv, rfl, hu, k3⟩
    obtain ⟨ua, uc, rfl⟩ := hu.slice
    have HU := hid hu
    have K3 := hid k3
    clear hu k3
    go_wp2_with fail
    refine (of_any t w3 (by omega)).mono ?_
    rintro e w4 ⟨vv, rfl, hv, k4⟩
    rw [HSV.out] at hv
    obtain ⟨va, vc, rfl⟩ := hv.slice
    have HV := hid hv
    have HU4 := hid (HU.out.kb0 k4)
    have K4 := hid (K3.out.trans k4)
    clear hv k4 HU K3
    have hmk := fun W => run_make_row' (P := Tryz.prog) 35 3 (.int .i64 0) 8 Tryz.underlying35 infoInt rfl .i64 .i64 (digs P24 (sv a)).length (by omega) (by omega) W
    go_wp2_with fail
    generalize hW5 : World.alloc _ _ = w5
    have k5 : Kb (fun x => w4.heap.size ≤ x) w4 w5 := by subst hW5; exact (Kb.refl _ _).alloc _
    have q5 : RowD w5 w4.heap.size (.slice (some ⟨w4.heap.size, 0, none⟩) (digs P24 (sv a)).length (digs P24 (sv a)).length) (List.replicate (digs P24 (sv a)).length 0) := by
      subst hW5
      exact RowD.made w4 _ _ (Nat.le_refl _) (by omega)
    have z5 : w5.heap.size = w4.heap.size + 1 := by subst hW5; simp
    clear hW5 hmk
    have hzc : wc.heap.size ≤ w4.heap.size := K4.out.size
    have hdu : dv P24 (digs P24 (sv a)) = sv a := dv_digs P24 (by decide) _
    have hmu := digs_lt P24 (by decide) (sv a)
    have HDU := hid hdu
    have HMU := hid hmu
    have Q5 := hid q5
    have K5 := hid k5
    clear hdu hmu q5 k5
    generalize hU : digs P24 (sv a) = U at *
    have HUE := hid hU
    clear hU
    obtain ⟨gq, hgq⟩ : ∃ gq, gq = w4.heap.size := ⟨_, rfl⟩
    rw [← hgq]
    rw [← hgq] at z5 hzc
    have Q5' : Hid (RowD w5 gq (.slice (some ⟨gq, 0, none⟩) U.length U.length) (List.replicate U.length 0)) := by rw [hgq]; exact Q5.out
    have K5' : Hid (Kb (fun x => gq ≤ x) w4 w5) := by rw [hgq]; exact K5.out
    have HGQ := hid hgq
    clear hgq Q5 K5
    go_loopw [14, 15] (fun rv kv wr => ∃ (j r : Nat) (ra : Option Addr) (rc : Nat) (Q : List Nat), rv = .slice ra (digs P24 r).length rc ∧ kv = .int .i64 ((j : Int) - 1) ∧ j ≤ U.length ∧ r < sv b ∧ Hid (RowD wr (gq + 1) (.slice ra (digs P24 r).length rc) (digs P24 r)) ∧
        Hid (Q.length = U.length ∧ (∀ d ∈ Q, d < P24) ∧ (∀ i, i < j → Q[i]! = 0) ∧ RowD wr gq (.slice (some ⟨gq, 0, none⟩) U.length U.length) Q) ∧ Kb (fun x => gq ≤ x) w4 wr ∧ gq < wr.heap.size ∧ Hid (dv P24 (Q.drop j) * sv b + r = dv P24 (U.drop j))) (fun _ kv _ => (intOf kv + 1).toNat)
    case atStart =>
      refine ⟨U.length, 0, none, 0, List.replicate U.length 0, rfl, rfl, Nat.le_refl _, h0, RowD.nil _ _, ⟨by simp, ?_, ?_, Q5'.out⟩, K5'.out, by omega, ?_⟩
      · intro d hd
        rw [List.eq_of_mem_replicate hd]
        decide
      · intro i hi
        rw [List.getElem!_eq_getElem?_getD, List.getElem?_replicate, if_pos hi]
        rfl
      · show dv P24 ((List.replicate U.length 0).drop U.length) * sv b + 0 = dv P24 (U.drop U.length)
        rw [List.drop_of_length_le (by simp), List.drop_of_length_le (Nat.le_refl _)]
        simp [dv]
    case round =>
      obtain ⟨j, r, ra, rc, Q, rfl, rfl, hj, hr, hrow, hQ, hkb, hgl, hinv⟩ := hrel
      cases j with
      | zero =>
        have hf := hinv.out
        rw [List.drop_zero, List.drop_zero, HDU.out] at hf
        have hq1 : sv a / sv b = dv P24 Q := by
          rw [← hf, Nat.mul_comm, Nat.mul_add_div h0, Nat.div_eq_of_lt hr, Nat.add_zero]
        have hr1 : sv a % sv b = r := by
          rw [← hf, Nat.mul_comm, Nat.mul_add_mod, Nat.mod_eq_of_lt hr]
        have HQ1 := hid hq1
        have HR1 := hid hr1
        have hrl : (digs P24 r).length ≤ 1000000 := Nat.le_trans (digs_mono r (sv b) (by omega)) hlv
        have hql : Q.length ≤ 1000000 := by rw [hQ.out.1]; exact hlu
        have KF := hid (K4.out.trans' hkb (fun i hi hx => by omega))
        clear hf hq1 hr1
        go_wp2_with fail
        refine (number_any _ Q gq wr hQ.out.2.2.2 hQ.out.2.1 (by omega)).mono ?_
        rintro e w6 ⟨rfl, k6⟩
        have R6 := hid (hrow.out.kb0 k6)
        have KG := hid (KF.out.trans k6)
        clear k6
        go_wp2_with fail
        refine (number_any _ (digs P24 r) (gq + 1) w6 R6.out (digs_lt P24 (by decide) r) (by omega)).mono ?_
        rintro e w7 ⟨rfl, k7⟩
        rw [dv_digs P24 (by decide) r]
        go_wp2_with fail
        go_ret3
        refine ⟨?_, KG.out.trans k7⟩
        rw [HQ1.out, HR1.out]
        rfl
      | succ m =>
        rw [show ((m + 1 : Nat) : Int) - 1 = (m : Int) by omega]
        obtain ⟨g, rfl, _, _, hg, hc⟩ := HU4.out.form (by omega)
        have hgne : g < gq := by have := HGQ.out; omega
        have c1 := hkb.cell (hc m (by omega)) (by show ¬ gq ≤ g; omega)
        have hd1 : U[m]! < 16777216 := HMU.out _ (by rw [List.getElem!_eq_getElem?_getD, List.getElem?_eq_getElem (by omega : m < U.length)]; exact List.getElem_mem _)
        have hst := quo_step U Q m r (sv b) (by omega) hQ.out.1 hinv.out
        have HS := hid hst
        have hrl : (digs P24 r).length ≤ 1000000 := Nat.le_trans (digs_mono r (sv b) (by omega)) hlv
        clear hc hst
        generalize U[m]! = u at *
        go_wp2_with (at_builtin; go_must (refine app_int _ rfl _ _ rfl (gq + 1) (gq + 1) _ _ _ _ _ [u] (digs P24 r) (by rfl) (by rfl) (RowD.lit wr (gq + 1) u (by omega)) (World.ownsRow.alloc hrow.out _) (by simp; omega) (by simp; omega) ?_); intro oa' oc' w6 hrow2 hkb2)
        have hdv : dv P24 ([u] ++ digs P24 r) = u + P24 * r := by
          rw [dv_append, dv_digs P24 (by decide) r]
          simp [dv]
        have htr : trimL ([u] ++ digs P24 r) = digs P24 (u + P24 * r) := by
          rw [← hdv, digs_dv P24 (by decide)]
          intro d hd
          rw [List.mem_append, List.mem_singleton] at hd
          rcases hd with rfl | hd
          · exact hd1
          · exact digs_lt P24 (by decide) r d hd
        obtain ⟨r1, hr1⟩ : ∃ r1, r1 = u + P24 * r := ⟨_, rfl⟩
        rw [← hr1] at htr HS
        have hr1b : r1 < 16777216 * sv b := by rw [hr1]; unfold P24; omega
        have hr1l : (digs P24 r1).length ≤ 1000001 := Nat.le_trans (digs_mono r1 (sv b * P24) (by unfold P24; omega)) (digs_mul_len (sv b) P24 1000000 hlv (Nat.le_refl _))
        have HTR := hid htr
        have kA : Kb (fun x => gq ≤ x) w4 w6 := hkb.trans ((((Kb.refl (fun x => gq ≤ x) wr).alloc _)).trans (hkb2.mono (fun x _ hx => by omega)))
        have kB : Kb (fun x => gq + 1 ≤ x) wr w6 := ((Kb.refl (fun x => gq + 1 ≤ x) wr).alloc _).trans hkb2
        have hg6 : gq < w6.heap.size := by have := kB.size; omega
        have KA := hid kA
        have V6 := hid (HV.out.kb kA (fun x hx => Or.inr (by have := HGQ.out; omega)))
        have QR6 : Hid (RowD w6 gq (.slice (some ⟨gq, 0, none⟩) U.length U.length) Q) := kB.row hQ.out.2.2.2 (fun g' e hx => by simp only [Value.ownBlock, Option.some.injEq] at e; omega)
        have HR2 := hid hrow2
        clear htr hdv hr1 kA kB hkb2 hrow2
        refine (trim_any _ ([u] ++ digs P24 r) (gq + 1) w6 HR2.out (by rw [List.length_append, List.length_singleton]; omega)).mono ?_
        rintro e w7 ⟨⟨v7, rfl, hr7⟩, rfl⟩
        rw [HTR.out] at hr7
        obtain ⟨a7, c7, rfl⟩ := hr7.slice
        have R7 := hid hr7
        clear hr7
        go_wp2_with fail
        refine (cmp_any _ _ r1 (sv b) (gq + 1) w3.heap.size w7 R7.out V6.out (by omega) (by omega)).mono ?_
        rintro e w8 ⟨⟨cc, rfl, hc1, hc2⟩, k8⟩
        have K8 := hid (KA.out.trans (k8.mono (T := fun x => gq ≤ x) (fun _ _ x => x.elim)))
        have R8 := hid (R7.out.kb0 k8)
        have V8 := hid (V6.out.kb0 k8)
        have QR8 : Hid (RowD w8 gq (.slice (some ⟨gq, 0, none⟩) U.length U.length) Q) := QR6.out.kb0 k8
        have hg8 : gq < w8.heap.size := by have := k8.size; omega
        have hQm : Q[m]! = 0 := hQ.out.2.2.1 m (by omega)
        have HQM := hid hQm
        clear k8 hQm
        by_cases hlt : r1 < sv b
        · have hcn : cc < 0 := hc1.2 hlt
          have hst : dv P24 (Q.drop m) * sv b + r1 = dv P24 (U.drop m) := by
            have h := HS.out
            rw [Nat.div_eq_of_lt hlt, Nat.mod_eq_of_lt hlt] at h
            have e : Q.set m 0 = Q := by
              have hm : m < Q.length := by rw [hQ.out.1]; omega
              have h2 := HQM.out
              rw [List.getElem!_eq_getElem?_getD, List.getElem?_eq_getElem hm, Option.getD_some] at h2
              conv => lhs; rw [← h2]
              exact List.set_getElem_self hm
            rw [e] at h
            exact h
          have HST := hid hst
          clear hst hc1 hc2
          go_wp2_with fail
          refine ⟨⟨m, r1, a7, c7, Q, rfl, rfl, by omega, hlt, R8.out, ⟨hQ.out.1, hQ.out.2.1, fun i hi => hQ.out.2.2.1 i (by omega), QR8.out⟩, K8.out, hg8, HST.out⟩, by simp [intOf]⟩
        · have hcn : 0 ≤ cc := by
            rcases Int.lt_or_le cc 0 with h | h
            · exact absurd (hc1.1 h) hlt
            · exact h
          have hge : sv b ≤ r1 := by omega
          clear hc1 hc2 hlt
          go_wp2_with fail
          refine (digit_any _ _ r1 (sv b) (gq + 1) w3.heap.size w8 R8.out V8.out h0 hr1b (by omega) (by omega)).mono ?_
          rintro e w9 ⟨rfl, k9⟩
          have K9 := hid (K8.out.trans (k9.mono (T := fun x => gq ≤ x) (fun _ _ x => x.elim)))
          have R9 := hid (R8.out.kb0 k9)
          have V9 := hid (V8.out.kb0 k9)
          have QR9 : Hid (RowD w9 gq (.slice (some ⟨gq, 0, none⟩) U.length U.length) Q) := QR8.out.kb0 k9
          have hg9 : gq < w9.heap.size := by have := k9.size; omega
          have hq24 : r1 / sv b < 16777216 := (Nat.div_lt_iff_lt_mul h0).2 hr1b
          have hmq : sv b * (r1 / sv b) ≤ r1 := Nat.mul_div_le r1 (sv b)
          have hrm : r1 - sv b * (r1 / sv b) = r1 % sv b := by
            have := Nat.div_add_mod r1 (sv b)
            omega
          obtain ⟨q1, hq1⟩ : ∃ q1, q1 = r1 / sv b := ⟨_, rfl⟩
          rw [← hq1] at HS hq24 hmq hrm ⊢
          have HRM := hid hrm
          have HMQ := hid hmq
          clear k9 hq1 hrm hmq
          have hQl : Q.length = U.length := hQ.out.1
          have QA9 : w9.ownsRow gq 3 1 (.slice (some ⟨gq, 0, none⟩) U.length U.length) U.length (dV Q) := by
            have h := QR9.out
            unfold RowD at h
            rw [hQl] at h
            exact h
          have cq : w9.cell? ⟨gq, m, none⟩ = some (.int .i64 0) := by
            rw [World.ownsRow.cellAt QA9 m (by omega), dV_get Q m (by omega), HQM.out]
            rfl
          have fq : w9.frozen? ⟨gq, m, none⟩ = false := World.ownsRow.frozenAt QA9 m
          have hSt := (World.ownsRow.stored QA9 m (.int .i64 (q1 : Int))).1
          have hset : (dV Q).set m (.int .i64 (q1 : Int)) = dV (Q.set m q1) := by simp [dV, List.map_set]
          rw [hset] at hSt
          have QS : Hid (RowD (w9.setCell ⟨gq, m, none⟩ (.int .i64 (q1 : Int))) gq (.slice (some ⟨gq, 0, none⟩) U.length U.length) (Q.set m q1)) := by
            unfold RowD
            rw [List.length_set, hQl]
            exact hSt
          have kS : Kb (fun x => x = gq) w9 (w9.setCell ⟨gq, m, none⟩ (.int .i64 (q1 : Int))) := Kb.setCell (S := fun x => x = gq) (Kb.refl _ _) (Or.inl rfl) _
          have RS := hid (R9.out.kb kS (fun x hx => Or.inl (by omega)))
          have VS : Hid (RowD (w9.setCell ⟨gq, m, none⟩ (.int .i64 (q1 : Int))) w3.heap.size (.slice va (digs P24 (sv b)).length vc) (digs P24 (sv b))) := by
            have h1 := HV.out.kb (K9.out.trans (kS.mono (T := fun x => gq ≤ x) (fun x _ hx => by omega))) (fun x hx => Or.inr (by have := HGQ.out; omega))
            exact h1
          have KS := hid (K9.out.trans (kS.mono (T := fun x => gq ≤ x) (fun x _ hx => by omega)))
          have hzS : (w9.setCell ⟨gq, m, none⟩ (.int .i64 (q1 : Int))).heap.size = w9.heap.size := by simp
          have hcS : (w9.setCell ⟨gq, m, none⟩ (.int .i64 (q1 : Int))).cell? ⟨gq, m, none⟩ = some (.int .i64 (q1 : Int)) := World.cell?_setCell_same w9 ⟨gq, m, none⟩ _ cq
          have HcS := hid hcS
          have HzS := hid hzS
          clear QA9 hSt hset kS hcS hzS
          go_upto_region 18 with fail
          generalize hWS : World.setCell _ _ _ = wS at *
          have gS : gq < wS.heap.size := by rw [HzS.out]; exact hg9
          have cS := HcS.out
          clear hWS HcS HzS cq fq
          go_wp2_with fail
          refine (times_any _ (digs P24 (sv b)) q1 w3.heap.size wS VS.out (digs_lt P24 (by decide) _) hq24 (by omega)).mono ?_
          rintro e w10 ⟨⟨tv, rfl, ht10⟩, k10⟩
          rw [dv_digs P24 (by decide) (sv b)] at ht10
          have R10 := hid (RS.out.kb0 k10)
          have Q10 := hid (QS.out.kb0 k10)
          have K10 := hid (KS.out.trans (k10.mono (T := fun x => gq ≤ x) (fun _ _ x => x.elim)))
          have T10 := hid ht10
          have g10 : gq < w10.heap.size := by have := k10.size; omega
          clear ht10 k10
          go_wp2_with fail
          refine (minus_any _ _ (digs P24 r1) (digs P24 (sv b * q1)) (gq + 1) wS.heap.size w10 R10.out T10.out (digs_lt P24 (by decide) _) (digs_lt P24 (by decide) _) (by omega) (digs_mono _ _ HMQ.out) (by rw [dv_digs P24 (by decide), dv_digs P24 (by decide)]; exact HMQ.out)).mono ?_
          rintro e w11 ⟨⟨nv, rfl, hn11⟩, k11⟩
          rw [dv_digs P24 (by decide), dv_digs P24 (by decide), HRM.out] at hn11
          obtain ⟨a11, c11, rfl⟩ := hn11.slice
          have R11 := hid (hn11.base (B' := gq + 1) (by omega))
          have Q11 := hid (Q10.out.kb0 k11)
          have K11 := hid (K10.out.trans (k11.mono (T := fun x => gq ≤ x) (fun _ _ x => x.elim)))
          have g11 : gq < w11.heap.size := by have := k11.size; omega
          have hrlt : r1 % sv b < sv b := Nat.mod_lt _ h0
          obtain ⟨r2, hr2⟩ : ∃ r2, r2 = r1 % sv b := ⟨_, rfl⟩
          rw [← hr2] at R11 HS hrlt ⊢
          clear hn11 k11 hr2
          go_wp2_with fail
          refine ⟨⟨m, r2, a11, c11, Q.set m q1, rfl, rfl, by omega, hrlt, R11.out, ⟨by rw [List.length_set]; exact hQl, set_lt Q m q1 hQ.out.2.1 hq24, ?_, Q11.out⟩, K11.out, g11, HS.out⟩, by simp [intOf]⟩
          intro i hi
          have h := hQ.out.2.2.1 i (by omega)
          rw [List.getElem!_eq_getElem?_getD] at h ⊢
          rw [List.getElem?_set_ne (by omega)]
          exact h
end Go.Proofs.YtkhjgfbiemllmaaGreatDoor
namespace Go.Proofs.YtkhjgfbiemllmaaGreatDoor
open Go.RowKit

theorem Quo_any (a b : ByteArray) (w : World) (ha : a.size ≤ 1000000) (hb : b.size ≤ 1000000) (h0 : 0 < sv b) :
    Calls Tryz.prog 39 #[.string a, .string b] w fun e w' => e = .returned (.tuple #[.string (natS (sv a / sv b)), .string (natS (sv a % sv b)), .bool true]) ∧ Kb (fun _ => False) w w' := by
  by_cases h1 : sv a < 256 ^ 7 ∧ sv b < 256 ^ 7
  · exact Quo_small a b w (by omega) (by omega) h1.1 h1.2 h0
  · refine Quo_big a b _ _ _ _ w ha hb h0 rfl rfl rfl rfl ?_
    by_cases h : sv a < 256 ^ 7
    · have : ¬ sv b < 256 ^ 7 := fun e => h1 ⟨h, e⟩
      rw [decide_eq_false this, Bool.and_false]
    · rw [decide_eq_false h, Bool.false_and]
theorem natS_mono (a b : Nat) (h : a ≤ b) : (natS a).size ≤ (natS b).size := by
  have h1 := (natS_len b (natS b).size).1 (Nat.le_refl _)
  exact (natS_len a _).2 (Nat.lt_of_le_of_lt h h1)
end Go.Proofs.YtkhjgfbiemllmaaGreatDoor
