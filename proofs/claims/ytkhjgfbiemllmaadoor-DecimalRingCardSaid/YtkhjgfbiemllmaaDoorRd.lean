/- The walks of the reference's trim and Add. -/
import Derived.Test.YtkhjgfbiemllmaaDoorRc
namespace Go.Proofs.YtkhjgfbiemllmaaDoor
open Go.RowKit

def lenOf : Value → Nat
  | .slice _ n _ => n
  | _ => 0
theorem RowD.take {w : World} {B : Nat} {a : Option Addr} {c : Nat} {l : List Nat} (h : RowD w B (.slice a l.length c) l) (k : Nat) (hk : k ≤ l.length) : RowD w B (.slice a k c) (l.take k) := by
  have hl : (l.take k).length = k := by rw [List.length_take]; omega
  unfold RowD at *
  rw [hl]
  refine ⟨by rw [dV_len, hl, Nat.mul_one], ?_⟩
  rcases h.2 with ⟨e, h0⟩ | ⟨g, cap, cur, e, hg, hh, hc1, hc2, hc3, hc4⟩
  · simp only [Value.slice.injEq] at e
    left
    have : k = 0 := by omega
    subst this
    exact ⟨by rw [e.1, e.2.2], rfl⟩
  · simp only [Value.slice.injEq] at e
    obtain ⟨rfl, _, rfl⟩ := e
    refine Or.inr ⟨g, c, cur, rfl, hg, hh, by omega, hc2, hc3, ?_⟩
    have : cur.toList.take (k * 1) = (cur.toList.take (l.length * 1)).take k := by rw [List.take_take]; congr 1; omega
    rw [this, hc4]
    simp [dV, List.map_take]
theorem RowD.cap {w : World} {B : Nat} {a : Option Addr} {n c : Nat} {l : List Nat} (h : RowD w B (.slice a n c) l) : n = l.length ∧ l.length ≤ c := by
  rcases h.2 with ⟨e, h0⟩ | ⟨g, cap, cur, e, _, _, hc1, _⟩
  · simp only [Value.slice.injEq] at e
    omega
  · simp only [Value.slice.injEq] at e
    omega
theorem take_snoc (l : List Nat) (m : Nat) (h : m < l.length) : l.take (m + 1) = l.take m ++ [l[m]!] := by
  rw [List.take_succ_eq_append_getElem h, List.getElem!_eq_getElem?_getD, List.getElem?_eq_getElem h]
  rfl
set_option maxHeartbeats 1000000 in
theorem trim_any (v : Value) (l : List Nat) (B : Nat) (w : World) (hrow : RowD w B v l) (hl : l.length ≤ 1000000000) :
    Calls Tryd.prog 60 #[v] w fun e w' => (∃ v', e = .returned v' ∧ RowD w B v' (trimL l)) ∧ w' = w := by
  obtain ⟨a, c, rfl⟩ := hrow.slice
  have hcap := hrow.cap.2
  have HR := hid hrow
  clear hrow
  go_enter Tryd.func60, Tryd.ntmps60
  go_wp2_with fail
  go_loop [0] (fun v => ∃ k : Nat, k ≤ l.length ∧ v = .slice a k c ∧ Hid (trimL (l.take k) = trimL l)) (fun v => lenOf v)
  case atStart => exact ⟨l.length, Nat.le_refl _, rfl, by (show trimL _ = trimL _); rw [List.take_length]⟩
  case round =>
    obtain ⟨k, hk, rfl, ht⟩ := hrel
    cases k with
    | zero =>
      go_wp2_with fail
      go_ret
      refine ⟨⟨_, rfl, ?_⟩, rfl⟩
      rw [← ht.out]
      exact HR.out.take 0 hk
    | succ m =>
      obtain ⟨g, rfl, _, _, hg, hc⟩ := HR.out.form (by omega)
      have c0 := hc m (by omega)
      have hts := take_snoc l m (by omega)
      have HTS := hid hts
      clear hts hc
      by_cases h0 : l[m]! = 0
      · have h1 : (((l[m]! : Nat) : Int) == 0) = true := by rw [h0]; rfl
        have ht2 := hid (show trimL (l.take m) = trimL l by rw [← ht.out, HTS.out, h0, trimL_snoc_zero])
        clear h0
        generalize l[m]! = d at *
        go_wp2_with fail
        exact ⟨⟨m, by omega, rfl, ht2⟩, by simp [lenOf]⟩
      · have h1 : (((l[m]! : Nat) : Int) == 0) = false := by rw [beq_eq_false_iff_ne]; omega
        have ht2 := hid (show l.take (m + 1) = trimL l by rw [← ht.out, HTS.out, trimL_snoc _ _ h0])
        clear h0
        generalize l[m]! = d at *
        go_wp2_with fail
        go_ret
        refine ⟨⟨_, rfl, ?_⟩, rfl⟩
        rw [← ht2.out]
        exact HR.out.take (m + 1) hk

theorem dv_drop' (l : List Nat) (m : Nat) : dv P24 (l.drop m) = l.getD m 0 + P24 * dv P24 (l.drop (m + 1)) := by
  by_cases h : m < l.length
  · rw [dv_drop l m h, List.getElem!_eq_getElem?_getD, List.getD_eq_getElem?_getD]
    rfl
  · rw [List.drop_of_length_le (by omega), List.drop_of_length_le (by omega), List.getD_eq_getElem?_getD, List.getElem?_eq_none (by omega)]
    simp [dv]
theorem getD_of_lt (l : List Nat) (m : Nat) : l.getD m 0 = l[m]! := by
  rw [List.getElem!_eq_getElem?_getD, List.getD_eq_getElem?_getD]; rfl
theorem getD_of_ge (l : List Nat) (m : Nat) (h : l.length ≤ m) : l.getD m 0 = 0 := by
  rw [List.getD_eq_getElem?_getD, List.getElem?_eq_none h]; rfl
theorem add_step (out u v : List Nat) (j cy d N : Nat) (hj : out.length = j) (h : dv P24 out + P24 ^ j * (cy + dv P24 (u.drop j) + dv P24 (v.drop j)) = N) (hd : d = cy + u.getD j 0 + v.getD j 0) :
    dv P24 (out ++ [d % P24]) + P24 ^ (j + 1) * (d / P24 + dv P24 (u.drop (j + 1)) + dv P24 (v.drop (j + 1))) = N := by
  rw [dv_drop' u j, dv_drop' v j] at h
  rw [dv_snoc, hj, Nat.pow_succ, ← h]
  have e1 : cy + (u.getD j 0 + P24 * dv P24 (u.drop (j + 1))) + (v.getD j 0 + P24 * dv P24 (v.drop (j + 1))) = d + P24 * (dv P24 (u.drop (j + 1)) + dv P24 (v.drop (j + 1))) := by rw [Nat.mul_add]; omega
  have e2 : d = d % P24 + P24 * (d / P24) := (Nat.mod_add_div d P24).symm
  rw [e1]
  have e3 : P24 ^ j * P24 * (d / P24 + dv P24 (u.drop (j + 1)) + dv P24 (v.drop (j + 1))) = P24 ^ j * (P24 * (d / P24) + P24 * (dv P24 (u.drop (j + 1)) + dv P24 (v.drop (j + 1)))) := by
    rw [Nat.mul_assoc, Nat.add_assoc, Nat.mul_add P24]
  rw [e3, Nat.add_assoc, ← Nat.mul_add, ← Nat.add_assoc, ← e2]
set_option maxHeartbeats 1000000 in
theorem small_any (s : ByteArray) (k : Nat) (w : World) (hs : s.size ≤ 9223372036854775807) (hk : k ≤ 7) :
    Calls Tryd.prog 58 #[.string s, .int .i64 k] w fun e w' => e = .returned (.tuple #[.int .i64 ((if sv s < 256 ^ k then sv s else 0 : Nat) : Int), .bool (decide (sv s < 256 ^ k))]) ∧ w' = w := by
  by_cases h : sv s < 256 ^ k
  · rw [if_pos h, decide_eq_true h]
    exact small_yes s k w hs hk h
  · rw [if_neg h, decide_eq_false h]
    exact small_no s k w hs (by omega)
theorem small_is (s : ByteArray) (k x : Nat) (p : Bool) (w : World) (hs : s.size ≤ 9223372036854775807) (hk : k ≤ 7) (hx : (if sv s < 256 ^ k then sv s else 0) = x) (hp : decide (sv s < 256 ^ k) = p) :
    Calls Tryd.prog 58 #[.string s, .int .i64 k] w fun e w' => e = .returned (.tuple #[.int .i64 (x : Int), .bool p]) ∧ w' = w := by
  subst hx hp
  exact small_any s k w hs hk
set_option maxHeartbeats 4000000 in
theorem Add_small (a b : ByteArray) (w : World) (ha : a.size ≤ 10000000) (hb : b.size ≤ 10000000) (h1 : sv a < 256 ^ 7) (h2 : sv b < 256 ^ 7) :
    Calls Tryd.prog 41 #[.string a, .string b] w fun e w' => e = .returned (.string (natS (sv a + sv b))) ∧ Kb (fun _ => False) w w' := by
  have h3 : sv a < 72057594037927936 := h1
  have h4 : sv b < 72057594037927936 := h2
  have H1 := hid h1
  have H2 := hid h2
  clear h1 h2
  go_enter Tryd.func41, Tryd.ntmps41
  go_wp2_with fail
  refine (small_yes a 7 w (by omega) (by omega) H1.out).mono ?_
  rintro e w' ⟨rfl, rfl⟩
  go_wp2_with fail
  refine (small_yes b 7 _ (by omega) (by omega) H2.out).mono ?_
  rintro e w' ⟨rfl, rfl⟩
  go_wp2_with fail
  refine (Of_any _ _ (by omega)).mono ?_
  rintro e w' ⟨rfl, k⟩
  rw [show ((sv a : Int) + (sv b : Int)).toNat = sv a + sv b by omega]
  go_wp2_with fail
  go_ret
  exact ⟨rfl, k⟩
theorem out_lt (out : List Nat) (d : Nat) (h : ∀ x ∈ out, x < P24) : ∀ x ∈ out ++ [d % P24], x < P24 := by
  intro x hx
  rw [List.mem_append, List.mem_singleton] at hx
  rcases hx with hx | rfl
  · exact h x hx
  · exact Nat.mod_lt _ (by decide)
theorem digs_size (s : ByteArray) (n : Nat) (h : s.size ≤ n) : (digs P24 (sv s)).length ≤ n :=
  (digs_len P24 (by decide) _ _).2 (Nat.lt_of_lt_of_le (nv_lt _) (by
    have : s.data.toList.length ≤ n := by simpa using h
    exact Nat.le_trans (Nat.pow_le_pow_right (by omega) this) (Nat.pow_le_pow_left (by decide) _)))
set_option maxHeartbeats 8000000 in
theorem Add_big (a b : ByteArray) (x y : Nat) (p q : Bool) (w : World) (ha : a.size ≤ 10000000) (hb : b.size ≤ 10000000) (hx : (if sv a < 256 ^ 7 then sv a else 0) = x) (hp : decide (sv a < 256 ^ 7) = p) (hy : (if sv b < 256 ^ 7 then sv b else 0) = y) (hq : decide (sv b < 256 ^ 7) = q) (hpq : (p && q) = false) :
    Calls Tryd.prog 41 #[.string a, .string b] w fun e w' => e = .returned (.string (natS (sv a + sv b))) ∧ Kb (fun _ => False) w w' := by
  have HX := hid hx
  have HP := hid hp
  have HY := hid hy
  have HQ := hid hq
  clear hx hp hy hq
  have hlu := digs_size a 10000000 ha
  have hlv := digs_size b 10000000 hb
  have hdu : dv P24 (digs P24 (sv a)) = sv a := dv_digs P24 (by decide) _
  have hdw : dv P24 (digs P24 (sv b)) = sv b := dv_digs P24 (by decide) _
  have hmu := digs_lt P24 (by decide) (sv a)
  have hmv := digs_lt P24 (by decide) (sv b)
  obtain ⟨N, hN⟩ : ∃ N, N = sv a + sv b := ⟨_, rfl⟩
  rw [← hN]
  rw [← hdu, ← hdw] at hN
  have HN := hid hN
  have HMU := hid hmu
  have HMV := hid hmv
  clear hdu hdw hN hmu hmv
  go_enter Tryd.func41, Tryd.ntmps41
  go_wp2_with fail
  refine (small_is a 7 x p w (by omega) (by omega) HX.out HP.out).mono ?_
  rintro e w' ⟨rfl, rfl⟩
  go_wp2_with fail
  refine (small_is b 7 y q _ (by omega) (by omega) HY.out HQ.out).mono ?_
  rintro e w' ⟨rfl, rfl⟩
  clear HX HP HY HQ
  cases p <;> cases q <;> try (simp at hpq; done)
  all_goals
    clear hpq
    go_wp2_with fail
    refine (of_any a _ (by omega)).mono ?_
    rintro e w1 ⟨uv, rfl, hu, k1⟩
    obtain ⟨ua, uc, rfl⟩ := hu.slice
    have HU := hid hu
    have K1 := hid k1
    clear hu k1
    go_wp2_with fail
    refine (of_any b _ (by omega)).mono ?_
    rintro e w2 ⟨vv, rfl, hv, k2⟩
    obtain ⟨va, vc, rfl⟩ := hv.slice
    have HV := hid hv
    have HU2 := hid (HU.out.kb0 k2)
    have K2 := hid (K1.out.trans k2)
    clear hv k2 HU K1
    generalize digs P24 (sv a) = U at *
    generalize digs P24 (sv b) = V at *
    go_wp2_with fail
    go_loopw [11, 12, 13, 14] (fun ov cv kv _ wr => ∃ (out : List Nat) (cy : Nat) (oa : Option Addr) (oc : Nat), ov = .slice oa out.length oc ∧ cv = .int .i64 cy ∧ kv = .int .i64 out.length ∧ cy ≤ 1 ∧ out.length + cy ≤ max U.length V.length + 1 ∧ Hid (∀ d ∈ out, d < P24) ∧
        RowD wr w2.heap.size (.slice oa out.length oc) out ∧ Kb (fun _ => False) w2 wr ∧ Hid (dv P24 out + P24 ^ out.length * (cy + dv P24 (U.drop out.length) + dv P24 (V.drop out.length)) = N)) (fun _ cv kv _ _ => 2 * (max U.length V.length - (intOf kv).toNat) + (intOf cv).toNat)
    case atStart =>
      refine ⟨[], 0, none, 0, rfl, rfl, rfl, by omega, by simp, (by intro d h; cases h), RowD.nil _ _, Kb.refl _ _, ?_⟩
      show dv P24 [] + P24 ^ 0 * (0 + dv P24 (U.drop 0) + dv P24 (V.drop 0)) = N
      rw [HN.out]
      simp [dv]
    case round =>
      obtain ⟨out, cy, oa, oc, rfl, rfl, rfl, hcy, hlen, HO, hrow, hkb, hinv⟩ := hrel
      have hst := fun d hd => add_step out U V out.length cy d N rfl hinv.out hd
      have HS := hid hst
      clear hst
      by_cases h1 : out.length < U.length
      · obtain ⟨g, rfl, _, _, hg, hc⟩ := HU2.out.form (by omega)
        have c1 := hkb.cell (hc out.length h1) (by simp)
        have hd1 : U[out.length]! < 16777216 := HMU.out _ (by rw [List.getElem!_eq_getElem?_getD, List.getElem?_eq_getElem h1]; exact List.getElem_mem _)
        have hg1 := hid (getD_of_lt U out.length)
        generalize U[out.length]! = du at *
        clear hc
        by_cases h2 : out.length < V.length
        · obtain ⟨g', rfl, _, _, hg', hc⟩ := HV.out.form (by omega)
          have c2 := hkb.cell (hc out.length h2) (by simp)
          have hd2 : V[out.length]! < 16777216 := HMV.out _ (by rw [List.getElem!_eq_getElem?_getD, List.getElem?_eq_getElem h2]; exact List.getElem_mem _)
          have hg2 := hid (getD_of_lt V out.length)
          generalize V[out.length]! = dw at *
          clear hc
          obtain ⟨d, hd⟩ : ∃ d, d = cy + du + dw := ⟨_, rfl⟩
          have HST := hid (HS.out d (by have q1 := hg1.out; have q2 := hg2.out; omega))
          have hdi : (cy : Int) + (du : Int) + (dw : Int) = (d : Int) := by omega
          have HD := hid hd
          have HDI := hid hdi
          have hdb : d < 33554432 := by omega
          have hz := hkb.size
          clear hd hdi
          go_wp2_with (at_builtin; go_must (rw [HDI.out]; refine app_int1 rfl _ _ rfl w2.heap.size _ out (d % P24) (by rfl) (by rfl) hrow (by unfold P24; omega) (by omega) hz ?_); intro oa' oc' w3 hrow2 hkb2)
          have hdd := HD.out
          refine ⟨⟨out ++ [d % P24], d / P24, oa', oc', by rw [List.length_append, List.length_singleton], by unfold P24; go_num, by rw [List.length_append, List.length_singleton]; go_num, ?_, ?_, out_lt out d HO.out, ?_, hkb.trans' hkb2 (fun i hi hx => by omega), ?_⟩, ?_⟩
          · unfold P24; omega
          · rw [List.length_append, List.length_singleton]; unfold P24; omega
          · rw [List.length_append, List.length_singleton]; exact hrow2
          · show dv P24 (out ++ [d % P24]) + P24 ^ (out ++ [d % P24]).length * (d / P24 + dv P24 (U.drop (out ++ [d % P24]).length) + dv P24 (V.drop (out ++ [d % P24]).length)) = N
            rw [List.length_append, List.length_singleton]
            exact HST.out
          · simp only [intOf]; omega
        · have h2' : V.length ≤ out.length := by omega
          clear h2
          obtain ⟨d, hd⟩ : ∃ d, d = cy + du := ⟨_, rfl⟩
          have HST := hid (HS.out d (by have q1 := hg1.out; have q2 := getD_of_ge V _ h2'; omega))
          have hdi : (cy : Int) + (du : Int) = (d : Int) := by omega
          have HD := hid hd
          have HDI := hid hdi
          have hdb : d < 33554432 := by omega
          have hz := hkb.size
          clear hd hdi
          go_wp2_with (at_builtin; go_must (rw [HDI.out]; refine app_int1 rfl _ _ rfl w2.heap.size _ out (d % P24) (by rfl) (by rfl) hrow (by unfold P24; omega) (by omega) hz ?_); intro oa' oc' w3 hrow2 hkb2)
          have hdd := HD.out
          refine ⟨⟨out ++ [d % P24], d / P24, oa', oc', by rw [List.length_append, List.length_singleton], by unfold P24; go_num, by rw [List.length_append, List.length_singleton]; go_num, ?_, ?_, out_lt out d HO.out, ?_, hkb.trans' hkb2 (fun i hi hx => by omega), ?_⟩, ?_⟩
          · unfold P24; omega
          · rw [List.length_append, List.length_singleton]; unfold P24; omega
          · rw [List.length_append, List.length_singleton]; exact hrow2
          · show dv P24 (out ++ [d % P24]) + P24 ^ (out ++ [d % P24]).length * (d / P24 + dv P24 (U.drop (out ++ [d % P24]).length) + dv P24 (V.drop (out ++ [d % P24]).length)) = N
            rw [List.length_append, List.length_singleton]
            exact HST.out
          · simp only [intOf]; omega
      · have h1' : U.length ≤ out.length := by omega
        clear h1
        by_cases h2 : out.length < V.length
        · obtain ⟨g', rfl, _, _, hg', hc⟩ := HV.out.form (by omega)
          have c2 := hkb.cell (hc out.length h2) (by simp)
          have hd2 : V[out.length]! < 16777216 := HMV.out _ (by rw [List.getElem!_eq_getElem?_getD, List.getElem?_eq_getElem h2]; exact List.getElem_mem _)
          have hg2 := hid (getD_of_lt V out.length)
          generalize V[out.length]! = dw at *
          clear hc
          obtain ⟨d, hd⟩ : ∃ d, d = cy + dw := ⟨_, rfl⟩
          have HST := hid (HS.out d (by have q1 := getD_of_ge U _ h1'; have q2 := hg2.out; omega))
          have hdi : (cy : Int) + (dw : Int) = (d : Int) := by omega
          have HD := hid hd
          have HDI := hid hdi
          have hdb : d < 33554432 := by omega
          have hz := hkb.size
          clear hd hdi
          go_wp2_with (at_builtin; go_must (rw [HDI.out]; refine app_int1 rfl _ _ rfl w2.heap.size _ out (d % P24) (by rfl) (by rfl) hrow (by unfold P24; omega) (by omega) hz ?_); intro oa' oc' w3 hrow2 hkb2)
          have hdd := HD.out
          refine ⟨⟨out ++ [d % P24], d / P24, oa', oc', by rw [List.length_append, List.length_singleton], by unfold P24; go_num, by rw [List.length_append, List.length_singleton]; go_num, ?_, ?_, out_lt out d HO.out, ?_, hkb.trans' hkb2 (fun i hi hx => by omega), ?_⟩, ?_⟩
          · unfold P24; omega
          · rw [List.length_append, List.length_singleton]; unfold P24; omega
          · rw [List.length_append, List.length_singleton]; exact hrow2
          · show dv P24 (out ++ [d % P24]) + P24 ^ (out ++ [d % P24]).length * (d / P24 + dv P24 (U.drop (out ++ [d % P24]).length) + dv P24 (V.drop (out ++ [d % P24]).length)) = N
            rw [List.length_append, List.length_singleton]
            exact HST.out
          · simp only [intOf]; omega
        · have h2' : V.length ≤ out.length := by omega
          clear h2
          by_cases hc : 0 < cy
          · obtain ⟨d, hd⟩ : ∃ d, d = cy := ⟨_, rfl⟩
            have HST := hid (HS.out d (by have q1 := getD_of_ge U _ h1'; have q2 := getD_of_ge V _ h2'; omega))
            have hdi : (cy : Int) = (d : Int) := by omega
            have HD := hid hd
            have HDI := hid hdi
            have hdb : d < 33554432 := by omega
            have hz := hkb.size
            clear hd hdi
            go_wp2_with (at_builtin; go_must (rw [HDI.out]; refine app_int1 rfl _ _ rfl w2.heap.size _ out (d % P24) (by rfl) (by rfl) hrow (by unfold P24; omega) (by omega) hz ?_); intro oa' oc' w3 hrow2 hkb2)
            have hdd := HD.out
            refine ⟨⟨out ++ [d % P24], d / P24, oa', oc', by rw [List.length_append, List.length_singleton], by unfold P24; go_num, by rw [List.length_append, List.length_singleton]; go_num, ?_, ?_, out_lt out d HO.out, ?_, hkb.trans' hkb2 (fun i hi hx => by omega), ?_⟩, ?_⟩
            · unfold P24; omega
            · rw [List.length_append, List.length_singleton]; unfold P24; omega
            · rw [List.length_append, List.length_singleton]; exact hrow2
            · show dv P24 (out ++ [d % P24]) + P24 ^ (out ++ [d % P24]).length * (d / P24 + dv P24 (U.drop (out ++ [d % P24]).length) + dv P24 (V.drop (out ++ [d % P24]).length)) = N
              rw [List.length_append, List.length_singleton]
              exact HST.out
            · simp only [intOf]; omega
          · have hc0 : cy = 0 := by omega
            subst hc0
            go_wp2_with fail
            have hfin : dv P24 out = N := by
              have h := hinv.out
              rw [List.drop_of_length_le h1', List.drop_of_length_le h2'] at h
              simpa [dv] using h
            have HF := hid hfin
            have HK := hid (K2.out.trans hkb)
            clear hfin
            refine (number_any _ out _ wr hrow HO.out (by omega)).mono ?_
            rintro e w4 ⟨rfl, k4⟩
            rw [HF.out]
            go_wp2_with fail
            go_ret
            exact ⟨rfl, HK.out.trans k4⟩
theorem Add_any (a b : ByteArray) (w : World) (ha : a.size ≤ 10000000) (hb : b.size ≤ 10000000) :
    Calls Tryd.prog 41 #[.string a, .string b] w fun e w' => e = .returned (.string (natS (sv a + sv b))) ∧ Kb (fun _ => False) w w' := by
  by_cases h1 : sv a < 256 ^ 7 ∧ sv b < 256 ^ 7
  · exact Add_small a b w (by omega) (by omega) h1.1 h1.2
  · refine Add_big a b _ _ _ _ w (by omega) (by omega) rfl rfl rfl rfl ?_
    by_cases h : sv a < 256 ^ 7
    · have : ¬ sv b < 256 ^ 7 := fun e => h1 ⟨h, e⟩
      rw [decide_eq_false this, Bool.and_false]
    · rw [decide_eq_false h, Bool.false_and]
end Go.Proofs.YtkhjgfbiemllmaaDoor
