/- The walks of the reference's minus and digit. -/
import Derived.Test.YtkhjgfbiemllmaaDoorRe
namespace Go.Proofs.YtkhjgfbiemllmaaDoor
open Go.RowKit

set_option maxHeartbeats 8000000 in
theorem minus_any (uv vv : Value) (U V : List Nat) (B1 B2 : Nat) (w : World) (hu : RowD w B1 uv U) (hv : RowD w B2 vv V) (hm : ∀ x ∈ U, x < P24) (hn : ∀ x ∈ V, x < P24) (hl : U.length ≤ 100000000) (hvl : V.length ≤ U.length) (hle : dv P24 V ≤ dv P24 U) :
    Calls Tryd.prog 63 #[uv, vv] w fun e w' => (∃ v, e = .returned v ∧ RowD w' w.heap.size v (digs P24 (dv P24 U - dv P24 V))) ∧ Kb (fun _ => False) w w' := by
  obtain ⟨ua, uc, rfl⟩ := hu.slice
  obtain ⟨va, vc, rfl⟩ := hv.slice
  have HU := hid hu
  have HM := hid hm
  have HV := hid hv
  have HN := hid hn
  have HLE := hid hle
  clear hu hm hv hn hle
  go_enter Tryd.func63, Tryd.ntmps63
  go_wp2_with fail
  go_loopw [5, 6, 7, 8] (fun ov cv kv _ wr => ∃ (out : List Nat) (bw : Nat) (oa : Option Addr) (oc : Nat), ov = .slice oa out.length oc ∧ cv = .int .i64 bw ∧ kv = .int .i64 out.length ∧ bw ≤ 1 ∧ out.length ≤ U.length ∧ Hid (∀ x ∈ out, x < P24) ∧
      RowD wr w.heap.size (.slice oa out.length oc) out ∧ Kb (fun _ => False) w wr ∧ Hid (dv P24 (U.take out.length) + P24 ^ out.length * bw = dv P24 out + dv P24 (V.take out.length))) (fun _ _ kv _ _ => U.length - (intOf kv).toNat)
  case atStart =>
    exact ⟨[], 0, none, 0, rfl, rfl, rfl, by omega, by simp, (by intro d h; cases h), RowD.nil _ _, Kb.refl _ _, by (show dv P24 (U.take 0) + P24 ^ 0 * 0 = dv P24 [] + dv P24 (V.take 0)); simp [dv]⟩
  case round =>
    obtain ⟨out, bw, oa, oc, rfl, rfl, rfl, hbw, hlen, HO, hrow, hkb, hinv⟩ := hrel
    have hz := hkb.size
    by_cases h1 : out.length < U.length
    · have hst := fun bw' e he => minus_step out U V out.length bw bw' e rfl h1 hinv.out he
      obtain ⟨g, rfl, _, _, hg, hc⟩ := HU.out.form (by omega)
      have c1 := hkb.cell (hc out.length h1) (by simp)
      have hd1 : U[out.length]! < 16777216 := HM.out _ (by rw [List.getElem!_eq_getElem?_getD, List.getElem?_eq_getElem h1]; exact List.getElem_mem _)
      rw [getD_of_lt U out.length] at hst
      clear hc
      by_cases h2 : out.length < V.length
      · obtain ⟨g', rfl, _, _, hg', hc⟩ := HV.out.form (by omega)
        have c2 := hkb.cell (hc out.length h2) (by simp)
        have hd2 : V[out.length]! < 16777216 := HN.out _ (by rw [List.getElem!_eq_getElem?_getD, List.getElem?_eq_getElem h2]; exact List.getElem_mem _)
        rw [getD_of_lt V out.length] at hst
        have HS := hid hst
        clear hst hc
        generalize U[out.length]! = x at *
        generalize V[out.length]! = y at *
        by_cases h3 : x < y + bw
        · obtain ⟨e, he⟩ : ∃ e, e + y + bw = x + 16777216 := ⟨x + 16777216 - y - bw, by omega⟩
          have HST := hid (HS.out 1 e (by unfold P24; omega))
          have hel : e < 16777216 := by omega
          have hei : (x : Int) - (bw : Int) - (y : Int) + 16777216 = (e : Int) := by omega
          have HEI := hid hei
          clear he hei
          go_wp2_with (at_builtin; go_must (rw [HEI.out]; refine app_int1 rfl _ _ rfl w.heap.size _ out e (by rfl) (by rfl) hrow rfl (by omega) hz ?_); intro oa' oc' w3 hrow2 hkb2)
          refine ⟨⟨out ++ [e], 1, oa', oc', by rw [List.length_append, List.length_singleton], rfl, by rw [List.length_append, List.length_singleton]; go_num, by omega, ?_, out_snoc out e HO.out hel, ?_, hkb.trans' hkb2 (fun i hi hx => by omega), ?_⟩, ?_⟩
          · rw [List.length_append, List.length_singleton]; omega
          · rw [List.length_append, List.length_singleton]; exact hrow2
          · show dv P24 (U.take (out ++ [e]).length) + P24 ^ (out ++ [e]).length * 1 = dv P24 (out ++ [e]) + dv P24 (V.take (out ++ [e]).length)
            rw [List.length_append, List.length_singleton]
            exact HST.out
          · simp only [intOf]; omega
        · obtain ⟨e, he⟩ : ∃ e, e + y + bw = x := ⟨x - y - bw, by omega⟩
          have HST := hid (HS.out 0 e (by omega))
          have hel : e < 16777216 := by omega
          have hei : (x : Int) - (bw : Int) - (y : Int) = (e : Int) := by omega
          have HEI := hid hei
          clear he hei
          go_wp2_with (at_builtin; go_must (rw [HEI.out]; refine app_int1 rfl _ _ rfl w.heap.size _ out e (by rfl) (by rfl) hrow rfl (by omega) hz ?_); intro oa' oc' w3 hrow2 hkb2)
          refine ⟨⟨out ++ [e], 0, oa', oc', by rw [List.length_append, List.length_singleton], rfl, by rw [List.length_append, List.length_singleton]; go_num, by omega, ?_, out_snoc out e HO.out hel, ?_, hkb.trans' hkb2 (fun i hi hx => by omega), ?_⟩, ?_⟩
          · rw [List.length_append, List.length_singleton]; omega
          · rw [List.length_append, List.length_singleton]; exact hrow2
          · show dv P24 (U.take (out ++ [e]).length) + P24 ^ (out ++ [e]).length * 0 = dv P24 (out ++ [e]) + dv P24 (V.take (out ++ [e]).length)
            rw [List.length_append, List.length_singleton]
            exact HST.out
          · simp only [intOf]; omega
      · have h2' : V.length ≤ out.length := by omega
        rw [getD_of_ge V out.length h2'] at hst
        have HS := hid hst
        clear hst h2
        generalize U[out.length]! = x at *
        by_cases h3 : x < bw
        · obtain ⟨e, he⟩ : ∃ e, e + bw = x + 16777216 := ⟨x + 16777216 - bw, by omega⟩
          have HST := hid (HS.out 1 e (by unfold P24; omega))
          have hel : e < 16777216 := by omega
          have hei : (x : Int) - (bw : Int) + 16777216 = (e : Int) := by omega
          have HEI := hid hei
          clear he hei
          go_wp2_with (at_builtin; go_must (rw [HEI.out]; refine app_int1 rfl _ _ rfl w.heap.size _ out e (by rfl) (by rfl) hrow rfl (by omega) hz ?_); intro oa' oc' w3 hrow2 hkb2)
          refine ⟨⟨out ++ [e], 1, oa', oc', by rw [List.length_append, List.length_singleton], rfl, by rw [List.length_append, List.length_singleton]; go_num, by omega, ?_, out_snoc out e HO.out hel, ?_, hkb.trans' hkb2 (fun i hi hx => by omega), ?_⟩, ?_⟩
          · rw [List.length_append, List.length_singleton]; omega
          · rw [List.length_append, List.length_singleton]; exact hrow2
          · show dv P24 (U.take (out ++ [e]).length) + P24 ^ (out ++ [e]).length * 1 = dv P24 (out ++ [e]) + dv P24 (V.take (out ++ [e]).length)
            rw [List.length_append, List.length_singleton]
            exact HST.out
          · simp only [intOf]; omega
        · obtain ⟨e, he⟩ : ∃ e, e + bw = x := ⟨x - bw, by omega⟩
          have HST := hid (HS.out 0 e (by omega))
          have hel : e < 16777216 := by omega
          have hei : (x : Int) - (bw : Int) = (e : Int) := by omega
          have HEI := hid hei
          clear he hei
          go_wp2_with (at_builtin; go_must (rw [HEI.out]; refine app_int1 rfl _ _ rfl w.heap.size _ out e (by rfl) (by rfl) hrow rfl (by omega) hz ?_); intro oa' oc' w3 hrow2 hkb2)
          refine ⟨⟨out ++ [e], 0, oa', oc', by rw [List.length_append, List.length_singleton], rfl, by rw [List.length_append, List.length_singleton]; go_num, by omega, ?_, out_snoc out e HO.out hel, ?_, hkb.trans' hkb2 (fun i hi hx => by omega), ?_⟩, ?_⟩
          · rw [List.length_append, List.length_singleton]; omega
          · rw [List.length_append, List.length_singleton]; exact hrow2
          · show dv P24 (U.take (out ++ [e]).length) + P24 ^ (out ++ [e]).length * 0 = dv P24 (out ++ [e]) + dv P24 (V.take (out ++ [e]).length)
            rw [List.length_append, List.length_singleton]
            exact HST.out
          · simp only [intOf]; omega
    · have hll : out.length = U.length := by omega
      have hfin : dv P24 out = dv P24 U - dv P24 V := by
        have h := hinv.out
        rw [List.take_of_length_le (by omega), List.take_of_length_le (by omega)] at h
        have h2 := dv_lt P24 out HO.out
        have h3 := HLE.out
        have hb : bw = 0 := by
          rcases (show bw = 0 ∨ bw = 1 by omega) with h | h
          · exact h
          · exfalso
            subst h
            omega
        subst hb
        omega
      have HF := hid hfin
      clear hfin hll
      go_wp2_with fail
      refine (trim_any _ out w.heap.size wr hrow (by omega)).mono ?_
      rintro e w4 ⟨⟨v', rfl, hr⟩, rfl⟩
      go_wp2_with fail
      go_ret
      refine ⟨⟨_, rfl, ?_⟩, hkb⟩
      rw [← HF.out, digs_dv P24 (by decide) _ HO.out]
      exact hr

theorem digs_mul_len (M m k : Nat) (h : (digs P24 M).length ≤ k) (hm : m ≤ P24) : (digs P24 (M * m)).length ≤ k + 1 := by
  refine (digs_len P24 (by decide) _ _).2 ?_
  rw [Nat.pow_succ]
  have h1 := (digs_len P24 (by decide) M k).1 h
  exact Nat.lt_of_le_of_lt (Nat.mul_le_mul_left M hm) (Nat.mul_lt_mul_of_pos_right h1 (by decide))
set_option maxHeartbeats 4000000 in
theorem digit_any (uv vv : Value) (N M B1 B2 : Nat) (w : World) (hu : RowD w B1 uv (digs P24 N)) (hv : RowD w B2 vv (digs P24 M)) (hM : 0 < M) (hN : N < 16777216 * M) (hla : (digs P24 N).length ≤ 10000000) (hlb : (digs P24 M).length ≤ 10000000) :
    Calls Tryd.prog 62 #[uv, vv] w fun e w' => e = .returned (.int .i64 ((N / M : Nat) : Int)) ∧ Kb (fun _ => False) w w' := by
  have HU := hid hu
  have HV := hid hv
  have HN := hid hN
  clear hu hv hN
  go_enter Tryd.func62, Tryd.ntmps62
  go_wp2_with fail
  go_loopw [5, 6, 7] (fun lv hv _ wr => ∃ lo hi : Nat, lv = .int .i64 lo ∧ hv = .int .i64 hi ∧ lo ≤ hi ∧ hi ≤ 16777215 ∧ Hid (lo * M ≤ N ∧ N < (hi + 1) * M) ∧ Kb (fun _ => False) w wr) (fun lv hv _ _ => (intOf hv).toNat - (intOf lv).toNat)
  case atStart => exact ⟨0, 16777215, rfl, rfl, by omega, by omega, ⟨by omega, HN.out⟩, Kb.refl _ _⟩
  case round =>
    obtain ⟨lo, hi, rfl, rfl, hlh, hhi, hb, hkb⟩ := hrel
    by_cases hlt : lo < hi
    · obtain ⟨m, hm⟩ : ∃ m, m = (lo + hi + 1) / 2 := ⟨_, rfl⟩
      have hmi : ((lo : Int) + (hi : Int) + 1) / 2 = (m : Int) := by omega
      have hm1 : lo < m := by omega
      have hm2 : m ≤ hi := by omega
      have HMI := hid hmi
      clear hm hmi
      go_wp2_with fail
      rw [HMI.out]
      refine (times_any vv (digs P24 M) m B2 wr (HV.out.kb0 hkb) (digs_lt P24 (by decide) M) (by omega) (by omega)).mono ?_
      rintro e w1 ⟨⟨tv, rfl, ht⟩, k1⟩
      rw [dv_digs P24 (by decide) M] at ht
      have hlen := digs_mul_len M m 10000000 hlb (show m ≤ P24 by unfold P24; omega)
      go_wp2_with fail
      refine (cmp_any tv uv (M * m) N wr.heap.size B1 w1 ht ((HU.out.kb0 hkb).kb0 k1) (by omega) (by omega)).mono ?_
      rintro e w2 ⟨⟨c, rfl, hc1, hc2⟩, k2⟩
      have hk := (hkb.trans k1).trans k2
      have HK := hid hk
      have hbo := hb.out
      by_cases hc : M * m ≤ N
      · have hcc : c ≤ 0 := by
          rcases Int.lt_or_le 0 c with h | h
          · have := hc2.1 h; omega
          · exact h
        have hnb := hid (show m * M ≤ N ∧ N < (hi + 1) * M from ⟨by rw [Nat.mul_comm]; exact hc, hbo.2⟩)
        clear hk hc1 hc2 hbo hc k1 k2 ht hkb
        go_wp2_with fail
        exact ⟨⟨m, hi, rfl, rfl, hm2, hhi, hnb, HK.out⟩, by simp only [intOf]; omega⟩
      · have hcc : 0 < c := hc2.2 (by omega)
        obtain ⟨m', rfl⟩ : ∃ m', m = m' + 1 := ⟨m - 1, by omega⟩
        have hnb := hid (show lo * M ≤ N ∧ N < (m' + 1) * M from ⟨hbo.1, by rw [Nat.mul_comm]; omega⟩)
        clear hk hc1 hc2 hbo hc k1 k2 ht hkb
        go_wp2_with fail
        exact ⟨⟨lo, m', rfl, by go_num, by omega, by omega, hnb, HK.out⟩, by simp only [intOf]; omega⟩
    · have hlo : lo = hi := by omega
      subst hlo
      have hq : N / M = lo := by
        obtain ⟨h1, h2⟩ := hb.out
        have h3 : N / M < lo + 1 := (Nat.div_lt_iff_lt_mul hM).2 h2
        have h4 : lo ≤ N / M := (Nat.le_div_iff_mul_le hM).2 h1
        omega
      have HQ := hid hq
      clear hq
      go_wp2_with fail
      go_ret
      exact ⟨by rw [HQ.out]; rfl, hkb⟩
end Go.Proofs.YtkhjgfbiemllmaaDoor
