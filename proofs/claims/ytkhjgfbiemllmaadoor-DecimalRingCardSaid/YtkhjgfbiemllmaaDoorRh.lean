/- The walk of the reference's Quo: long division. -/
import Derived.Test.YtkhjgfbiemllmaaDoorRg
import Derived.Deep.OwnRows
namespace Go.Proofs.YtkhjgfbiemllmaaDoor
open Go.RowKit

theorem run_app_int (W : World) (B B2 : Nat) (ty : TypeId) (a a2 : Option Addr) (c n2 c2 : Nat) (l l2 : List Nat) (h : RowD W B (.slice a l.length c) l) (h2 : RowD W B2 (.slice a2 n2 c2) l2) (hl : l.length + l2.length ≤ 1000000000) (hB : B ≤ W.heap.size) :
    ∃ a' c' w', (Builtin.append_ #[26, 26] ty #[.slice a l.length c, .slice a2 n2 c2]).run Tryd.prog W = .ok (.slice a' (l.length + l2.length) c') w' ∧ RowD w' B (.slice a' (l.length + l2.length) c') (l ++ l2) ∧ Kb (fun x => B ≤ x) W w' := by
  obtain ⟨i0, hi0, hz0, hz1, hz2⟩ := info_parts infoInt
  rcases h2.2 with ⟨e, h0⟩ | ⟨g, cap, cur, e, hg, hh, _⟩
  · simp only [Value.slice.injEq] at e
    obtain ⟨rfl, rfl, rfl⟩ := e
    obtain rfl : l2 = [] := List.eq_nil_of_length_eq_zero h0
    refine ⟨a, c, W, ?_, by simpa using h, Kb.refl _ _⟩
    rcases h.2 with ⟨e, h1⟩ | ⟨g, cap, cur, e, _, _, hnc, _⟩
    · simp only [Value.slice.injEq] at e
      obtain ⟨rfl, _, rfl⟩ := e
      rw [h1]
      simp [Builtin.append_, run_underlying Tryd.underlying26, sizeOf, typeInfo, hi0, Builtin.lenOf, Builtin.firstCells]
    · simp only [Value.slice.injEq] at e
      obtain ⟨rfl, _, rfl⟩ := e
      simp [Builtin.append_, run_underlying Tryd.underlying26, sizeOf, typeInfo, hi0, Builtin.lenOf, Builtin.firstCells, hnc, storeCells]
  · simp only [Value.slice.injEq] at e
    obtain ⟨rfl, rfl, rfl⟩ := e
    obtain ⟨v', w', hrun, h3, h4, _, _⟩ := run_append_own_at (P := Tryd.prog) W B 26 ty 3 i0 _ 1 8 Tryd.underlying26 hi0 hz0 hz1 hz2 rfl (by omega) _ l.length (dV l) h ⟨g, 0, none⟩ l2.length c2 (dV l2) (by rw [dV_len, Nat.mul_one])
      (World.ownsRow.cells (g := g) h2 rfl) (dV_one _) (by unfold maxLen; omega) (by omega) hB
    obtain ⟨a', c', rfl⟩ := own_slice h3
    refine ⟨a', c', w', hrun, ?_, grown_kb h4 (fun k e => (World.ownsRow.lt h k e).1)⟩
    unfold RowD
    rw [dV_append, List.length_append]
    exact h3
/-- append of a row. -/
theorem app_int {ops : Array Oper} {rest : List Oper} {o : Oper} {a : Act} {Q : Exit → Act → World → Prop} (W : World) (hgd : o.guard = none) (s x : Operand)
    (ho : o.op = .call { callee := .builtin .append, args := #[s, x], argTypes := #[26, 26] }) (B B2 : Nat) (a1 a2 : Option Addr) (c n2 c2 : Nat) (l l2 : List Nat) (hs : a.eval s = .slice a1 l.length c)
    (hx : a.eval x = .slice a2 n2 c2) (h1 : RowD W B (.slice a1 l.length c) l) (h2 : RowD W B2 (.slice a2 n2 c2) l2) (hl : l.length + l2.length ≤ 1000000000) (hB : B ≤ W.heap.size)
    (h : ∀ a' c' w', RowD w' B (.slice a' (l.length + l2.length) c') (l ++ l2) → Kb (fun x => B ≤ x) W w' → wpList Tryd.prog ops Q rest (a.put o.dst (.slice a' (l.length + l2.length) c')) w') :
    wpList Tryd.prog ops Q (o :: rest) a W := by
  obtain ⟨a', c', w', hrun, h3, h4⟩ := run_app_int W B B2 o.type a1 a2 c n2 c2 l l2 h1 h2 hl hB
  refine wpList_plain hgd fun K hK => ?_
  unfold Oper.wp execOp
  simp only [ho, resolve, invoke, builtin, Sem.run_bind, Sem.run_pure, Result.andThen_ok, List.map_toArray, List.map_cons, List.map_nil, hs, hx, hrun]
  exact hK _ _ (h a' c' w' h3 h4)
theorem RowD.lit (w : World) (B d : Nat) (hB : B ≤ w.heap.size) : RowD (w.alloc (.cells #[.int .i64 (d : Int)] 3)) B (.slice (some ⟨w.heap.size, 0, none⟩) 1 1) [d] :=
  World.ownsRow_lit (base := B) (e := 3) (size := 1) w #[.int .i64 (d : Int)] 1 hB (by decide) rfl
theorem RowD.made (w : World) (B n : Nat) (hB : B ≤ w.heap.size) (hn : n ≤ 1000000000) : RowD (w.alloc (.cells (madeCells #[.int .i64 0] n) 3)) B (.slice (some ⟨w.heap.size, 0, none⟩) n n) (List.replicate n 0) := by
  have hc : (madeCells #[.int .i64 0] n).toList = dV (List.replicate n 0) := by
    apply List.ext_getElem
    · simp [madeCells, dV]
    · intro i h1 h2
      simp [madeCells, dV, Nat.mod_one]
  unfold RowD
  rw [List.length_replicate]
  refine ⟨by rw [dV_len, List.length_replicate, Nat.mul_one], Or.inr ⟨w.heap.size, n, madeCells #[.int .i64 0] n, rfl, hB, heap_alloc_new w _, Nat.le_refl _, by unfold maxLen; omega, by simp [madeCells], ?_⟩⟩
  rw [hc, List.take_of_length_le (by rw [dV_len, List.length_replicate]; omega)]
/-- One step of the long division. -/
theorem quo_step (U Q : List Nat) (m r M : Nat) (hm : m < U.length) (hQ : Q.length = U.length) (h : dv P24 (Q.drop (m + 1)) * M + r = dv P24 (U.drop (m + 1))) :
    dv P24 ((Q.set m ((U[m]! + P24 * r) / M)).drop m) * M + (U[m]! + P24 * r) % M = dv P24 (U.drop m) := by
  rw [dv_drop U m hm, dv_drop _ m (by rw [List.length_set]; omega), ← h]
  have e1 : (Q.set m ((U[m]! + P24 * r) / M))[m]! = (U[m]! + P24 * r) / M := by
    rw [List.getElem!_eq_getElem?_getD, List.getElem?_set_self (by omega)]
    rfl
  have e2 : (Q.set m ((U[m]! + P24 * r) / M)).drop (m + 1) = Q.drop (m + 1) := by
    rw [List.drop_set, if_pos (by omega)]
  rw [e1, e2]
  generalize dv P24 (Q.drop (m + 1)) = X
  generalize U[m]! = u
  have h1 := Nat.div_add_mod (u + P24 * r) M
  have h2 : (u + P24 * r) / M * M = M * ((u + P24 * r) / M) := Nat.mul_comm _ _
  rw [Nat.add_mul, Nat.mul_assoc P24 X M, Nat.mul_add P24]
  omega
theorem dv_replicate (n : Nat) : dv P24 (List.replicate n 0) = 0 := by
  induction n with
  | zero => rfl
  | succ n ih => rw [List.replicate_succ, dv, ih]; simp
theorem digs_mono (a b : Nat) (h : a ≤ b) : (digs P24 a).length ≤ (digs P24 b).length := by
  have h1 := (digs_len P24 (by decide) b (digs P24 b).length).1 (Nat.le_refl _)
  exact (digs_len P24 (by decide) a _).2 (Nat.lt_of_le_of_lt h h1)
theorem set_lt (Q : List Nat) (m q : Nat) (h : ∀ d ∈ Q, d < P24) (hq : q < P24) : ∀ d ∈ Q.set m q, d < P24 := by
  intro d hd
  rcases List.mem_or_eq_of_mem_set hd with h1 | h1
  · exact h d h1
  · rw [h1]; exact hq
set_option maxHeartbeats 8000000 in
set_option maxRecDepth 100000 in
theorem Quo_big (a b : ByteArray) (x y : Nat) (p q : Bool) (w : World) (ha : a.size ≤ 1000000) (hb : b.size ≤ 1000000) (h0 : 0 < sv b) (hx : (if sv a < 256 ^ 7 then sv a else 0) = x) (hp : decide (sv a < 256 ^ 7) = p) (hy : (if sv b < 256 ^ 7 then sv b else 0) = y) (hq : decide (sv b < 256 ^ 7) = q) (hpq : (p && q) = false) :
    Calls Tryd.prog 38 #[.string a, .string b] w fun e w' => e = .returned (.tuple #[.string (natS (sv a / sv b)), .string (natS (sv a % sv b)), .bool true]) ∧ Kb (fun _ => False) w w' := by
  obtain ⟨t, ht, hts, hsz, hsv⟩ : ∃ t : ByteArray, 0 < t.size ∧ natS (sv b) = t ∧ t.size ≤ b.size ∧ sv t = sv b := by
    refine ⟨_, ?_, rfl, ?_, sv_natS _⟩
    · rcases Nat.eq_zero_or_pos (natS (sv b)).size with h | h
      · have := (natS_len (sv b) 0).1 (by omega)
        rw [Nat.pow_zero] at this
        omega
      · exact h
    · rw [natS_sv]
      exact canon_length b.data.toList
  have htz : ((t.size : Int) == 0) = false := by rw [beq_eq_false_iff_ne]; omega
  have hlu := digs_size a 1000000 ha
  have hlv := digs_size b 1000000 hb
  have HX := hid hx
  have HP := hid hp
  have HY := hid (show (if sv t < 256 ^ 7 then sv t else 0) = y by rw [hsv]; exact hy)
  have HQ := hid (show decide (sv t < 256 ^ 7) = q by rw [hsv]; exact hq)
  have HTS := hid hts
  have HSV := hid hsv
  clear hx hp hy hq hts hsv
  go_enter Tryd.func38, Tryd.ntmps38
  go_wp2_with fail
  refine (canon_is b _ w (by omega) HTS.out).mono ?_
  rintro e w' ⟨rfl, rfl⟩
  go_wp2_with fail
  refine (small_is a 7 x p w' (by omega) (by omega) HX.out HP.out).mono ?_
  rintro e w1 ⟨rfl, rfl⟩
  go_wp2_with fail
  refine (small_is t 7 y q _ (by omega) (by omega) HY.out HQ.out).mono ?_
  rintro e w2 ⟨rfl, rfl⟩
  go_upto_region 6 with fail
  go_cut [34] (fun v wx => v = .bool false ∧ wx = w2)
  case first =>
    cases p <;> cases q <;> try (simp at hpq; done)
    all_goals
      go_wp2_with fail
      go_meet
      exact ⟨rfl, rfl⟩
  case rest =>
    obtain ⟨rfl, rfl⟩ := hcut
    clear HX HP HY HQ HTS hpq
    go_wp2_with fail
    refine (of_any a wc (by omega)).mono ?_
    rintro e w3 ⟨uv, rfl, hu, k3⟩
    obtain ⟨ua, uc, rfl⟩ := hu.slice
    have HU := hid hu
    have K3 := hid k3
    clear hu k3
    go_wp2_with fail
    refine (of_any t w3 (by omega)).mono ?_
    rintro e w4 ⟨vv, rfl, hv, k4⟩
    rw [HSV.out] at hv
    obtain ⟨va, vc, rfl⟩ := hv.slice
    have HV := hid hv
    have HU4 := hid (HU.out.kb0 k4)
    have K4 := hid (K3.out.trans k4)
    clear hv k4 HU K3
    have hmk := fun W => run_make_row' (P := Tryd.prog) 26 3 (.int .i64 0) 8 Tryd.underlying26 infoInt rfl .i64 .i64 (digs P24 (sv a)).length (by omega) (by omega) W
    go_wp2_with fail
    generalize hW5 : World.alloc _ _ = w5
    have k5 : Kb (fun x => w4.heap.size ≤ x) w4 w5 := by subst hW5; exact (Kb.refl _ _).alloc _
    have q5 : RowD w5 w4.heap.size (.slice (some ⟨w4.heap.size, 0, none⟩) (digs P24 (sv a)).length (digs P24 (sv a)).length) (List.replicate (digs P24 (sv a)).length 0) := by
      subst hW5
      exact RowD.made w4 _ _ (Nat.le_refl _) (by omega)
    have z5 : w5.heap.size = w4.heap.size + 1 := by subst hW5; simp
    clear hW5 hmk
    have hzc : wc.heap.size ≤ w4.heap.size := K4.out.size
    have hdu : dv P24 (digs P24 (sv a)) = sv a := dv_digs P24 (by decide) _
    have hmu := digs_lt P24 (by decide) (sv a)
    have HDU := hid hdu
    have HMU := hid hmu
    have Q5 := hid q5
    have K5 := hid k5
    clear hdu hmu q5 k5
    generalize hU : digs P24 (sv a) = U at *
    have HUE := hid hU
    clear hU
    obtain ⟨gq, hgq⟩ : ∃ gq, gq = w4.heap.size := ⟨_, rfl⟩
    rw [← hgq]
    rw [← hgq] at z5 hzc
    have Q5' : Hid (RowD w5 gq (.slice (some ⟨gq, 0, none⟩) U.length U.length) (List.replicate U.length 0)) := by rw [hgq]; exact Q5.out
    have K5' : Hid (Kb (fun x => gq ≤ x) w4 w5) := by rw [hgq]; exact K5.out
    have HGQ := hid hgq
    clear hgq Q5 K5
    go_loopw [14, 15] (fun rv kv wr => ∃ (j r : Nat) (ra : Option Addr) (rc : Nat) (Q : List Nat), rv = .slice ra (digs P24 r).length rc ∧ kv = .int .i64 ((j : Int) - 1) ∧ j ≤ U.length ∧ r < sv b ∧ Hid (RowD wr (gq + 1) (.slice ra (digs P24 r).length rc) (digs P24 r)) ∧
        Hid (Q.length = U.length ∧ (∀ d ∈ Q, d < P24) ∧ (∀ i, i < j → Q[i]! = 0) ∧ RowD wr gq (.slice (some ⟨gq, 0, none⟩) U.length U.length) Q) ∧ Kb (fun x => gq ≤ x) w4 wr ∧ gq < wr.heap.size ∧ Hid (dv P24 (Q.drop j) * sv b + r = dv P24 (U.drop j))) (fun _ kv _ => (intOf kv + 1).toNat)
    case atStart =>
      refine ⟨U.length, 0, none, 0, List.replicate U.length 0, rfl, rfl, Nat.le_refl _, h0, RowD.nil _ _, ⟨by simp, ?_, ?_, Q5'.out⟩, K5'.out, by omega, ?_⟩
      · intro d hd
        rw [List.eq_of_mem_replicate hd]
        decide
      · intro i hi
        rw [List.getElem!_eq_getElem?_getD, List.getElem?_replicate, if_pos hi]
        rfl
      · show dv P24 ((List.replicate U.length 0).drop U.length) * sv b + 0 = dv P24 (U.drop U.length)
        rw [List.drop_of_length_le (by simp), List.drop_of_length_le (Nat.le_refl _)]
        simp [dv]
    case round =>
      obtain ⟨j, r, ra, rc, Q, rfl, rfl, hj, hr, hrow, hQ, hkb, hgl, hinv⟩ := hrel
      cases j with
      | zero =>
        have hf := hinv.out
        rw [List.drop_zero, List.drop_zero, HDU.out] at hf
        have hq1 : sv a / sv b = dv P24 Q := by
          rw [← hf, Nat.mul_comm, Nat.mul_add_div h0, Nat.div_eq_of_lt hr, Nat.add_zero]
        have hr1 : sv a % sv b = r := by
          rw [← hf, Nat.mul_comm, Nat.mul_add_mod, Nat.mod_eq_of_lt hr]
        have HQ1 := hid hq1
        have HR1 := hid hr1
        have hrl : (digs P24 r).length ≤ 1000000 := Nat.le_trans (digs_mono r (sv b) (by omega)) hlv
        have hql : Q.length ≤ 1000000 := by rw [hQ.out.1]; exact hlu
        have KF := hid (K4.out.trans' hkb (fun i hi hx => by omega))
        clear hf hq1 hr1
        go_wp2_with fail
        refine (number_any _ Q gq wr hQ.out.2.2.2 hQ.out.2.1 (by omega)).mono ?_
        rintro e w6 ⟨rfl, k6⟩
        have R6 := hid (hrow.out.kb0 k6)
        have KG := hid (KF.out.trans k6)
        clear k6
        go_wp2_with fail
        refine (number_any _ (digs P24 r) (gq + 1) w6 R6.out (digs_lt P24 (by decide) r) (by omega)).mono ?_
        rintro e w7 ⟨rfl, k7⟩
        rw [dv_digs P24 (by decide) r]
        go_wp2_with fail
        go_ret3
        refine ⟨?_, KG.out.trans k7⟩
        rw [HQ1.out, HR1.out]
        rfl
      | succ m =>
        rw [show ((m + 1 : Nat) : Int) - 1 = (m : Int) by omega]
        obtain ⟨g, rfl, _, _, hg, hc⟩ := HU4.out.form (by omega)
        have hgne : g < gq := by have := HGQ.out; omega
        have c1 := hkb.cell (hc m (by omega)) (by show ¬ gq ≤ g; omega)
        have hd1 : U[m]! < 16777216 := HMU.out _ (by rw [List.getElem!_eq_getElem?_getD, List.getElem?_eq_getElem (by omega : m < U.length)]; exact List.getElem_mem _)
        have hst := quo_step U Q m r (sv b) (by omega) hQ.out.1 hinv.out
        have HS := hid hst
        have hrl : (digs P24 r).length ≤ 1000000 := Nat.le_trans (digs_mono r (sv b) (by omega)) hlv
        clear hc hst
        generalize U[m]! = u at *
        go_wp2_with (at_builtin; go_must (refine app_int _ rfl _ _ rfl (gq + 1) (gq + 1) _ _ _ _ _ [u] (digs P24 r) (by rfl) (by rfl) (RowD.lit wr (gq + 1) u (by omega)) (World.ownsRow.alloc hrow.out _) (by simp; omega) (by simp; omega) ?_); intro oa' oc' w6 hrow2 hkb2)
        have hdv : dv P24 ([u] ++ digs P24 r) = u + P24 * r := by
          rw [dv_append, dv_digs P24 (by decide) r]
          simp [dv]
        have htr : trimL ([u] ++ digs P24 r) = digs P24 (u + P24 * r) := by
          rw [← hdv, digs_dv P24 (by decide)]
          intro d hd
          rw [List.mem_append, List.mem_singleton] at hd
          rcases hd with rfl | hd
          · exact hd1
          · exact digs_lt P24 (by decide) r d hd
        obtain ⟨r1, hr1⟩ : ∃ r1, r1 = u + P24 * r := ⟨_, rfl⟩
        rw [← hr1] at htr HS
        have hr1b : r1 < 16777216 * sv b := by rw [hr1]; unfold P24; omega
        have hr1l : (digs P24 r1).length ≤ 1000001 := Nat.le_trans (digs_mono r1 (sv b * P24) (by unfold P24; omega)) (digs_mul_len (sv b) P24 1000000 hlv (Nat.le_refl _))
        have HTR := hid htr
        have kA : Kb (fun x => gq ≤ x) w4 w6 := hkb.trans ((((Kb.refl (fun x => gq ≤ x) wr).alloc _)).trans (hkb2.mono (fun x _ hx => by omega)))
        have kB : Kb (fun x => gq + 1 ≤ x) wr w6 := ((Kb.refl (fun x => gq + 1 ≤ x) wr).alloc _).trans hkb2
        have hg6 : gq < w6.heap.size := by have := kB.size; omega
        have KA := hid kA
        have V6 := hid (HV.out.kb kA (fun x hx => Or.inr (by have := HGQ.out; omega)))
        have QR6 : Hid (RowD w6 gq (.slice (some ⟨gq, 0, none⟩) U.length U.length) Q) := kB.row hQ.out.2.2.2 (fun g' e hx => by simp only [Value.ownBlock, Option.some.injEq] at e; omega)
        have HR2 := hid hrow2
        clear htr hdv hr1 kA kB hkb2 hrow2
        refine (trim_any _ ([u] ++ digs P24 r) (gq + 1) w6 HR2.out (by rw [List.length_append, List.length_singleton]; omega)).mono ?_
        rintro e w7 ⟨⟨v7, rfl, hr7⟩, rfl⟩
        rw [HTR.out] at hr7
        obtain ⟨a7, c7, rfl⟩ := hr7.slice
        have R7 := hid hr7
        clear hr7
        go_wp2_with fail
        refine (cmp_any _ _ r1 (sv b) (gq + 1) w3.heap.size w7 R7.out V6.out (by omega) (by omega)).mono ?_
        rintro e w8 ⟨⟨cc, rfl, hc1, hc2⟩, k8⟩
        have K8 := hid (KA.out.trans (k8.mono (T := fun x => gq ≤ x) (fun _ _ x => x.elim)))
        have R8 := hid (R7.out.kb0 k8)
        have V8 := hid (V6.out.kb0 k8)
        have QR8 : Hid (RowD w8 gq (.slice (some ⟨gq, 0, none⟩) U.length U.length) Q) := QR6.out.kb0 k8
        have hg8 : gq < w8.heap.size := by have := k8.size; omega
        have hQm : Q[m]! = 0 := hQ.out.2.2.1 m (by omega)
        have HQM := hid hQm
        clear k8 hQm
        by_cases hlt : r1 < sv b
        · have hcn : cc < 0 := hc1.2 hlt
          have hst : dv P24 (Q.drop m) * sv b + r1 = dv P24 (U.drop m) := by
            have h := HS.out
            rw [Nat.div_eq_of_lt hlt, Nat.mod_eq_of_lt hlt] at h
            have e : Q.set m 0 = Q := by
              have hm : m < Q.length := by rw [hQ.out.1]; omega
              have h2 := HQM.out
              rw [List.getElem!_eq_getElem?_getD, List.getElem?_eq_getElem hm, Option.getD_some] at h2
              conv => lhs; rw [← h2]
              exact List.set_getElem_self hm
            rw [e] at h
            exact h
          have HST := hid hst
          clear hst hc1 hc2
          go_wp2_with fail
          refine ⟨⟨m, r1, a7, c7, Q, rfl, rfl, by omega, hlt, R8.out, ⟨hQ.out.1, hQ.out.2.1, fun i hi => hQ.out.2.2.1 i (by omega), QR8.out⟩, K8.out, hg8, HST.out⟩, by simp [intOf]⟩
        · have hcn : 0 ≤ cc := by
            rcases Int.lt_or_le cc 0 with h | h
            · exact absurd (hc1.1 h) hlt
            · exact h
          have hge : sv b ≤ r1 := by omega
          clear hc1 hc2 hlt
          go_wp2_with fail
          refine (digit_any _ _ r1 (sv b) (gq + 1) w3.heap.size w8 R8.out V8.out h0 hr1b (by omega) (by omega)).mono ?_
          rintro e w9 ⟨rfl, k9⟩
          have K9 := hid (K8.out.trans (k9.mono (T := fun x => gq ≤ x) (fun _ _ x => x.elim)))
          have R9 := hid (R8.out.kb0 k9)
          have V9 := hid (V8.out.kb0 k9)
          have QR9 : Hid (RowD w9 gq (.slice (some ⟨gq, 0, none⟩) U.length U.length) Q) := QR8.out.kb0 k9
          have hg9 : gq < w9.heap.size := by have := k9.size; omega
          have hq24 : r1 / sv b < 16777216 := (Nat.div_lt_iff_lt_mul h0).2 hr1b
          have hmq : sv b * (r1 / sv b) ≤ r1 := Nat.mul_div_le r1 (sv b)
          have hrm : r1 - sv b * (r1 / sv b) = r1 % sv b := by
            have := Nat.div_add_mod r1 (sv b)
            omega
          obtain ⟨q1, hq1⟩ : ∃ q1, q1 = r1 / sv b := ⟨_, rfl⟩
          rw [← hq1] at HS hq24 hmq hrm ⊢
          have HRM := hid hrm
          have HMQ := hid hmq
          clear k9 hq1 hrm hmq
          have hQl : Q.length = U.length := hQ.out.1
          have QA9 : w9.ownsRow gq 3 1 (.slice (some ⟨gq, 0, none⟩) U.length U.length) U.length (dV Q) := by
            have h := QR9.out
            unfold RowD at h
            rw [hQl] at h
            exact h
          have cq : w9.cell? ⟨gq, m, none⟩ = some (.int .i64 0) := by
            rw [World.ownsRow.cellAt QA9 m (by omega), dV_get Q m (by omega), HQM.out]
            rfl
          have fq : w9.frozen? ⟨gq, m, none⟩ = false := World.ownsRow.frozenAt QA9 m
          have hSt := (World.ownsRow.stored QA9 m (.int .i64 (q1 : Int))).1
          have hset : (dV Q).set m (.int .i64 (q1 : Int)) = dV (Q.set m q1) := by simp [dV, List.map_set]
          rw [hset] at hSt
          have QS : Hid (RowD (w9.setCell ⟨gq, m, none⟩ (.int .i64 (q1 : Int))) gq (.slice (some ⟨gq, 0, none⟩) U.length U.length) (Q.set m q1)) := by
            unfold RowD
            rw [List.length_set, hQl]
            exact hSt
          have kS : Kb (fun x => x = gq) w9 (w9.setCell ⟨gq, m, none⟩ (.int .i64 (q1 : Int))) := Kb.setCell (S := fun x => x = gq) (Kb.refl _ _) (Or.inl rfl) _
          have RS := hid (R9.out.kb kS (fun x hx => Or.inl (by omega)))
          have VS : Hid (RowD (w9.setCell ⟨gq, m, none⟩ (.int .i64 (q1 : Int))) w3.heap.size (.slice va (digs P24 (sv b)).length vc) (digs P24 (sv b))) := by
            have h1 := HV.out.kb (K9.out.trans (kS.mono (T := fun x => gq ≤ x) (fun x _ hx => by omega))) (fun x hx => Or.inr (by have := HGQ.out; omega))
            exact h1
          have KS := hid (K9.out.trans (kS.mono (T := fun x => gq ≤ x) (fun x _ hx => by omega)))
          have hzS : (w9.setCell ⟨gq, m, none⟩ (.int .i64 (q1 : Int))).heap.size = w9.heap.size := by simp
          have hcS : (w9.setCell ⟨gq, m, none⟩ (.int .i64 (q1 : Int))).cell? ⟨gq, m, none⟩ = some (.int .i64 (q1 : Int)) := World.cell?_setCell_same w9 ⟨gq, m, none⟩ _ cq
          have HcS := hid hcS
          have HzS := hid hzS
          clear QA9 hSt hset kS hcS hzS
          go_upto_region 18 with fail
          generalize hWS : World.setCell _ _ _ = wS at *
          have gS : gq < wS.heap.size := by rw [HzS.out]; exact hg9
          have cS := HcS.out
          clear hWS HcS HzS cq fq
          go_wp2_with fail
          refine (times_any _ (digs P24 (sv b)) q1 w3.heap.size wS VS.out (digs_lt P24 (by decide) _) hq24 (by omega)).mono ?_
          rintro e w10 ⟨⟨tv, rfl, ht10⟩, k10⟩
          rw [dv_digs P24 (by decide) (sv b)] at ht10
          have R10 := hid (RS.out.kb0 k10)
          have Q10 := hid (QS.out.kb0 k10)
          have K10 := hid (KS.out.trans (k10.mono (T := fun x => gq ≤ x) (fun _ _ x => x.elim)))
          have T10 := hid ht10
          have g10 : gq < w10.heap.size := by have := k10.size; omega
          clear ht10 k10
          go_wp2_with fail
          refine (minus_any _ _ (digs P24 r1) (digs P24 (sv b * q1)) (gq + 1) wS.heap.size w10 R10.out T10.out (digs_lt P24 (by decide) _) (digs_lt P24 (by decide) _) (by omega) (digs_mono _ _ HMQ.out) (by rw [dv_digs P24 (by decide), dv_digs P24 (by decide)]; exact HMQ.out)).mono ?_
          rintro e w11 ⟨⟨nv, rfl, hn11⟩, k11⟩
          rw [dv_digs P24 (by decide), dv_digs P24 (by decide), HRM.out] at hn11
          obtain ⟨a11, c11, rfl⟩ := hn11.slice
          have R11 := hid (hn11.base (B' := gq + 1) (by omega))
          have Q11 := hid (Q10.out.kb0 k11)
          have K11 := hid (K10.out.trans (k11.mono (T := fun x => gq ≤ x) (fun _ _ x => x.elim)))
          have g11 : gq < w11.heap.size := by have := k11.size; omega
          have hrlt : r1 % sv b < sv b := Nat.mod_lt _ h0
          obtain ⟨r2, hr2⟩ : ∃ r2, r2 = r1 % sv b := ⟨_, rfl⟩
          rw [← hr2] at R11 HS hrlt ⊢
          clear hn11 k11 hr2
          go_wp2_with fail
          refine ⟨⟨m, r2, a11, c11, Q.set m q1, rfl, rfl, by omega, hrlt, R11.out, ⟨by rw [List.length_set]; exact hQl, set_lt Q m q1 hQ.out.2.1 hq24, ?_, Q11.out⟩, K11.out, g11, HS.out⟩, by simp [intOf]⟩
          intro i hi
          have h := hQ.out.2.2.1 i (by omega)
          rw [List.getElem!_eq_getElem?_getD] at h ⊢
          rw [List.getElem?_set_ne (by omega)]
          exact h
end Go.Proofs.YtkhjgfbiemllmaaDoor
