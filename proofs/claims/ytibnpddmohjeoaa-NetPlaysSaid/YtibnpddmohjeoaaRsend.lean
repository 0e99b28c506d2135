/- The walk of the reference's Send. -/
import Derived.Test.YtibnpddmohjeoaaRpart
import Derived.Deep.DeepCutAuto
namespace Go.Proofs.Ytibnpddmohjeoaa
open Go.RowKit

def RS.st (rs : RS) : St := ⟨rs.nodes, rs.script, rs.l, rs.sent, grpOf rs.gs⟩
def batchF (m : Msg) (t : Int) (s : Nat) : Nat → List Pc
  | 0 => []
  | k + 1 => batchF m t s k ++ [mkPc m (t + k) s]
theorem batchF_length (m : Msg) (t : Int) (s : Nat) : ∀ k, (batchF m t s k).length = k := by
  intro k
  induction k with
  | zero => rfl
  | succ k ih => simp [batchF, ih]
def rsendS (rs : RS) (now : Int) (m : Msg) : RS :=
  if drops rs.st m then { rs with sent := rs.sent + 1 }
  else { rs with sent := rs.sent + 1, l := rs.l ++ batchF m (now + max (trOf rs.script rs.sent).delay 0) rs.sent (copiesOf (trOf rs.script rs.sent)) }
theorem info78 : (Try.prog.info? 78).map (fun i => (i.zero, i.size, i.bytes)) = some (some (.agg #[.int .i64 0, .int .i64 0, .string .empty, .int .i64 0, .int .i64 0]), 5, 48) := by kernel_rfl
theorem rgroup_is (b : Nat) (k r : Int) (gv : Value) (gs : List Int) (w : World) (hk : 0 ≤ k) (h4 : w.cell? ⟨b, 4, none⟩ = some gv) (h : RowI w gv gs) (hl : gs.length ≤ 9223372036854775807) (hr : grpOf gs k = r) :
    Calls Try.prog 28 #[.pointer (some ⟨b, 0, none⟩), .int .i64 k] w fun e w' => e = .returned (.int .i64 r) ∧ w' = w := by
  subst hr
  exact rgroup_any b k gv gs w hk h4 h hl

attribute [local go_sem ↓] Go.wp_at_zero Go.wp_at_succ
set_option maxHeartbeats 4000000 in
set_option maxRecDepth 100000 in
theorem rsend_core (S : Nat → Prop) (b : Nat) (rs : RS) (now : Int) (m : Msg) (w : World) (hSlt : ∀ x, S x → x < w.heap.size) (h : RefIs S b w rs) (hsc : rs.script.length ≤ 1000000) (hse : rs.sent ≤ 1000000) (hwl : rs.l.length ≤ 900000)
    (hnow : -1000000000000 ≤ now ∧ now ≤ 1000000000000) (hdel : (trOf rs.script rs.sent).delay ≤ 1000000000000) (hgl : rs.gs.length ≤ 9223372036854775807) :
    Calls Try.prog 16 #[.pointer (some ⟨b, 0, none⟩), .int .i64 now, .agg m.cells.toArray] w fun e w' => e = .returned (.tuple #[]) ∧ ∃ S' : Nat → Prop, (∀ x, S' x → S x ∨ w.heap.size ≤ x) ∧ Kb S w w' ∧ RefIs S' b w' (rsendS rs now m) := by
  obtain ⟨sv, lv, gv, hb, hsb, hs, hss, hw, hws, hg, hgs⟩ := h
  obtain ⟨i0, hi0, hz0, hz1, hz2⟩ := info_parts info78
  obtain ⟨sa, sc, rfl⟩ := own_slice hs
  have hbl := block_lt hb
  have h0 := cell_of_heap hb 0
  have h1 := cell_of_heap hb 1
  have h3 := cell_of_heap hb 3
  have hf3 := frozen_of_heap hb 3
  simp only [List.getElem?_toArray, List.getElem?_cons_succ, List.getElem?_cons_zero] at h0 h1 h3
  have HB := hid hb
  have HS := hid hs
  have HSS := hid hss
  have HW := hid hw
  have HWS := hid hws
  have HG := hid hg
  have HGS := hid hgs
  have HSL := hid hSlt
  clear hb hs hss hw hws hg hgs hSlt
  obtain ⟨t, ht⟩ : ∃ t, t = trOf rs.script rs.sent := ⟨_, rfl⟩
  have HT := hid ht
  clear ht
  simp only [Msg.cells]
  go_enter Try.func16, Try.ntmps16
  go_upto_if 15 with fail
  generalize hWW : World.alloc _ _ = W
  have kW : Kb (fun _ => False) w W := by subst hWW; exact ((Kb.refl _ _).alloc _).alloc _
  have zW : W.heap.size = w.heap.size + 2 := by subst hWW; simp
  have M : W.heap[w.heap.size]? = some (.cells #[.int .i64 m.frm, .int .i64 m.to_, .string m.text] 31 (0, 0)) := by
    subst hWW
    rw [Below.heap_alloc _ _ _ (by simp)]
    exact heap_alloc_new w _
  have T : W.heap[w.heap.size + 1]? = some (.cells #[.bool false, .int .i64 1, .int .i64 1] 44 (0, 0)) := by
    subst hWW
    exact heap_alloc2 w _ _
  clear hWW
  generalize htb : w.heap.size + 1 = tb at *
  generalize hmb : w.heap.size = mb at *
  have T0 := cell_of_heap T 0
  have T1 := cell_of_heap T 1
  have T2 := cell_of_heap T 2
  have tf0 := frozen_of_heap T 0
  have tf1 := frozen_of_heap T 1
  have tf2 := frozen_of_heap T 2
  have g1 := kW.cell h1 (by simp)
  have g3 := kW.cell h3 (by simp)
  have hgl' := block_lt T
  have hbW : b < W.heap.size := by omega
  simp only [List.getElem?_toArray, List.getElem?_cons_succ, List.getElem?_cons_zero] at T0 T1 T2
  have HTB := hid htb
  have HMB := hid hmb
  have HM := hid M
  have HTT := hid T
  have KW := hid kW
  clear htb hmb M T kW h0 h1 h3 hf3
  go_cut [6] (fun v wx => v = .pointer (some ⟨tb, 0, none⟩) ∧ Kb (fun x => x = tb) W wx ∧ wx.heap[tb]? = some (.cells t.cells.toArray 44 (0, 0)))
  case first =>
    by_cases hn : rs.script.length = 0
    · have ht : t = ⟨false, 1, 1⟩ := by rw [HT.out]; unfold trOf; rw [if_pos hn]
      have HTE := hid ht
      clear ht
      go_wp2_with fail
      go_meet
      refine ⟨rfl, Kb.refl _ _, ?_⟩
      rw [HTE.out]
      exact HTT.out
    · have hr : w.ownsRow 0 44 3 (.slice sa rs.script.length sc) rs.script.length (flatT rs.script) := HS.out
      obtain ⟨g, c', e, _, hgs⟩ := World.ownsRow.form hr (by omega)
      simp only [Value.slice.injEq] at e
      obtain ⟨rfl, _, rfl⟩ := e
      have hm : rs.sent % rs.script.length < rs.script.length := Nat.mod_lt _ (by omega)
      have hcell : ∀ f, f < 3 → w.cell? ⟨g, rs.sent % rs.script.length * 3 + f, none⟩ = t.cells[f]? := fun f hf => by
        rw [World.ownsRow.cellAt hr (rs.sent % rs.script.length * 3 + f) (by omega), flatT_get _ _ f hm hf, HT.out]
        unfold trOf
        rw [if_neg hn]
      have c0 := KW.out.cell (v := .bool t.lost) (hcell 0 (by omega)) (by simp)
      have c1 := KW.out.cell (v := .int .i64 t.copies) (hcell 1 (by omega)) (by simp)
      have c2 := KW.out.cell (v := .int .i64 t.delay) (hcell 2 (by omega)) (by simp)
      simp only [Nat.add_zero] at c0 c1 c2
      have hgW : g < W.heap.size := World.block_lt_of_cell? W _ c0
      have hgt : g ≠ tb := by have := HTB.out; have := HMB.out; omega
      have hz : ((rs.script.length : Int) == 0) = false := by rw [beq_eq_false_iff_ne]; omega
      have hlt : (rs.sent : Int) % (rs.script.length : Int) < (rs.script.length : Int) := Int.emod_lt_of_pos _ (by omega)
      have hlt0 : 0 ≤ (rs.sent : Int) % (rs.script.length : Int) := Int.emod_nonneg _ (by omega)
      have hpos : (0 : Int) < rs.script.length := by omega
      have HCC := hid hcell
      clear hcell hr hm hgs
      generalize hL : rs.script.length = L at *
      have HL := hid hL
      clear hL
      go_wp2_with fail
      go_region
      all_goals
        go_wp2_with fail
        go_meet
        refine ⟨rfl, ?_, ?_⟩
        · exact Kb.drew (Kb.setCell (S := fun x => x = tb) (Kb.setCell (S := fun x => x = tb) (Kb.setCell (S := fun x => x = tb) (Kb.refl _ _) (Or.inl rfl) _) (Or.inl rfl) _) (Or.inl rfl) _)
        · have e0 := heap_setCell_same W tb 0 _ 44 (.bool t.lost) HTT.out
          have e1 := heap_setCell_same _ tb 1 _ 44 (.int .i64 t.copies) e0
          have e2 := heap_setCell_same _ tb 2 _ 44 (.int .i64 t.delay) e1
          exact e2
  case rest =>
    obtain ⟨rfl, kc, hT⟩ := hcut
    have zc := kc.size
    have hbt : ¬ (b = tb) := by have := HTB.out; omega
    have hmt : ¬ (mb = tb) := by have := HTB.out; omega
    have B1 := kc.heap (KW.out.heap HB.out (by simp)) hbt
    have M1 := kc.heap HM.out hmt
    have b3 := cell_of_heap B1 3
    have bf3 := frozen_of_heap B1 3
    have hbc := block_lt B1
    simp only [List.getElem?_toArray, List.getElem?_cons_succ, List.getElem?_cons_zero] at b3
    have HB1 := hid B1
    have HM1 := hid M1
    have HT1 := hid hT
    have KC := hid ((KW.out.mono (T := fun x => mb ≤ x) (fun _ _ x => x.elim)).trans (kc.mono (T := fun x => mb ≤ x) (fun x _ e => by have := HTB.out; omega)))
    clear B1 M1 hT kc T0 T1 T2 tf0 tf1 tf2 g1 g3 hgl' hbW zW
    go_upto_region 6 with fail
    generalize hW2 : World.setCell _ _ _ = W2
    have k2 : Kb (fun x => x = b) wc W2 := by subst hW2; exact Kb.setCell (S := fun x => x = b) (Kb.refl _ _) (Or.inl rfl) _
    have B2 : W2.heap[b]? = some (.cells #[.int .i64 rs.nodes, .slice sa rs.script.length sc, lv, .int .i64 ((rs.sent + 1 : Nat)), gv] 67 (0, 0)) := by
      subst hW2
      rw [heap_setCell_same wc b 3 _ 67 _ HB1.out]
      rfl
    have M2 := k2.heap HM1.out (show ¬ mb = b by omega)
    have T2 := k2.heap HT1.out (show ¬ tb = b by omega)
    have kC : Kb S w wc := KC.out.mono (fun i hi e => by have := HMB.out; omega)
    have KA : Kb S w W2 := kC.trans' k2 (fun i hi e => by subst e; exact hsb)
    have R2 : RefIs S b W2 { rs with sent := rs.sent + 1 } := by
      have a1 := HS.out.kb KC.out (fun g e h => by have := HSL.out g (HSS.out g e); omega)
      have a2 := KC.out.row HW.out (fun g e h => by have := HSL.out g (HWS.out g e); omega)
      have a3 := HG.out.kb KC.out (fun g e h => by have := HSL.out g (HGS.out g e); omega)
      exact ⟨_, lv, gv, B2, hsb, a1.kb k2 (fun g e r => own_ne a1 e HB1.out (by decide) r.symm), HSS.out, k2.row a2 (fun g e r => own_ne a2 e HB1.out (by decide) r.symm), HWS.out, a3.kb k2 (fun g e r => own_ne a3 e HB1.out (by decide) r.symm), HGS.out⟩
    have rg2 : RowI W2 gv rs.gs := by
      have a3 := HG.out.kb KC.out (fun g e h => by have := HSL.out g (HGS.out g e); omega)
      exact a3.kb k2 (fun g e r => own_ne a3 e HB1.out (by decide) r.symm)
    have t0 := cell_of_heap T2 0
    have t1 := cell_of_heap T2 1
    have t2 := cell_of_heap T2 2
    have m0 := cell_of_heap M2 0
    have m1 := cell_of_heap M2 1
    have m2 := cell_of_heap M2 2
    have b0 := cell_of_heap B2 0
    have b4 := cell_of_heap B2 4
    simp only [Tr.cells, List.getElem?_toArray, List.getElem?_cons_succ, List.getElem?_cons_zero] at t0 t1 t2 m0 m1 m2 b0 b4
    have hlb : b < W2.heap.size := block_lt B2
    have hlm : mb < W2.heap.size := block_lt M2
    have hlt : tb < W2.heap.size := block_lt T2
    have HB2 := hid B2
    have HM2 := hid M2
    have HT2 := hid T2
    have HKA := hid KA
    have HR2 := hid R2
    have HRG := hid rg2
    clear hW2 k2 B2 M2 T2 kC KA R2 rg2 b3 bf3 hbc HB1 HM1 HT1 KC zc
    obtain ⟨D, hD⟩ : ∃ D, D = (t.lost || !isNode rs.nodes m.to_ || (isNode rs.nodes m.frm && (grpOf rs.gs m.frm != grpOf rs.gs m.to_))) := ⟨_, rfl⟩
    have HD := hid hD
    clear hD
    go_cut [83] (fun c wx => c = .bool D ∧ ∃ q, wx = W2.drewN q)
    case first =>
      cases hA : t.lost with
      | true =>
        rw [hA] at t0
        have HA := hid hA
        clear hA
        go_quiet (fail)
        go_wp2_with fail
        go_meet
        exact ⟨by rw [HD.out, HA.out]; rfl, _, rfl⟩
      | false =>
        rw [hA] at t0
        have HA := hid hA
        clear hA
        by_cases hB : m.to_ < 0
        · have HX := hid (show D = true by rw [HD.out, show isNode rs.nodes m.to_ = false by (unfold isNode; simp; omega)]; simp)
          go_quiet (fail)
          go_wp2_with fail
          go_meet
          exact ⟨by rw [HX.out], _, rfl⟩
        · have hB0 : 0 ≤ m.to_ := by omega
          by_cases hB2 : rs.nodes ≤ m.to_
          · have HX := hid (show D = true by rw [HD.out, show isNode rs.nodes m.to_ = false by (unfold isNode; simp; omega)]; simp)
            go_quiet (fail)
            go_wp2_with fail
            go_meet
            exact ⟨by rw [HX.out], _, rfl⟩
          · have hB3 : m.to_ < rs.nodes := by omega
            have HB3 := hid (show isNode rs.nodes m.to_ = true by (unfold isNode; simp; omega))
            by_cases hC : m.frm < 0
            · have HX := hid (show D = false by rw [HD.out, HA.out, HB3.out, show isNode rs.nodes m.frm = false by (unfold isNode; simp; omega)]; simp)
              have hdd : decide (0 ≤ m.frm) = false := by rw [decide_eq_false_iff_not]; omega
              go_quiet (fail)
              go_wp2_with fail
              go_meet
              exact ⟨by rw [HX.out], _, rfl⟩
            · have hC0 : 0 ≤ m.frm := by omega
              by_cases hC2 : rs.nodes ≤ m.frm
              · have HX := hid (show D = false by rw [HD.out, HA.out, HB3.out, show isNode rs.nodes m.frm = false by (unfold isNode; simp; omega)]; simp)
                have hdd : decide (m.frm < rs.nodes) = false := by rw [decide_eq_false_iff_not]; omega
                go_quiet (fail)
                go_wp2_with fail
                go_meet
                exact ⟨by rw [HX.out], _, rfl⟩
              · have hC3 : m.frm < rs.nodes := by omega
                have HC3 := hid (show isNode rs.nodes m.frm = true by (unfold isNode; simp; omega))
                obtain ⟨ga, hga⟩ : ∃ ga, grpOf rs.gs m.frm = ga := ⟨_, rfl⟩
                obtain ⟨gb, hgb⟩ : ∃ gb, grpOf rs.gs m.to_ = gb := ⟨_, rfl⟩
                have HGA := hid hga
                have HGB := hid hgb
                clear hga hgb
                by_cases hgg : ga = gb
                · have HX := hid (show D = false by rw [HD.out, HA.out, HB3.out, HC3.out, HGA.out, HGB.out, hgg]; simp)
                  subst hgg
                  go_quiet (first | (go_at_call_of 28 m.to_; exact Calls.quiet_of_same (rgroup_is _ _ _ _ _ _ hB0 b4 HRG.out hgl HGB.out)) | (go_at_call_of 28 m.frm; exact Calls.quiet_of_same (rgroup_is _ _ _ _ _ _ hC0 b4 HRG.out hgl HGA.out)))
                  go_wp2_with fail
                  go_meet
                  exact ⟨by rw [HX.out], _, rfl⟩
                · have HX := hid (show D = true by rw [HD.out, HA.out, HB3.out, HC3.out, HGA.out, HGB.out]; simp [hgg])
                  have hne : (ga == gb) = false := by rw [beq_eq_false_iff_ne]; exact hgg
                  go_quiet (first | (go_at_call_of 28 m.to_; exact Calls.quiet_of_same (rgroup_is _ _ _ _ _ _ hB0 b4 HRG.out hgl HGB.out)) | (go_at_call_of 28 m.frm; exact Calls.quiet_of_same (rgroup_is _ _ _ _ _ _ hC0 b4 HRG.out hgl HGA.out)))
                  go_wp2_with fail
                  go_meet
                  exact ⟨by rw [HX.out, bne, hne]; rfl, _, rfl⟩
    case rest =>
      obtain ⟨rfl, q, rfl⟩ := hcut
      have hds : drops rs.st m = D := by
        rw [HD.out, HT.out]
        rfl
      have HDS := hid hds
      clear hds
      cases D with
      | true =>
        go_wp2_with fail
        refine bodyPost_ret (results_none rfl _ _ _) rfl ?_
        refine ⟨rfl, S, fun x hx => Or.inl hx, HKA.out.drewN _, ?_⟩
        unfold rsendS
        rw [HDS.out, if_pos rfl]
        exact HR2.out.kb (Kb.ofDrewN (fun _ => False) W2 _) (fun _ _ x => x)
      | false =>
        go_wp2_with fail
        obtain ⟨hnow1, hnow2⟩ := hnow
        rw [← HT.out] at hdel
        have hmS : ¬ S mb := fun hx => by have := HSL.out mb hx; omega
        have htS : ¬ S tb := fun hx => by have := HSL.out tb hx; have := HTB.out; omega
        obtain ⟨cp, evi⟩ : ∃ cp : Int, (if t.copies < 1 then (1 : Int) else t.copies) = cp := ⟨_, rfl⟩
        have evo : (if (8 : Int) < cp then (8 : Int) else cp) = (copiesOf t : Int) := by
          rw [← evi]
          unfold copiesOf
          split <;> split at * <;> omega
        have hc8 := copiesOf_le t
        obtain ⟨dl, hdl⟩ : ∃ dl, dl = max t.delay 0 := ⟨_, rfl⟩
        have ev0 : (if t.delay < 0 then (0 : Int) else t.delay) = dl := by rw [hdl]; split <;> omega
        have hd0 : 0 ≤ dl := by omega
        have hd1 : dl ≤ 1000000000000 := by omega
        have HDL := hid hdl
        have HMS := hid hmS
        have HTS := hid htS
        generalize hcT : copiesOf t = cT at *
        have HCT := hid hcT
        clear hcT
        clear hdl hmS htS t0 t1 t2 m0 m1 m2 b0 b4 hlb hlm hlt HB HS HW HG HM HTT KW HSS HWS HGS HRG HD hbt hmt
        go_loopw [8] (fun jv wr => ∃ (j : Nat) (S' : Nat → Prop), jv = .int .i64 j ∧ j ≤ cT ∧ Hid (∀ x, S' x → S x ∨ W2.heap.size ≤ x) ∧ Kb S W2 wr ∧
            Hid (RefIs S' b wr { rs with sent := rs.sent + 1, l := rs.l ++ batchF m (now + dl) rs.sent j })) (fun jv _ => cT - (intOf jv).toNat)
        case atStart => exact ⟨0, S, rfl, Nat.zero_le _, fun x hx => Or.inl hx, Kb.ofDrewN _ _ _, by (show RefIs _ _ _ _); simp only [batchF, List.append_nil]; exact HR2.out.kb (Kb.ofDrewN (fun _ => False) W2 _) (fun _ _ x => x)⟩
        case round =>
          obtain ⟨j, S', rfl, hj, HS', hkb, hnet⟩ := hrel
          have T3 := hkb.heap HT2.out HTS.out
          have t1 := cell_of_heap T3 1
          have t2 := cell_of_heap T3 2
          have M3 := hkb.heap HM2.out HMS.out
          have m0 := cell_of_heap M3 0
          have m1 := cell_of_heap M3 1
          have m2 := cell_of_heap M3 2
          simp only [Tr.cells, List.getElem?_toArray, List.getElem?_cons_succ, List.getElem?_cons_zero] at t1 t2 m0 m1 m2
          have hlt3 : tb < wr.heap.size := block_lt T3
          have hlm3 : mb < wr.heap.size := block_lt M3
          clear T3 M3
          by_cases hlt : j < cT
          · obtain ⟨sv', lv', gv', hb, hsb', hs, hss', hw, hws', hg, hgs'⟩ := hnet.out
            have b2 := cell_of_heap hb 2
            have bf2 := frozen_of_heap hb 2
            simp only [List.getElem?_toArray, List.getElem?_cons_succ, List.getElem?_cons_zero] at b2
            have hbl3 : b < wr.heap.size := block_lt hb
            have hne3 : lv'.ownBlock ≠ some b := fun e => own_ne hw e hb (by decide) rfl
            have hL : (rs.l ++ batchF m (now + dl) rs.sent j).length = rs.l.length + j := by rw [List.length_append, batchF_length]
            have hw2 : wr.ownsRow 0 78 5 lv' (rs.l.length + j) (flat (rs.l ++ batchF m (now + dl) rs.sent j)) := by rw [← hL]; exact hw
            obtain ⟨la, lc, rfl⟩ := own_slice hw2
            have ev1 : IntKind.i64.wrap (now + dl) = now + dl := IntWalk.i64_in _ (by omega)
            have ev2 : IntKind.i64.wrap (now + dl + (j : Int)) = now + dl + (j : Int) := IntWalk.i64_in _ (by omega)
            have HW2 := hid hw2
            have hend : ∀ w' g c, ((Value.slice la (rs.l.length + j) lc).ownBlock = some g ∨ wr.heap.size ≤ g) → Kb (fun k => k = b ∨ (Value.slice la (rs.l.length + j) lc).ownBlock = some k) wr w' →
                w'.heap[b]? = some (.cells ((#[.int .i64 rs.nodes, sv', .slice la (rs.l.length + j) lc, .int .i64 ((rs.sent + 1 : Nat)), gv'] : Array Value).setIfInBounds 2 (.slice (some ⟨g, 0, none⟩) (rs.l.length + j + 1) c)) 67 (0, 0)) →
                w'.ownsRow 0 78 5 (.slice (some ⟨g, 0, none⟩) (rs.l.length + j + 1) c) (rs.l.length + j + 1) (flat (rs.l ++ batchF m (now + dl) rs.sent j) ++ (mkPc m (now + dl + j) rs.sent).cells) →
                Kb S W2 w' ∧ ∃ S', (∀ x, S' x → S x ∨ W2.heap.size ≤ x) ∧ RefIs S' b w' { rs with sent := rs.sent + 1, l := rs.l ++ batchF m (now + dl) rs.sent (j + 1) } := by
              intro w' g c hg1 hk1 hB1 hR1
              have hsz := hkb.size
              refine ⟨hkb.trans' hk1 ?_, fun x => S' x ∨ wr.heap.size ≤ x, ?_, sv', .slice (some ⟨g, 0, none⟩) (rs.l.length + j + 1) c, gv', hB1, Or.inl hsb', ?_, fun g e => Or.inl (hss' g e), ?_, ?_, ?_, fun g e => Or.inl (hgs' g e)⟩
              · rintro i hi (rfl | e)
                · exact hsb
                · rcases HS'.out i (hws' i e) with h | h
                  · exact h
                  · omega
              · rintro x (hx | hx)
                · exact HS'.out x hx
                · exact Or.inr (by omega)
              · refine hs.kb hk1 ?_
                rintro g' e (rfl | e2)
                · exact own_ne hs e hb (by decide) rfl
                · obtain ⟨cur, hc⟩ := own_heap hw e2
                  exact own_ne hs e hc (by decide) rfl
              · have e : rs.l ++ batchF m (now + dl) rs.sent (j + 1) = (rs.l ++ batchF m (now + dl) rs.sent j) ++ [mkPc m (now + dl + j) rs.sent] := by simp [batchF]
                show w'.ownsRow 0 78 5 _ (rs.l ++ batchF m (now + dl) rs.sent (j + 1)).length (flat (rs.l ++ batchF m (now + dl) rs.sent (j + 1)))
                rw [e, List.length_append, hL, flat_append]
                exact hR1
              · intro g' e
                simp only [Value.ownBlock, Option.some.injEq] at e
                subst e
                rcases hg1 with h | h
                · exact Or.inl (hws' g h)
                · exact Or.inr h
              · refine hg.kb hk1 ?_
                rintro g' e (rfl | e2)
                · exact own_ne hg e hb (by decide) rfl
                · obtain ⟨cur, hc⟩ := own_heap hw e2
                  exact own_ne hg e hc (by decide) rfl
            have HE := hid hend
            have HBB := hid hb
            have HX := hid hnet.out
            have HNE := hid hne3
            have HLL := hid hL
            clear hb hs hss' hw hws' hg hgs' hnet hw2 hne3 hL hend
            go_wp2_with fail
            go_region_law
              ((refine step_append_lies _ (by rfl) _ _ _ (by rfl) 0 78 i0 _ 5 48 Try.underlying65 hi0 hz0 hz1 hz2 rfl (by omega) (.slice la (rs.l.length + j) lc) (rs.l.length + j) (flat (rs.l ++ batchF m (now + dl) rs.sent j)) (by rfl) ((HW2.out.alloc _).drew)
                  ⟨wr.heap.size, 0, none⟩ 1 1 (mkPc m (now + dl + j) rs.sent).cells (by rfl) (by rfl) (World.news_of_block (cs := (mkPc m (now + dl + j) rs.sent).cells.toArray) (t := 78) (fr := (0, 0)) (heap_alloc_new _ _)) (by simp [Pc.cells, Value.oneCell'])
                  (by omega) (by unfold maxLen; omega) (by omega) (by omega) (wr.heap.size + 1) (by simp) ?_; intro gg cap w1 hown1 hgrow hat hlt; have k0 : w1.cell? ⟨b, 2, none⟩ = some _ := hgrow.cell (by simp [World.cell?_alloc_past, hbl3, b2]; rfl) (Ne.symm HNE.out); have k1 : w1.frozen? ⟨b, 2, none⟩ = false := (by rw [hgrow.frozen_far _ (by simp; omega) (Ne.symm HNE.out)]; simp [World.frozen?_alloc_past, hbl3, bf2])))
            all_goals
              have hgb : b ≠ gg := by
                rintro rfl
                rcases hat with hat | hat
                · exact HNE.out hat
                · omega
              have hfin := HE.out (w1.setCell ⟨b, 2, none⟩ (.slice (some ⟨gg, 0, none⟩) (rs.l.length + j + 1) cap)) gg cap
                (by rcases hat with hat | hat; exact Or.inl hat; right; omega)
                (by
                  refine Kb.setCell ?_ (Or.inl (Or.inl rfl)) _
                  exact (((Kb.refl _ wr).alloc _).drew).grown hgrow (fun k hk => Or.inl (Or.inr hk)))
                (by
                  refine heap_setCell_same w1 b 2 _ 67 _ ?_
                  rw [hgrow.block b (by simp; omega) (Ne.symm HNE.out)]
                  show (wr.alloc _).heap[b]? = _
                  rw [Below.heap_alloc _ _ _ hbl3]
                  exact HBB.out)
                (by
                  refine Kb.row (S := fun k => k = b) (w := w1) ?_ hown1 ?_
                  · exact Kb.setCell (S := fun k => k = b) (Kb.refl _ _) (Or.inl rfl) _
                  · intro k hk
                    simp only [Value.ownBlock, Option.some.injEq] at hk
                    omega)
              have HFI := hid hfin
              clear hfin hgrow hat hown1
              go_wp2_with fail
              go_roundw
              case rel =>
                obtain ⟨r1, S'', r2, r3⟩ := HFI.out
                exact ⟨j + 1, S'', by go_num, by omega, r2, r1, r3⟩
              case measure => simp [intOf]; omega
          · have hjc : j = cT := by omega
            subst hjc
            go_wp2_with fail
            go_end0
            refine ⟨rfl, S', ?_, HKA.out.trans hkb, ?_⟩
            · intro x hx
              rcases HS'.out x hx with h | h
              · exact Or.inl h
              · exact Or.inr (Nat.le_trans HKA.out.size h)
            · unfold rsendS
              rw [HDS.out, if_neg (by decide), ← HT.out, HCT.out, ← HDL.out]
              exact hnet.out
end Go.Proofs.Ytibnpddmohjeoaa
