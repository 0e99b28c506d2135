/- The walk of Send. -/
import Derived.Test.YtibnpddmohjeoaaRep
import Derived.Deep.DeepCutAuto
import Derived.Deep.RegionWith
import Derived.Deep.RegionHeld3
import Derived.Deep.DrawnRows
namespace Go.Proofs.Ytibnpddmohjeoaa
open Go.RowKit

structure Msg where
  frm : Int
  to_ : Int
  text : ByteArray
instance : Inhabited Msg := ⟨⟨0, 0, .empty⟩⟩
def Msg.cells (m : Msg) : List Value := [.int .i64 m.frm, .int .i64 m.to_, .string m.text]
/-- Whether a message is not delivered at all. -/
def drops (st : St) (m : Msg) : Bool := (trOf st.script st.sent).lost || !isNode st.nodes m.to_ || (isNode st.nodes m.frm && (st.grp m.frm != st.grp m.to_))
def mkPc (m : Msg) (t : Int) (s : Nat) : Pc := ⟨m.frm, m.to_, m.text, t, s⟩
def pushK (l : List Pc) (m : Msg) (t : Int) (s : Nat) : Nat → List Pc
  | 0 => l
  | k + 1 => pushL (pushK l m t s k) (mkPc m (t + k) s)
def copiesOf (t : Tr) : Nat := (min (max t.copies 1) 8).toNat
def sendS (st : St) (now : Int) (m : Msg) : St :=
  if drops st m then { st with sent := st.sent + 1 }
  else { st with sent := st.sent + 1, waiting := pushK st.waiting m (now + max (trOf st.script st.sent).delay 0) st.sent (copiesOf (trOf st.script st.sent)) }
theorem pushL_length (l : List Pc) (p : Pc) : (pushL l p).length = l.length + 1 := by simp [pushL, upL_length]
theorem pushK_length (l : List Pc) (m : Msg) (t : Int) (s : Nat) : ∀ k, (pushK l m t s k).length = l.length + k := by
  intro k
  induction k with
  | zero => rfl
  | succ k ih => rw [pushK, pushL_length, ih]; omega
theorem copiesOf_le (t : Tr) : copiesOf t ≤ 8 := by unfold copiesOf; omega

theorem GrpIs.look {w : World} {S : Nat → Prop} {gv : Value} {f : Int → Int} (h : GrpIs w S gv f) {k : Int} (hk : InI k) : (Instr.lookup 54 gv (.int .i64 k) false).run Try.prog w = .ok (.int .i64 (f k)) w := by
  rcases h with ⟨rfl, h⟩ | ⟨mb, n, rfl, _, hm⟩
  · rw [h k]; exact look_nil w k
  · exact hm.look hk

theorem node_is (b : Nat) (k nodes : Int) (t : Bool) (w : World) (h0 : w.cell? ⟨b, 0, none⟩ = some (.int .i64 nodes)) (ht : isNode nodes k = t) :
    Calls Try.prog 25 #[.pointer (some ⟨b, 0, none⟩), .int .i64 k] w fun e w' => e = .returned (.bool t) ∧ w' = w := by
  subst ht
  exact node_any b k nodes w h0

attribute [local go_sem ↓] Go.wp_at_zero Go.wp_at_succ
set_option maxHeartbeats 2000000 in
theorem send_core (S : Nat → Prop) (b : Nat) (st : St) (now : Int) (m : Msg) (w : World) (hSlt : ∀ x, S x → x < w.heap.size) (h : NetIs S b w st) (hsc : st.script.length ≤ 1000000) (hse : st.sent ≤ 1000000) (hwl : st.waiting.length ≤ 900000)
    (hbd : drops st m = false → (-1000000000000 ≤ now ∧ now ≤ 1000000000000) ∧ (trOf st.script st.sent).delay ≤ 1000000000000) (hnd : st.nodes ≤ 9223372036854775807) :
    Calls Try.prog 15 #[.pointer (some ⟨b, 0, none⟩), .int .i64 now, .agg m.cells.toArray] w fun e w' => e = .returned (.tuple #[]) ∧ ∃ S' : Nat → Prop, (∀ x, S' x → S x ∨ w.heap.size ≤ x) ∧ Kb S w w' ∧ NetIs S' b w' (sendS st now m) := by
  obtain ⟨t, ht⟩ : ∃ t, t = trOf st.script st.sent := ⟨_, rfl⟩
  have HBD := hid hbd
  clear hbd
  have hS : sendS st now m = if (t.lost || !isNode st.nodes m.to_ || (isNode st.nodes m.frm && (st.grp m.frm != st.grp m.to_))) = true then { st with sent := st.sent + 1 }
      else { st with sent := st.sent + 1, waiting := pushK st.waiting m (now + max t.delay 0) st.sent (copiesOf t) } := by rw [ht]; rfl
  have HS := hid hS
  have HT := hid ht
  clear hS ht
  obtain ⟨sv, wv, gv, hb, hsb, hs, hss, hw, hws, hg⟩ := h
  have hbl := block_lt hb
  have hb0 := cell_of_heap hb 0
  have hb1 := cell_of_heap hb 1
  have hb3 := cell_of_heap hb 3
  have hb4 := cell_of_heap hb 4
  have hfz := frozen_of_heap hb 3
  simp only [List.getElem?_toArray, List.getElem?_cons_succ, List.getElem?_cons_zero] at hb0 hb1 hb3 hb4
  have hmc : m.cells = [.int .i64 m.frm, .int .i64 m.to_, .string m.text] := rfl
  rw [hmc]
  have HB := hid hb
  clear hmc hb
  go_enter Try.func15, Try.ntmps15
  go_wp2_with fail
  generalize hW : w.alloc _ = W
  have kW : Kb (fun _ => False) w W := by subst hW; exact (Kb.refl _ _).alloc _
  have sW : W.heap.size = w.heap.size + 1 := by subst hW; simp
  have bW : W.heap[w.heap.size]? = some (.cells #[.int .i64 m.frm, .int .i64 m.to_, .string m.text] 31 (0, 0)) := by subst hW; exact heap_alloc_new w _
  clear hW
  obtain ⟨mb, hmb⟩ : ∃ mb, mb = w.heap.size := ⟨_, rfl⟩
  rw [← hmb] at bW sW ⊢
  have HMB := hid hmb
  clear hmb hb0 hb1 hb3 hb4 hfz hbl
  have BW := hid bW
  have SW := hid sW
  clear bW sW
  have hb1 := cell_of_heap (kW.heap HB.out (by simp)) 1
  have hb3 := cell_of_heap (kW.heap HB.out (by simp)) 3
  simp only [List.getElem?_toArray, List.getElem?_cons_succ, List.getElem?_cons_zero] at hb1 hb3
  refine (trouble_any b st.sent sv st.script W (by omega) (by omega) hb1 hb3 (hs.kb kW (fun _ _ => by simp))).mono ?_
  rintro e w1 ⟨rfl, k1⟩
  have K1 := kW.trans k1
  have hb3 := cell_of_heap (K1.heap HB.out (by simp)) 3
  have hfz := frozen_of_heap (K1.heap HB.out (by simp)) 3
  have hbl := block_lt (K1.heap HB.out (by simp))
  simp only [List.getElem?_toArray, List.getElem?_cons_succ, List.getElem?_cons_zero] at hb1 hb3
  rw [← HT.out]
  simp only [Tr.cells]
  go_wp2_with fail
  generalize hW2 : World.alloc _ _ = W2
  have B2 : W2.heap[b]? = some (.cells #[.int .i64 st.nodes, sv, wv, .int .i64 ((st.sent + 1 : Nat)), gv] 56 (0, 0)) := by
    subst hW2
    rw [Below.heap_alloc _ _ _ (by simpa using hbl), heap_setCell_same w1 b 3 _ 56 _ (K1.heap HB.out (by simp))]
    rfl
  have T2 : W2.heap[w1.heap.size]? = some (.cells #[.bool t.lost, .int .i64 t.copies, .int .i64 t.delay] 44 (0, 0)) := by
    subst hW2
    have := heap_alloc_new (w1.setCell ⟨b, 3, none⟩ (.int .i64 ((st.sent : Int) + 1))) (.cells #[.bool t.lost, .int .i64 t.copies, .int .i64 t.delay] 44)
    simpa using this
  have k2 : Kb (fun k => k = b) w W2 := by
    subst hW2
    exact Kb.alloc (Kb.setCell (S := fun k => k = b) (K1.mono (fun _ _ x => x.elim)) (Or.inl rfl) _) _
  have kW2 : Kb (fun k => k = b) W W2 := by
    subst hW2
    exact Kb.alloc (Kb.setCell (S := fun k => k = b) (k1.mono (fun _ _ x => x.elim)) (Or.inl rfl) _) _
  have hne : mb ≠ b := by have := block_lt HB.out; have := HMB.out; omega
  have M2 := kW2.heap BW.out (by exact hne)
  have tb1 : w.heap.size ≤ w1.heap.size := K1.size
  generalize w1.heap.size = tb at *
  have hs2 : RowT W2 sv st.script := hs.kb k2 (fun g e r => (own_ne hs e HB.out (by decide)) r.symm)
  have hw2 := k2.row hw (fun g e r => (own_ne hw e HB.out (by decide)) r.symm)
  have hg2 : GrpIs W2 S gv st.grp := by
    rcases hg with h | ⟨mb, n, e, hs, hm⟩
    · exact Or.inl h
    · exact Or.inr ⟨mb, n, e, hs, hm.kb k2 (fun r => map_ne hm HB.out r.symm)⟩
  have N2 : NetIs S b W2 { st with sent := st.sent + 1 } := ⟨sv, wv, gv, B2, hsb, hs2, hss, hw2, hws, hg2⟩
  have t0 := cell_of_heap T2 0
  have t1 := cell_of_heap T2 1
  have t2 := cell_of_heap T2 2
  have m0 := cell_of_heap M2 0
  have m1 := cell_of_heap M2 1
  have m2 := cell_of_heap M2 2
  have b0 := cell_of_heap B2 0
  have b4 := cell_of_heap B2 4
  simp only [List.getElem?_toArray, List.getElem?_cons_succ, List.getElem?_cons_zero] at t0 t1 t2 m0 m1 m2 b0 b4
  have hlt : mb < W2.heap.size := block_lt M2
  have htt : tb < W2.heap.size := block_lt T2
  have hbt : b < W2.heap.size := block_lt B2
  have B2' := hid B2
  have T2' := hid T2
  have M2' := hid M2
  clear hW2 B2 T2 M2 hb1 hb3 hfz kW kW2 k1 K1 hs hw hg hs2 hw2 BW SW hbl
  have HN2 := hid N2
  have HG2 := hid hg2
  have HK2 := hid k2
  clear N2 hg2 k2
  obtain ⟨D, hD⟩ : ∃ D, D = (t.lost || !isNode st.nodes m.to_ || (isNode st.nodes m.frm && (st.grp m.frm != st.grp m.to_))) := ⟨_, rfl⟩
  have HD := hid hD
  clear hD
  go_cut [55] (fun c wx => c = .bool D ∧ ∃ q, wx = W2.drewN q)
  case first =>
    cases hA : t.lost with
    | true =>
      rw [hA] at t0
      have HA := hid hA
      clear hA
      go_quiet (fail)
      go_wp2_with fail
      go_meet
      exact ⟨by rw [HD.out, HA.out]; rfl, _, rfl⟩
    | false =>
      rw [hA] at t0
      have HA := hid hA
      clear hA
      cases hB : isNode st.nodes m.to_ with
      | false =>
        have HB3 := hid hB
        clear hB
        go_quiet ((go_at_call_of 25 m.to_; exact Calls.quiet_of_same (node_is _ _ _ _ _ b0 HB3.out)))
        go_wp2_with fail
        go_meet
        exact ⟨by rw [HD.out, HA.out, HB3.out]; rfl, _, rfl⟩
      | true =>
        have HB3 := hid hB
        clear hB
        cases hC : isNode st.nodes m.frm with
        | false =>
          have HC3 := hid hC
          clear hC
          go_quiet (first | (go_at_call_of 25 m.to_; exact Calls.quiet_of_same (node_is _ _ _ _ _ b0 HB3.out)) | (go_at_call_of 25 m.frm; exact Calls.quiet_of_same (node_is _ _ _ _ _ b0 HC3.out)))
          go_wp2_with fail
          go_meet
          exact ⟨by rw [HD.out, HA.out, HB3.out, HC3.out]; rfl, _, rfl⟩
        | true =>
          have HC3 := hid hC
          clear hC
          have hi : ∀ k, isNode st.nodes k = true → InI k := by
            intro k hk
            unfold isNode at hk
            simp only [Bool.and_eq_true, decide_eq_true_eq] at hk
            unfold InI
            omega
          have l1 : ∀ q, (Instr.lookup 54 gv (.int .i64 m.frm) false).run Try.prog (W2.drewN q) = .ok (.int .i64 (st.grp m.frm)) (W2.drewN q) :=
            fun q => (HG2.out.kb (Kb.ofDrewN (fun _ => False) W2 q) (fun _ _ x => x)).look (hi _ HC3.out)
          have l2 : ∀ q, (Instr.lookup 54 gv (.int .i64 m.to_) false).run Try.prog (W2.drewN q) = .ok (.int .i64 (st.grp m.to_)) (W2.drewN q) :=
            fun q => (HG2.out.kb (Kb.ofDrewN (fun _ => False) W2 q) (fun _ _ x => x)).look (hi _ HB3.out)
          go_quiet (first | (go_at_call_of 25 m.to_; exact Calls.quiet_of_same (node_is _ _ _ _ _ b0 HB3.out)) | (go_at_call_of 25 m.frm; exact Calls.quiet_of_same (node_is _ _ _ _ _ b0 HC3.out)))
          go_wp2_with fail
          go_meet
          exact ⟨by rw [HD.out, HA.out, HB3.out, HC3.out]; rfl, _, rfl⟩
  case rest =>
    obtain ⟨rfl, q, rfl⟩ := hcut
    rw [← HD.out] at HS
    cases D with
    | true =>
      go_wp2_with fail
      refine bodyPost_ret (results_none rfl _ _ _) rfl ?_
      refine ⟨rfl, S, fun x hx => Or.inl hx, (HK2.out.mono (fun x _ e => by subst e; exact hsb)).drewN _, ?_⟩
      rw [HS.out]
      exact HN2.out.kb (Kb.ofDrewN (fun _ => False) W2 _) (fun _ _ x => x)
    | false =>
      obtain ⟨hnow, hdel⟩ := HBD.out (by unfold drops; rw [← HT.out]; exact HD.out.symm)
      rw [← HT.out] at hdel
      go_upto_region 6 with fail
      go_cut [59, 60] (fun a b wx => a = .int .i64 (copiesOf t) ∧ b = .int .i64 0 ∧ wx = W2.drewN q)
      case first =>
        go_wp2_with fail
        all_goals go_meet
        all_goals (refine ⟨congrArg (Value.int .i64) ?_, rfl, rfl⟩; unfold copiesOf; omega)
      case rest =>
        obtain ⟨rfl, rfl, rfl⟩ := hcut
        go_wp2_with fail
        have hbo : ∀ x, S x → x < W2.heap.size := fun x hx => Nat.lt_of_lt_of_le (hSlt x hx) HK2.out.size
        have HBO := hid hbo
        have hmS : ¬ S mb := fun hx => by have := hSlt mb hx; have := HMB.out; omega
        have htS : ¬ S tb := fun hx => by have := hSlt tb hx; omega
        have HSL := hid hSlt
        clear hbo hSlt
        go_loopw [8, 60] (fun _ jv wr => ∃ (j : Nat) (S' : Nat → Prop), jv = .int .i64 j ∧ j ≤ copiesOf t ∧ Hid (∀ x, S' x → S x ∨ W2.heap.size ≤ x) ∧ Kb S W2 wr ∧
            NetIs S' b wr { st with sent := st.sent + 1, waiting := pushK st.waiting m (now + max t.delay 0) st.sent j }) (fun _ jv _ => copiesOf t - (intOf jv).toNat)
        case atStart => exact ⟨0, S, rfl, Nat.zero_le _, fun x hx => Or.inl hx, Kb.ofDrewN _ _ _, HN2.out.kb (Kb.ofDrewN (fun _ => False) W2 _) (fun _ _ x => x)⟩
        case round =>
          obtain ⟨j, S', rfl, hj, HS', hkb, hnet⟩ := hrel
          have hc8 := copiesOf_le t
          by_cases hlt : j < copiesOf t
          · obtain ⟨sv, wv, gv, hb, hsb', hs, hss', hw, hws', hg⟩ := hnet
            have HB3 := hid hb
            have M3 := hkb.heap M2'.out hmS
            have T3 := hkb.heap T2'.out htS
            have t2 := cell_of_heap T3 2
            have m0 := cell_of_heap M3 0
            have m1 := cell_of_heap M3 1
            have m2 := cell_of_heap M3 2
            simp only [List.getElem?_toArray, List.getElem?_cons_succ, List.getElem?_cons_zero] at t2 m0 m1 m2
            have hmo : ¬ (mb = b ∨ wv.ownBlock = some mb) := by
              rintro (e | e)
              · exact hne e
              · exact own_ne hw e M3 (by decide) rfl
            have hto : ¬ (tb = b ∨ wv.ownBlock = some tb) := by
              rintro (rfl | e)
              · exact htS hsb
              · exact own_ne hw e T3 (by decide) rfl
            have HMO := hid hmo
            have HTO := hid hto
            clear hb M3 T3 hmo hto
            have hne3 : wv.ownBlock ≠ some b := fun e => own_ne hw e HB3.out (by decide) rfl
            have hl := pushK_length st.waiting m (now + max t.delay 0) st.sent j
            have hn : (pushK st.waiting m (now + max t.delay 0) st.sent j).length + 1 ≤ 1000000 := by omega
            have hL := hid hl
            clear hl
            have hend : ∀ w' g c, (wv.ownBlock = some g ∨ wr.heap.size ≤ g) → Kb (fun k => k = b ∨ wv.ownBlock = some k) wr w' →
                w'.heap[b]? = some (.cells ((#[.int .i64 st.nodes, sv, wv, .int .i64 ((st.sent + 1 : Nat)), gv] : Array Value).setIfInBounds 2 (.slice (some ⟨g, 0, none⟩) (((pushK st.waiting m (now + max t.delay 0) st.sent j).length + 1 : Nat)) c)) 56 (0, 0)) →
                Row w' g c ((pushK st.waiting m (now + max t.delay 0) st.sent j).length + 1) (pushK st.waiting m (now + max t.delay 0) st.sent (j + 1)) →
                Kb S W2 w' ∧ ∃ S', (∀ x, S' x → S x ∨ W2.heap.size ≤ x) ∧ NetIs S' b w' { st with sent := st.sent + 1, waiting := pushK st.waiting m (now + max t.delay 0) st.sent (j + 1) } := by
              intro w' g c hg1 hk1 hB1 hR1
              have hsz := hkb.size
              refine ⟨hkb.trans' hk1 ?_, fun x => S' x ∨ wr.heap.size ≤ x, ?_, sv, .slice (some ⟨g, 0, none⟩) _ c, gv, hB1, Or.inl hsb', ?_, fun g e => Or.inl (hss' g e), ?_, ?_, ?_⟩
              · rintro i hi (rfl | e)
                · exact hsb
                · rcases HS'.out i (hws' i e) with h | h
                  · exact h
                  · omega
              · rintro x (hx | hx)
                · exact HS'.out x hx
                · exact Or.inr (by omega)
              · refine hs.kb hk1 ?_
                rintro g' e (rfl | e2)
                · exact own_ne hs e HB3.out (by decide) rfl
                · obtain ⟨cur, hc⟩ := own_heap hw e2
                  exact own_ne hs e hc (by decide) rfl
              · have e := hR1.len
                have hR2 : Row w' g c ((pushK st.waiting m (now + max t.delay 0) st.sent (j + 1)).length) (pushK st.waiting m (now + max t.delay 0) st.sent (j + 1)) := by rw [e]; exact hR1
                rw [e] at hR2 ⊢
                exact hR2
              · intro g' e
                simp only [Value.ownBlock, Option.some.injEq] at e
                subst e
                rcases hg1 with h | h
                · exact Or.inl (hws' g h)
                · exact Or.inr h
              · rcases hg with h | ⟨mb', n', e, hsm, hm'⟩
                · exact Or.inl h
                · refine Or.inr ⟨mb', n', e, Or.inl hsm, hm'.kb hk1 ?_⟩
                  rintro (rfl | e2)
                  · exact map_ne hm' HB3.out rfl
                  · obtain ⟨cur, hc⟩ := own_heap hw e2
                    exact map_ne hm' hc rfl
            have HE := hid hend
            clear hend
            have hmW : mb < wr.heap.size := World.block_lt_of_cell? wr _ m0
            obtain ⟨dl, hdl⟩ : ∃ dl, dl = max t.delay 0 := ⟨_, rfl⟩
            have ev0 : (if t.delay < 0 then (0 : Int) else t.delay) = dl := by rw [hdl]; split <;> omega
            have hd0 : 0 ≤ dl := by omega
            have hd1 : dl ≤ 1000000000000 := by omega
            have ev1 : IntKind.i64.wrap (now + dl) = now + dl := IntWalk.i64_in _ (by omega)
            have ev2 : IntKind.i64.wrap (now + dl + (j : Int)) = now + dl + (j : Int) := IntWalk.i64_in _ (by omega)
            have HDL := hid hdl
            clear hdl
            clear t0 t1 b0 b4 hne htt hbt hmS htS hd0 hd1 hsc hse hwl hnow hnd hdel hb3 tb1
            go_wp2_with fail
            go_region_held3 (fun wx => wx.cell? ⟨mb, 0, none⟩ = some (.int .i64 m.frm) ∧ wx.cell? ⟨mb, 1, none⟩ = some (.int .i64 m.to_) ∧ wx.cell? ⟨mb, 2, none⟩ = some (.string m.text) ∧ wx.cell? ⟨tb, 2, none⟩ = some (.int .i64 t.delay)) (go_keep)
              (first
              | (go_at_call 27; refine (queue_any b _).mono ?_; rintro e w' ⟨rfl, rfl⟩)
              | (go_at_call 26; refine (hpush_at b _ wv _ _ _ _ _ _ wr.drew hn hne3 _ 56 HB3.out rfl hw.drew).mono ?_; rintro e w' ⟨rfl, g, c, hg1, hbg1, hk1, hB1, hR1⟩; have HB1 := hid hB1; clear hB1;
                 have q0 := hk1.cell (p := ⟨mb, 0, none⟩) m0 HMO.out; have q1 := hk1.cell (p := ⟨mb, 1, none⟩) m1 HMO.out; have q2 := hk1.cell (p := ⟨mb, 2, none⟩) m2 HMO.out; have q3 := hk1.cell (p := ⟨tb, 2, none⟩) t2 HTO.out))
            all_goals
              have hk2 := ((Kb.refl (fun k => k = b ∨ wv.ownBlock = some k) wr).drew).trans hk1
              have hR2 : Row w' g c ((pushK st.waiting m (now + max t.delay 0) st.sent j).length + 1) (pushK st.waiting m (now + max t.delay 0) st.sent (j + 1)) := by
                rw [HDL.out] at hR1
                exact hR1
              have HR := hid (HE.out w' g c hg1 hk2 HB1.out hR2)
              clear hR1 hR2 hk1 hk2
              go_wp2_with fail
              go_roundw
              case rel =>
                obtain ⟨r1, S'', r2, r3⟩ := HR.out
                exact ⟨j + 1, S'', by go_num, by omega, r2, r1, r3⟩
              case measure => simp [intOf]; omega
          · have hjc : j = copiesOf t := by omega
            have HJ := hid hjc
            clear hjc
            go_wp2_with fail
            go_end0
            refine ⟨rfl, S', ?_, (HK2.out.mono (fun x _ e => by subst e; exact hsb)).trans hkb, ?_⟩
            · intro x hx
              rcases HS'.out x hx with h | h
              · exact Or.inl h
              · exact Or.inr (Nat.le_trans HK2.out.size h)
            · rw [HS.out, if_neg (by decide), ← HJ.out]
              exact hnet

/-- Send: what it does to a net. -/
theorem send_any (S : Nat → Prop) (b : Nat) (st : St) (now : Int) (m : Msg) (w : World) (h : NetIs S b w st) (hsc : st.script.length ≤ 1000000) (hse : st.sent ≤ 1000000) (hwl : st.waiting.length ≤ 900000)
    (hbd : drops st m = false → (-1000000000000 ≤ now ∧ now ≤ 1000000000000) ∧ (trOf st.script st.sent).delay ≤ 1000000000000) (hnd : st.nodes ≤ 9223372036854775807) :
    Calls Try.prog 15 #[.pointer (some ⟨b, 0, none⟩), .int .i64 now, .agg m.cells.toArray] w fun e w' => e = .returned (.tuple #[]) ∧ ∃ S' : Nat → Prop, (∀ x, S' x → S x ∨ w.heap.size ≤ x) ∧ Kb S w w' ∧ NetIs S' b w' (sendS st now m) := by
  refine (send_core (fun x => S x ∧ x < w.heap.size) b st now m w (fun x hx => hx.2) h.old hsc hse hwl hbd hnd).mono ?_
  rintro e w' ⟨he, S', h1, h2, h3⟩
  refine ⟨he, S', ?_, h2.mono (fun x _ hx => hx.1), h3⟩
  intro x hx
  rcases h1 x hx with h | h
  · exact Or.inl h.1
  · exact Or.inr h
end Go.Proofs.Ytibnpddmohjeoaa
