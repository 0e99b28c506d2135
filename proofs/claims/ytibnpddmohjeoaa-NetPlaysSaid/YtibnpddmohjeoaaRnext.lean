/- The walk of the reference's Next. -/
import Derived.Test.YtibnpddmohjeoaaRpart
import Derived.Deep.DeepCutAuto
namespace Go.Proofs.Ytibnpddmohjeoaa
open Go.RowKit

/-- The index that the reference takes: of the first k. -/
def bestN (l : List Pc) : Nat → Nat
  | 0 => 0
  | k + 1 => if lessP l[k + 1]! l[bestN l k]! then k + 1 else bestN l k
theorem bestN_le (l : List Pc) : ∀ k, bestN l k ≤ k := by
  intro k
  induction k with
  | zero => exact Nat.le_refl _
  | succ k ih =>
    rw [bestN]
    split <;> omega
theorem bestN_least (l : List Pc) : ∀ k i, i ≤ k → leP l[bestN l k]! l[i]! := by
  intro k
  induction k with
  | zero =>
    intro i hi
    obtain rfl : i = 0 := by omega
    exact leP_refl _
  | succ k ih =>
    intro i hi
    rw [bestN]
    split
    · rename_i h
      by_cases e : i = k + 1
      · subst e; exact leP_refl _
      · exact leP_trans (leP_of_less h) (ih i (by omega))
    · rename_i h
      by_cases e : i = k + 1
      · subst e
        unfold leP
        simpa using h
      · exact ih i (by omega)
theorem flat_one (l : List Pc) : ∀ u ∈ flat l, u.oneCell' = true := by
  intro u hu
  simp only [flat, List.mem_flatMap] at hu
  obtain ⟨t, _, ht⟩ := hu
  simp only [Pc.cells, List.mem_cons, List.not_mem_nil, or_false] at ht
  rcases ht with rfl | rfl | rfl | rfl | rfl <;> rfl
theorem own_new {v1 : Value} {wr : World} {o : Obj} {i : Nat} (h : v1.ownBlock = (Value.slice none 0 0).ownBlock ∨ v1.ownBlock = some (wr.alloc o).heap.size) (hi : i < wr.heap.size) (e : v1.ownBlock = some i) : False := by
  rcases h with h | h
  · rw [h] at e
    cases e
  · rw [h] at e
    simp only [Option.some.injEq, World.size_alloc] at e
    omega
def rnextS (rs : RS) : RS := { rs with l := rs.l.take (bestN rs.l (rs.l.length - 1)) ++ rs.l.drop (bestN rs.l (rs.l.length - 1) + 1) }

theorem rnext_fin (S : Nat → Prop) (b : Nat) (rs : RS) (l' : List Pc) (w wr w2 : World) (sv lv gv : Value) (a2 : Option Addr) (n2 c2 : Nat)
    (hb : w.heap[b]? = some (.cells #[.int .i64 rs.nodes, sv, lv, .int .i64 rs.sent, gv] 67 (0, 0))) (hsb : S b) (hs : RowT w sv rs.script) (hss : ∀ g, sv.ownBlock = some g → S g)
    (hg : RowI w gv rs.gs) (hgs : ∀ g, gv.ownBlock = some g → S g)
    (k1 : Kb (fun _ => False) w wr) (k2 : Kb (fun _ => False) wr w2) (ho : w2.ownsRow 0 78 5 (.slice a2 n2 c2) l'.length (flat l')) (ha : ∀ k, (Value.slice a2 n2 c2).ownBlock = some k → wr.heap.size ≤ k) :
    Kb (fun x => x = b) wr (w2.setCell ⟨b, 2, none⟩ (.slice a2 n2 c2)) ∧ RefIs (fun x => S x ∨ wr.heap.size ≤ x) b (w2.setCell ⟨b, 2, none⟩ (.slice a2 n2 c2)) { rs with l := l' } := by
  have kk := k1.trans k2
  have hB2 := kk.heap hb (by simp)
  have ks : Kb (fun x => x = b) w2 (w2.setCell ⟨b, 2, none⟩ (.slice a2 n2 c2)) := Kb.setCell (S := fun x => x = b) (Kb.refl _ _) (Or.inl rfl) _
  have hz := k1.size
  have hbl := block_lt hb
  refine ⟨(k2.mono (fun _ _ x => x.elim)).trans ks, sv, .slice a2 n2 c2, gv, ?_, Or.inl hsb, ?_, fun g e => Or.inl (hss g e), ?_, fun g e => Or.inr (ha g e), ?_, fun g e => Or.inl (hgs g e)⟩
  · rw [heap_setCell_same w2 b 2 _ 67 _ hB2]; rfl
  · have h1 := hs.kb kk (fun _ _ => by simp)
    exact h1.kb ks (fun g e r => own_ne h1 e hB2 (by decide) r.symm)
  · exact ks.row ho (fun g e r => by have := ha g e; omega)
  · have h1 := hg.kb kk (fun _ _ => by simp)
    exact h1.kb ks (fun g e r => own_ne h1 e hB2 (by decide) r.symm)

set_option maxHeartbeats 2000000 in
theorem rnext_empty (S : Nat → Prop) (b : Nat) (rs : RS) (w : World) (h : RefIs S b w rs) (h0 : rs.l = []) :
    Calls Try.prog 20 #[.pointer (some ⟨b, 0, none⟩)] w fun e w' => e = .returned noMsg ∧ Kb (fun _ => False) w w' := by
  obtain ⟨sv, lv, gv, hb, hsb, hs, hss, hw, hws, hg, hgs⟩ := h
  obtain ⟨a, c, rfl⟩ := own_slice hw
  have h2 := cell_of_heap hb 2
  have hbl := block_lt hb
  simp only [List.getElem?_toArray, List.getElem?_cons_succ, List.getElem?_cons_zero] at h2
  rw [h0] at h2
  clear hb hs hss hw hws hg hgs
  go_enter Try.func20, Try.ntmps20
  go_wp2_with fail
  exact bodyPost_ret (v := noMsg) (by simp [results, Try.results20, go_sem, noMsg]; rfl) rfl ⟨rfl, (Kb.refl _ _).alloc _⟩

set_option maxHeartbeats 4000000 in
set_option maxRecDepth 100000 in
theorem rnext_core (S : Nat → Prop) (b n : Nat) (rs : RS) (w : World) (h : RefIs S b w rs) (h0 : rs.l.length = n + 1) (hn : n + 1 ≤ 1000000) (p : Pc) (hp : rs.l[bestN rs.l n]! = p) (hSlt : ∀ x, S x → x < w.heap.size) :
    Calls Try.prog 20 #[.pointer (some ⟨b, 0, none⟩)] w fun e w' => e = .returned (.tuple #[.agg #[.int .i64 p.frm, .int .i64 p.to_, .string p.text], .int .i64 p.tm, .bool true]) ∧
      ∃ S' : Nat → Prop, (∀ x, S' x → S x ∨ w.heap.size ≤ x) ∧ Kb S w w' ∧ RefIs S' b w' (rnextS rs) := by
  obtain ⟨i0, hi0, hz0, hz1, hz2⟩ := info_parts info78'
  obtain ⟨sv, lv, gv, hb, hsb, hs, hss, hw, hws, hg, hgs⟩ := h
  obtain ⟨g, lc, rfl, hgl, hlc, hcell⟩ : ∃ g c, lv = .slice (some ⟨g, 0, none⟩) (n + 1) c ∧ g < w.heap.size ∧ n + 1 ≤ c ∧ ∀ i f, i < n + 1 → f < 5 → w.cell? ⟨g, i * 5 + f, none⟩ = (rs.l[i]!).cells[f]? := by
    obtain ⟨g, c', e, hc'⟩ : ∃ g c', lv = .slice (some ⟨g, 0, none⟩) rs.l.length c' ∧ rs.l.length ≤ c' := by
      rcases hw.2 with ⟨_, hx⟩ | ⟨g, cap, cur, hv, _, _, hc, _⟩
      · omega
      · exact ⟨g, cap, hv, hc⟩
    rw [h0] at e
    refine ⟨g, c', e, (World.ownsRow.lt hw g (by rw [e]; rfl)).2, by omega, fun i f hi hf => ?_⟩
    subst e
    rw [h0] at hw
    rw [World.ownsRow.cellAt hw (i * 5 + f) (by omega), flat_get _ i f (by omega) hf]
  have h2 := cell_of_heap hb 2
  have hf2 := frozen_of_heap hb 2
  have hbl := block_lt hb
  simp only [List.getElem?_toArray, List.getElem?_cons_succ, List.getElem?_cons_zero] at h2
  have HB := hid hb
  have HS := hid hs
  have HSS := hid hss
  have HW := hid hw
  have HWS := hid hws
  have HG := hid hg
  have HGS := hid hgs
  have HC := hid hcell
  have HN := hid h0
  have HP := hid hp
  have HSL := hid hSlt
  clear hb hs hss hw hws hg hgs hcell h0 hp hSlt
  go_enter Try.func20, Try.ntmps20
  go_wp2_with fail
  generalize hW : World.alloc _ _ = W
  have kW : Kb (fun _ => False) w W := by subst hW; exact (Kb.refl _ _).alloc _
  have hbW : b < W.heap.size := by have := kW.size; omega
  have hgW : g < W.heap.size := by have := kW.size; omega
  have d2 := kW.cell h2 (by simp)
  have hfW : W.frozen? ⟨b, 2, none⟩ = false := (kW.frozen hbl (by simp)).trans hf2
  have KW := hid kW
  have B2 : Hid (W.heap[w.heap.size]? = some (.cells #[.int .i64 0, .int .i64 0, .string .empty] 31 (0, 0))) := by subst hW; exact heap_alloc_new w _
  clear hW kW h2 hf2
  go_loopw [5, 6] (fun bv kv wr => ∃ k : Nat, bv = .int .i64 (bestN rs.l k) ∧ kv = .int .i64 ((k : Int) + 1) ∧ k ≤ n ∧ Hid (Kb (fun _ => False) W wr)) (fun _ kv _ => n + 1 - (intOf kv).toNat)
  case atStart => exact ⟨0, rfl, rfl, by omega, Kb.refl _ _⟩
  case round =>
    obtain ⟨k, rfl, rfl, hk, hkb⟩ := hrel
    have e2 := hkb.out.cell d2 (by simp)
    have hb3 : b < wr.heap.size := by have := hkb.out.size; omega
    have hg3 : g < wr.heap.size := by have := hkb.out.size; omega
    have hbk := bestN_le rs.l k
    by_cases hlt : k < n
    · have c3 := hkb.out.cell (v := .int .i64 (rs.l[k + 1]!).tm) (KW.out.cell (HC.out (k + 1) 3 (by omega) (by omega)) (by simp)) (by simp)
      have c4 := hkb.out.cell (v := .int .i64 (rs.l[k + 1]!).sent) (KW.out.cell (HC.out (k + 1) 4 (by omega) (by omega)) (by simp)) (by simp)
      have q3 := hkb.out.cell (v := .int .i64 (rs.l[bestN rs.l k]!).tm) (KW.out.cell (HC.out (bestN rs.l k) 3 (by omega) (by omega)) (by simp)) (by simp)
      have q4 := hkb.out.cell (v := .int .i64 (rs.l[bestN rs.l k]!).sent) (KW.out.cell (HC.out (bestN rs.l k) 4 (by omega) (by omega)) (by simp)) (by simp)
      have hnx : bestN rs.l (k + 1) = if lessP rs.l[k + 1]! rs.l[bestN rs.l k]! then k + 1 else bestN rs.l k := rfl
      have HNX := hid hnx
      clear hnx
      generalize bestN rs.l k = bi at *
      have hless : lessP rs.l[k + 1]! rs.l[bi]! = decide (rs.l[k + 1]!.tm < rs.l[bi]!.tm ∨ rs.l[k + 1]!.tm = rs.l[bi]!.tm ∧ rs.l[k + 1]!.sent < rs.l[bi]!.sent) := rfl
      have HLE := hid hless
      clear hless
      generalize rs.l[k + 1]! = x at *
      generalize rs.l[bi]! = y at *
      by_cases h1 : x.tm < y.tm
      · have HB1 := hid (show bestN rs.l (k + 1) = k + 1 by rw [HNX.out, HLE.out, decide_eq_true (Or.inl h1)]; rfl)
        go_wp2_with fail
        go_quiet (fail)
        go_wp2_with fail
        first
          | exact ⟨⟨k + 1, by rw [HB1.out]; go_num, by go_num, by omega, hkb.out.drewN _⟩, by simp [intOf]; omega⟩
          | (go_roundw; (case rel => exact ⟨k + 1, by rw [HB1.out]; go_num, by go_num, by omega, hkb.out.drewN _⟩); (case measure => simp [intOf]; omega))
      · by_cases h2 : x.tm = y.tm
        · rw [h2] at c3
          by_cases h3 : x.sent < y.sent
          · have HB1 := hid (show bestN rs.l (k + 1) = k + 1 by rw [HNX.out, HLE.out, decide_eq_true (Or.inr ⟨h2, h3⟩)]; rfl)
            clear h1 h2
            go_wp2_with fail
            go_quiet (fail)
            go_wp2_with fail
            first
              | exact ⟨⟨k + 1, by rw [HB1.out]; go_num, by go_num, by omega, hkb.out.drewN _⟩, by simp [intOf]; omega⟩
              | (go_roundw; (case rel => exact ⟨k + 1, by rw [HB1.out]; go_num, by go_num, by omega, hkb.out.drewN _⟩); (case measure => simp [intOf]; omega))
          · have HB1 := hid (show bestN rs.l (k + 1) = bi by rw [HNX.out, HLE.out, decide_eq_false (by omega)]; rfl)
            have h4 : y.sent ≤ x.sent := by omega
            clear h1 h2 h3
            go_wp2_with fail
            go_quiet (fail)
            go_wp2_with fail
            first
              | exact ⟨⟨k + 1, by rw [HB1.out], by go_num, by omega, hkb.out.drewN _⟩, by simp [intOf]; omega⟩
              | (go_roundw; (case rel => exact ⟨k + 1, by rw [HB1.out], by go_num, by omega, hkb.out.drewN _⟩); (case measure => simp [intOf]; omega))
        · have HB1 := hid (show bestN rs.l (k + 1) = bi by rw [HNX.out, HLE.out, decide_eq_false (by omega)]; rfl)
          have h4 : decide (x.tm < y.tm) = false := by rw [decide_eq_false_iff_not]; exact h1
          have h5 : (x.tm == y.tm) = false := by rw [beq_eq_false_iff_ne]; exact h2
          have h6 : decide (x.tm = y.tm) = false := by rw [decide_eq_false_iff_not]; exact h2
          clear h1 h2
          go_wp2_with fail
          go_quiet (fail)
          go_wp2_with fail
          first
            | exact ⟨⟨k + 1, by rw [HB1.out], by go_num, by omega, hkb.out.drewN _⟩, by simp [intOf]; omega⟩
            | (go_roundw; (case rel => exact ⟨k + 1, by rw [HB1.out], by go_num, by omega, hkb.out.drewN _⟩); (case measure => simp [intOf]; omega))
    · have hkn : k = n := by omega
      subst hkn
      have hbi := HP.out
      obtain ⟨bi, hbi2⟩ : ∃ bi, bi = bestN rs.l k := ⟨_, rfl⟩
      rw [← hbi2] at hbk hbi ⊢
      have c0 := hkb.out.cell (v := .int .i64 p.frm) (KW.out.cell (by have h := HC.out bi 0 (by omega) (by omega); rw [hbi] at h; exact h) (by simp)) (by simp)
      have c1 := hkb.out.cell (v := .int .i64 p.to_) (KW.out.cell (by have h := HC.out bi 1 (by omega) (by omega); rw [hbi] at h; exact h) (by simp)) (by simp)
      have c2 := hkb.out.cell (v := .string p.text) (KW.out.cell (by have h := HC.out bi 2 (by omega) (by omega); rw [hbi] at h; exact h) (by simp)) (by simp)
      have c3 := hkb.out.cell (v := .int .i64 p.tm) (KW.out.cell (by have h := HC.out bi 3 (by omega) (by omega); rw [hbi] at h; exact h) (by simp)) (by simp)
      have c4 := hkb.out.cell (v := .int .i64 p.sent) (KW.out.cell (by have h := HC.out bi 4 (by omega) (by omega); rw [hbi] at h; exact h) (by simp)) (by simp)
      have HBI := hid hbi2
      clear hbi hbi2
      simp only [Nat.add_zero] at c0
      have hnews1 : ∀ o j u, (flat (rs.l.take bi))[j]? = some u → (wr.alloc o).cell? ((⟨g, 0, none⟩ : Addr).add j) = some u := by
        intro o j u hu
        have hj : j < bi * 5 := by
          have h := (List.getElem?_eq_some_iff.1 hu).1
          rw [flat_length, List.length_take] at h
          omega
        have h1 : j / 5 * 5 + j % 5 = j := by omega
        rw [add_none', World.cell?_alloc_lt _ _ _ hg3]
        have h2 := HC.out (j / 5) (j % 5) (by omega) (by omega)
        rw [h1] at h2
        have h3 := flat_get (rs.l.take bi) (j / 5) (j % 5) (by rw [List.length_take, HN.out]; omega) (by omega)
        rw [h1, hu] at h3
        have h4 : (rs.l.take bi)[j / 5]! = rs.l[j / 5]! := by
          have : j / 5 < bi := by omega
          simp [List.getElem!_eq_getElem?_getD, this]
        rw [h4] at h3
        rw [Nat.zero_add]
        exact hkb.out.cell (KW.out.cell (h2.trans h3.symm) (by simp)) (by simp)
      have HN1 := hid hnews1
      clear hnews1
      have hfin : ∀ w2 a2 n2 c2, Kb (fun _ => False) wr w2 → w2.ownsRow 0 78 5 (.slice a2 n2 c2) (rnextS rs).l.length (flat (rnextS rs).l) → (∀ k, (Value.slice a2 n2 c2).ownBlock = some k → wr.heap.size ≤ k) →
          Kb (fun x => x = b) wr (w2.setCell ⟨b, 2, none⟩ (.slice a2 n2 c2)) ∧ RefIs (fun x => S x ∨ wr.heap.size ≤ x) b (w2.setCell ⟨b, 2, none⟩ (.slice a2 n2 c2)) (rnextS rs) :=
        fun w2 a2 n2 c2 k2 ho ha => rnext_fin S b rs (rnextS rs).l w wr w2 sv _ gv a2 n2 c2 HB.out hsb HS.out HSS.out HG.out HGS.out (KW.out.trans hkb.out) k2 ho ha
      have HF := hid hfin
      have hll : (rnextS rs).l = rs.l.take bi ++ rs.l.drop (bi + 1) := by unfold rnextS; rw [HN.out, Nat.add_sub_cancel, ← HBI.out]
      have HLL := hid hll
      have B3 := hkb.out.heap B2.out (by simp)
      have HB3 := hid B3
      clear hfin hll B3
      go_upto_region 12 with (at_builtin; go_must (refine wpList_append_own_at _ rfl _ _ _ rfl 0 78 i0 _ 5 48 Try.underlying65 hi0 hz0 hz1 hz2 rfl (by omega) (.slice none 0 0) 0 [] (by rfl) (World.ownsRow_nil ..) ⟨g, 0, none⟩ bi _ (flat (rs.l.take bi)) (by rfl) (by rw [flat_length, List.length_take, HN.out]; omega) (HN1.out _) (flat_one _) (by unfold maxLen; omega) (by omega) (Nat.zero_le _) ?_); intro v1 w1 hown1 hgrow1 _ hat1)
      have k1 : Kb (fun _ => False) wr w1 := ((Kb.refl _ _).alloc _).grown hgrow1 (fun k e => by cases e)
      have B7 : w1.heap[wr.heap.size]? = some (.cells #[.int .i64 p.frm, .int .i64 p.to_, .string p.text, .int .i64 p.tm, .int .i64 p.sent] 78 (0, 0)) := (hgrow1.block _ (by simp) (fun e => by cases e)).trans (heap_alloc_new wr _)
      have x2 := k1.cell e2 (by simp)
      have xf : w1.frozen? ⟨b, 2, none⟩ = false := (k1.frozen hb3 (by simp)).trans ((hkb.out.frozen hbW (by simp)).trans hfW)
      have xb : b < w1.heap.size := Nat.lt_of_lt_of_le hb3 k1.size
      have zk1 := k1.size
      have hv1 : ∀ x, v1.ownBlock = some x → x = wr.heap.size + 1 := by
        intro x e
        rcases hat1 with h | h
        · rw [h] at e; cases e
        · rw [h] at e; simp only [Option.some.injEq, World.size_alloc] at e; exact e.symm
      have K1 := hid k1
      have HO1 := hid hown1
      have HV1 := hid hv1
      have HB7 := hid B7
      have HXF := hid xf
      clear k1 hown1 hat1 hgrow1 hv1 B7 xf
      go_cut [7] (fun v wx => v = .pointer (some ⟨wr.heap.size, 0, none⟩) ∧ Hid (Kb (fun x => x = b) wr wx) ∧ Hid (RefIs (fun x => S x ∨ wr.heap.size ≤ x) b wx (rnextS rs)) ∧ Hid (wx.heap[wr.heap.size]? = some (.cells #[.int .i64 p.frm, .int .i64 p.to_, .string p.text, .int .i64 p.tm, .int .i64 p.sent] 78 (0, 0))))
      case first =>
        by_cases hcap : lc = bi + 1
        · have hbk2 : bi = k := by omega
          have HN2 : Hid (∀ j u, (flat (rs.l.drop (bi + 1)))[j]? = some u → w1.cell? ((⟨g, 0, none⟩ : Addr).add j) = some u) := by
            intro j u hu
            rw [List.drop_of_length_le (by rw [HN.out]; omega)] at hu
            simp [flat] at hu
          subst hbk2
          subst hcap
          go_wp2_with (at_builtin; go_must (refine wpList_append_own_at _ rfl _ _ _ rfl 0 78 i0 _ 5 48 Try.underlying65 hi0 hz0 hz1 hz2 rfl (by omega) v1 (0 + bi) ([] ++ flat (rs.l.take bi)) (by rfl) HO1.out ⟨g, 0, none⟩ 0 _ (flat (rs.l.drop (bi + 1))) (by rfl) (by rw [flat_length, List.length_drop, HN.out]; omega) HN2.out (flat_one _) (by unfold maxLen; omega) (by omega) (Nat.zero_le _) ?_); intro v2 w2 hown2 hgrow2 _ hat2; rw [show 0 + bi + 0 = bi from by omega] at hown2; obtain ⟨a2, c2, rfl⟩ := own_slice hown2; have k2 : Kb (fun _ => False) wr w2 := K1.out.trans' (T := fun x => v1.ownBlock = some x) ((Kb.refl _ _).grown hgrow2 (fun k e => Or.inl e)) (fun i hi e => by have := HV1.out i e; omega); have y2 := k2.cell e2 (by simp); have yf : w2.frozen? ⟨b, 2, none⟩ = false := (k2.frozen hb3 (by simp)).trans ((hkb.out.frozen hbW (by simp)).trans hfW); have yb : b < w2.heap.size := Nat.lt_of_lt_of_le hb3 k2.size; have B8 := (hgrow2.block wr.heap.size (block_lt HB7.out) (fun e => by have := HV1.out _ e.symm; omega)).trans HB7.out; have K2 := hid k2; have HO2 := hid hown2; have HA2 := hid hat2; have HB8 := hid B8; clear k2 hown2 hat2 hgrow2 B8)
          go_meet
          have hx := HF.out w2 a2 bi c2 K2.out (by
            have h := HO2.out
            rw [List.nil_append, ← flat_append] at h
            rw [HLL.out]
            have e : (rs.l.take bi ++ rs.l.drop (bi + 1)).length = bi := by
              rw [List.length_append, List.length_take, List.length_drop, HN.out]
              omega
            rw [e]
            exact h) (by
            intro x e
            rcases HA2.out with h | h
            · have := HV1.out x (h.symm.trans e); omega
            · have e2 := h.symm.trans e
              simp only [Option.some.injEq] at e2
              omega)
          exact ⟨rfl, hx.1, hx.2, (by rw [Below.heap_setCell _ _ _ _ (by show wr.heap.size ≠ b; omega)]; exact HB8.out)⟩
        · have HN2 : Hid (∀ j u, (flat (rs.l.drop (bi + 1)))[j]? = some u → w1.cell? ((⟨g, (bi + 1) * 5, none⟩ : Addr).add j) = some u) := by
            intro j u hu
            have hj : j < (k - bi) * 5 := by
              have h := (List.getElem?_eq_some_iff.1 hu).1
              rw [flat_length, List.length_drop, HN.out] at h
              omega
            have h1 : (bi + 1) * 5 + j = (bi + 1 + j / 5) * 5 + j % 5 := by omega
            have h5 : j / 5 * 5 + j % 5 = j := by omega
            rw [add_none', h1]
            have h2 := HC.out (bi + 1 + j / 5) (j % 5) (by omega) (by omega)
            have h3 := flat_get (rs.l.drop (bi + 1)) (j / 5) (j % 5) (by rw [List.length_drop, HN.out]; omega) (by omega)
            rw [h5, hu] at h3
            have h4 : (rs.l.drop (bi + 1))[j / 5]! = rs.l[bi + 1 + j / 5]! := by simp [List.getElem!_eq_getElem?_getD]
            rw [h4] at h3
            exact K1.out.cell (hkb.out.cell (KW.out.cell (h2.trans h3.symm) (by simp)) (by simp)) (by simp)
          go_wp2_with (at_builtin; go_must (refine wpList_append_own_at _ rfl _ _ _ rfl 0 78 i0 _ 5 48 Try.underlying65 hi0 hz0 hz1 hz2 rfl (by omega) v1 (0 + bi) ([] ++ flat (rs.l.take bi)) (by rfl) HO1.out ⟨g, (bi + 1) * 5, none⟩ (k - bi) (lc - (bi + 1)) (flat (rs.l.drop (bi + 1))) (by rfl) (by rw [flat_length, List.length_drop, HN.out]; omega) HN2.out (flat_one _) (by unfold maxLen; omega) (by omega) (Nat.zero_le _) ?_); intro v2 w2 hown2 hgrow2 _ hat2; rw [show 0 + bi + (k - bi) = k from by omega] at hown2; obtain ⟨a2, c2, rfl⟩ := own_slice hown2; have k2 : Kb (fun _ => False) wr w2 := K1.out.trans' (T := fun x => v1.ownBlock = some x) ((Kb.refl _ _).grown hgrow2 (fun k e => Or.inl e)) (fun i hi e => by have := HV1.out i e; omega); have y2 := k2.cell e2 (by simp); have yf : w2.frozen? ⟨b, 2, none⟩ = false := (k2.frozen hb3 (by simp)).trans ((hkb.out.frozen hbW (by simp)).trans hfW); have yb : b < w2.heap.size := Nat.lt_of_lt_of_le hb3 k2.size; have B8 := (hgrow2.block wr.heap.size (block_lt HB7.out) (fun e => by have := HV1.out _ e.symm; omega)).trans HB7.out; have K2 := hid k2; have HO2 := hid hown2; have HA2 := hid hat2; have HB8 := hid B8; clear k2 hown2 hat2 hgrow2 B8)
          go_meet
          have hx := HF.out w2 a2 k c2 K2.out (by
            have h := HO2.out
            rw [List.nil_append, ← flat_append] at h
            rw [HLL.out]
            have e : (rs.l.take bi ++ rs.l.drop (bi + 1)).length = k := by
              rw [List.length_append, List.length_take, List.length_drop, HN.out]
              omega
            rw [e]
            exact h) (by
            intro x e
            rcases HA2.out with h | h
            · have := HV1.out x (h.symm.trans e); omega
            · have e2 := h.symm.trans e
              simp only [Option.some.injEq] at e2
              omega)
          exact ⟨rfl, hx.1, hx.2, (by rw [Below.heap_setCell _ _ _ _ (by show wr.heap.size ≠ b; omega)]; exact HB8.out)⟩
      case rest =>
        obtain ⟨rfl, KX, RX, BX⟩ := hcut
        have hpq : w.heap.size < wr.heap.size := block_lt HB3.out
        have PX := KX.out.heap HB3.out (by omega)
        have zx := KX.out.size
        obtain ⟨pb, hpb⟩ : ∃ pb, pb = w.heap.size := ⟨_, rfl⟩
        obtain ⟨qb, hqb⟩ : ∃ qb, qb = wr.heap.size := ⟨_, rfl⟩
        rw [← hpb] at PX
        have BX' := BX.out
        rw [← hqb] at BX'
        rw [← hpb, ← hqb]
        have hne : pb ≠ qb := by omega
        have hneb : pb ≠ b := by omega
        have hpl : pb < wc.heap.size := block_lt PX
        have hql : qb < wc.heap.size := block_lt BX'
        have p0 := cell_of_heap PX 0
        have p1 := cell_of_heap PX 1
        have p2 := cell_of_heap PX 2
        have f0 := frozen_of_heap PX 0
        have f1 := frozen_of_heap PX 1
        have f2 := frozen_of_heap PX 2
        have q0 := cell_of_heap BX' 0
        have q1 := cell_of_heap BX' 1
        have q2 := cell_of_heap BX' 2
        have q3 := cell_of_heap BX' 3
        simp only [List.getElem?_toArray, List.getElem?_cons_succ, List.getElem?_cons_zero] at p0 p1 p2 q0 q1 q2 q3
        have HPB := hid hpb
        have HQB := hid hqb
        have HPX := hid PX
        clear hpb hqb PX BX' BX HB3
        go_wp2_with fail
        go_region
        all_goals
          go_wp2
          refine bodyPost_ret (v := .tuple #[.agg #[.int .i64 p.frm, .int .i64 p.to_, .string p.text], .int .i64 p.tm, .bool true]) (by simp [results, Try.results20, go_sem, p0, p1, p2]) rfl ?_
          generalize hwf : World.drew _ = wf
          have k3 : Kb (fun k => k = pb) wc wf := by
            subst hwf
            refine Kb.drew ?_
            iterate 3 (refine Kb.setCell (S := fun k => k = pb) ?_ (Or.inl rfl) _)
            exact Kb.refl _ _
          clear hwf
          have kA : Kb (fun x => x = b ∨ x = pb) w wf := (((KW.out.trans hkb.out).mono (fun _ _ x => x.elim)).trans (KX.out.mono (fun _ _ e => Or.inl e))).trans (k3.mono (fun _ _ e => Or.inr e))
          refine ⟨rfl, _, ?_, kA.mono ?_, RX.out.kb k3 ?_⟩
          · rintro x (hx | hx)
            · exact Or.inl hx
            · right; omega
          · rintro x hx (rfl | rfl)
            · exact hsb
            · have := HPB.out; omega
          · rintro x (hx | hx) rfl
            · have := HSL.out _ hx; have := HPB.out; omega
            · have := HPB.out; omega

theorem rnext_at (S : Nat → Prop) (b n : Nat) (rs : RS) (w : World) (h : RefIs S b w rs) (h0 : rs.l.length = n + 1) (hn : n + 1 ≤ 1000000) (p : Pc) (hp : rs.l[bestN rs.l n]! = p) :
    Calls Try.prog 20 #[.pointer (some ⟨b, 0, none⟩)] w fun e w' => e = .returned (.tuple #[.agg #[.int .i64 p.frm, .int .i64 p.to_, .string p.text], .int .i64 p.tm, .bool true]) ∧
      ∃ S' : Nat → Prop, (∀ x, S' x → S x ∨ w.heap.size ≤ x) ∧ Kb S w w' ∧ RefIs S' b w' (rnextS rs) := by
  refine (rnext_core (fun x => S x ∧ x < w.heap.size) b n rs w h.old h0 hn p hp (fun x hx => hx.2)).mono ?_
  rintro e w' ⟨he, S', g1, g2, g3⟩
  exact ⟨he, S', fun x hx => (g1 x hx).imp (fun y => y.1) id, g2.mono (fun x _ hx => hx.1), g3⟩
end Go.Proofs.Ytibnpddmohjeoaa
