/- The walks of the reference's Of and number. -/
import Derived.Test.YtkhjgfbiemllmaaDoorRb
import Derived.Deep.RegionHeld3
import Derived.Deep.DrawnRows
namespace Go.Proofs.YtkhjgfbiemllmaaDoor
open Go.RowKit

theorem natS_zero : natS 0 = ByteArray.empty := rfl
theorem sv_mk (l : List UInt8) : sv ⟨l.toArray⟩ = nv l := by unfold sv; simp
set_option maxHeartbeats 2000000 in
set_option maxRecDepth 10000 in
theorem Of_nonpos (n : Int) (w : World) (hn : n ≤ 0) :
    Calls Tryd.prog 39 #[.int .i64 n] w fun e w' => e = .returned (.string (natS 0)) ∧ Kb (fun _ => False) w w' := by
  have hcv := conv_row (RowB.nil w w.heap.size) 47 Tryd.underlying47
  go_enter Tryd.func39, Tryd.ntmps39
  go_wp2_with fail
  refine wp_loop_rounds 1 ?_
  rw [rounds_succ]
  go_wp2_with fail
  refine (canon_is _ (natS 0) _ (by decide) rfl).mono ?_
  rintro e w' ⟨rfl, rfl⟩
  go_wp2_with fail
  go_ret
  exact ⟨rfl, Kb.refl _ _⟩
set_option maxHeartbeats 4000000 in
theorem Of_pos (n : Nat) (w : World) (h0 : 0 < n) (hn : n < 9223372036854775808) :
    Calls Tryd.prog 39 #[.int .i64 n] w fun e w' => e = .returned (.string (natS n)) ∧ Kb (fun _ => False) w w' := by
  go_enter Tryd.func39, Tryd.ntmps39
  go_wp2_with fail
  go_loopw [3, 4] (fun ov kv wr => ∃ (j : Nat) (l : List UInt8) (oa : Option Addr) (oc : Nat), ov = .slice oa l.length oc ∧ kv = .int .i64 (56 - 8 * (j : Int)) ∧ j ≤ 8 ∧ Hid (l.length = j) ∧ RowB wr w.heap.size (.slice oa l.length oc) l ∧
      Kb (fun _ => False) w wr ∧ Hid (nv l = n / 256 ^ (8 - j))) (fun _ kv _ => (intOf kv + 8).toNat)
  case atStart => exact ⟨0, [], none, 0, rfl, by simp, by omega, rfl, RowB.nil _ _, Kb.refl _ _, by (show nv [] = n / 256 ^ 8); rw [Nat.div_eq_of_lt (by omega)]; rfl⟩
  case round =>
    obtain ⟨j, l, oa, oc, rfl, rfl, hj, hl, hrow, hkb, hv⟩ := hrel
    by_cases hlt : j < 8
    · obtain ⟨b, hb⟩ : ∃ b : UInt8, b.toNat = n / 256 ^ (7 - j) % 256 := ⟨UInt8.ofNat (n / 256 ^ (7 - j)), by rw [UInt8.toNat_ofNat']⟩
      have hv2 : nv (l ++ [b]) = n / 256 ^ (7 - j) := by
        rw [nv_snoc, hb, hv.out, show 8 - j = (7 - j) + 1 by omega, Nat.pow_succ, ← Nat.div_div_eq_div_mul]
        omega
      have HB := hid hb
      have HV2 := hid hv2
      clear hb hv2
      have hc : j = 0 ∨ j = 1 ∨ j = 2 ∨ j = 3 ∨ j = 4 ∨ j = 5 ∨ j = 6 ∨ j = 7 := by omega
      rcases hc with rfl | rfl | rfl | rfl | rfl | rfl | rfl | rfl
      all_goals
        go_wp2_with (at_builtin; go_must (refine app_u81 rfl _ _ rfl w.heap.size _ l b (by rfl) (by rfl) hrow (by have h := HB.out; simp at h; omega) (by have := hl.out; omega) hkb.size ?_); intro oa' oc' w2 hrow2 hkb2)
        have hll := hl.out
        refine ⟨⟨(l ++ [b]).length, l ++ [b], oa', oc', by rw [List.length_append, List.length_singleton], ?_, ?_, rfl, ?_, hkb.trans' hkb2 (fun i hi hx => by omega), ?_⟩, by simp [intOf]⟩
        · rw [List.length_append, List.length_singleton, hll]; rfl
        · rw [List.length_append, List.length_singleton, hll]; omega
        · rw [List.length_append, List.length_singleton]
          exact hrow2
        · show nv (l ++ [b]) = n / 256 ^ (8 - (l ++ [b]).length)
          rw [List.length_append, List.length_singleton, hll]
          exact HV2.out
    · have hj8 : j = 8 := by omega
      subst hj8
      have hcv := conv_row hrow 47 Tryd.underlying47
      have hn2 : natS (sv ⟨l.toArray⟩) = natS n := by rw [sv_mk, hv.out]; simp
      have HN2 := hid hn2
      have HK := hid hkb
      clear hn2 hkb
      go_wp2_with fail
      refine (canon_is _ (natS n) _ (by show l.length ≤ _; have := hl.out; omega) HN2.out).mono ?_
      rintro e w' ⟨rfl, rfl⟩
      go_wp2_with fail
      go_ret
      exact ⟨rfl, HK.out⟩
theorem Of_any (n : Int) (w : World) (hn : n ≤ 9223372036854775807) :
    Calls Tryd.prog 39 #[.int .i64 n] w fun e w' => e = .returned (.string (natS n.toNat)) ∧ Kb (fun _ => False) w w' := by
  by_cases h : n ≤ 0
  · rw [show n.toNat = 0 by omega]
    exact Of_nonpos n w h
  · obtain ⟨m, rfl⟩ := Int.eq_ofNat_of_zero_le (show 0 ≤ n by omega)
    rw [Int.toNat_natCast]
    exact Of_pos m w (by omega) (by omega)

theorem Kb.drew_left {S : Nat → Prop} {w w' : World} {o : Obj} (k : Kb S (w.alloc o).drew w') : Kb S w w' :=
  ((Kb.refl S w).alloc o).trans ⟨k.os, k.tape, k.output, k.size, k.block⟩
/-- append of bytes, at a step of a region that draws its order. -/
theorem step_app_u8 {ops : Array Oper} {o : Oper} {a : Act} {K : Act → World → Prop} {Q : Exit → Act → World → Prop} {E : Prop} (W : World) (hgd : o.guard = none) (s x : Operand)
    (ho : o.op = .call { callee := .builtin .append, args := #[s, x], argTypes := #[83, 83] }) (B : Nat) (v : Value) (l : List UInt8) (news : List UInt8) (q m c : Nat) (hs : a.eval s = v)
    (hx : a.eval x = .slice (some ⟨q, 0, none⟩) m c) (hm : news.length = m) (hown : RowB W B v l) (hq : W.heap[q]? = some (.cells (bV news).toArray 5 (0, 0))) (hl : l.length + m ≤ 1000000000) (hB : B ≤ W.heap.size)
    (h : ∀ a' c' w', RowB w' B (.slice a' (l.length + m) c') (l ++ news) → Kb (fun x => B ≤ x) W w' → K (a.put o.dst (.slice a' (l.length + m) c')) w') :
    if Region.wanted o (yielded ops a.tmps) = true then Oper.wp Tryd.prog o a W K Q else E := by
  have hw : Region.wanted o (yielded ops a.tmps) = true := by simp [Region.wanted, hgd]
  rw [if_pos hw]
  obtain ⟨i0, hi0, hz0, hz1, hz2⟩ := info_parts infoU8
  obtain ⟨v', w', hrun, h2, h3, _, _⟩ := run_append_own_at (P := Tryd.prog) W B 83 o.type 5 i0 _ 1 1 Tryd.underlying83 hi0 hz0 hz1 hz2 rfl (by omega) v l.length (bV l) hown ⟨q, 0, none⟩ m c (bV news) (by rw [bV_len, hm, Nat.mul_one])
    (World.news_of_block hq) (bV_one _) (by unfold maxLen; omega) (by omega) hB
  obtain ⟨a', c', rfl⟩ := own_slice h2
  unfold Oper.wp execOp
  simp only [ho, resolve, invoke, builtin, Sem.run_bind, Sem.run_pure, Result.andThen_ok, List.map_toArray, List.map_cons, List.map_nil, hs, hx, hrun]
  refine h a' c' w' ?_ (grown_kb h3 (fun k e => (World.ownsRow.lt hown k e).1))
  unfold RowB
  rw [bV_append, List.length_append, hm]
  exact h2
theorem dv_drop (l : List Nat) (m : Nat) (h : m < l.length) : dv P24 (l.drop m) = l[m]! + P24 * dv P24 (l.drop (m + 1)) := by
  rw [List.drop_eq_getElem_cons h, dv, List.getElem!_eq_getElem?_getD, List.getElem?_eq_getElem h]
  rfl
theorem nv_three (L : List UInt8) (b0 b1 b2 : UInt8) (d : Nat) (h0 : b0.toNat = d / 65536) (h1 : b1.toNat = d / 256 % 256) (h2 : b2.toNat = d % 256) : nv (L ++ [b0, b1, b2]) = nv L * 16777216 + d := by
  have : L ++ [b0, b1, b2] = ((L ++ [b0]) ++ [b1]) ++ [b2] := by simp
  rw [this, nv_snoc, nv_snoc, nv_snoc, h0, h1, h2]
  omega
attribute [local go_sem ↓] Go.wp_at_zero Go.wp_at_succ
set_option maxHeartbeats 4000000 in
set_option maxRecDepth 100000 in
theorem number_any (v : Value) (l : List Nat) (B : Nat) (w : World) (hrow : RowD w B v l) (hd : ∀ d ∈ l, d < 16777216) (hl : l.length ≤ 100000000) :
    Calls Tryd.prog 65 #[v] w fun e w' => e = .returned (.string (natS (dv P24 l))) ∧ Kb (fun _ => False) w w' := by
  obtain ⟨a, c, rfl⟩ := hrow.slice
  have HD := hid hd
  have HR := hid hrow
  clear hd hrow
  go_enter Tryd.func65, Tryd.ntmps65
  go_wp2_with fail
  go_loopw [3, 4] (fun ov kv wr => ∃ (j : Nat) (L : List UInt8) (oa : Option Addr) (oc : Nat), ov = .slice oa L.length oc ∧ kv = .int .i64 ((j : Int) - 1) ∧ j ≤ l.length ∧ Hid (L.length = 3 * (l.length - j)) ∧ RowB wr w.heap.size (.slice oa L.length oc) L ∧
      Kb (fun _ => False) w wr ∧ Hid (nv L = dv P24 (l.drop j))) (fun _ kv _ => (intOf kv + 1).toNat)
  case atStart => exact ⟨l.length, [], none, 0, rfl, rfl, Nat.le_refl _, by (show [].length = _); simp, RowB.nil _ _, Kb.refl _ _, by (show nv [] = _); simp [nv, dv]⟩
  case round =>
    obtain ⟨j, L, oa, oc, rfl, rfl, hj, hLl, hrow, hkb, hv⟩ := hrel
    cases j with
    | zero =>
      have hcv := conv_row hrow 47 Tryd.underlying47
      have hn2 : natS (sv ⟨L.toArray⟩) = natS (dv P24 l) := by rw [sv_mk, hv.out]; simp
      have HN2 := hid hn2
      have HK := hid hkb
      have hLb : L.length ≤ 300000000 := by have := hLl.out; omega
      clear hn2 hkb
      go_wp2_with fail
      refine (canon_is _ (natS (dv P24 l)) _ (by show L.length ≤ _; omega) HN2.out).mono ?_
      rintro e w' ⟨rfl, rfl⟩
      go_wp2_with fail
      go_ret
      exact ⟨rfl, HK.out⟩
    | succ m =>
      rw [show ((m + 1 : Nat) : Int) - 1 = (m : Int) by omega]
      obtain ⟨g, rfl, _, _, hg, hc⟩ := HR.out.form (by omega)
      have c0 := hkb.cell (hc m (by omega)) (by simp)
      have hdm : l[m]! < 16777216 := HD.out _ (by rw [List.getElem!_eq_getElem?_getD, List.getElem?_eq_getElem (by omega : m < l.length)]; exact List.getElem_mem _)
      have hdr := dv_drop l m (by omega)
      generalize l[m]! = d at *
      obtain ⟨b0, h0⟩ : ∃ b : UInt8, b.toNat = d / 65536 := ⟨UInt8.ofNat (d / 65536), by rw [UInt8.toNat_ofNat']; omega⟩
      obtain ⟨b1, h1⟩ : ∃ b : UInt8, b.toNat = d / 256 % 256 := ⟨UInt8.ofNat (d / 256), by rw [UInt8.toNat_ofNat']⟩
      obtain ⟨b2, h2⟩ : ∃ b : UInt8, b.toNat = d % 256 := ⟨UInt8.ofNat d, by rw [UInt8.toNat_ofNat']⟩
      have hv2 := nv_three L b0 b1 b2 d h0 h1 h2
      have HV2 := hid hv2
      have HDR := hid hdr
      have HB0 := hid h0
      have HB1 := hid h1
      have HB2 := hid h2
      have hm0 : (0 : Int) ≤ (m : Int) := Int.natCast_nonneg _
      have hm1 : (m : Int) < (l.length : Int) := by omega
      have hgl : g < wr.heap.size := World.block_lt_of_cell? wr _ c0
      clear hv2 hdr h0 h1 h2 hc
      have hbv : (bV [b0, b1, b2]).toArray = #[.int .u8 (IntKind.u8.wrap ((d : Int) / 65536)), .int .u8 (IntKind.u8.wrap ((d : Int) / 256)), .int .u8 (IntKind.u8.wrap (d : Int))] := by
        have e0 : IntKind.u8.wrap ((d : Int) / 65536) = ((b0.toNat : Nat) : Int) := by rw [IntKind.wrap_u8, HB0.out]; omega
        have e1 : IntKind.u8.wrap ((d : Int) / 256) = ((b1.toNat : Nat) : Int) := by rw [IntKind.wrap_u8, HB1.out]; omega
        have e2 : IntKind.u8.wrap (d : Int) = ((b2.toNat : Nat) : Int) := by rw [IntKind.wrap_u8, HB2.out]; omega
        rw [e0, e1, e2]; rfl
      have HBV := hid hbv
      have hLb : L.length ≤ 300000000 := by have := hLl.out; omega
      have hz := hkb.size
      clear hbv
      go_wp2_with fail
      go_region_held3 (fun w' => w'.cell? ⟨g, m, none⟩ = some (.int .i64 d)) (first | go_keep | (exact hkb2.cell (by assumption) (by show ¬ w.heap.size ≤ g; omega)))
        ((refine step_app_u8 _ (by rfl) _ _ (by rfl) w.heap.size (.slice oa L.length oc) L [b0, b1, b2] wr.heap.size 3 3 (by rfl) (by rfl) (by rfl) ((World.ownsRow.alloc hrow _).drew) (by rw [HBV.out]; exact heap_alloc_new wr _) (by omega) (by simp; omega) ?_; intro oa' oc' w2 hrow2 hkb2))
      have hkb2' := hkb2.drew_left
      go_wp2_with fail
      refine ⟨⟨m, L ++ [b0, b1, b2], oa', oc', by rw [List.length_append]; rfl, by rfl, by omega, ?_, ?_, hkb.trans' hkb2' (fun i hi hx => by omega), ?_⟩, by simp [intOf]⟩
      · show (L ++ [b0, b1, b2]).length = _
        rw [List.length_append]
        have := hLl.out
        show L.length + 3 = _
        omega
      · rw [List.length_append]
        exact hrow2
      · show nv (L ++ [b0, b1, b2]) = _
        rw [HV2.out, HDR.out, ← hv.out]
        unfold P24
        omega
end Go.Proofs.YtkhjgfbiemllmaaDoor
