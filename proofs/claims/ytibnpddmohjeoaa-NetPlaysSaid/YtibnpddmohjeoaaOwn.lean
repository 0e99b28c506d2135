/- NetOwn: the walk. -/
import Derived.Test.YtibnpddmohjeoaaNone
namespace Go.Proofs.Ytibnpddmohjeoaa
open Go.RowKit

theorem sendS_script (st : St) (now : Int) (m : Msg) : (sendS st now m).script = st.script := by unfold sendS; split <;> rfl
theorem sendS_nodes (st : St) (now : Int) (m : Msg) : (sendS st now m).nodes = st.nodes := by unfold sendS; split <;> rfl
theorem sendS_sent (st : St) (now : Int) (m : Msg) : (sendS st now m).sent = st.sent + 1 := by unfold sendS; split <;> rfl
theorem sendS_grp (st : St) (now : Int) (m : Msg) : (sendS st now m).grp = st.grp := by unfold sendS; split <;> rfl
theorem sendS_len (st : St) (now : Int) (m : Msg) : (sendS st now m).waiting.length ≤ st.waiting.length + 8 := by
  unfold sendS
  split
  · simp
  · simp only [pushK_length]; have := copiesOf_le (trOf st.script st.sent); omega
theorem trOf_delay (l : List Tr) (k : Nat) : (trOf (scriptL l) k).delay ≤ 100000 := by
  unfold trOf
  split
  · simp
  · rename_i h
    have hlt : k % (scriptL l).length < (scriptL l).length := Nat.mod_lt _ (by omega)
    rw [List.getElem!_eq_getElem?_getD, List.getElem?_eq_getElem hlt]
    simp only [Option.getD_some]
    have hm : (scriptL l)[k % (scriptL l).length] ∈ scriptL l := List.getElem_mem hlt
    unfold scriptL at hm
    rw [List.mem_map] at hm
    obtain ⟨t, _, ht⟩ := hm
    unfold scriptL
    rw [← ht]
    have : t.delay.tmod 100000 < 100000 := Int.tmod_lt_of_pos _ (by omega)
    show t.delay.tmod 100000 ≤ 100000
    omega
def owS (l : List Tr) : Nat → St
  | 0 => newS 1 (scriptL l)
  | k + 1 => sendS (owS l k) k ⟨k, 0, ⟨#[]⟩⟩
theorem owS_ok (l : List Tr) : ∀ k, (owS l k).script = scriptL l ∧ (owS l k).sent = k ∧ (owS l k).nodes = 1 ∧ (owS l k).waiting.length ≤ 8 * k := by
  intro k
  induction k with
  | zero => exact ⟨rfl, rfl, rfl, by simp [owS, newS]⟩
  | succ k ih =>
    obtain ⟨h1, h2, h3, h4⟩ := ih
    have := sendS_len (owS l k) k ⟨k, 0, ⟨#[]⟩⟩
    exact ⟨by rw [owS, sendS_script, h1], by rw [owS, sendS_sent, h2], by rw [owS, sendS_nodes, h3], by rw [owS]; omega⟩
theorem pc_eta (p : Pc) : p = ⟨p.frm, p.to_, p.text, p.tm, p.sent⟩ := rfl
theorem nextS_len (st : St) : (nextS st).waiting.length = st.waiting.length - 1 := by
  unfold nextS
  simp only [List.length_take, popL_length]
  omega

/-- 'append([]Trouble{}, s...)', as the law has it. -/
theorem RowT.slice {w : World} {v : Value} {l : List Tr} (h : RowT w v l) : v = .slice none 0 0 ∧ l = [] ∨ ∃ g c, v = .slice (some ⟨g, 0, none⟩) l.length c ∧ g < w.heap.size := by
  rcases h.2 with ⟨rfl, h0⟩ | ⟨g, c, cur, rfl, _⟩
  · exact Or.inl ⟨rfl, List.eq_nil_of_length_eq_zero h0⟩
  · exact Or.inr ⟨g, c, rfl, (World.ownsRow.lt h g rfl).2⟩

theorem flatT_set (l : List Tr) : ∀ (i : Nat) (p : Tr) (_ : i < l.length), flatT (l.set i p) = ((((flatT l).set (i * 3) (.bool p.lost)).set (i * 3 + 1) (.int .i64 p.copies)).set (i * 3 + 2) (.int .i64 p.delay)) := by
  induction l with
  | nil => intro i p h; simp at h
  | cons q l ih =>
    intro i p hi
    cases i with
    | zero => simp [flatT_cons, Tr.cells]
    | succ i =>
      rw [List.set_cons_succ, flatT_cons, flatT_cons, ih i p (by simpa using hi)]
      have e0 : (i + 1) * 3 = q.cells.length + i * 3 := by simp [Tr.cells]; omega
      have key : ∀ (A : List Value) (B : List Value) (k : Nat) (v : Value), (A ++ B).set (A.length + k) v = A ++ B.set k v := by
        intro A B k v
        rw [List.set_append_right _ _ (by omega)]
        congr 2; omega
      rw [e0, show q.cells.length + i * 3 + 1 = q.cells.length + (i * 3 + 1) from by omega, show q.cells.length + i * 3 + 2 = q.cells.length + (i * 3 + 2) from by omega, key, key, key]

set_option maxHeartbeats 4000000 in
set_option maxRecDepth 100000 in
theorem own_any (v : Value) (l : List Tr) (q : Int) (w : World) (hq : 0 ≤ q ∧ q ≤ 255) (hl : l.length ≤ 9223372036854775807) (h : TrsAt w v l) (hv : ∀ g, v.ownBlock = some g → g < w.heap.size) :
    Calls Try.prog 8 #[v, .int .u8 q] w fun e w' => e = .returned (.bool true) ∧ Kb (fun _ => False) w w' := by
  obtain ⟨hq1, hq2⟩ := hq
  have HT := hid h
  have HV := hid hv
  clear h hv
  obtain ⟨i0, hi0, hz0, hz1, hz2⟩ := info_parts info44
  go_enter Try.func8, Try.ntmps8
  go_wp2_with fail
  refine (sanity_any w).mono ?_
  rintro e w1 ⟨rfl, k1⟩
  have zk1 := k1.size
  go_wp2_with fail
  refine (script_any v l w1 hl (HT.out.kb k1 (fun _ _ => by simp)) (fun g e => by have := HV.out g e; omega)).mono ?_
  rintro e w2 ⟨sv, rfl, k2, r2, o2⟩
  have zk2 := k2.size
  have K2 := hid (k1.trans k2)
  have R2 := hid r2
  have O2 := hid o2
  have hsl : (scriptL l).length ≤ 12 := by rw [scriptL_length]; omega
  clear k1 k2 HT HV
  go_wp2_with fail
  refine (new_any 1 sv _ w2 (by omega) r2).mono ?_
  rintro e w3 ⟨nb, rfl, k3, n3⟩
  have zk3 := k3.size
  have N3 := hid n3
  have K3 := hid k3
  have R3 := hid (R2.out.kb k3 (fun _ _ => by simp))
  clear n3 k3 r2 o2
  have hw0 : w.heap.size ≤ w1.heap.size := zk1
  go_upto_region 4 with fail
  go_cut [8] (fun mv wx => ∃ mb, mv = .pointer (some ⟨mb, 0, none⟩) ∧ Hid (Sep w2.heap.size (NetP nb (owS l 0)) (NetP mb (owS l 0)) wx) ∧ Hid (RowT wx sv (scriptL l)) ∧ Hid (Kb (fun _ => False) w2 wx) ∧ w2.heap.size ≤ wx.heap.size)
  case first =>
    have hfin : ∀ w4 w5 mb, Kb (fun _ => False) w3 w4 → Kb (fun _ => False) w4 w5 → NetIs (fun x => w4.heap.size ≤ x) mb w5 (newS 1 (scriptL l)) →
        Hid (Sep w2.heap.size (NetP nb (owS l 0)) (NetP mb (owS l 0)) w5) ∧ Hid (RowT w5 sv (scriptL l)) ∧ Hid (Kb (fun _ => False) w2 w5) ∧ w2.heap.size ≤ w5.heap.size := by
      intro w4 w5 mb k4 k5 n5
      have z4 := k4.size
      have z5 := k5.size
      have n4 := (NetIs.old N3.out).kb k4 (fun _ _ x => x)
      refine ⟨Sep.mk (stab_net _ _) (stab_net _ _) (S := fun x => w2.heap.size ≤ x ∧ x < w3.heap.size) (w := w4) n4 (fun x hx => by omega) (by omega) k5 n5, ?_, ?_, by omega⟩
      · exact R3.out.kb (k4.trans k5) (fun _ _ => by simp)
      · exact K3.out.trans (k4.trans k5)
    have HF := hid hfin
    clear hfin
    rcases R3.out.slice with ⟨rfl, hnil⟩ | ⟨g, c, rfl, hg⟩
    · go_wp2_with fail
      have k4 : Kb (fun _ => False) w3 (w3.alloc (.cells #[] 44)) := (Kb.refl _ _).alloc _
      have r4 : RowT (w3.alloc (.cells #[] 44)) (.slice (some ⟨w3.heap.size, 0, none⟩) 0 0) (scriptL l) := by
        rw [hnil]
        exact World.ownsRow_made w3 #[] 0 (Nat.zero_le _) (by decide) rfl
      generalize hW4 : World.alloc _ _ = W4 at *
      refine (new_any 1 _ _ W4 (by omega) r4).mono ?_
      rintro e w5 ⟨mb, rfl, k5, n5⟩
      have HH := HF.out W4 w5 mb k4 k5 n5
      obtain ⟨g1, g2, g3, g4⟩ := HH
      clear k4 k5 n5 r4 hW4
      go_wp2_with fail
      go_meet
      exact ⟨mb, rfl, g1, g2, g3, g4⟩
    · have hnews : ∀ o j u, (flatT (scriptL l))[j]? = some u → (w3.alloc o).cell? ((⟨g, 0, none⟩ : Addr).add j) = some u := by
        intro o j u hu
        have hb : ((⟨g, 0, none⟩ : Addr).add j).block < w3.heap.size := by unfold Addr.add; split <;> exact hg
        rw [World.cell?_alloc_lt _ _ _ hb]
        exact RowT.news R3.out j u hu
      have hown0 : (w3.alloc (.cells #[] 44)).ownsRow 0 44 3 (.slice (some ⟨w3.heap.size, 0, none⟩) 0 0) 0 [] := World.ownsRow_made w3 #[] 0 (Nat.zero_le _) (by decide) rfl
      have HN := hid hnews
      have HO := hid hown0
      clear hnews hown0
      go_wp2_with (at_builtin; go_must (refine wpList_append_own_at _ rfl _ _ _ rfl 0 44 i0 _ 3 24 Try.underlying22 hi0 hz0 hz1 hz2 rfl (by omega) (.slice (some ⟨w3.heap.size, 0, none⟩) 0 0) 0 [] (by rfl) HO.out ⟨g, 0, none⟩ (scriptL l).length c (flatT (scriptL l)) (by rfl) (flatT_length _) (HN.out _) (flatT_one _) (by unfold maxLen; omega) (by omega) (Nat.zero_le _) ?_); intro v' w4 hown1 hgrow _ hat)
      rw [Nat.zero_add, List.nil_append] at hown1
      have k4 : Kb (fun _ => False) w3 w4 := ((Kb.refl _ _).alloc _).grown hgrow (fun k e => by simp only [Value.ownBlock, Option.some.injEq] at e; right; omega)
      have r4 : RowT w4 v' (scriptL l) := hown1
      clear hown1 hgrow hat
      refine (new_any 1 _ _ w4 (by omega) r4).mono ?_
      rintro e w5 ⟨mb, rfl, k5, n5⟩
      have HH := HF.out w4 w5 mb k4 k5 n5
      obtain ⟨g1, g2, g3, g4⟩ := HH
      clear k4 k5 n5 r4
      go_wp2_with fail
      go_meet
      exact ⟨mb, rfl, g1, g2, g3, g4⟩
  case rest =>
    obtain ⟨mb, rfl, S4, R4, K4, z4⟩ := hcut
    obtain ⟨a, c, hsv⟩ := own_slice R4.out
    subst hsv
    have hO : ∀ x, (Value.slice a (scriptL l).length c).ownBlock = some x → w.heap.size ≤ x ∧ x < w2.heap.size := by
      intro x e
      have h1 := O2.out x e
      have h2 := (World.ownsRow.lt R2.out x e).2
      exact ⟨by omega, h2⟩
    have HO := hid hO
    have KA := hid (K2.out.trans K4.out)
    clear hO O2 R2 R3 K2 K4 N3 K3
    have HSL := hid (show (scriptL l).length ≤ 12 from hsl)
    go_wp2_with fail
    generalize hn : (scriptL l).length = n at *
    have HN := hid hn
    clear hn
    have R4' : Hid (wc.ownsRow 0 44 3 (.slice a n c) n (flatT (scriptL l))) := by
      have h := R4.out
      unfold RowT at h
      rw [HN.out] at h
      exact h
    clear R4
    go_loopw [9] (fun kv wr => ∃ (k : Nat) (m : List Tr), kv = .int .i64 k ∧ k ≤ n ∧ Hid (m.length = n) ∧ wr.ownsRow 0 44 3 (.slice a n c) n (flatT m) ∧ Kb (fun x => (Value.slice a n c).ownBlock = some x) wc wr) (fun kv _ => n - (intOf kv).toNat)
    case atStart => exact ⟨0, scriptL l, rfl, Nat.zero_le _, HN.out, R4'.out, Kb.refl _ _⟩
    case round =>
      obtain ⟨k, m, rfl, hk, hm, hr, hkb⟩ := hrel
      by_cases hlt : k < n
      · obtain ⟨g, c', e, _, hgl⟩ := hr.form (by omega)
        simp only [Value.slice.injEq] at e
        obtain ⟨rfl, _, rfl⟩ := e
        have hcell : ∀ f, f < 3 → wr.cell? ⟨g, k * 3 + f, none⟩ = (m[k]!).cells[f]? := fun f hf => by
          rw [World.ownsRow.cellAt hr (k * 3 + f) (by omega), flatT_get m k f (by rw [hm.out]; exact hlt) hf]
        have c0 := hcell 0 (by omega)
        have c1 := hcell 1 (by omega)
        have c2 := hcell 2 (by omega)
        have fz := World.ownsRow.frozenAt hr
        have HR := hid hr
        generalize m[k]! = t at *
        simp only [Tr.cells, List.getElem?_cons_succ, List.getElem?_cons_zero, Nat.add_zero] at c0 c1 c2
        clear hcell hr
        go_wp2_with fail
        have h3 := (((HR.out.stored (k * 3) (.bool !t.lost)).1.stored (k * 3 + 1) (.int .i64 0)).1.stored (k * 3 + 2) (.int .i64 3)).1
        refine ⟨⟨k + 1, m.set k ⟨!t.lost, 0, 3⟩, by go_num, by omega, by (show (m.set k _).length = n; rw [List.length_set]; exact hm.out), ?_, ?_⟩, by simp [intOf]; omega⟩
        · rw [flatT_set m k _ (by rw [hm.out]; exact hlt)]
          exact h3
        · iterate 3 (refine Kb.setCell (S := fun x => (Value.slice (some ⟨g, 0, none⟩) n c).ownBlock = some x) ?_ (by exact Or.inl rfl) _)
          exact hkb
      · have hkn : k = n := by omega
        subst hkn
        have S5 := hid (S4.out.kb (stab_net _ _) (stab_net _ _) hkb (fun x e => (HO.out x e).2))
        have K5 := hid (KA.out.trans' hkb (fun i hi e => by have := (HO.out i e).1; omega))
        have z5 := hkb.size
        clear hkb hr S4 KA
        obtain ⟨wo, rfl⟩ : ∃ wo : World, wo = wr := ⟨_, rfl⟩
        go_wp2_with fail
        go_loopw [10] (fun kv wr => ∃ j : Nat, kv = .int .i64 j ∧ j ≤ 30 ∧ Hid (Sep w2.heap.size (NetP nb (owS l j)) (NetP mb (owS l j)) wr) ∧ Kb (fun x => w2.heap.size ≤ x) wo wr) (fun kv _ => 30 - (intOf kv).toNat)
        case atStart => exact ⟨0, rfl, by omega, S5.out, Kb.refl _ _⟩
        case round =>
          obtain ⟨j, rfl, hj, hsep, hkb⟩ := hrel
          obtain ⟨o1, o2, o3, o4⟩ := owS_ok l j
          have hdel := trOf_delay l (owS l j).sent
          by_cases hlt : (j : Int) < q % 30
          · have hz := hkb.size
            have hj30 : j < 30 := by omega
            have h12 : (scriptL l).length ≤ 12 := by rw [scriptL_length]; omega
            have HO1 := hid o1
            have HO2 := hid o2
            have HO3 := hid o3
            have HDE := hid hdel
            clear o1 o2 o3 hdel
            go_wp2_with fail
            refine (sep_send (stab_net _ _) hsep.out (by omega) j j 0 ⟨#[]⟩ (by rw [HO1.out]; omega) (by rw [HO2.out]; omega) (by omega) (fun _ => ⟨by omega, by rw [HO1.out]; have := HDE.out; omega⟩) (by rw [HO3.out]; omega)).mono ?_
            rintro e w6 ⟨rfl, s6, k6⟩
            have S6 := hid s6.swap
            have z6 := k6.size
            have K6 := hid (hkb.trans k6)
            clear s6 k6 hsep hkb
            go_wp2_with fail
            refine (sep_send (stab_net _ _) S6.out (by omega) j j 0 ⟨#[]⟩ (by rw [HO1.out]; omega) (by rw [HO2.out]; omega) (by omega) (fun _ => ⟨by omega, by rw [HO1.out]; have := HDE.out; omega⟩) (by rw [HO3.out]; omega)).mono ?_
            rintro e w7 ⟨rfl, s7, k7⟩
            have S7 := hid s7.swap
            have K7 := hid (K6.out.trans k7)
            clear s7 k7 S6 K6
            go_wp2_with fail
            go_roundw
            case rel => exact ⟨j + 1, by go_num, by omega, S7.out, K7.out⟩
            case measure => simp [intOf]; omega
          · have S8 := hid hsep.out
            have K8 := hid (K5.out.trans' hkb (fun i hi e => by omega))
            have z8 := hkb.size
            have hw240 : (owS l j).waiting.length ≤ 240 := by omega
            have O4 := hid hw240
            clear hkb hsep o1 o2 o3 o4 hdel hw240
            obtain ⟨wp, rfl⟩ : ∃ wp : World, wp = wr := ⟨_, rfl⟩
            generalize owS l j = st0 at *
            go_wp2_with fail
            go_loopw [11, 12, 13, 14, 15, 16, 17] (fun kv _ _ _ _ _ _ wr => ∃ (j : Nat) (st : St), kv = .int .i64 j ∧ j ≤ 300 ∧ st.waiting.length ≤ 240 ∧ Hid (Sep w2.heap.size (NetP nb st) (NetP mb st) wr) ∧ Kb (fun x => w2.heap.size ≤ x) wp wr) (fun kv _ _ _ _ _ _ _ => 300 - (intOf kv).toNat)
            case atStart => exact ⟨0, st0, rfl, by omega, O4.out, S8.out, Kb.refl _ _⟩
            case round =>
              obtain ⟨j, st, rfl, hj, hwl, hsep, hkb⟩ := hrel
              by_cases hlt : j < 300
              · have hz := hkb.size
                by_cases h0 : st.waiting.length = 0
                · have h00 : st.waiting = [] := List.eq_nil_of_length_eq_zero h0
                  have H00 := hid h00
                  clear h0 h00
                  go_wp2_with fail
                  refine (sep_empty (stab_net _ _) hsep.out H00.out).mono ?_
                  rintro e w9 ⟨rfl, s9, k9⟩
                  unfold noMsg
                  have hk9 := hkb.trans (k9.mono (T := fun x => w2.heap.size ≤ x) (fun _ _ x => x.elim))
                  have S9 := hid s9
                  clear k9 s9 hsep hkb
                  go_wp2_with fail
                  generalize hW10 : World.alloc _ _ = W10
                  have k10 : Kb (fun _ => False) w9 W10 := by subst hW10; exact (Kb.refl _ _).alloc _
                  have B10 : W10.heap[w9.heap.size]? = some (.cells #[.int .i64 0, .int .i64 0, .string .empty] 31 (0, 0)) := by subst hW10; exact heap_alloc_new w9 _
                  have S10 := hid (S9.out.kb0 (stab_net _ _) (stab_net _ _) k10).swap
                  have K10 := hid (hk9.trans (k10.mono (T := fun x => w2.heap.size ≤ x) (fun _ _ x => x.elim)))
                  clear hW10 S9 hk9 k10
                  generalize w9.heap.size = pb at *
                  refine (sep_empty (stab_net _ _) S10.out H00.out).mono ?_
                  rintro e w11 ⟨rfl, s11, k11⟩
                  unfold noMsg
                  have S11 := hid s11.swap
                  have K11 := hid (K10.out.trans (k11.mono (T := fun x => w2.heap.size ≤ x) (fun _ _ x => x.elim)))
                  have B11 := k11.heap B10 (by simp)
                  have b0 := cell_of_heap B11 0
                  have b1 := cell_of_heap B11 1
                  have b2 := cell_of_heap B11 2
                  simp only [List.getElem?_toArray, List.getElem?_cons_succ, List.getElem?_cons_zero] at b0 b1 b2
                  have hbl : pb < w11.heap.size := block_lt B11
                  clear s11 k11 S10 K10 B10 B11
                  go_wp2_with fail
                  refine ⟨⟨j + 1, st, by go_num, by omega, hwl, S11.out.kb0 (stab_net _ _) (stab_net _ _) ((Kb.refl _ _).alloc _), K11.out.alloc _⟩, by simp [intOf]; omega⟩
                · obtain ⟨n1, hn1⟩ : ∃ n1, st.waiting.length = n1 + 1 := ⟨st.waiting.length - 1, by omega⟩
                  have HN1 := hid hn1
                  obtain ⟨f, t, x, tm, sn, hp⟩ : ∃ f t x tm sn, (popL st.waiting)[n1]! = ⟨f, t, x, tm, sn⟩ := ⟨_, _, _, _, _, rfl⟩
                  have HP := hid hp
                  clear h0 hn1 hp
                  go_wp2_with fail
                  refine (sep_next (stab_net _ _) hsep.out (by omega) n1 HN1.out (by have := HN1.out; omega) f t x tm sn HP.out).mono ?_
                  rintro e w9 ⟨rfl, s9, k9⟩
                  have hk9 := hkb.trans k9
                  have S9 := hid s9
                  have z9 := k9.size
                  clear k9 s9 hsep hkb
                  go_wp2_with fail
                  generalize hW10 : World.alloc _ _ = W10
                  have k10 : Kb (fun _ => False) w9 W10 := by subst hW10; exact (Kb.refl _ _).alloc _
                  have B10 : W10.heap[w9.heap.size]? = some (.cells #[.int .i64 f, .int .i64 t, .string x] 31 (0, 0)) := by subst hW10; exact heap_alloc_new w9 _
                  have S9' := hid S9.out.swap
                  have K10 := hid (hk9.trans (k10.mono (T := fun x => w2.heap.size ≤ x) (fun _ _ x => x.elim)))
                  have z10 := k10.size
                  have HK10 := hid k10
                  have B10' := hid B10
                  clear hW10 S9 hk9 k10 B10
                  refine (sep_next_new (stab_net _ _) S9'.out HK10.out (by omega) n1 HN1.out (by have := HN1.out; omega) f t x tm sn HP.out).mono ?_
                  rintro e w11 ⟨rfl, s11, k11⟩
                  have S11 := hid s11.swap
                  have K11 := hid (K10.out.trans (k11.mono (T := fun x => w2.heap.size ≤ x) (fun _ _ x => x.1)))
                  have B11 := k11.heap B10'.out (by omega)
                  have b0 := cell_of_heap B11 0
                  have b1 := cell_of_heap B11 1
                  have b2 := cell_of_heap B11 2
                  simp only [List.getElem?_toArray, List.getElem?_cons_succ, List.getElem?_cons_zero] at b0 b1 b2
                  have hbl : w9.heap.size < w11.heap.size := block_lt B11
                  have hnl : (nextS st).waiting.length ≤ 240 := by rw [nextS_len]; omega
                  have HNL := hid hnl
                  clear s11 k11 S9' K10 B10' B11 HK10 hnl
                  generalize w9.heap.size = pb at *
                  go_wp2_with fail
                  refine ⟨⟨j + 1, nextS st, by go_num, by omega, HNL.out, S11.out.kb0 (stab_net _ _) (stab_net _ _) ((Kb.refl _ _).alloc _), K11.out.alloc _⟩, by simp [intOf]; omega⟩
              · go_wp2_with fail
                go_ret
                exact ⟨rfl, K8.out.trans' hkb (fun i hi e => by omega)⟩
end Go.Proofs.Ytibnpddmohjeoaa
