/- NetDrains: plain part and the walk. -/
import Derived.Test.YtibnpddmohjeoaaOne
namespace Go.Proofs.Ytibnpddmohjeoaa
open Go.RowKit

/-- A slice of uint16. -/
def U16At (w : World) (a : Option Addr) (n c : Nat) (l : List Int) : Prop :=
  n ≤ c ∧ l.length = n ∧ ∀ i, i < n → ∃ g o, a = some ⟨g, o, none⟩ ∧ g < w.heap.size ∧ w.cell? ⟨g, o + i, none⟩ = some (.int .u16 l[i]!) ∧ 0 ≤ l[i]! ∧ l[i]! ≤ 65535
theorem U16At.take {w : World} {a : Option Addr} {n c : Nat} {l : List Int} (h : U16At w a n c l) (k : Nat) (hk : k ≤ n) : U16At w a k c (l.take k) := by
  obtain ⟨h1, h2, h3⟩ := h
  refine ⟨by omega, by rw [List.length_take]; omega, fun i hi => ?_⟩
  obtain ⟨g, o, e, hg, hc, hb⟩ := h3 i (by omega)
  refine ⟨g, o, e, hg, ?_⟩
  have e2 : (l.take k)[i]! = l[i]! := by simp [List.getElem!_eq_getElem?_getD, hi]
  rw [e2]
  exact ⟨hc, hb⟩

def cntOf (t : Tr) : Nat := if t.lost then 0 else copiesOf t
section
variable (l : List Tr) (ts : List Int)
def drS : Nat → St
  | 0 => newS 1 (scriptL l)
  | k + 1 => sendS (drS k) ts[k]! ⟨k, 0, ⟨#[]⟩⟩
/-- A copy of the i-th message, i less than k. -/
def FromOne (k : Nat) (p : Pc) : Prop := ∃ i : Nat, i < k ∧ p.frm = i ∧ p.sent = i ∧ ts[i]! ≤ p.tm
theorem batch_mem (m : Msg) (t : Int) (s : Nat) : ∀ k p, p ∈ batch m t s k → p.frm = m.frm ∧ p.sent = s ∧ t ≤ p.tm := by
  intro k
  induction k with
  | zero => intro p h; cases h
  | succ k ih =>
    intro p h
    rw [batch, List.mem_cons] at h
    rcases h with rfl | h
    · exact ⟨rfl, rfl, by simp [mkPc]; omega⟩
    · exact ih p h
theorem batch_length (m : Msg) (t : Int) (s : Nat) : ∀ k, (batch m t s k).length = k := by
  intro k
  induction k with
  | zero => rfl
  | succ k ih => simp [batch, ih]
theorem drS_ok : ∀ k, (drS l ts k).script = scriptL l ∧ (drS l ts k).sent = k ∧ (drS l ts k).nodes = 1 ∧ (∀ x, (drS l ts k).grp x = 0) ∧ Okay (drS l ts k) ∧ (∀ p ∈ (drS l ts k).waiting, FromOne ts k p) ∧ (drS l ts k).waiting.length ≤ 8 * k := by
  intro k
  induction k with
  | zero => exact ⟨rfl, rfl, rfl, fun _ => rfl, Okay.new _ _, by intro p h; simp [drS, newS] at h, by simp [drS, newS]⟩
  | succ k ih =>
    obtain ⟨h1, h2, h3, h4, h5, h6, h7⟩ := ih
    have hlen := sendS_len (drS l ts k) ts[k]! ⟨k, 0, ⟨#[]⟩⟩
    refine ⟨by rw [drS, sendS_script, h1], by rw [drS, sendS_sent, h2], by rw [drS, sendS_nodes, h3], by rw [drS, sendS_grp]; exact h4, h5.send _ _, ?_, by rw [drS]; omega⟩
    intro p hp
    rw [drS] at hp
    unfold sendS at hp
    split at hp
    · obtain ⟨i, r1, r2, r3, r4⟩ := h6 p hp
      exact ⟨i, by omega, r2, r3, r4⟩
    · simp only at hp
      rw [(pushK_perm _ _ _ _ _).mem_iff, List.mem_append] at hp
      rcases hp with hp | hp
      · obtain ⟨r1, r2, r3⟩ := batch_mem _ _ _ _ _ hp
        exact ⟨k, by omega, r1, by rw [r2, h2], by omega⟩
      · obtain ⟨i, r1, r2, r3, r4⟩ := h6 p hp
        exact ⟨i, by omega, r2, r3, r4⟩
theorem drS_len (k : Nat) : (drS l ts (k + 1)).waiting.length = (drS l ts k).waiting.length + cntOf (trOf (scriptL l) k) := by
  obtain ⟨h1, h2, h3, h4, _⟩ := drS_ok l ts k
  rw [drS]
  have hd : drops (drS l ts k) ⟨k, 0, ⟨#[]⟩⟩ = (trOf (scriptL l) k).lost := by
    unfold drops
    rw [h1, h2, h3]
    simp [h4, isNode]
  unfold sendS cntOf
  rw [hd, h1, h2]
  cases (trOf (scriptL l) k).lost with
  | true => simp
  | false => simp [pushK_length]
end

/-- One step of Next, for a net whose copies come from its messages. -/
theorem dr_step (ts : List Int) (K : Nat) (st : St) (n : Nat) (last first : Int) (hl : st.waiting.length = n + 1) (hok : Okay st) (h : ∀ p ∈ st.waiting, FromOne ts K p ∧ (last < p.tm ∨ last = p.tm ∧ first ≤ p.sent)) :
    ∃ (f : Nat) (t : Int) (x : ByteArray) (tm : Int), (popL st.waiting)[n]! = ⟨f, t, x, tm, f⟩ ∧ f < K ∧ ts[f]! ≤ tm ∧ (last < tm ∨ last = tm ∧ first ≤ f) ∧ Okay (nextS st) ∧
      (∀ p ∈ (nextS st).waiting, FromOne ts K p ∧ (tm < p.tm ∨ tm = p.tm ∧ (f : Int) ≤ p.sent)) ∧ (nextS st).waiting.length = n := by
  obtain ⟨e1, e2, e3, e4⟩ := popL_spec st.waiting n hl hok
  have hm := get!_mem st.waiting 0 (by omega)
  obtain ⟨⟨i, h1, h2, h3, h4⟩, h5⟩ := h _ hm
  rw [e1]
  refine ⟨i, st.waiting[0]!.to_, st.waiting[0]!.text, st.waiting[0]!.tm, ?_, h1, h4, by rw [← h3]; exact h5, hok.next n hl, ?_, by rw [nextS_len, hl]; rfl⟩
  · conv => lhs; rw [pc_eta st.waiting[0]!]
    rw [h2, h3]
  · intro p hp
    have hp2 : p ∈ st.waiting := by
      rw [← e2.mem_iff]
      unfold nextS at hp
      simp only [hl, Nat.add_sub_cancel] at hp
      exact List.mem_cons_of_mem _ hp
    have h6 := e4 p hp2
    rw [leP_iff, h3] at h6
    exact ⟨(h p hp2).1, h6⟩

set_option maxHeartbeats 4000000 in
set_option maxRecDepth 100000 in
theorem drains_any (v : Value) (l : List Tr) (a : Option Addr) (n c : Nat) (ts : List Int) (w : World) (hl : l.length ≤ 9223372036854775807) (h : TrsAt w v l) (hv : ∀ g, v.ownBlock = some g → g < w.heap.size) (hn : n ≤ 9223372036854775807) (hu : U16At w a n c ts) :
    Calls Try.prog 4 #[v, .slice a n c] w fun e w' => e = .returned (.bool true) ∧ Kb (fun _ => False) w w' := by
  have HT := hid h
  have HV := hid hv
  have HU := hid hu
  have hnc := hu.1
  clear h hv hu
  go_enter Try.func4, Try.ntmps4
  go_wp2_with fail
  refine (sanity_any w).mono ?_
  rintro e w1 ⟨rfl, k1⟩
  have zk1 := k1.size
  go_wp2_with fail
  refine (script_any v l w1 hl (HT.out.kb k1 (fun _ _ => by simp)) (fun g e => by have := HV.out g e; omega)).mono ?_
  rintro e w2 ⟨sv, rfl, k2, r2, o2⟩
  have zk2 := k2.size
  have K2 := hid (k1.trans k2)
  have hsl : (scriptL l).length ≤ 12 := by rw [scriptL_length]; omega
  obtain ⟨sa, sc, hsv⟩ := own_slice r2
  subst hsv
  have R2 := hid r2
  clear k1 k2 HT HV
  go_wp2_with fail
  refine (one_new (B := w2.heap.size) 1 _ _ (by omega) r2 (Nat.le_refl _)).mono ?_
  rintro e w3 ⟨nb, rfl, k3, n3⟩
  have zk3 := k3.size
  have N3 : Hid (One w2.heap.size nb (drS l ts 0) w3) := n3
  have K3 := hid (k3.mono (T := fun x => w2.heap.size ≤ x) (fun _ _ x => x.elim))
  have RB := hid (show ∀ g, (Value.slice sa (scriptL l).length sc).ownBlock = some g → g < w2.heap.size from fun g e => (World.ownsRow.lt r2 g e).2)
  clear n3 k3 r2 o2
  have hw0 : w.heap.size ≤ w1.heap.size := zk1
  generalize hN : (scriptL l).length = N at *
  have HN := hid hN
  clear hN
  go_wp2_with fail
  go_loopw [8, 9, 10] (fun mv kv _ wr => ∃ k : Nat, mv = .int .i64 (drS l ts k).waiting.length ∧ kv = .int .i64 k ∧ k ≤ n ∧ k ≤ 40 ∧ Hid (One w2.heap.size nb (drS l ts k) wr) ∧ Hid (Kb (fun x => w2.heap.size ≤ x) w2 wr)) (fun _ kv _ _ => 40 - (intOf kv).toNat)
  case atStart => exact ⟨0, rfl, rfl, by omega, by omega, N3.out, K3.out⟩
  case round =>
    obtain ⟨k, rfl, rfl, hk1, hk2, hone, hkb⟩ := hrel
    by_cases hlt : k < n ∧ k < 40
    · obtain ⟨hlt1, hlt2⟩ := hlt
      obtain ⟨g, o, rfl, hg, hc, hb1, hb2⟩ := HU.out.2.2 k hlt1
      have c0 := hkb.out.cell (K2.out.cell hc (by simp)) (by show ¬ w2.heap.size ≤ g; omega)
      obtain ⟨tk, htk⟩ : ∃ tk, tk = ts[k]! := ⟨_, rfl⟩
      rw [← htk] at c0 hb1 hb2
      have HTK := hid htk
      obtain ⟨o1, o2, o3, o4, o5, o6, o7⟩ := drS_ok l ts k
      have hcnt := drS_len l ts k
      have hdel := trOf_delay l (drS l ts k).sent
      rw [← o1] at hdel
      have hz := hkb.out.size
      have O1 := hid o1
      have O2 := hid o2
      have O3 := hid o3
      have HDE := hid hdel
      have HC := hid hcnt
      clear o1 o2 o3 o4 o5 o6 hdel hc hcnt htk
      go_wp2_with fail
      refine (one_send hone.out (by omega) _ _ _ _ (by rw [O1.out, HN.out]; omega) (by rw [O2.out]; omega) (by omega) (fun _ => ⟨by omega, by have := HDE.out; omega⟩) (by rw [O3.out]; omega)).mono ?_
      rintro e w6 ⟨rfl, n6, k6⟩
      have N6 : Hid (One w2.heap.size nb (drS l ts (k + 1)) w6) := by
        rw [HTK.out] at n6
        exact n6
      have hk6 := hkb.out.trans k6
      have R6 := hid (R2.out.kb hk6 (fun g e => by have := RB.out g e; show ¬ w2.heap.size ≤ g; omega))
      have K6 := hid hk6
      clear n6 k6 hone hkb hk6 c0
      by_cases h0 : N = 0
      · subst h0
        have hcnt : (drS l ts (k + 1)).waiting.length = (drS l ts k).waiting.length + 1 := by
          rw [HC.out]
          unfold cntOf copiesOf trOf
          rw [if_pos HN.out]
          rfl
        go_wp2_with fail
        refine ⟨⟨k + 1, ?_, by go_num, by omega, by omega, N6.out, K6.out⟩, by simp [intOf]; omega⟩
        rw [hcnt]
        go_num
      · have hr := R6.out
        unfold RowT at hr
        rw [HN.out] at hr
        obtain ⟨g', c', e', _, hgl⟩ := hr.form (by omega)
        simp only [Value.slice.injEq] at e'
        obtain ⟨rfl, _, rfl⟩ := e'
        have hm : k % N < N := Nat.mod_lt _ (by omega)
        have hcell : ∀ f, f < 3 → w6.cell? ⟨g', (k % N) * 3 + f, none⟩ = ((scriptL l)[k % N]!).cells[f]? := fun f hf => by
          rw [World.ownsRow.cellAt hr (k % N * 3 + f) (by omega), flatT_get _ _ f (by rw [HN.out]; exact hm) hf]
        have hcnt : (drS l ts (k + 1)).waiting.length = (drS l ts k).waiting.length + cntOf ((scriptL l)[k % N]!) := by
          rw [HC.out]
          unfold trOf
          rw [HN.out, if_neg h0]
        have c0 := hcell 0 (by omega)
        have c1 := hcell 1 (by omega)
        have c2 := hcell 2 (by omega)
        have HH := hid hcnt
        generalize (scriptL l)[k % N]! = t at *
        simp only [Tr.cells, List.getElem?_cons_succ, List.getElem?_cons_zero, Nat.add_zero] at c0 c1 c2
        clear hcell hr hcnt
        have hmz : ((N : Int) == 0) = false := by rw [beq_eq_false_iff_ne]; omega
        have hltm : (k : Int) % (N : Int) < (N : Int) := Int.emod_lt_of_pos _ (by omega)
        have hlt0 : 0 ≤ (k : Int) % (N : Int) := Int.emod_nonneg _ (by omega)
        have hx1 : cntOf t = if t.lost then 0 else copiesOf t := rfl
        have hx2 : copiesOf t = (min (max t.copies 1) 8).toNat := rfl
        obtain ⟨lo, cp, dl⟩ := t
        simp only at c0 c1 c2 hx1 hx2
        cases lo with
        | true =>
          have HX := hid hx1
          clear hx1 hx2
          go_wp2_with fail
          refine ⟨⟨k + 1, ?_, by go_num, by omega, by omega, N6.out, K6.out⟩, by simp [intOf]; omega⟩
          rw [HH.out, HX.out]
          simp
        | false =>
          have HX := hid hx1
          have HY := hid hx2
          clear hx1 hx2
          go_wp2_with fail
          refine ⟨⟨k + 1, ?_, by go_num, by omega, by omega, N6.out, K6.out⟩, by simp [intOf]; omega⟩
          rw [HH.out, HX.out, HY.out]
          congr 1
          simp only [Bool.false_eq_true, if_false]
          split <;> split at * <;> omega
    · obtain ⟨o1, o2, o3, o4, o5, o6, o7⟩ := drS_ok l ts k
      have KB := hid (K2.out.trans' hkb.out (fun i hi e => by have : w2.heap.size ≤ i := e; omega))
      have hz := hkb.out.size
      obtain ⟨st0, hst0⟩ : ∃ st0, st0 = drS l ts k := ⟨_, rfl⟩
      rw [← hst0] at o5 o6 o7 hone ⊢
      have hinv : Hid (Okay st0 ∧ ∀ p ∈ st0.waiting, FromOne ts k p ∧ ((-1 : Int) < p.tm ∨ (-1 : Int) = p.tm ∧ (-1 : Int) ≤ p.sent)) := by
        refine ⟨o5, fun p hp => ⟨o6 p hp, Or.inl ?_⟩⟩
        obtain ⟨i, h1, h2, h3, h4⟩ := o6 p hp
        obtain ⟨g, o, _, _, _, hb1, _⟩ := HU.out.2.2 i (by omega)
        omega
      clear o1 o2 o3 o4 o5 o6 hst0 hkb R2 RB HN K2 N3 K3
      obtain ⟨wo, rfl⟩ : ∃ wo : World, wo = wr := ⟨_, rfl⟩
      have hrest : Calls Try.prog 21 #[.pointer (some ⟨nb, 0, none⟩)] wo fun e w' => e = .returned (.int .i64 st0.waiting.length) ∧ w' = wo := one_wait hone.out
      generalize hM : st0.waiting.length = M at *
      have HM := hid hM
      have HRE := hid hrest
      clear hM hrest
      have hend : k < n ∧ k = 40 ∨ (n : Int) ≤ k := by omega
      clear hlt
      rcases hend with ⟨hend, hk40⟩ | hend
      all_goals
        go_wp2_with fail
        refine HRE.out.mono ?_
        rintro e w5 ⟨rfl, rfl⟩
        clear HRE
        go_wp2_with fail
        go_loopw [11, 12, 13, 14, 15, 16] (fun lv fv kv _ _ _ wr => ∃ (i : Nat) (last first : Int) (st : St), lv = .int .i64 last ∧ fv = .int .i64 first ∧ kv = .int .i64 i ∧ i ≤ M ∧ Hid (One w2.heap.size nb st wr) ∧ Hid (Kb (fun x => w2.heap.size ≤ x) w5 wr) ∧ Hid (Okay st ∧ (∀ p ∈ st.waiting, FromOne ts k p ∧ (last < p.tm ∨ last = p.tm ∧ first ≤ p.sent)) ∧ st.waiting.length = M - i)) (fun _ _ kv _ _ _ _ => M - (intOf kv).toNat)
        case atStart => exact ⟨0, -1, -1, st0, rfl, rfl, rfl, by omega, hone, Kb.refl _ _, hinv.out.1, hinv.out.2, HM.out⟩
        case round =>
          obtain ⟨i, last, first, st, rfl, rfl, rfl, hi, hone, hkb, hst⟩ := hrel
          have hz5 := hkb.out.size
          by_cases hlt : i < M
          · obtain ⟨n1, hn1⟩ : ∃ n1, M - i = n1 + 1 := ⟨M - i - 1, by omega⟩
            obtain ⟨f, t, x, tm, p1, p2, p3, p4, p5, p6, p7⟩ := dr_step ts k st n1 last first (by rw [hst.out.2.2, hn1]) hst.out.1 hst.out.2.1
            have P1 := hid p1
            have hst2 : Hid (Okay (nextS st) ∧ (∀ p ∈ (nextS st).waiting, FromOne ts k p ∧ (tm < p.tm ∨ tm = p.tm ∧ (f : Int) ≤ p.sent)) ∧ (nextS st).waiting.length = M - (i + 1)) := ⟨p5, p6, by rw [p7]; omega⟩
            have HW := hid (show st.waiting.length = n1 + 1 by rw [hst.out.2.2, hn1])
            clear p1 p5 p6 p7 hst
            go_wp2_with fail
            refine (one_next hone.out n1 HW.out (by omega) _ _ _ _ _ P1.out).mono ?_
            rintro e w7 ⟨rfl, n7, k7⟩
            have hkb2 := hkb.out.trans k7
            obtain ⟨g, o, rfl, hg, hc, hb1, hb2⟩ := HU.out.2.2 f (by omega)
            have c0 := hkb2.cell (KB.out.cell hc (by simp)) (by show ¬ w2.heap.size ≤ g; omega)
            generalize ts[f]! = tf at *
            have N7 := hid n7
            have K7 := hid hkb2
            clear n7 k7 hkb2 hone hkb hc
            have hgl : g < w7.heap.size := World.block_lt_of_cell? w7 _ c0
            by_cases he : tm = last
            · subst he
              have hff : first ≤ f := by omega
              go_wp2_with fail
              go_quiet (fail)
              go_wp2_with fail
              refine ⟨⟨i + 1, tm, f, nextS st, rfl, rfl, by go_num, by omega, N7.out.kb0 (((Kb.refl _ _).alloc _).drewN _), (K7.out.alloc _).drewN _, hst2⟩, by simp [intOf]; omega⟩
            · have hne : (tm == last) = false := by rw [beq_eq_false_iff_ne]; exact he
              go_wp2_with fail
              go_quiet (fail)
              go_wp2_with fail
              refine ⟨⟨i + 1, tm, f, nextS st, rfl, rfl, by go_num, by omega, N7.out.kb0 (((Kb.refl _ _).alloc _).drewN _), (K7.out.alloc _).drewN _, hst2⟩, by simp [intOf]; omega⟩
          · have hw0 : st.waiting = [] := List.eq_nil_of_length_eq_zero (by rw [hst.out.2.2]; omega)
            have HW := hid hw0
            clear hw0
            go_wp2_with fail
            refine (one_empty hone.out HW.out).mono ?_
            rintro e w7 ⟨rfl, n7, k7⟩
            unfold noMsg
            have K7 := hid (hkb.out.trans (k7.mono (T := fun x => w2.heap.size ≤ x) (fun _ _ x => x.elim)))
            have N7 := hid n7
            clear n7 k7 hkb hone
            go_wp2_with fail
            refine (one_wait (N7.out.kb0 ((Kb.refl _ _).alloc _))).mono ?_
            rintro e w9 ⟨rfl, rfl⟩
            rw [HW.out]
            go_wp2_with fail
            go_ret
            exact ⟨rfl, KB.out.trans' (K7.out.alloc _) (fun i hi e => by have : w2.heap.size ≤ i := e; omega)⟩
end Go.Proofs.Ytibnpddmohjeoaa
