/- What the reference's Parse reads: the plain law. The walk of the reference's Parse. -/
import Derived.Test.YtkhjgfbiemllmaaGreatDoorGL
import Derived.Deep.RegionHeld3
namespace Go.Proofs.YtkhjgfbiemllmaaGreatDoor
set_option linter.unusedSimpArgs false
set_option linter.unusedVariables false
open Go.RowKit

/-- Where the reading stands: how many bytes were read, the sign, whether the point was seen, the scale, the digits. -/
structure St where
  k : Nat
  neg : Bool
  seen : Bool
  sc : Nat
  dg : List UInt8
def st0 : St := ⟨0, false, false, 0, []⟩
def stepR (st : St) (b : UInt8) : Option St :=
  if st.k = 0 ∧ b.toNat = 45 then some ⟨st.k + 1, true, st.seen, st.sc, st.dg⟩
  else if b.toNat = 46 ∧ st.seen = false then some ⟨st.k + 1, st.neg, true, st.sc, st.dg⟩
  else if 48 ≤ b.toNat ∧ b.toNat ≤ 57 then some ⟨st.k + 1, st.neg, st.seen, if st.seen then st.sc + 1 else st.sc, st.dg ++ [b]⟩
  else none
def scanR : Option St → List UInt8 → Option St
  | st, [] => st
  | none, _ => none
  | some st, b :: l => scanR (stepR st b) l
theorem scanR_none (l : List UInt8) : scanR none l = none := by cases l <;> rfl
theorem scanR_cons (st : St) (b : UInt8) (l : List UInt8) : scanR (some st) (b :: l) = scanR (stepR st b) l := rfl
theorem scanR_append (st : Option St) (l m : List UInt8) : scanR st (l ++ m) = scanR (scanR st l) m := by
  induction l generalizing st with
  | nil => cases st <;> rfl
  | cons b l ih =>
    cases st with
    | none => rw [scanR_none, scanR_none, scanR_none]
    | some st => exact ih _
theorem stepR_k {st st' : St} {b : UInt8} (h : stepR st b = some st') : st'.k = st.k + 1 ∧ st'.dg.length ≤ st.dg.length + 1 ∧ st'.sc ≤ st.sc + 1 := by
  unfold stepR at h
  split at h
  · injection h with h; subst h; exact ⟨rfl, by simp, by simp⟩
  · split at h
    · injection h with h; subst h; exact ⟨rfl, by simp, by simp⟩
    · split at h
      · injection h with h; subst h; refine ⟨rfl, by simp, ?_⟩; simp only; split <;> omega
      · cases h
theorem stepR_dig {st st' : St} {b : UInt8} (h : stepR st b = some st') (hd : IsDig st.dg) : IsDig st'.dg := by
  unfold stepR at h
  split at h
  · injection h with h; subst h; exact hd
  · split at h
    · injection h with h; subst h; exact hd
    · split at h
      · rename_i hb
        injection h with h; subst h
        intro x hx
        rw [List.mem_append, List.mem_singleton] at hx
        rcases hx with hx | rfl
        · exact hd x hx
        · exact hb
      · cases h
/-- What the reference reads. -/
def rparseD (s : ByteArray) : DR :=
  match scanR (some st0) s.data.toList with
  | none => noR
  | some st => if (mkD (sgn st.neg (dvl 0 st.dg)) st.sc).ok = true ∧ textS (mkD (sgn st.neg (dvl 0 st.dg)) st.sc).n (mkD (sgn st.neg (dvl 0 st.dg)) st.sc).s = s then mkD (sgn st.neg (dvl 0 st.dg)) st.sc else noR
theorem scan_digs (l : List UInt8) (st : St) (h : IsDig l) : scanR (some st) l = some ⟨st.k + l.length, st.neg, st.seen, if st.seen then st.sc + l.length else st.sc, st.dg ++ l⟩ := by
  induction l generalizing st with
  | nil => simp [scanR]
  | cons b l ih =>
    have hb := h b (by simp)
    rw [scanR_cons]
    unfold stepR
    rw [if_neg (by omega), if_neg (by omega), if_pos hb, ih _ (fun x hx => h x (List.mem_cons_of_mem _ hx))]
    simp only [List.length_cons, Option.some.injEq, St.mk.injEq, List.append_assoc, List.singleton_append, and_true, true_and]
    refine ⟨by omega, ?_⟩
    split <;> omega
theorem scan_dot (st : St) (l : List UInt8) (h : st.seen = false) : scanR (some st) (46 :: l) = scanR (some ⟨st.k + 1, st.neg, true, st.sc, st.dg⟩) l := by
  rw [scanR_cons]
  unfold stepR
  rw [if_neg (by intro e; have := e.2; revert this; decide), if_pos ⟨by decide, h⟩]
theorem dg_split (l : List UInt8) (h : IsDig l) (j : Nat) : IsDig (l.take j) ∧ IsDig (l.drop j) := ⟨fun x hx => h x (List.mem_of_mem_take hx), fun x hx => h x (List.mem_of_mem_drop hx)⟩
theorem scan_mag (x c : Nat) (k : Nat) (neg : Bool) : ∃ st, scanR (some ⟨k, neg, false, 0, []⟩) (magL x c) = some st ∧ st.neg = neg ∧ st.sc = c ∧ dvl 0 st.dg = x := by
  unfold magL
  by_cases h : c = 0
  · rw [if_pos h, scan_digs _ _ (decDigits_dig x)]
    exact ⟨_, rfl, rfl, by simp [h], by simp [dvl_dec]⟩
  · rw [if_neg h]
    have hl := padL_len x c
    have hd := dg_split _ (padL_dig x c) ((padL x c).length - c)
    have hv := dvl_pad x c
    rw [List.append_assoc, scanR_append, scan_digs _ _ hd.1, List.singleton_append, scan_dot _ _ rfl, scan_digs _ _ hd.2]
    refine ⟨_, rfl, rfl, ?_, ?_⟩
    · simp only [if_true, List.length_drop, Bool.false_eq_true, if_false]; omega
    · simp only [List.nil_append, List.take_append_drop]
      exact hv
theorem rparse_text {n s : Int} (h : rightB n s = true) : rparseD (textS n s) = ⟨n, s, true⟩ := by
  have b := rightB_bd h
  obtain ⟨k1, k2⟩ := kn_of h
  obtain ⟨c, rfl⟩ : ∃ c : Nat, s = c := ⟨s.toNat, by omega⟩
  have hkc : knS n c = c := by omega
  have ht : (textS n c).data.toList = (if n < 0 then [45] else []) ++ magL n.natAbs c := by
    unfold textS
    rw [strL_list, k1, hkc]
    rfl
  obtain ⟨st, h1, h2, h3, h4⟩ : ∃ st, scanR (some st0) (textS n c).data.toList = some st ∧ st.neg = decide (n < 0) ∧ st.sc = c ∧ dvl 0 st.dg = n.natAbs := by
    rw [ht]
    by_cases hn : n < 0
    · rw [if_pos hn, List.singleton_append, scanR_cons, decide_eq_true hn]
      unfold stepR
      rw [if_pos ⟨rfl, by decide⟩]
      exact scan_mag n.natAbs c _ true
    · rw [if_neg hn, List.nil_append, decide_eq_false hn]
      exact scan_mag n.natAbs c _ false
  unfold rparseD
  rw [h1]
  simp only [h2, h3, h4, sgn_self]
  rw [mkD_of_right n c c n h (Nat.le_refl _) (by simp)]
  simp
/-- Both read alike. -/
theorem rparse_eq (s : ByteArray) : rparseD s = parseD s := by
  have hp : parseD s = noR ∨ ((parseD s).ok = true ∧ rightB (parseD s).n (parseD s).s = true ∧ textS (parseD s).n (parseD s).s = s) := by
    unfold parseD
    split
    · rename_i v hv
      split
      · rename_i hc
        exact Or.inr ⟨hc.1, makeD_right _ _, hc.2⟩
      · exact Or.inl rfl
    · exact Or.inl rfl
  have hr : rparseD s = noR ∨ ((rparseD s).ok = true ∧ rightB (rparseD s).n (rparseD s).s = true ∧ textS (rparseD s).n (rparseD s).s = s) := by
    unfold rparseD
    split
    · exact Or.inl rfl
    · split
      · rename_i hc
        exact Or.inr ⟨hc.1, mkD_right' _ _, hc.2⟩
      · exact Or.inl rfl
  rcases hr with hr | ⟨r1, r2, r3⟩
  · rcases hp with hp | ⟨p1, p2, p3⟩
    · rw [hr, hp]
    · have := rparse_text p2
      rw [p3, hr] at this
      have := congrArg DR.ok this
      simp [noR] at this
  · have h1 := parse_text r2
    rw [r3] at h1
    have h2 := rparse_text r2
    rw [r3] at h2
    rw [h1, h2]
end Go.Proofs.YtkhjgfbiemllmaaGreatDoor
namespace Go.Proofs.YtkhjgfbiemllmaaGreatDoor
set_option linter.unusedSimpArgs false
set_option linter.unusedVariables false
open Go.RowKit

theorem dvl_lt (l : List UInt8) (h : IsDig l) (a k : Nat) (ha : a < 10 ^ k) : dvl a l < 10 ^ (k + l.length) := by
  induction l generalizing a k with
  | nil => exact ha
  | cons b l ih =>
    have hb := h b (by simp)
    rw [dvl_cons, List.length_cons, show k + (l.length + 1) = (k + 1) + l.length by omega]
    refine ih (fun x hx => h x (List.mem_cons_of_mem _ hx)) _ _ ?_
    rw [Nat.pow_succ]
    generalize 10 ^ k = P at *
    omega
theorem dvl_small (l : List UInt8) (h : IsDig l) (hl : l.length ≤ 300) : (natS (dvl 0 l)).size ≤ 1000 := by
  have h1 := dvl_lt l h 0 0 (by decide)
  refine natS_le1000 _ (Nat.lt_of_lt_of_le h1 ?_)
  rw [Nat.zero_add]
  exact Nat.le_trans (Nat.pow_le_pow_right (by omega) hl) (by decide +kernel)
theorem take_snoc8 (l : List UInt8) (k : Nat) (h : k < l.length) : l.take (k + 1) = l.take k ++ [l[k]] := List.take_succ_eq_append_getElem h
theorem str_one (s : ByteArray) (k : Nat) (h : k < s.size) : s.extract k (k + 1) = strL [s[k]] := by
  have hl : k < s.data.toList.length := by simpa using h
  apply ba_eq
  rw [ByteArray.data_extract, strL_list]
  simp only [Array.toList_extract, List.extract_eq_take_drop, Nat.add_sub_cancel_left]
  rw [List.drop_eq_getElem_cons hl]
  rfl
theorem scan_step (s : ByteArray) (st : St) (k : Nat) (hk : st.k = k) (h : k < s.size) (hc : scanR (some st0) (s.data.toList.take k) = some st) : scanR (some st0) (s.data.toList.take (k + 1)) = stepR st s[k] := by
  have hl : k < s.data.toList.length := by simpa using h
  rw [take_snoc8 _ _ hl, scanR_append, hc, scanR_cons]
  show scanR (stepR st s[k]) [] = stepR st s[k]
  generalize stepR st s[k] = o
  cases o <;> rfl
theorem scan_fail (s : ByteArray) (k : Nat) (h : scanR (some st0) (s.data.toList.take k) = none) : rparseD s = noR := by
  have : scanR (some st0) s.data.toList = none := by rw [← List.take_append_drop k s.data.toList, scanR_append, h, scanR_none]
  unfold rparseD
  rw [this]
theorem cell3_of (w : World) (b : Nat) (p q r : Value) (T : Nat) (h : w.heap[b]? = some (.cells #[p, q, r] T (0, 0))) : w.cell? ⟨b, 0, none⟩ = some p ∧ w.cell? ⟨b, 1, none⟩ = some q ∧ w.cell? ⟨b, 2, none⟩ = some r ∧ w.frozen? ⟨b, 0, none⟩ = false ∧ w.frozen? ⟨b, 1, none⟩ = false ∧ w.frozen? ⟨b, 2, none⟩ = false ∧ b < w.heap.size :=
  ⟨cell_of_heap h 0, cell_of_heap h 1, cell_of_heap h 2, frozen_of_heap h 0, frozen_of_heap h 1, frozen_of_heap h 2, block_lt h⟩
theorem cell2_of (w : World) (b : Nat) (p q : Value) (T : Nat) (h : w.heap[b]? = some (.cells #[p, q] T (0, 0))) : w.cell? ⟨b, 0, none⟩ = some p ∧ w.cell? ⟨b, 1, none⟩ = some q ∧ w.frozen? ⟨b, 0, none⟩ = false ∧ w.frozen? ⟨b, 1, none⟩ = false ∧ b < w.heap.size :=
  ⟨cell_of_heap h 0, cell_of_heap h 1, frozen_of_heap h 0, frozen_of_heap h 1, block_lt h⟩
theorem set_other (w : World) (t i u : Nat) (v : Value) (o : Obj) (h : w.heap[u]? = some o) (ne : u ≠ t) : (w.setCell ⟨t, i, none⟩ v).heap[u]? = some o :=
  (Kb.setCell (S := fun x => x = t) (Kb.refl _ w) (p := ⟨t, i, none⟩) (Or.inl rfl) v).heap h ne
theorem set3_0 (w : World) (t : Nat) (v p q r : Value) (T : Nat) (h : w.heap[t]? = some (.cells #[p, q, r] T (0, 0))) : (w.setCell ⟨t, 0, none⟩ v).heap[t]? = some (.cells #[v, q, r] T (0, 0)) := by
  rw [heap_setCell_same w t 0 _ T _ h]; rfl
theorem set3_1 (w : World) (t : Nat) (v p q r : Value) (T : Nat) (h : w.heap[t]? = some (.cells #[p, q, r] T (0, 0))) : (w.setCell ⟨t, 1, none⟩ v).heap[t]? = some (.cells #[p, v, r] T (0, 0)) := by
  rw [heap_setCell_same w t 1 _ T _ h]; rfl
theorem set3_2 (w : World) (t : Nat) (v p q r : Value) (T : Nat) (h : w.heap[t]? = some (.cells #[p, q, r] T (0, 0))) : (w.setCell ⟨t, 2, none⟩ v).heap[t]? = some (.cells #[p, q, v] T (0, 0)) := by
  rw [heap_setCell_same w t 2 _ T _ h]; rfl
theorem step_neg (neg seen : Bool) (sc : Nat) (dg : List UInt8) (b : UInt8) (h : b.toNat = 45) : stepR ⟨0, neg, seen, sc, dg⟩ b = some ⟨1, true, seen, sc, dg⟩ := by unfold stepR; rw [if_pos ⟨rfl, h⟩]
theorem step_dot (k : Nat) (neg : Bool) (sc : Nat) (dg : List UInt8) (b : UInt8) (h : b.toNat = 46) : stepR ⟨k, neg, false, sc, dg⟩ b = some ⟨k + 1, neg, true, sc, dg⟩ := by unfold stepR; rw [if_neg (by omega), if_pos ⟨h, rfl⟩]
theorem step_dig (k : Nat) (neg seen : Bool) (sc : Nat) (dg : List UInt8) (b : UInt8) (h1 : 48 ≤ b.toNat) (h2 : b.toNat ≤ 57) : stepR ⟨k, neg, seen, sc, dg⟩ b = some ⟨k + 1, neg, seen, if seen then sc + 1 else sc, dg ++ [b]⟩ := by unfold stepR; rw [if_neg (by omega), if_neg (by omega), if_pos ⟨h1, h2⟩]
theorem step_bad (k : Nat) (neg seen : Bool) (sc : Nat) (dg : List UInt8) (b : UInt8) (h1 : ¬ (k = 0 ∧ b.toNat = 45)) (h2 : ¬ (b.toNat = 46 ∧ seen = false)) (h3 : ¬ (48 ≤ b.toNat ∧ b.toNat ≤ 57)) : stepR ⟨k, neg, seen, sc, dg⟩ b = none := by unfold stepR; rw [if_neg h1, if_neg h2, if_neg h3]
theorem beqI (a b : Int) (h : a = b) : (a == b) = true := by rw [h]; exact beq_self_eq_true _
theorem bneI (a b : Int) (h : a ≠ b) : (a == b) = false := beq_eq_false_iff_ne.2 h
theorem natS_ten (N K : Nat) (h : (natS N).size ≤ K) : (natS (N * 10)).size ≤ K + 1 := (natS_len _ _).2 (by
  have := (natS_len N K).1 h
  rw [Nat.pow_succ]
  generalize 256 ^ K = P at *
  omega)
theorem Add_nat10 (N d : Nat) (z : Int) (w : World) (hN : (natS N).size ≤ 1000) (hd : d ≤ 9) (hz : z.toNat = d) :
    Calls Tryz.prog 37 #[.string (natS (N * 10)), .string (natS z.toNat)] w fun e w' => e = .returned (.string (natS (N * 10 + d))) ∧ Kb (fun _ => False) w w' := by
  rw [hz]
  have h1 := natS_ten N 1000 hN
  exact Add_nat (N * 10) d w (by omega) (Nat.le_trans (nat_fit d (by omega)) (by omega))
theorem fitV_sgn (neg : Bool) (N s : Nat) : fitV neg N s = .tuple #[.agg #[.int .i64 (mkD (sgn neg N) s).n, .int .i64 (mkD (sgn neg N) s).s], .bool (mkD (sgn neg N) s).ok] := by
  have h := fitV_near neg (sgn neg N) s (by
    unfold sgn
    cases neg
    · simp only [Bool.false_eq_true, if_false]
      exact fun _ => (decide_eq_false (by omega)).symm
    · simp only [if_true]
      exact fun h => (decide_eq_true (by omega)).symm)
  rwa [sgn_natAbs] at h
attribute [local go_sem ↓] Go.wp_at_zero Go.wp_at_succ
set_option maxHeartbeats 16000000 in
set_option maxRecDepth 100000 in
theorem rparse_core (s : ByteArray) (w : World) (hs : s.size ≤ 200) (x y : Int) (b : Bool) (hv : rparseD s = ⟨x, y, b⟩) :
    Calls Tryz.prog 19 #[.string s] w fun e w' => e = .returned (.tuple #[.agg #[.int .i64 x, .int .i64 y], .bool b]) ∧ Kb (fun _ => False) w w' := by
  have HV := hid hv
  clear hv
  go_enter Tryz.func19, Tryz.ntmps19
  go_wp2_with fail
  generalize hW : World.alloc _ _ = W
  have KW := hid (show Kb (fun _ => False) w W by subst hW; exact (by repeat (with_reducible first | exact Kb.refl _ _ | exact KW.out | refine Kb.setC ?_ (by assumption) | apply Kb.drew | apply Kb.drewN | apply Kb.grew | apply Kb.alloc)))
  have hA := hid (show W.heap[w.heap.size]? = some (.cells #[.int .i64 0, .int .i64 0] 23 (0, 0)) by subst hW; exact (Kb.alloc (Kb.refl (fun _ => False) _) _).heap (heap_alloc_new w _) (by simp))
  have hB := hid (show W.heap[w.heap.size + 1]? = some (.cells #[.bool false, .string ⟨#[]⟩, .int .i64 0] 54 (0, 0)) by
    subst hW
    have h := heap_alloc_new (w.alloc (.cells #[.int .i64 0, .int .i64 0] 23 (0, 0))) (.cells #[.bool false, .string ⟨#[]⟩, .int .i64 0] 54 (0, 0))
    simpa using h)
  clear hW
  obtain ⟨tb, htb⟩ : ∃ tb, w.heap.size + 1 = tb := ⟨_, rfl⟩
  rw [htb] at hB
  have htb1 : w.heap.size < tb := by omega
  simp only [htb]
  go_loopw [5, 6, 7] (fun dv sv kv wr => ∃ st : St, Hid (scanR (some st0) (s.data.toList.take st.k) = some st) ∧ st.k ≤ s.size ∧ dv = .string (strL st.dg) ∧ sv = .bool st.seen ∧ kv = .int .i64 (st.k : Nat) ∧
    st.dg.length ≤ st.k ∧ st.sc ≤ st.k ∧ Hid (IsDig st.dg) ∧ Hid (wr.heap[w.heap.size]? = some (.cells #[.int .i64 0, .int .i64 0] 23 (0, 0))) ∧ Hid (wr.heap[tb]? = some (.cells #[.bool st.neg, .string ⟨#[]⟩, .int .i64 (st.sc : Nat)] 54 (0, 0))) ∧ Hid (Kb (fun _ => False) w wr)) (fun _ _ kv _ => s.size - (intOf kv).toNat)
  case atStart => exact ⟨st0, rfl, by simp [st0], rfl, rfl, rfl, by simp [st0], by simp [st0], fun x hx => by simp [st0] at hx, hA, hB, KW⟩
  case round =>
    obtain ⟨⟨k, neg, seen, sc, dg⟩, hsc, hk, rfl, rfl, rfl, hdl, hscl, hdig, hA, hB, KW⟩ := hrel
    simp only at hsc hk hdl hscl hdig hB ⊢
    obtain ⟨a0, a1, fa0, fa1, la⟩ := cell2_of _ _ _ _ _ hA.out
    obtain ⟨c0, c1, c2, f0, f1, f2, lb⟩ := cell3_of _ _ _ _ _ _ hB.out
    by_cases hlt : k < s.size
    · have hst := hid (scan_step s ⟨k, neg, seen, sc, dg⟩ k rfl hlt hsc.out)
      have hone := hid (str_one s k hlt)
      by_cases hA1 : k = 0 ∧ s[k].toNat = 45
      · obtain ⟨rfl, hc⟩ := hA1
        have h1 := beqI _ _ (show ((s[0].toNat : Nat) : Int) = 45 by omega)
        have HST := hid (hst.out.trans (step_neg neg seen sc dg _ hc))
        clear hc hst
        go_wp2_with fail
        exact ⟨⟨⟨1, true, seen, sc, dg⟩, HST, by simp; omega, rfl, rfl, by simp, by simp; omega, by simp; omega, hdig, set_other _ _ _ _ _ _ hA.out (by omega), set3_0 _ _ _ _ _ _ _ hB.out, hid (Kb.setCell KW.out (Or.inr (by show w.heap.size ≤ tb; omega)) _)⟩, by simp [intOf]; omega⟩
      · by_cases hA2 : s[k].toNat = 46 ∧ seen = false
        · obtain ⟨hc, rfl⟩ := hA2
          have h1 := beqI _ _ (show ((s[k].toNat : Nat) : Int) = 46 by omega)
          have h2 := bneI _ _ (show ((s[k].toNat : Nat) : Int) ≠ 45 by omega)
          have HST := hid (hst.out.trans (step_dot k neg sc dg _ hc))
          clear hc hst hA1
          by_cases hk0 : (k : Int) = 0
          all_goals
            first | have h3 := beqI _ _ hk0 | have h3 := bneI _ _ hk0
            clear hk0
            go_wp2_with fail
            exact ⟨⟨⟨k + 1, neg, true, sc, dg⟩, HST, hlt, rfl, rfl, by go_num, by simp; omega, by simp; omega, hdig, hA, hB, KW⟩, by simp [intOf]; omega⟩
        · by_cases hA3 : 48 ≤ s[k].toNat ∧ s[k].toNat ≤ 57
          · obtain ⟨hc1, hc2⟩ := hA3
            have h1 := bneI _ _ (show ((s[k].toNat : Nat) : Int) ≠ 46 by omega)
            have h2 := bneI _ _ (show ((s[k].toNat : Nat) : Int) ≠ 45 by omega)
            have HST := hid (hst.out.trans (step_dig k neg seen sc dg _ hc1 hc2))
            have HD := hid (show IsDig (dg ++ [s[k]]) by
              intro x hx
              rw [List.mem_append, List.mem_singleton] at hx
              rcases hx with hx | rfl
              · exact hdig.out x hx
              · exact ⟨hc1, hc2⟩)
            have hcap : ¬ 9223372036854775807 < (strL dg).size + (min (k + 1) s.size - k) := by rw [strL_size]; omega
            clear hst hA1 hA2
            by_cases hk0 : (k : Int) = 0
            all_goals
              first | have h3 := beqI _ _ hk0 | have h3 := bneI _ _ hk0
              clear hk0
              cases seen
              · go_wp2_with fail
                exact ⟨⟨⟨k + 1, neg, false, sc, dg ++ [s[k]]⟩, HST, hlt, by rw [hone.out, app_strL], rfl, by go_num, by simp; omega, by simp; omega, HD, hA, hB, KW⟩, by simp [intOf]; omega⟩
              · go_wp2_with fail
                exact ⟨⟨⟨k + 1, neg, true, sc + 1, dg ++ [s[k]]⟩, HST, hlt, by rw [hone.out, app_strL], rfl, by go_num, by simp; omega, by simp; omega, HD, set_other _ _ _ _ _ _ hA.out (by omega), set3_2 _ _ _ _ _ _ _ hB.out, hid (Kb.setCell KW.out (Or.inr (by show w.heap.size ≤ tb; omega)) _)⟩, by simp [intOf]; omega⟩
          · have HST := hid (scan_fail s (k + 1) (hst.out.trans (step_bad k neg seen sc dg _ hA1 hA2 hA3)))
            obtain ⟨e1, e2, e3⟩ : x = 0 ∧ y = 0 ∧ b = false := by
              have hE : (⟨x, y, b⟩ : DR) = ⟨0, 0, false⟩ := by rw [← HV.out, HST.out]; rfl
              injection hE with e1 e2 e3
              exact ⟨e1, e2, e3⟩
            subst e1 e2 e3
            have KR := hid (fun W' (h : Kb (fun _ => False) w W') => set2_kb (w := w) (t := w.heap.size) h (.int .i64 0) (.int .i64 0) (Nat.le_refl _))
            clear hst hone
            have hn : (k : Int) = 0 ∧ ¬ ((s[k].toNat : Nat) : Int) = 45 ∨ ¬ (k : Int) = 0 := by omega
            have hm : (seen = false ∧ ¬ ((s[k].toNat : Nat) : Int) = 46) ∨ (seen = true ∧ ¬ ((s[k].toNat : Nat) : Int) = 46) ∨ (seen = true ∧ ((s[k].toNat : Nat) : Int) = 46) := by
              cases seen
              · exact Or.inl ⟨rfl, fun h => hA2 ⟨by omega, rfl⟩⟩
              · by_cases h : ((s[k].toNat : Nat) : Int) = 46
                · exact Or.inr (Or.inr ⟨rfl, h⟩)
                · exact Or.inr (Or.inl ⟨rfl, h⟩)
            have hd : ¬ 48 ≤ s[k].toNat ∨ (48 ≤ s[k].toNat ∧ ¬ s[k].toNat ≤ 57) := by omega
            clear hA1 hA2 hA3
            rcases hn with ⟨n1, n2⟩ | n1 <;> rcases hm with ⟨rfl, m1⟩ | ⟨rfl, m1⟩ | ⟨rfl, m1⟩ <;> rcases hd with d1 | ⟨d1, d2⟩
            all_goals
              first | have h1 := beqI _ _ n1 | have h1 := bneI _ _ n1
              try have h2 := bneI _ _ n2
              first | have h3 := beqI _ _ m1 | have h3 := bneI _ _ m1
              clear n1 m1
              try clear n2
              go_wp2_with fail
              exact bodyPost_ret (v := .tuple #[.agg #[.int .i64 0, .int .i64 0], .bool false]) (by simp [results, Tryz.results19, go_sem, a0, a1]) rfl ⟨rfl, KR.out _ KW.out⟩
    · have hkl : k = s.size := by omega
      subst hkl
      have hfull : scanR (some st0) s.data.toList = some ⟨s.size, neg, seen, sc, dg⟩ := by
        have := hsc.out
        rwa [List.take_of_length_le (by simp)] at this
      have hrp : rparseD s = if (mkD (sgn neg (dvl 0 dg)) sc).ok = true ∧ textS (mkD (sgn neg (dvl 0 dg)) sc).n (mkD (sgn neg (dvl 0 dg)) sc).s = s then mkD (sgn neg (dvl 0 dg)) sc else noR := by
        unfold rparseD
        rw [hfull]
      have HRP := hid (hrp.symm.trans HV.out)
      clear hrp hfull hlt HV hsc
      obtain ⟨wo, rfl⟩ : ∃ wo : World, wo = wr := ⟨_, rfl⟩
      have hsz : (strL dg).size = dg.length := strL_size dg
      have HDG := hid (fun (j : Nat) (h : j < (strL dg).size) => hdig.out ((strL dg)[j]) (List.getElem_mem (by rw [← hsz]; exact h)))
      have HNX := hid (fun (j : Nat) (h : j < (strL dg).size) => show dvl 0 (dg.take (j + 1)) = dvl 0 (dg.take j) * 10 + ((strL dg)[j].toNat - 48) by
        rw [take_snoc8 dg j (by omega), dvl_append]; rfl)
      have HSM := hid (fun (j : Nat) => dvl_small (dg.take j) (dg_split dg hdig.out j).1 (by rw [List.length_take]; omega))
      have hdl2 : (strL dg).size ≤ 200 := by omega
      have HA1 := hA
      have HB1 := hB
      have KW1 := KW
      clear hdl hA hB KW c0 c1 c2 f0 f1 f2 lb a0 a1 fa0 fa1 la
      generalize hD : strL dg = D at *
      go_wp2_with fail
      go_loopw [8] (fun kv wq => ∃ j : Nat, kv = .int .i64 (j : Nat) ∧ j ≤ D.size ∧ Hid (wq.heap[w.heap.size]? = some (.cells #[.int .i64 0, .int .i64 0] 23 (0, 0))) ∧ Hid (wq.heap[tb]? = some (.cells #[.bool neg, .string (natS (dvl 0 (dg.take j))), .int .i64 (sc : Nat)] 54 (0, 0))) ∧ Hid (Kb (fun _ => False) w wq)) (fun kv _ => D.size - (intOf kv).toNat)
      case atStart => exact ⟨0, rfl, by omega, HA1, HB1, KW1⟩
      case round =>
        obtain ⟨j, rfl, hj, hA, hB, KW⟩ := hrel
        obtain ⟨a0, a1, fa0, fa1, la⟩ := cell2_of _ _ _ _ _ hA.out
        obtain ⟨c0, c1, c2, f0, f1, f2, lb⟩ := cell3_of _ _ _ _ _ _ hB.out
        by_cases hlt : j < D.size
        · obtain ⟨hd1, hd2⟩ := HDG.out j hlt
          have hnx := hid (HNX.out j hlt)
          have hsm := HSM.out j
          have hsm2 := HSM.out (j + 1)
          rw [hnx.out] at hsm2
          have HM := hid (fun w => m10_c (dvl 0 (dg.take j)) w hsm)
          have HA := hid (fun w z (hz : z.toNat = D[j].toNat - 48) => Add_nat10 (dvl 0 (dg.take j)) (D[j].toNat - 48) z w hsm (by omega) hz)
          generalize dvl 0 (dg.take j) = N at *
          clear hsm hsm2
          go_upto_region 19 with fail
          have HO := hid Of_any
          have hz : IntKind.i64.wrap (IntKind.u8.wrap (((D[j].toNat : Nat) : Int) - 48)) = ((D[j].toNat - 48 : Nat) : Int) := by
            rw [show IntKind.u8.wrap (((D[j].toNat : Nat) : Int) - 48) = ((D[j].toNat : Nat) : Int) - 48 from IntWalk.u8_in _ (by omega), IntWalk.i64_in _ (by omega)]
            omega
          have HZ1 := hid (show IntKind.i64.wrap (IntKind.u8.wrap (((D[j].toNat : Nat) : Int) - 48)) ≤ 9223372036854775807 by rw [hz]; omega)
          have HZ2 := hid (show (IntKind.i64.wrap (IntKind.u8.wrap (((D[j].toNat : Nat) : Int) - 48))).toNat = D[j].toNat - 48 by rw [hz]; omega)
          clear hz
          go_region_with (first
            | (go_at_call 38; refine (HO.out _ _ (by first | exact HZ1.out | omega)).mono ?_; rintro e w1 ⟨rfl, k1⟩; obtain ⟨C, m, rfl⟩ := grew_of k1; clear k1)
            | (go_at_call 35; refine (HM.out _).mono ?_; rintro e w1 ⟨rfl, k1⟩; obtain ⟨C, m, rfl⟩ := grew_of k1; clear k1)
            | (go_at_call 37; refine (HA.out _ _ HZ2.out).mono ?_; rintro e w1 ⟨rfl, k1⟩; obtain ⟨C, m, rfl⟩ := grew_of k1; clear k1))
          all_goals
            go_wp2_with fail
            generalize hW : grew _ _ _ = W'
            have k : Kb (fun _ => False) (wr.setCell ⟨tb, 1, none⟩ (.string (natS (N * 10 + (D[j].toNat - 48))))) W' := by subst hW; exact (by repeat (with_reducible first | exact Kb.refl _ _ | exact KW.out | refine Kb.setC ?_ (by assumption) | apply Kb.drew | apply Kb.drewN | apply Kb.grew | apply Kb.alloc))
            rw [← hnx.out] at k
            exact ⟨⟨j + 1, by go_num, by omega, k.heap (set_other _ _ _ _ _ _ hA.out (by omega)) (by simp), k.heap (set3_1 _ _ _ _ _ _ _ hB.out) (by simp), hid ((Kb.setCell KW.out (Or.inr (by show w.heap.size ≤ tb; omega)) _).trans k)⟩, by simp [intOf]; omega⟩
        · have hjl : j = D.size := by omega
          subst hjl
          have hfn : dg.take D.size = dg := List.take_of_length_le (by omega)
          have hsm := HSM.out D.size
          rw [hfn] at c1 hsm
          have hfv := fitV_sgn neg (dvl 0 dg) sc
          obtain ⟨r, hr⟩ : ∃ r, mkD (sgn neg (dvl 0 dg)) sc = r := ⟨_, rfl⟩
          have hrp := HRP.out
          rw [hr] at hfv hrp
          have HF := hid (fun w => fit_is neg (dvl 0 dg) sc _ w (by omega) (by omega) hfv)
          have HT := hid (fun w => rtext_c r.n r.s w)
          obtain ⟨rn, rs, rok⟩ := r
          simp only at hrp HF HT
          generalize textS rn rs = T at *
          generalize natS (dvl 0 dg) = N at *
          clear HRP hfv hr hsm hfn HSM HNX HDG hsz hA hB
          cases rok
          · obtain ⟨e1, e2, e3⟩ : x = 0 ∧ y = 0 ∧ b = false := by
              rw [if_neg (by simp)] at hrp
              injection hrp with e1 e2 e3
              exact ⟨e1.symm, e2.symm, e3.symm⟩
            subst e1 e2 e3
            clear hrp
            go_wp2_with fail
            refine (HF.out _).mono ?_; rintro e w1 ⟨rfl, k1⟩; obtain ⟨C1, m, rfl⟩ := grew_of k1; clear k1
            go_wp2_with fail
            have hrf := Nat.le_refl w.heap.size
            exact bodyPost_ret (v := .tuple #[.agg #[.int .i64 0, .int .i64 0], .bool false]) (by simp [results, Tryz.results19, go_sem, a0, a1, la]) rfl ⟨rfl, (by repeat (with_reducible first | exact Kb.refl _ _ | exact KW.out | refine Kb.setC ?_ (by assumption) | apply Kb.drew | apply Kb.drewN | apply Kb.grew | apply Kb.alloc))⟩
          · by_cases hts : T = s
            · subst hts
              obtain ⟨e1, e2, e3⟩ : rn = x ∧ rs = y ∧ true = b := by
                rw [if_pos ⟨rfl, rfl⟩] at hrp
                injection hrp with e1 e2 e3
                exact ⟨e1, e2, e3⟩
              subst e1 e2 e3
              clear hrp
              go_wp2_with fail
              refine (HF.out _).mono ?_; rintro e w1 ⟨rfl, k1⟩; obtain ⟨C1, m, rfl⟩ := grew_of k1; clear k1
              go_wp2_with fail
              refine (HT.out _).mono ?_; rintro e w1 ⟨rfl, k1⟩; obtain ⟨C2, m, rfl⟩ := grew_of k1; clear k1
              go_wp2_with fail
              have hrf := Nat.le_refl w.heap.size
              exact bodyPost_ret (v := .tuple #[.agg #[.int .i64 rn, .int .i64 rs], .bool true]) (by simp [results, Tryz.results19, go_sem, a0, a1, la]) rfl ⟨rfl, (by repeat (with_reducible first | exact Kb.refl _ _ | exact KW.out | refine Kb.setC ?_ (by assumption) | apply Kb.drew | apply Kb.drewN | apply Kb.grew | apply Kb.alloc))⟩
            · have p2 : ¬ T.toList = s.toList := by
                intro e
                rw [ByteArray.toList_eq, ByteArray.toList_eq] at e
                exact hts (ba_eq e)
              have p1 : (T.toList == s.toList) = false := by rw [beq_eq_false_iff_ne]; exact p2
              obtain ⟨e1, e2, e3⟩ : x = 0 ∧ y = 0 ∧ b = false := by
                rw [if_neg (fun h => hts h.2)] at hrp
                injection hrp with e1 e2 e3
                exact ⟨e1.symm, e2.symm, e3.symm⟩
              subst e1 e2 e3
              clear hrp hts
              go_wp2_with fail
              refine (HF.out _).mono ?_; rintro e w1 ⟨rfl, k1⟩; obtain ⟨C1, m, rfl⟩ := grew_of k1; clear k1
              go_wp2_with fail
              refine (HT.out _).mono ?_; rintro e w1 ⟨rfl, k1⟩; obtain ⟨C2, m, rfl⟩ := grew_of k1; clear k1
              go_wp2_with fail
              have hrf := Nat.le_refl w.heap.size
              exact bodyPost_ret (v := .tuple #[.agg #[.int .i64 0, .int .i64 0], .bool false]) (by simp [results, Tryz.results19, go_sem, a0, a1, la]) rfl ⟨rfl, (by repeat (with_reducible first | exact Kb.refl _ _ | exact KW.out | refine Kb.setC ?_ (by assumption) | apply Kb.drew | apply Kb.drewN | apply Kb.grew | apply Kb.alloc))⟩
theorem rparse_c (s : ByteArray) (w : World) (hs : s.size ≤ 200) :
    Calls Tryz.prog 19 #[.string s] w fun e w' => e = .returned (.tuple #[.agg #[.int .i64 (parseD s).n, .int .i64 (parseD s).s], .bool (parseD s).ok]) ∧ Kb (fun _ => False) w w' :=
  rparse_core s w hs _ _ _ (rparse_eq s)
end Go.Proofs.YtkhjgfbiemllmaaGreatDoor
