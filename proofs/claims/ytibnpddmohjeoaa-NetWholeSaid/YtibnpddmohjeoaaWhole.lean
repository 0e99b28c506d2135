/- NetWhole: the walk. -/
import Derived.Test.YtibnpddmohjeoaaOne
namespace Go.Proofs.Ytibnpddmohjeoaa
open Go.RowKit

set_option maxHeartbeats 4000000 in
set_option maxRecDepth 100000 in
theorem whole_any (a : Option Addr) (n c : Nat) (l : List Msg) (nd dl : Int) (w : World) (hn : 0 ≤ nd ∧ nd ≤ 255) (hd : 0 ≤ dl ∧ dl ≤ 65535) (hlen : n ≤ 9223372036854775807) (h : MsgsAt w a n c l) :
    Calls Try.prog 6 #[.slice a n c, .int .u8 nd, .int .u16 dl] w fun e w' => e = .returned (.bool true) ∧ Kb (fun _ => False) w w' := by
  obtain ⟨hn1, hn2⟩ := hn
  obtain ⟨hd1, hd2⟩ := hd
  have hnc := h.1
  have HM := hid h
  clear h
  have e1 : IntKind.u8.wrap (nd % 5) = nd % 5 := IntWalk.u8_in _ (by omega)
  go_enter Try.func6, Try.ntmps6
  go_wp2_with fail
  refine (sanity_any w).mono ?_
  rintro e w1 ⟨rfl, k1⟩
  have z1 := k1.size
  have K1 := hid k1
  clear k1
  go_wp2_with fail
  generalize hW2 : World.alloc _ _ = W2
  have r2 : RowT W2 (.slice (some ⟨w1.heap.size, 0, none⟩) 1 1) [⟨false, 0, dl % 1000⟩] := by
    subst hW2
    exact World.ownsRow_lit (base := 0) (e := 44) (size := 3) w1 #[.bool false, .int .i64 0, .int .i64 (dl % 1000)] 1 (Nat.zero_le _) (by decide) rfl
  have K2 := hid (show Kb (fun _ => False) w W2 by subst hW2; exact K1.out.alloc _)
  have z2 : w.heap.size ≤ W2.heap.size := by subst hW2; simp; omega
  clear hW2 K1
  refine (one_new (B := w.heap.size) (nd % 5) _ _ (by simp) r2 z2).mono ?_
  rintro e w3 ⟨nb, rfl, k3, n3⟩
  have K3 := hid (K2.out.trans k3)
  have N3 : Hid (One w.heap.size nb (whS (nd % 5) (dl % 1000) (l.take 30) 0) w3) := n3
  clear k3 n3 r2 K2
  go_upto_region 4 with fail
  go_cut [0] (fun v wx => ∃ k, v = .slice a k c ∧ k ≤ 30 ∧ Hid (MsgsAt w a k c (l.take 30)) ∧ wx = w3)
  case first =>
    go_wp2_with fail
    · have h30 : 30 < n := by omega
      go_meet
      exact ⟨30, rfl, by omega, HM.out.take 30 (by omega), rfl⟩
    · have h30 : n ≤ 30 := by omega
      go_meet
      exact ⟨n, rfl, h30, by rw [List.take_of_length_le (by have := HM.out.2.1; omega)]; exact HM.out, rfl⟩
  case rest =>
    obtain ⟨k, rfl, hk30, HL, rfl⟩ := hcut
    generalize l.take 30 = m at *
    have h5 : 0 ≤ nd % 5 ∧ nd % 5 ≤ 4 := by omega
    obtain ⟨h51, h52⟩ := h5
    have h10 : 0 ≤ dl % 1000 ∧ dl % 1000 ≤ 999 := by omega
    obtain ⟨h101, h102⟩ := h10
    clear HM hnc hlen
    go_wp2_with fail
    go_loopw [10] (fun kv wr => ∃ j : Nat, kv = .int .i64 j ∧ j ≤ k ∧ Hid (One w.heap.size nb (whS (nd % 5) (dl % 1000) m j) wr) ∧ Kb (fun _ => False) w wr) (fun kv _ => k - (intOf kv).toNat)
    case atStart => exact ⟨0, rfl, by omega, N3.out, K3.out⟩
    case round =>
      obtain ⟨j, rfl, hj, hone, hkb⟩ := hrel
      by_cases hlt : j < k
      · obtain ⟨g, o, rfl, hg, hc⟩ := HL.out.2.2 j hlt
        have c0 := hkb.cell (v := .int .i64 (m[j]!).frm) (hc 0 (by omega)) (by simp)
        have c1 := hkb.cell (v := .int .i64 (m[j]!).to_) (hc 1 (by omega)) (by simp)
        have c2 := hkb.cell (v := .string (m[j]!).text) (hc 2 (by omega)) (by simp)
        simp only [Nat.add_zero, ← Nat.add_assoc] at c0 c1 c2
        obtain ⟨o1, o2, o3, o4, o5, o6, o7⟩ := whS_ok (nd % 5) (dl % 1000) m (by omega) j
        have hz := hkb.size
        have hdel : (trOf (whS (nd % 5) (dl % 1000) m j).script (whS (nd % 5) (dl % 1000) m j).sent).delay ≤ 1000 := by rw [o1]; simp [trOf, Nat.mod_one]; omega
        have O1 := hid o1
        have O2 := hid o2
        have O3 := hid o3
        have HDE := hid hdel
        obtain ⟨mj, hmj⟩ : ∃ mj, mj = m[j]! := ⟨_, rfl⟩
        rw [← hmj] at c0 c1 c2
        have HMJ := hid hmj
        clear o1 o2 o3 o4 o5 o6 hdel hc hmj
        go_wp2_with fail
        refine (one_send hone.out (by omega) _ _ _ _ (by rw [O1.out]; simp) (by rw [O2.out]; omega) (by omega) (fun _ => ⟨by omega, by have := HDE.out; omega⟩) (by rw [O3.out]; omega)).mono ?_
        rintro e w6 ⟨rfl, n6, k6⟩
        have N6 : Hid (One w.heap.size nb (whS (nd % 5) (dl % 1000) m (j + 1)) w6) := by
          show One _ _ (sendS (whS (nd % 5) (dl % 1000) m j) (10 * j) m[j]!) _
          rw [← HMJ.out]
          exact n6
        have K6 := hid (hkb.trans' k6 (fun i hi e => by omega))
        clear n6 k6 hone hkb
        go_wp2_with fail
        go_roundw
        case rel => exact ⟨j + 1, by go_num, by omega, N6.out, K6.out⟩
        case measure => simp [intOf]; omega
      · have hjk : j = k := by omega
        subst hjk
        obtain ⟨o1, o2, o3, o4, o5, o6, o7⟩ := whS_ok (nd % 5) (dl % 1000) m (by omega) j
        obtain ⟨st0, hst0⟩ : ∃ st0, st0 = whS (nd % 5) (dl % 1000) m j := ⟨_, rfl⟩
        rw [← hst0] at o5 o6 hone
        have O5 := hid o5
        have O6 := hid o6
        have KB := hid hkb
        clear o1 o2 o3 o4 o5 o6 o7 hst0 hkb
        obtain ⟨wo, rfl⟩ : ∃ wo : World, wo = wr := ⟨_, rfl⟩
        go_wp2_with fail
        go_loopw [11, 12, 13, 14] (fun kv _ _ _ wr => ∃ (i : Nat) (st : St), kv = .int .i64 i ∧ i ≤ j ∧ Hid (One w.heap.size nb st wr) ∧ Kb (fun _ => False) w wr ∧ Hid (Okay st ∧ st.waiting.Perm (toCome (nd % 5) (dl % 1000) m i (j - i)))) (fun kv _ _ _ _ => j - (intOf kv).toNat)
        case atStart => exact ⟨0, st0, rfl, by omega, hone.out, KB.out, O5.out, O6.out⟩
        case round =>
          obtain ⟨i, st, rfl, hi, hone, hkb, hst⟩ := hrel
          by_cases hlt : i < j
          · obtain ⟨g, o, rfl, hg, hc⟩ := HL.out.2.2 i hlt
            have c0 := hkb.cell (v := .int .i64 (m[i]!).frm) (hc 0 (by omega)) (by simp)
            have c1 := hkb.cell (v := .int .i64 (m[i]!).to_) (hc 1 (by omega)) (by simp)
            have c2 := hkb.cell (v := .string (m[i]!).text) (hc 2 (by omega)) (by simp)
            simp only [Nat.add_zero, ← Nat.add_assoc] at c0 c1 c2
            have hz := hkb.size
            obtain ⟨mj, hmj⟩ : ∃ mj, mj = m[i]! := ⟨_, rfl⟩
            rw [← hmj] at c0 c1 c2
            have HMJ := hid hmj
            have HC : Hid (∀ f, f < 3 → w.cell? ⟨g, o + (i * 3 + f), none⟩ = mj.cells[f]?) := by rw [hmj]; exact hc
            clear hc hmj
            cases hnode : isNode (nd % 5) mj.to_ with
            | false =>
              have hst2 : Hid (Okay st ∧ st.waiting.Perm (toCome (nd % 5) (dl % 1000) m (i + 1) (j - (i + 1)))) := by
                refine ⟨hst.out.1, ?_⟩
                have h := hst.out.2
                rw [show j - i = (j - (i + 1)) + 1 from by omega, toCome_front] at h
                unfold one1 at h
                rw [if_neg (by rw [← HMJ.out, hnode]; decide)] at h
                simpa using h
              have hnn : mj.to_ < 0 ∨ nd % 5 ≤ mj.to_ := by
                unfold isNode at hnode
                rw [Bool.and_eq_false_iff] at hnode
                simp only [decide_eq_false_iff_not] at hnode
                omega
              clear hnode hst
              by_cases hneg : mj.to_ < 0
              · go_wp2_with fail
                go_roundw
                case rel => exact ⟨i + 1, st, by go_num, by omega, hone.out, hkb, hst2.out⟩
                case measure => simp [intOf]; omega
              · have hge : nd % 5 ≤ mj.to_ := by omega
                clear hnn
                go_wp2_with fail
                go_roundw
                case rel => exact ⟨i + 1, st, by go_num, by omega, hone.out, hkb, hst2.out⟩
                case measure => simp [intOf]; omega
            | true =>
              have hnn : 0 ≤ mj.to_ ∧ mj.to_ < nd % 5 := by
                unfold isNode at hnode
                rw [Bool.and_eq_true] at hnode
                simpa using hnode
              obtain ⟨hnn1, hnn2⟩ := hnn
              have hpop := toCome_pop (nd % 5) (dl % 1000) m st i (j - (i + 1)) hst.out.1 (by rw [show (j - (i + 1)) + 1 = j - i from by omega]; exact hst.out.2) (by rw [← HMJ.out]; exact hnode)
              rw [← HMJ.out] at hpop
              obtain ⟨n1, p1, p2, p3, p4⟩ := hpop
              have hn1 : n1 + 1 ≤ 1000000 := by
                have h := hst.out.2.length_eq
                have h2 : (toCome (nd % 5) (dl % 1000) m i (j - i)).length ≤ j - i := by
                  have key : ∀ c a, (toCome (nd % 5) (dl % 1000) m a c).length ≤ c := by
                    intro c
                    induction c with
                    | zero => intro a; simp [toCome]
                    | succ c ih =>
                      intro a
                      rw [toCome_front, List.length_append]
                      have := ih (a + 1)
                      have h1 : (one1 (nd % 5) (dl % 1000) m a).length ≤ 1 := by unfold one1; split <;> simp
                      omega
                  exact key _ _
                omega
              have P1 := hid p1
              have P2 := hid p2
              have hst2 : Hid (Okay (nextS st) ∧ (nextS st).waiting.Perm (toCome (nd % 5) (dl % 1000) m (i + 1) (j - (i + 1)))) := ⟨p4, p3⟩
              clear hnode hst p1 p2 p3 p4
              go_wp2_with fail
              refine (one_next hone.out n1 P1.out hn1 _ _ _ _ _ P2.out).mono ?_
              rintro e w7 ⟨rfl, n7, k7⟩
              have hkb2 := hkb.trans' k7 (fun i hi e => by omega)
              have d0 := hkb2.cell (v := .int .i64 mj.frm) (HC.out 0 (by omega)) (by simp)
              have d1 := hkb2.cell (v := .int .i64 mj.to_) (HC.out 1 (by omega)) (by simp)
              have d2 := hkb2.cell (v := .string mj.text) (HC.out 2 (by omega)) (by simp)
              simp only [Nat.add_zero, ← Nat.add_assoc] at d0 d1 d2
              have hgl : g < w7.heap.size := World.block_lt_of_cell? w7 _ d0
              have N7 := hid n7
              have K7 := hid hkb2
              clear n7 k7 hkb2 hone hkb c0 c1 c2 hz
              go_wp2_with fail
              go_quiet (fail)
              go_wp2_with fail
              refine ⟨⟨i + 1, nextS st, by go_num, by omega, N7.out.kb0 (((Kb.refl _ _).alloc _).drewN _), (K7.out.alloc _).drewN _, hst2⟩, by simp [intOf]; omega⟩
          · have hij : i = j := by omega
            subst hij
            have hw0 : st.waiting.length = 0 := by
              rw [hst.out.2.length_eq, Nat.sub_self]
              rfl
            have HW := hid hw0
            clear hw0
            go_wp2_with fail
            refine (one_wait hone.out).mono ?_
            rintro e w9 ⟨rfl, rfl⟩
            rw [HW.out]
            go_wp2_with fail
            go_ret
            exact ⟨rfl, hkb⟩
end Go.Proofs.Ytibnpddmohjeoaa
