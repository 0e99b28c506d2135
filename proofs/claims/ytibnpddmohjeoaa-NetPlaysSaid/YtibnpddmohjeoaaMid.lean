/- The walks of container/heap's up and down over a row of copies. -/
import Derived.Test.YtibnpddmohjeoaaLow
namespace Go.Proofs.Ytibnpddmohjeoaa
open Go.RowKit

set_option maxHeartbeats 1000000 in
theorem up_any (b g c n j : Nat) (l : List Pc) (w : World) (hj : j < n) (hl : n ≤ 1000000) (hbg : b ≠ g)
    (hb : w.cell? ⟨b, 2, none⟩ = some (.slice (some ⟨g, 0, none⟩) n c)) (h : Row w g c n l) :
    Calls Try.prog 30 #[.iface 84 (.pointer (some ⟨b, 2, none⟩)), .int .i64 j] w fun e w' => e = .returned (.tuple #[]) ∧ Kb (fun k => k = g) w w' ∧ Row w' g c n (upL (j + 1) l j) := by
  go_enter Try.func30, Try.ntmps30
  go_wp2_with fail
  go_loopw [1, 4] (fun jv _ wr => ∃ (k : Nat) (m : List Pc), jv = .int .i64 k ∧ k < n ∧ Hid (upL (k + 1) m k = upL (j + 1) l j) ∧ Kb (fun k => k = g) w wr ∧ Row wr g c n m) (fun jv _ _ => (intOf jv).toNat)
  case atStart => exact ⟨j, l, rfl, hj, rfl, Kb.refl _ _, h⟩
  case round =>
    obtain ⟨k, m, rfl, hk, hup, hkb, hrow⟩ := hrel
    have hb' := hkb.cell hb hbg
    by_cases hk0 : k = 0
    · subst hk0
      go_wp2_with fail
      go_end0
      refine ⟨rfl, hkb, ?_⟩
      rw [← hup.out]
      simpa [upL] using hrow
    · obtain ⟨i, rfl⟩ : ∃ i, k = i + 1 := ⟨k - 1, by omega⟩
      have ht : ((i : Int) / 2 == (i : Int) + 1) = false := by rw [beq_eq_false_iff_ne]; omega
      have ml := m_less ⟨b, 2, none⟩ wr _ hb'
      have ms := fun q => m_swap ⟨b, 2, none⟩ (wr.drewN q) _ hb'
      have e1 : ((i : Int) + 1).toNat = i + 1 := by omega
      have e2 : ((i : Int) / 2).toNat = i / 2 := by omega
      have E1 := hid e1
      have E2 := hid e2
      clear e1 e2
      cases hless : lessP m[i + 1]! m[i / 2]! with
      | false =>
        have Hl := hid hless
        clear hless
        go_wp2_with fail
        refine (less_at g c n _ _ m wr (by omega) (by omega) (by omega) (by omega) hrow).mono ?_
        rintro e w' ⟨rfl, q, rfl⟩
        rw [E1.out, E2.out, Hl.out]
        go_wp2_with fail
        go_end0
        refine ⟨rfl, hkb.drewN q, ?_⟩
        rw [← hup.out, upL_stop m i Hl.out]
        exact hrow.drewN q
      | true =>
        have Hl := hid hless
        clear hless
        go_wp2_with fail
        refine (less_at g c n _ _ m wr (by omega) (by omega) (by omega) (by omega) hrow).mono ?_
        rintro e w' ⟨rfl, q, rfl⟩
        rw [E1.out, E2.out, Hl.out]
        have ms := m_swap ⟨b, 2, none⟩ (wr.drewN q) _ hb'
        go_wp2_with fail
        refine (swap_at g c n _ _ m _ (by omega) (by omega) (by omega) (by omega) (hrow.drewN q)).mono ?_
        rintro e w' ⟨rfl, hk2, hs2, hr2⟩
        rw [E1.out, E2.out] at hr2
        go_wp2_with fail
        go_roundw
        case rel =>
          refine ⟨i / 2, swapL m (i / 2) (i + 1), rfl, by omega, ?_, (hkb.drewN q).trans hk2, hr2⟩
          show _ = _
          rw [← hup.out, upL_step m i Hl.out]
        case measure => simp [intOf]; omega

set_option maxHeartbeats 2000000 in
theorem down_any (b g c n k : Nat) (l : List Pc) (w : World) (hk : k ≤ n) (hl : n ≤ 1000000) (hbg : b ≠ g)
    (hb : w.cell? ⟨b, 2, none⟩ = some (.slice (some ⟨g, 0, none⟩) n c)) (h : Row w g c n l) :
    Calls Try.prog 31 #[.iface 84 (.pointer (some ⟨b, 2, none⟩)), .int .i64 0, .int .i64 k] w fun e w' => (∃ t, e = .returned (.bool t)) ∧ Kb (fun k => k = g) w w' ∧ Row w' g c n (downL k l 0 k) := by
  go_enter Try.func31, Try.ntmps31
  go_wp2_with fail
  go_loopw [7, 8, 9, 10] (fun iv _ _ _ wr => ∃ (i : Nat) (m : List Pc), iv = .int .i64 i ∧ i ≤ n ∧ Hid (downL (k - i) m i k = downL k l 0 k) ∧ Kb (fun k => k = g) w wr ∧ Row wr g c n m) (fun iv _ _ _ _ => n - (intOf iv).toNat)
  case atStart => exact ⟨0, l, rfl, by omega, rfl, Kb.refl _ _, h⟩
  case round =>
    obtain ⟨i, m, rfl, hi, hdn, hkb, hrow⟩ := hrel
    have hb' := hkb.cell hb hbg
    by_cases hend : k ≤ 2 * i + 1
    · have ht : (k : Int) ≤ 2 * (i : Int) + 1 := by omega
      go_wp2_with fail
      go_ret
      refine ⟨⟨_, rfl⟩, hkb, ?_⟩
      rw [← hdn.out, downL_stop m i k (Or.inl hend)]
      exact hrow
    · have ht : 2 * (i : Int) + 1 < (k : Int) := by omega
      have ml := m_less ⟨b, 2, none⟩ wr _ hb'
      have e1 : (2 * (i : Int) + 1).toNat = 2 * i + 1 := by omega
      have e2 : (2 * (i : Int) + 1 + 1).toNat = 2 * i + 2 := by omega
      have E1 := hid e1
      have E2 := hid e2
      clear e1 e2
      by_cases h2 : 2 * i + 2 < k
      · have ht2 : 2 * (i : Int) + 1 + 1 < (k : Int) := by omega
        cases hkd : lessP m[2 * i + 2]! m[2 * i + 1]! with
        | false =>
          have Hk := hid hkd
          clear hkd
          have HK := hid (show kid m i k = 2 * i + 1 by unfold kid; rw [if_neg (by rintro ⟨_, h⟩; rw [Hk.out] at h; cases h)])
          cases hless : lessP m[2 * i + 1]! m[i]! with
          | false =>
            have Hl := hid hless
            clear hless
            go_wp2_with fail
            refine (less_at g c n _ _ m _ (by omega) (by omega) (by omega) (by omega) hrow).mono ?_
            rintro e w' ⟨rfl, q, rfl⟩
            rw [E2.out, E1.out, Hk.out]
            have ml2 := m_less ⟨b, 2, none⟩ (wr.drewN q) _ hb'
            go_wp2_with fail
            refine (less_at g c n _ _ m _ (by omega) (by omega) (by omega) (by omega) (hrow.drewN q)).mono ?_
            rintro e w' ⟨rfl, q2, rfl⟩
            rw [E1.out, Int.toNat_natCast, Hl.out]
            go_wp2_with fail
            go_ret
            refine ⟨⟨_, rfl⟩, hkb.drewN (q + q2), ?_⟩
            rw [← hdn.out, downL_stop m i k (Or.inr (by rw [HK.out]; exact Hl.out))]
            exact hrow.drewN (q + q2)
          | true =>
            have Hl := hid hless
            clear hless
            go_wp2_with fail
            refine (less_at g c n _ _ m _ (by omega) (by omega) (by omega) (by omega) hrow).mono ?_
            rintro e w' ⟨rfl, q, rfl⟩
            rw [E2.out, E1.out, Hk.out]
            have ml2 := m_less ⟨b, 2, none⟩ (wr.drewN q) _ hb'
            go_wp2_with fail
            refine (less_at g c n _ _ m _ (by omega) (by omega) (by omega) (by omega) (hrow.drewN q)).mono ?_
            rintro e w' ⟨rfl, q2, rfl⟩
            rw [E1.out, Int.toNat_natCast, Hl.out]
            have ms := m_swap ⟨b, 2, none⟩ (wr.drewN (q + q2)) _ hb'
            go_wp2_with fail
            refine (swap_at g c n _ _ m _ (by omega) (by omega) (by omega) (by omega) (hrow.drewN (q + q2))).mono ?_
            rintro e w' ⟨rfl, hk2, hs2, hr2⟩
            rw [E1.out, Int.toNat_natCast] at hr2
            go_wp2_with fail
            go_roundw
            case rel =>
              refine ⟨2 * i + 1, swapL m i (2 * i + 1), by go_num, by omega, ?_, (hkb.drewN (q + q2)).trans hk2, hr2⟩
              show _ = _
              have hst := downL_step m i k (by omega) (by rw [HK.out]; exact Hl.out)
              rw [HK.out] at hst
              rw [← hdn.out, hst]
            case measure => simp [intOf]; omega
        | true =>
          have Hk := hid hkd
          clear hkd
          have HK := hid (show kid m i k = 2 * i + 2 by unfold kid; rw [if_pos ⟨h2, Hk.out⟩])
          cases hless : lessP m[2 * i + 2]! m[i]! with
          | false =>
            have Hl := hid hless
            clear hless
            go_wp2_with fail
            refine (less_at g c n _ _ m _ (by omega) (by omega) (by omega) (by omega) hrow).mono ?_
            rintro e w' ⟨rfl, q, rfl⟩
            rw [E2.out, E1.out, Hk.out]
            have ml2 := m_less ⟨b, 2, none⟩ (wr.drewN q) _ hb'
            go_wp2_with fail
            refine (less_at g c n _ _ m _ (by omega) (by omega) (by omega) (by omega) (hrow.drewN q)).mono ?_
            rintro e w' ⟨rfl, q2, rfl⟩
            rw [E2.out, Int.toNat_natCast, Hl.out]
            go_wp2_with fail
            go_ret
            refine ⟨⟨_, rfl⟩, hkb.drewN (q + q2), ?_⟩
            rw [← hdn.out, downL_stop m i k (Or.inr (by rw [HK.out]; exact Hl.out))]
            exact hrow.drewN (q + q2)
          | true =>
            have Hl := hid hless
            clear hless
            go_wp2_with fail
            refine (less_at g c n _ _ m _ (by omega) (by omega) (by omega) (by omega) hrow).mono ?_
            rintro e w' ⟨rfl, q, rfl⟩
            rw [E2.out, E1.out, Hk.out]
            have ml2 := m_less ⟨b, 2, none⟩ (wr.drewN q) _ hb'
            go_wp2_with fail
            refine (less_at g c n _ _ m _ (by omega) (by omega) (by omega) (by omega) (hrow.drewN q)).mono ?_
            rintro e w' ⟨rfl, q2, rfl⟩
            rw [E2.out, Int.toNat_natCast, Hl.out]
            have ms := m_swap ⟨b, 2, none⟩ (wr.drewN (q + q2)) _ hb'
            go_wp2_with fail
            refine (swap_at g c n _ _ m _ (by omega) (by omega) (by omega) (by omega) (hrow.drewN (q + q2))).mono ?_
            rintro e w' ⟨rfl, hk2, hs2, hr2⟩
            rw [E2.out, Int.toNat_natCast] at hr2
            go_wp2_with fail
            go_roundw
            case rel =>
              refine ⟨2 * i + 2, swapL m i (2 * i + 2), by go_num, by omega, ?_, (hkb.drewN (q + q2)).trans hk2, hr2⟩
              show _ = _
              have hst := downL_step m i k (by omega) (by rw [HK.out]; exact Hl.out)
              rw [HK.out] at hst
              rw [← hdn.out, hst]
            case measure => simp [intOf]; omega
      · have ht2 : (k : Int) ≤ 2 * (i : Int) + 1 + 1 := by omega
        have HK := hid (show kid m i k = 2 * i + 1 by unfold kid; rw [if_neg (by rintro ⟨h, _⟩; exact h2 h)])
        cases hless : lessP m[2 * i + 1]! m[i]! with
        | false =>
          have Hl := hid hless
          clear hless
          go_wp2_with fail
          refine (less_at g c n _ _ m _ (by omega) (by omega) (by omega) (by omega) (hrow)).mono ?_
          rintro e w' ⟨rfl, q2, rfl⟩
          rw [E1.out, Int.toNat_natCast, Hl.out]
          go_wp2_with fail
          go_ret
          refine ⟨⟨_, rfl⟩, hkb.drewN q2, ?_⟩
          rw [← hdn.out, downL_stop m i k (Or.inr (by rw [HK.out]; exact Hl.out))]
          exact (hrow).drewN q2
        | true =>
          have Hl := hid hless
          clear hless
          go_wp2_with fail
          refine (less_at g c n _ _ m _ (by omega) (by omega) (by omega) (by omega) (hrow)).mono ?_
          rintro e w' ⟨rfl, q2, rfl⟩
          rw [E1.out, Int.toNat_natCast, Hl.out]
          have ms := m_swap ⟨b, 2, none⟩ (wr.drewN q2) _ hb'
          go_wp2_with fail
          refine (swap_at g c n _ _ m _ (by omega) (by omega) (by omega) (by omega) ((hrow).drewN q2)).mono ?_
          rintro e w' ⟨rfl, hk2, hs2, hr2⟩
          rw [E1.out, Int.toNat_natCast] at hr2
          go_wp2_with fail
          go_roundw
          case rel =>
            refine ⟨2 * i + 1, swapL m i (2 * i + 1), by go_num, by omega, ?_, (hkb.drewN q2).trans hk2, hr2⟩
            show _ = _
            have hst := downL_step m i k (by omega) (by rw [HK.out]; exact Hl.out)
            rw [HK.out] at hst
            rw [← hdn.out, hst]
          case measure => simp [intOf]; omega
end Go.Proofs.Ytibnpddmohjeoaa
