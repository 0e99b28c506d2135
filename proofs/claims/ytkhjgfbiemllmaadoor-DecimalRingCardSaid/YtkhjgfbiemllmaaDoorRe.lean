/- The walks of the reference's cmp, times, minus on digits. -/
import Derived.Test.YtkhjgfbiemllmaaDoorRd
import Derived.Deep.QuietTactic
import Derived.BigQuiet
namespace Go.Proofs.YtkhjgfbiemllmaaDoor
open Go.RowKit

theorem digs_low (n k : Nat) (h : k < (digs P24 n).length) : P24 ^ k ≤ n := by
  have := digs_len P24 (by decide) n k
  omega
theorem dv_cut (l : List Nat) (m : Nat) : dv P24 l = dv P24 (l.take m) + P24 ^ (min m l.length) * dv P24 (l.drop m) := by
  have h := dv_append P24 (l.take m) (l.drop m)
  rw [List.take_append_drop, List.length_take] at h
  exact h
theorem take_all (l : List Nat) (m : Nat) (h : ∀ d ∈ l, d < P24) : dv P24 (l.take m) < P24 ^ (min m l.length) := by
  have := dv_lt P24 (l.take m) (fun d hd => h d (List.mem_of_mem_take hd))
  rwa [List.length_take] at this
theorem lex_lt (U V : List Nat) (m : Nat) (hl : U.length = V.length) (hm : m < U.length) (hU : ∀ d ∈ U, d < P24) (hd : U.drop (m + 1) = V.drop (m + 1)) (h : U[m]! < V[m]!) : dv P24 U < dv P24 V := by
  rw [dv_cut U m, dv_cut V m, dv_drop U m hm, dv_drop V m (by omega), hd, Nat.min_eq_left (by omega : m ≤ U.length), Nat.min_eq_left (by omega : m ≤ V.length)]
  have h1 := take_all U m hU
  rw [Nat.min_eq_left (by omega : m ≤ U.length)] at h1
  have h2 : P24 ^ m * (U[m]! + P24 * dv P24 (V.drop (m + 1))) + P24 ^ m ≤ P24 ^ m * (V[m]! + P24 * dv P24 (V.drop (m + 1))) := by
    rw [← Nat.mul_succ]
    exact Nat.mul_le_mul_left _ (by omega)
  omega
theorem len_lt (a b : Nat) (h : (digs P24 a).length < (digs P24 b).length) : a < b := by
  have h1 := (digs_len P24 (by decide) a (digs P24 a).length).1 (Nat.le_refl _)
  have h2 := digs_low b (digs P24 a).length h
  omega
attribute [local go_sem ↓] Go.wp_at_zero Go.wp_at_succ
set_option maxHeartbeats 4000000 in
theorem cmp_any (uv vv : Value) (a b B1 B2 : Nat) (w : World) (hu : RowD w B1 uv (digs P24 a)) (hv : RowD w B2 vv (digs P24 b)) (hla : (digs P24 a).length ≤ 1000000000) (hlb : (digs P24 b).length ≤ 1000000000) :
    Calls Tryd.prog 61 #[uv, vv] w fun e w' => (∃ c : Int, e = .returned (.int .i64 c) ∧ (c < 0 ↔ a < b) ∧ (0 < c ↔ b < a)) ∧ Kb (fun _ => False) w w' := by
  obtain ⟨ua, uc, rfl⟩ := hu.slice
  obtain ⟨va, vc, rfl⟩ := hv.slice
  have hmu := digs_lt P24 (by decide) a
  have hmv := digs_lt P24 (by decide) b
  have hdu : dv P24 (digs P24 a) = a := dv_digs P24 (by decide) _
  have hdw : dv P24 (digs P24 b) = b := dv_digs P24 (by decide) _
  have hll := len_lt a b
  have hll2 := len_lt b a
  have HMU := hid hmu
  have HMV := hid hmv
  have HDU := hid hdu
  have HDW := hid hdw
  have HU := hid hu
  have HV := hid hv
  have HL1 := hid hll
  have HL2 := hid hll2
  clear hmu hmv hdu hdw hu hv hll hll2
  generalize digs P24 a = U at *
  generalize digs P24 b = V at *
  by_cases hl : U.length = V.length
  · have h1 : (((U.length : Nat) : Int) != ((V.length : Nat) : Int)) = false := by rw [hl]; simp
    have HL := hid hl
    have hle : U.length ≤ V.length := by omega
    clear hl
    go_enter Tryd.func61, Tryd.ntmps61
    go_wp2_with fail
    go_loopw [5] (fun kv wr => ∃ j : Nat, kv = .int .i64 ((j : Int) - 1) ∧ j ≤ U.length ∧ Hid (U.drop j = V.drop j) ∧ Kb (fun _ => False) w wr) (fun kv _ => (intOf kv + 1).toNat)
    case atStart => exact ⟨U.length, rfl, Nat.le_refl _, by (show U.drop _ = V.drop _); rw [List.drop_of_length_le (Nat.le_refl _), List.drop_of_length_le (by rw [HL.out]; exact Nat.le_refl _)], Kb.refl _ _⟩
    case round =>
      obtain ⟨j, rfl, hj, hd, hkb⟩ := hrel
      cases j with
      | zero =>
        go_wp2_with fail
        go_ret
        have h := hd.out
        rw [List.drop_zero, List.drop_zero] at h
        have hab : a = b := by rw [← HDU.out, ← HDW.out, h]
        subst hab
        exact ⟨⟨0, rfl, by omega, by omega⟩, hkb⟩
      | succ m =>
        rw [show ((m + 1 : Nat) : Int) - 1 = (m : Int) by omega]
        obtain ⟨g, rfl, _, _, hg, hc⟩ := HU.out.form (by omega)
        obtain ⟨g', rfl, _, _, hg', hc'⟩ := HV.out.form (by omega)
        have c1 := hkb.cell (hc m (by omega)) (by simp)
        have c2 := hkb.cell (hc' m (by omega)) (by simp)
        have hx1 : U[m]! < 16777216 := HMU.out _ (by rw [List.getElem!_eq_getElem?_getD, List.getElem?_eq_getElem (by omega : m < U.length)]; exact List.getElem_mem _)
        have hx2 : V[m]! < 16777216 := HMV.out _ (by rw [List.getElem!_eq_getElem?_getD, List.getElem?_eq_getElem (by omega : m < V.length)]; exact List.getElem_mem _)
        have hlex1 := lex_lt U V m HL.out (by omega) HMU.out hd.out
        have hlex2 := lex_lt V U m HL.out.symm (by omega) HMV.out hd.out.symm
        rw [HDU.out, HDW.out] at hlex1 hlex2
        have hdr : U[m]! = V[m]! → U.drop m = V.drop m := by
          intro e
          rw [List.drop_eq_getElem_cons (by omega : m < U.length), List.drop_eq_getElem_cons (by omega : m < V.length), hd.out]
          congr 1
          rw [List.getElem!_eq_getElem?_getD, List.getElem!_eq_getElem?_getD, List.getElem?_eq_getElem (by omega : m < U.length), List.getElem?_eq_getElem (by omega : m < V.length)] at e
          exact e
        have HX1 := hid hlex1
        have HX2 := hid hlex2
        have HDR := hid hdr
        have hm0 : (0 : Int) ≤ (m : Int) := Int.natCast_nonneg _
        have hm1 : (m : Int) < (U.length : Int) := by omega
        have hm2 : (m : Int) < (V.length : Int) := by omega
        clear hlex1 hlex2 hdr hc hc'
        generalize U[m]! = x at *
        generalize V[m]! = y at *
        by_cases hxy : x = y
        · have hb : ((x : Int) != (y : Int)) = false := by rw [hxy]; simp
          have HXY := hid hxy
          clear hxy
          go_wp2_with fail
          go_quiet (fail)
          go_wp2_with fail
          exact ⟨⟨m, by go_num, by omega, HDR.out HXY.out, hkb.drewN _⟩, by simp [intOf]⟩
        · have hb : ((x : Int) != (y : Int)) = true := by rw [bne_iff_ne]; omega
          go_wp2_with fail
          go_quiet (fail)
          go_wp2_with fail
          go_quiet (fail)
          go_wp2_with fail
          go_ret
          refine ⟨⟨(x : Int) - y, rfl, ?_, ?_⟩, (hkb.drewN _).drewN _⟩
          · constructor
            · intro h; exact HX1.out (by omega)
            · intro h
              rcases Nat.lt_or_ge x y with h1 | h1
              · omega
              · have := HX2.out (by omega); omega
          · constructor
            · intro h; exact HX2.out (by omega)
            · intro h
              rcases Nat.lt_or_ge y x with h1 | h1
              · omega
              · have := HX1.out (by omega); omega
  · have h1 : (((U.length : Nat) : Int) != ((V.length : Nat) : Int)) = true := by rw [bne_iff_ne]; omega
    go_enter Tryd.func61, Tryd.ntmps61
    go_wp2_with fail
    go_ret
    refine ⟨⟨(U.length : Int) - V.length, rfl, ?_, ?_⟩, Kb.refl _ _⟩
    · constructor
      · intro h; exact HL1.out (by omega)
      · intro h
        rcases Nat.lt_or_ge U.length V.length with h2 | h2
        · omega
        · have := HL2.out (by omega); omega
    · constructor
      · intro h; exact HL2.out (by omega)
      · intro h
        rcases Nat.lt_or_ge V.length U.length with h2 | h2
        · omega
        · have := HL1.out (by omega); omega

theorem times_step (out u : List Nat) (j cy d s N : Nat) (hj : out.length = j) (h : dv P24 out + P24 ^ j * (cy + dv P24 (u.drop j) * d) = N) (hs : s = u.getD j 0 * d + cy) :
    dv P24 (out ++ [s % P24]) + P24 ^ (j + 1) * (s / P24 + dv P24 (u.drop (j + 1)) * d) = N := by
  rw [dv_drop' u j] at h
  rw [dv_snoc, hj, Nat.pow_succ, ← h]
  have e1 : cy + (u.getD j 0 + P24 * dv P24 (u.drop (j + 1))) * d = s + P24 * (dv P24 (u.drop (j + 1)) * d) := by rw [Nat.add_mul, Nat.mul_assoc]; omega
  have e2 : s = s % P24 + P24 * (s / P24) := (Nat.mod_add_div s P24).symm
  rw [e1]
  have e3 : P24 ^ j * P24 * (s / P24 + dv P24 (u.drop (j + 1)) * d) = P24 ^ j * (P24 * (s / P24) + P24 * (dv P24 (u.drop (j + 1)) * d)) := by
    rw [Nat.mul_assoc, Nat.mul_add P24]
  rw [e3, Nat.add_assoc, ← Nat.mul_add, ← Nat.add_assoc, ← e2]
theorem mul_lt24 (x d : Nat) (hx : x < 16777216) (hd : d < 16777216) : x * d ≤ 281474943156225 := Nat.le_trans (Nat.mul_le_mul (show x ≤ 16777215 by omega) (show d ≤ 16777215 by omega)) (by decide)
theorem out_snoc (out : List Nat) (d : Nat) (h : ∀ x ∈ out, x < P24) (hd : d < P24) : ∀ x ∈ out ++ [d], x < P24 := by
  intro x hx
  rw [List.mem_append, List.mem_singleton] at hx
  rcases hx with hx | rfl
  · exact h x hx
  · exact hd
set_option maxHeartbeats 4000000 in
theorem times_any (uv : Value) (U : List Nat) (d B : Nat) (w : World) (hu : RowD w B uv U) (hm : ∀ x ∈ U, x < P24) (hd : d < 16777216) (hl : U.length ≤ 100000000) :
    Calls Tryd.prog 64 #[uv, .int .i64 d] w fun e w' => (∃ v, e = .returned v ∧ RowD w' w.heap.size v (digs P24 (dv P24 U * d))) ∧ Kb (fun _ => False) w w' := by
  obtain ⟨ua, uc, rfl⟩ := hu.slice
  have HU := hid hu
  have HM := hid hm
  clear hu hm
  go_enter Tryd.func64, Tryd.ntmps64
  go_wp2_with fail
  go_loopw [5, 6, 7, 8] (fun ov cv kv _ wr => ∃ (out : List Nat) (cy : Nat) (oa : Option Addr) (oc : Nat), ov = .slice oa out.length oc ∧ cv = .int .i64 cy ∧ kv = .int .i64 out.length ∧ cy < 16777216 ∧ out.length ≤ U.length ∧ Hid (∀ x ∈ out, x < P24) ∧
      RowD wr w.heap.size (.slice oa out.length oc) out ∧ Kb (fun _ => False) w wr ∧ Hid (dv P24 out + P24 ^ out.length * (cy + dv P24 (U.drop out.length) * d) = dv P24 U * d)) (fun _ _ kv _ _ => U.length - (intOf kv).toNat)
  case atStart =>
    refine ⟨[], 0, none, 0, rfl, rfl, rfl, by omega, by simp, (by intro d h; cases h), RowD.nil _ _, Kb.refl _ _, ?_⟩
    show dv P24 [] + P24 ^ 0 * (0 + dv P24 (U.drop 0) * d) = _
    simp [dv]
  case round =>
    obtain ⟨out, cy, oa, oc, rfl, rfl, rfl, hcy, hlen, HO, hrow, hkb, hinv⟩ := hrel
    have hz := hkb.size
    by_cases h1 : out.length < U.length
    · have hst := fun s hs => times_step out U out.length cy d s _ rfl hinv.out hs
      obtain ⟨g, rfl, _, _, hg, hc⟩ := HU.out.form (by omega)
      have c1 := hkb.cell (hc out.length h1) (by simp)
      have hd1 : U[out.length]! < 16777216 := HM.out _ (by rw [List.getElem!_eq_getElem?_getD, List.getElem?_eq_getElem h1]; exact List.getElem_mem _)
      rw [getD_of_lt U out.length] at hst
      have HS := hid hst
      clear hst hc
      generalize U[out.length]! = x at *
      have hxd := mul_lt24 x d hd1 hd
      obtain ⟨y, hy⟩ : ∃ y, x * d = y := ⟨_, rfl⟩
      have hyi : (x : Int) * (d : Int) = (y : Int) := by rw [← hy, Int.natCast_mul]
      rw [hy] at hxd
      have HY := hid hy
      obtain ⟨s, hs⟩ : ∃ s, s = y + cy := ⟨_, rfl⟩
      have HST := hid (HS.out s (by rw [HY.out, hs]))
      have hsi : (y : Int) + (cy : Int) = (s : Int) := by omega
      have hsb : s ≤ 281474959933440 := by omega
      have HSI := hid hsi
      clear hs hsi hy
      go_wp2_with (at_builtin; go_must (rw [HSI.out]; refine app_int1 rfl _ _ rfl w.heap.size _ out (s % P24) (by rfl) (by rfl) hrow (by unfold P24; omega) (by omega) hz ?_); intro oa' oc' w3 hrow2 hkb2)
      refine ⟨⟨out ++ [s % P24], s / P24, oa', oc', by rw [List.length_append, List.length_singleton], by unfold P24; go_num, by rw [List.length_append, List.length_singleton]; go_num, ?_, ?_, out_lt out s HO.out, ?_, hkb.trans' hkb2 (fun i hi hx => by omega), ?_⟩, ?_⟩
      · unfold P24; omega
      · rw [List.length_append, List.length_singleton]; omega
      · rw [List.length_append, List.length_singleton]; exact hrow2
      · show dv P24 (out ++ [s % P24]) + P24 ^ (out ++ [s % P24]).length * (s / P24 + dv P24 (U.drop (out ++ [s % P24]).length) * d) = _
        rw [List.length_append, List.length_singleton]
        exact HST.out
      · simp only [intOf]; omega
    · have hll : out.length = U.length := by omega
      have hfin : dv P24 (out ++ [cy]) = dv P24 U * d := by
        have h := hinv.out
        rw [List.drop_of_length_le (by omega)] at h
        rw [dv_snoc, ← h]
        simp [dv]
      have HF := hid hfin
      clear hfin hll
      go_wp2_with (at_builtin; go_must (refine app_int1 rfl _ _ rfl w.heap.size _ out cy (by rfl) (by rfl) hrow rfl (by omega) hz ?_); intro oa' oc' w3 hrow2 hkb2)
      refine (trim_any _ (out ++ [cy]) w.heap.size w3 hrow2 (by rw [List.length_append, List.length_singleton]; omega)).mono ?_
      rintro e w4 ⟨⟨v', rfl, hr⟩, rfl⟩
      go_wp2_with fail
      go_ret
      refine ⟨⟨_, rfl, ?_⟩, hkb.trans' hkb2 (fun i hi hx => by omega)⟩
      rw [← HF.out, digs_dv P24 (by decide) _ (out_snoc out cy HO.out hcy)]
      exact hr

theorem minus_step (out U V : List Nat) (j bw bw' e : Nat) (hj : out.length = j) (hjU : j < U.length) (h : dv P24 (U.take j) + P24 ^ j * bw = dv P24 out + dv P24 (V.take j)) (he : e + V.getD j 0 + bw = U.getD j 0 + P24 * bw') :
    dv P24 (U.take (j + 1)) + P24 ^ (j + 1) * bw' = dv P24 (out ++ [e]) + dv P24 (V.take (j + 1)) := by
  have h1 : dv P24 (U.take (j + 1)) = dv P24 (U.take j) + P24 ^ j * U.getD j 0 := by
    rw [take_snoc U j hjU, dv_snoc, List.length_take, Nat.min_eq_left (by omega), getD_of_lt]
  have h2 : dv P24 (V.take (j + 1)) = dv P24 (V.take j) + P24 ^ j * V.getD j 0 := by
    by_cases hv : j < V.length
    · rw [take_snoc V j hv, dv_snoc, List.length_take, Nat.min_eq_left (by omega), getD_of_lt]
    · rw [List.take_of_length_le (by omega), List.take_of_length_le (by omega), getD_of_ge V j (by omega)]
      omega
  rw [h1, h2, dv_snoc, hj, Nat.pow_succ, Nat.mul_assoc]
  have h3 : P24 ^ j * (e + V.getD j 0 + bw) = P24 ^ j * (U.getD j 0 + P24 * bw') := by rw [he]
  simp only [Nat.mul_add] at h3
  omega
end Go.Proofs.YtkhjgfbiemllmaaDoor
