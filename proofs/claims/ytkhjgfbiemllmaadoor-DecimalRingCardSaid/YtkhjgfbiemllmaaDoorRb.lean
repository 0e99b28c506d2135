/- The walk of the reference's 'of': the digits of a number. -/
import Derived.Test.YtkhjgfbiemllmaaDoorRa
import Derived.Test.YtkhjgfbiemllmaaDoorRow
namespace Go.Proofs.YtkhjgfbiemllmaaDoor
open Go.RowKit

def P24 : Nat := 16777216
theorem enc_head (n : Nat) (b : UInt8) (r : List UInt8) (h : enc n = b :: r) : b ≠ 0 := by
  rintro rfl
  have h1 := canon_enc n
  rw [h, canon_cons, if_pos rfl] at h1
  have h2 := canon_length r
  rw [h1] at h2
  simp only [List.length_cons] at h2
  omega
theorem enc_take_pos (n e : Nat) (h0 : 0 < e) (he : e ≤ (enc n).length) : nv ((enc n).take e) ≠ 0 := by
  cases hl : enc n with
  | nil => rw [hl] at he; simp at he; omega
  | cons b r =>
    have hb := enc_head n b r hl
    have hb' : b.toNat ≠ 0 := fun e => hb (UInt8.toNat_inj.1 (by rw [e]; rfl))
    obtain ⟨e', rfl⟩ : ∃ e', e = e' + 1 := ⟨e - 1, by omega⟩
    rw [List.take_succ_cons, nv_cons]
    have : 0 < b.toNat * 256 ^ (r.take e').length := Nat.mul_pos (by omega) (Nat.pow_pos (by omega))
    omega
theorem chunk (l : List UInt8) (e : Nat) (h0 : 0 < e) (he : e ≤ l.length) (hp : nv (l.take e) ≠ 0) :
    digs P24 (nv (l.take e)) = nv ((l.take e).drop (e - 3)) :: digs P24 (nv (l.take (e - 3))) := by
  have h1 := nv_append ((l.take e).take (e - 3)) ((l.take e).drop (e - 3))
  rw [List.take_append_drop, List.take_take, Nat.min_eq_left (by omega : e - 3 ≤ e), List.length_drop, List.length_take, Nat.min_eq_left he] at h1
  have h2 := nv_lt ((l.take e).drop (e - 3))
  rw [List.length_drop, List.length_take, Nat.min_eq_left he] at h2
  have h3 : 256 ^ (e - (e - 3)) ≤ 256 ^ 3 := Nat.pow_le_pow_right (by omega) (by omega)
  have h5 : nv (l.take (e - 3)) * 256 ^ (e - (e - 3)) = P24 * nv (l.take (e - 3)) := by
    by_cases h : 3 ≤ e
    · rw [show e - (e - 3) = 3 by omega, Nat.mul_comm]; rfl
    · rw [show e - 3 = 0 by omega]
      simp [nv]
  rw [h5] at h1
  rw [h1, Nat.add_comm]
  refine digs_cons P24 (by decide) _ _ (by unfold P24; omega) ?_
  rw [h1] at hp
  by_cases h : nv ((l.take e).drop (e - 3)) = 0
  · right
    intro hz
    rw [h, hz] at hp
    simp at hp
  · exact Or.inl h
theorem take_chunk (s : ByteArray) (lo k : Nat) (hl : lo ≤ k) (hk : k < s.size) : nv ((s.data.toList.take (k + 1)).drop lo) = nv ((s.data.toList.take k).drop lo) * 256 + s[k].toNat := by
  have h : k < s.data.toList.length := by simpa using hk
  rw [List.take_succ_eq_append_getElem h, List.drop_append_of_le_length (by simp; omega), nv_snoc]
  rfl
theorem chunk_lt (l : List UInt8) (lo k : Nat) (h : k ≤ lo + 3) : nv ((l.take k).drop lo) < 16777216 := by
  have h2 := nv_lt ((l.take k).drop lo)
  have h3 : 256 ^ ((l.take k).drop lo).length ≤ 256 ^ 3 := Nat.pow_le_pow_right (by omega) (by rw [List.length_drop, List.length_take]; omega)
  omega

set_option maxHeartbeats 2000000 in
theorem of_any (s : ByteArray) (w : World) (hs : s.size ≤ 1000000000) :
    Calls Tryd.prog 59 #[.string s] w fun e w' => ∃ v, e = .returned v ∧ RowD w' w.heap.size v (digs P24 (sv s)) ∧ Kb (fun _ => False) w w' := by
  obtain ⟨t, hts, htp, htl, htn⟩ : ∃ t : ByteArray, natS (sv s) = t ∧ (∀ e, 0 < e → e ≤ t.size → nv (t.data.toList.take e) ≠ 0) ∧ t.size ≤ s.size ∧ sv t = sv s := by
    refine ⟨_, rfl, fun e h0 he => ?_, ?_, sv_natS _⟩
    · exact enc_take_pos (sv s) e h0 he
    · rw [natS_sv]
      exact canon_length s.data.toList
  have HTS := hid hts
  have HTP := hid htp
  have HN := hid htn
  clear hts htp htn
  go_enter Tryd.func59, Tryd.ntmps59
  go_wp2_with fail
  refine (canon_is s t w (by omega) HTS.out).mono ?_
  rintro e w' ⟨rfl, rfl⟩
  obtain ⟨w0, rfl⟩ : ∃ w0 : World, w0 = w' := ⟨_, rfl⟩
  go_wp2_with fail
  go_loopw [3, 4, 5, 6] (fun ov ev _ _ wr => ∃ (out : List Nat) (oa : Option Addr) (oc : Nat), ov = .slice oa out.length oc ∧ ev = .int .i64 ((t.size : Int) - 3 * (out.length : Int)) ∧ 3 * out.length ≤ t.size + 2 ∧ RowD wr w0.heap.size (.slice oa out.length oc) out ∧
      Kb (fun _ => False) w0 wr ∧ Hid (digs P24 (sv s) = out ++ digs P24 (nv (t.data.toList.take (t.size - 3 * out.length))))) (fun _ ev _ _ _ => (intOf ev).toNat)
  case atStart =>
    refine ⟨[], none, 0, rfl, by simp, by simp, RowD.nil _ _, Kb.refl _ _, ?_⟩
    show digs P24 (sv s) = [] ++ digs P24 (nv (t.data.toList.take (t.size - 3 * 0)))
    rw [List.nil_append, Nat.mul_zero, Nat.sub_zero, List.take_of_length_le (by simp)]
    exact congrArg (digs P24) HN.out.symm
  case round =>
    obtain ⟨out, oa, oc, rfl, rfl, hb, hrow, hkb, hdig⟩ := hrel
    by_cases hgt : 3 * out.length < t.size
    · obtain ⟨e, he⟩ : ∃ e, e = t.size - 3 * out.length := ⟨_, rfl⟩
      have hE := hid he
      have he0 : 0 < e := by omega
      have hel : e ≤ t.size := by omega
      have hei : (t.size : Int) - 3 * (out.length : Int) = (e : Int) := by omega
      rw [hei]
      clear he hei
      go_wp2_with fail
      all_goals
        go_loop [5, 6] (fun dv kv => ∃ k : Nat, kv = .int .i64 k ∧ e - 3 ≤ k ∧ k ≤ e ∧ dv = .int .i64 (nv ((t.data.toList.take k).drop (e - 3)))) (fun _ kv => e - (intOf kv).toNat)
        case atStart =>
          refine ⟨e - 3, by go_num, Nat.le_refl _, by omega, ?_⟩
          have h : nv ((t.data.toList.take (e - 3)).drop (e - 3)) = 0 := by rw [List.drop_of_length_le (by rw [List.length_take]; omega)]; rfl
          rw [h]; rfl
        case round =>
          obtain ⟨k, rfl, hk1, hk2, rfl⟩ := hrel
          by_cases hlt : k < e
          · have h1 := take_chunk t (e - 3) k hk1 (by omega)
            have h2 := chunk_lt t.data.toList (e - 3) (k + 1) (by omega)
            have H1 := hid h1
            rw [h1] at h2
            have h3 := t[k].toNat_lt
            have hkt : k < t.size := by omega
            clear h1
            generalize nv ((t.data.toList.take k).drop (e - 3)) = m at *
            go_wp2_with fail
            exact ⟨⟨k + 1, by go_num, by omega, by omega, by rw [H1.out]; go_num⟩, by simp [intOf]; omega⟩
          · have hke : k = e := by omega
            subst hke
            have hch := chunk t.data.toList k he0 (by simpa using hel) (HTP.out k he0 hel)
            have HCH := hid hch
            clear hch
            generalize nv ((t.data.toList.take k).drop (k - 3)) = d at *
            go_wp2_with (at_builtin; go_must (refine app_int1 rfl _ _ rfl w0.heap.size (.slice oa out.length oc) out d (by rfl) (by rfl) hrow rfl (by omega) hkb.size ?_); intro oa' oc' w2 hrow2 hkb2)
            refine ⟨⟨out ++ [d], oa', oc', by rw [List.length_append, List.length_singleton], ?_, ?_, ?_, hkb.trans' hkb2 (fun i hi hx => by omega), ?_⟩, ?_⟩
            · rw [List.length_append, List.length_singleton]
              have := hE.out
              go_num
            · rw [List.length_append, List.length_singleton]
              have := hE.out
              omega
            · rw [List.length_append, List.length_singleton]
              exact hrow2
            · have h1 := hdig.out
              rw [← hE.out, HCH.out] at h1
              show digs P24 (sv s) = (out ++ [d]) ++ digs P24 (nv (t.data.toList.take (t.size - 3 * (out ++ [d]).length)))
              rw [h1, List.append_assoc, List.length_append, List.length_singleton, show t.size - 3 * (out.length + 1) = k - 3 by have := hE.out; omega]
              rfl
            · have := hE.out
              simp [intOf]
              omega
    · go_wp2_with fail
      go_ret
      refine ⟨_, rfl, ?_, hkb⟩
      have h1 := hdig.out
      rw [show t.size - 3 * out.length = 0 by omega, List.take_zero, nv_nil, digs_zero, List.append_nil] at h1
      rw [h1]
      exact hrow
end Go.Proofs.YtkhjgfbiemllmaaDoor
