/- One net in blocks from B on: its methods. -/
import Derived.Test.YtibnpddmohjeoaaOwn
namespace Go.Proofs.Ytibnpddmohjeoaa
open Go.RowKit

def One (B b : Nat) (st : St) (w : World) : Prop := NetIs (fun x => B ≤ x) b w st
section
variable {B b : Nat} {st : St} {w : World}
theorem One.kb {w' : World} {T : Nat → Prop} (h : One B b st w) (k : Kb T w w') (hT : ∀ x, T x → x < B) : One B b st w' := NetIs.kb h k (fun x hx t => by have := hT x t; omega)
theorem One.kb0 {w' : World} (h : One B b st w) (k : Kb (fun _ => False) w w') : One B b st w' := NetIs.kb h k (fun _ _ x => x)
theorem one_new (nodes : Int) (v : Value) (l : List Tr) (hn : l.length ≤ 1000000) (h : RowT w v l) (hB : B ≤ w.heap.size) :
    Calls Try.prog 13 #[.int .i64 nodes, v] w fun e w' => ∃ b, e = .returned (.pointer (some ⟨b, 0, none⟩)) ∧ Kb (fun _ => False) w w' ∧ One B b (newS nodes l) w' :=
  (new_any nodes v l w hn h).mono fun _ _ ⟨b, he, k, n⟩ => ⟨b, he, k, NetIs.mono n (fun x hx => by omega)⟩
theorem one_send (h : One B b st w) (hB : B ≤ w.heap.size) (now f t : Int) (x : ByteArray) (hsc : st.script.length ≤ 1000000) (hse : st.sent ≤ 1000000) (hwl : st.waiting.length ≤ 900000)
    (hbd : drops st ⟨f, t, x⟩ = false → (-1000000000000 ≤ now ∧ now ≤ 1000000000000) ∧ (trOf st.script st.sent).delay ≤ 1000000000000) (hnd : st.nodes ≤ 9223372036854775807) :
    Calls Try.prog 15 #[.pointer (some ⟨b, 0, none⟩), .int .i64 now, .agg #[.int .i64 f, .int .i64 t, .string x]] w fun e w' => e = .returned (.tuple #[]) ∧ One B b (sendS st now ⟨f, t, x⟩) w' ∧ Kb (fun x => B ≤ x) w w' := by
  refine (send_at _ b st now f t x w h hsc hse hwl hbd hnd).mono ?_
  rintro e w' ⟨he, S', g1, g2, g3⟩
  exact ⟨he, NetIs.mono g3 (fun x hx => by rcases g1 x hx with h | h; exact h; omega), g2⟩
theorem one_next (h : One B b st w) (n : Nat) (h0 : st.waiting.length = n + 1) (hn : n + 1 ≤ 1000000) (f t : Int) (x : ByteArray) (tm s : Int) (hp : (popL st.waiting)[n]! = ⟨f, t, x, tm, s⟩) :
    Calls Try.prog 19 #[.pointer (some ⟨b, 0, none⟩)] w fun e w' => e = .returned (.tuple #[.agg #[.int .i64 f, .int .i64 t, .string x], .int .i64 tm, .bool true]) ∧ One B b (nextS st) w' ∧ Kb (fun x => B ≤ x) w w' := by
  refine (next_at _ b n st w h h0 hn f t x tm s hp).mono ?_
  rintro e w' ⟨he, g2, g3⟩
  exact ⟨he, g3, g2⟩
theorem one_empty (h : One B b st w) (h0 : st.waiting = []) :
    Calls Try.prog 19 #[.pointer (some ⟨b, 0, none⟩)] w fun e w' => e = .returned noMsg ∧ One B b st w' ∧ Kb (fun _ => False) w w' := by
  refine (next_empty _ b st w h h0).mono ?_
  rintro e w' ⟨he, g2⟩
  exact ⟨he, One.kb0 h g2, g2⟩
theorem one_wait (h : One B b st w) : Calls Try.prog 21 #[.pointer (some ⟨b, 0, none⟩)] w fun e w' => e = .returned (.int .i64 st.waiting.length) ∧ w' = w :=
  wait_at _ b st w h
theorem one_part (h : One B b st w) (hB : B ≤ w.heap.size) (gs : List Int) (v : Value) (hv : IntsAt w v gs) (hsep : ∀ g, v.ownBlock = some g → g < B) (hl : gs.length ≤ 9223372036854775807) :
    Calls Try.prog 17 #[.pointer (some ⟨b, 0, none⟩), v] w fun e w' => e = .returned (.tuple #[]) ∧ One B b (partS st gs) w' ∧ Kb (fun x => B ≤ x) w w' := by
  refine (part_any _ b st gs v w h hv (fun g e => ⟨fun hx => by have := hsep g e; omega, by have := hsep g e; omega⟩) hl).mono ?_
  rintro e w' ⟨he, S', g1, g2, g3⟩
  exact ⟨he, NetIs.mono g3 (fun x hx => by rcases g1 x hx with h | h; exact h; omega), g2⟩
end

/-- A slice of messages. -/
def MsgsAt (w : World) (a : Option Addr) (n c : Nat) (l : List Msg) : Prop :=
  n ≤ c ∧ l.length = n ∧ ∀ i, i < n → ∃ g o, a = some ⟨g, o, none⟩ ∧ g < w.heap.size ∧ ∀ f, f < 3 → w.cell? ⟨g, o + (i * 3 + f), none⟩ = (l[i]!).cells[f]?
theorem MsgsAt.take {w : World} {a : Option Addr} {n c : Nat} {l : List Msg} (h : MsgsAt w a n c l) (k : Nat) (hk : k ≤ n) : MsgsAt w a k c (l.take k) := by
  obtain ⟨h1, h2, h3⟩ := h
  refine ⟨by omega, by rw [List.length_take]; omega, fun i hi => ?_⟩
  obtain ⟨g, o, e, hg, hc⟩ := h3 i (by omega)
  refine ⟨g, o, e, hg, fun f hf => ?_⟩
  rw [hc f hf]
  simp [List.getElem!_eq_getElem?_getD, hi]

/-! What is to come, for messages one after another -/
section
variable (nodes d : Int) (l : List Msg)
def one1 (i : Nat) : List Pc := if isNode nodes (l[i]!).to_ = true then [mkPc l[i]! (10 * i + d) i] else []
def toCome (a c : Nat) : List Pc := (List.range' a c).flatMap (one1 nodes d l)
theorem toCome_front (a c : Nat) : toCome nodes d l a (c + 1) = one1 nodes d l a ++ toCome nodes d l (a + 1) c := by
  unfold toCome
  rw [List.range'_succ, List.flatMap_cons]
theorem toCome_back (c : Nat) : toCome nodes d l 0 (c + 1) = toCome nodes d l 0 c ++ one1 nodes d l c := by
  unfold toCome
  rw [List.range'_1_concat, List.flatMap_append]
  simp
theorem toCome_mem (a c : Nat) (p : Pc) (h : p ∈ toCome nodes d l a c) : ∃ i, a ≤ i ∧ i < a + c ∧ p.tm = 10 * i + d := by
  unfold toCome at h
  rw [List.mem_flatMap] at h
  obtain ⟨i, hi, hp⟩ := h
  rw [List.mem_range'_1] at hi
  unfold one1 at hp
  split at hp
  · simp only [List.mem_singleton] at hp
    subst hp
    exact ⟨i, hi.1, hi.2, rfl⟩
  · cases hp
/-- The net after the first k messages. -/
def whS : Nat → St
  | 0 => newS nodes [⟨false, 0, d⟩]
  | k + 1 => sendS (whS k) (10 * k) l[k]!
theorem drops_zero (st : St) (m : Msg) (h1 : (trOf st.script st.sent).lost = false) (h2 : ∀ k, st.grp k = 0) : drops st m = !isNode st.nodes m.to_ := by
  unfold drops
  simp [h1, h2]
theorem whS_ok (hd : 0 ≤ d) : ∀ k, (whS nodes d l k).script = [⟨false, 0, d⟩] ∧ (whS nodes d l k).sent = k ∧ (whS nodes d l k).nodes = nodes ∧ (∀ x, (whS nodes d l k).grp x = 0) ∧ Okay (whS nodes d l k) ∧
    (whS nodes d l k).waiting.Perm (toCome nodes d l 0 k) ∧ (whS nodes d l k).waiting.length ≤ 8 * k := by
  intro k
  induction k with
  | zero => exact ⟨rfl, rfl, rfl, fun _ => rfl, Okay.new _ _, List.Perm.refl _, by simp [whS, newS]⟩
  | succ k ih =>
    obtain ⟨h1, h2, h3, h4, h5, h6, h7⟩ := ih
    have hlen := sendS_len (whS nodes d l k) (10 * k) l[k]!
    refine ⟨by rw [whS, sendS_script, h1], by rw [whS, sendS_sent, h2], by rw [whS, sendS_nodes, h3], by rw [whS, sendS_grp]; exact h4, h5.send _ _, ?_, by rw [whS]; omega⟩
    have ht : trOf (whS nodes d l k).script (whS nodes d l k).sent = ⟨false, 0, d⟩ := by rw [h1]; simp [trOf, Nat.mod_one]
    have hdr := drops_zero (whS nodes d l k) l[k]! (by rw [ht]) h4
    rw [h3] at hdr
    rw [toCome_back, whS]
    unfold sendS one1
    rw [hdr]
    cases hn : isNode nodes (l[k]!).to_ with
    | false => simpa using h6
    | true =>
      simp only [Bool.not_true, Bool.false_eq_true, if_false, if_true]
      rw [ht, show copiesOf ⟨false, 0, d⟩ = 1 from rfl, h2]
      have e : max d 0 = d := by omega
      simp only [e]
      refine (pushK_perm _ _ _ _ 1).trans ?_
      simp only [batch]
      refine List.perm_append_comm.trans ?_
      refine List.Perm.append h6 ?_
      simp
/-- What Next gives while the messages come in their order. -/
theorem toCome_pop (st : St) (k c : Nat) (hok : Okay st) (hp : st.waiting.Perm (toCome nodes d l k (c + 1))) (hn : isNode nodes (l[k]!).to_ = true) :
    ∃ n, st.waiting.length = n + 1 ∧ (popL st.waiting)[n]! = mkPc l[k]! (10 * k + d) k ∧ (nextS st).waiting.Perm (toCome nodes d l (k + 1) c) ∧ Okay (nextS st) := by
  rw [toCome_front] at hp
  unfold one1 at hp
  rw [if_pos hn] at hp
  have hl := hp.length_eq
  simp only [List.singleton_append, List.length_cons] at hl
  refine ⟨(toCome nodes d l (k + 1) c).length, hl, ?_⟩
  obtain ⟨e1, e2, e3, e4⟩ := popL_spec st.waiting _ hl hok
  have hmem := get!_mem st.waiting 0 (by omega)
  have hr : st.waiting[0]! = mkPc l[k]! (10 * k + d) k := by
    have h1 := (hp.mem_iff (a := st.waiting[0]!)).1 hmem
    simp only [List.singleton_append, List.mem_cons] at h1
    rcases h1 with h1 | h1
    · exact h1
    · exfalso
      obtain ⟨i, hi, _, ht⟩ := toCome_mem _ _ _ _ _ _ h1
      have h2 := e4 (mkPc l[k]! (10 * k + d) k) ((hp.mem_iff).2 (by simp))
      rw [leP_iff, ht] at h2
      simp only [mkPc] at h2
      omega
  rw [e1, hr]
  refine ⟨rfl, ?_, hok.next _ hl⟩
  rw [hr] at e2
  have h3 := e2.trans hp
  rw [List.singleton_append] at h3
  have h4 := h3.cons_inv
  unfold nextS
  simp only [hl, Nat.add_sub_cancel]
  exact h4
end
end Go.Proofs.Ytibnpddmohjeoaa
