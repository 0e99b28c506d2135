/- The relation between the program's net and the reference's, without a program. -/
import Derived.Test.YtibnpddmohjeoaaRsend
import Derived.Test.YtibnpddmohjeoaaRnext
import Derived.Test.YtibnpddmohjeoaaAlone
namespace Go.Proofs.Ytibnpddmohjeoaa
open Go.RowKit

/-- What holds between the two nets. -/
structure Rel (st : St) (rs : RS) : Prop where
  nodes : st.nodes = rs.nodes
  script : st.script = rs.script
  sent : st.sent = rs.sent
  grp : st.grp = grpOf rs.gs
  ok : Okay st
  perm : st.waiting.Perm rs.l
  same : ∀ p ∈ rs.l, ∀ q ∈ rs.l, p.sent = q.sent → p.frm = q.frm ∧ p.to_ = q.to_ ∧ p.text = q.text
  low : ∀ p ∈ rs.l, p.sent < rs.sent

theorem rel_new (nodes : Int) (l : List Tr) : Rel (newS nodes l) ⟨nodes, l, [], 0, []⟩ := by
  refine ⟨rfl, rfl, rfl, ?_, Okay.new _ _, List.Perm.refl _, ?_, ?_⟩
  · funext k
    unfold newS grpOf
    rw [if_neg (by simp)]
  · intro p h; cases h
  · intro p h; cases h
theorem batch_batchF (m : Msg) (t : Int) (s : Nat) : ∀ k, (batch m t s k).Perm (batchF m t s k) := by
  intro k
  induction k with
  | zero => exact List.Perm.refl _
  | succ k ih =>
    rw [batch, batchF]
    exact (ih.cons _).trans (List.perm_append_comm (l₁ := [mkPc m (t + k) s]) (l₂ := batchF m t s k))
theorem batchF_form (m : Msg) (t : Int) (s k : Nat) (p : Pc) (h : p ∈ batchF m t s k) : p = ⟨m.frm, m.to_, m.text, p.tm, s⟩ :=
  batch_form m t s k p ((batch_batchF m t s k).mem_iff.2 h)
theorem rel_drops {st : St} {rs : RS} (h : Rel st rs) (m : Msg) : drops rs.st m = drops st m := by
  unfold drops RS.st
  rw [h.nodes, h.script, h.sent, h.grp]
theorem rel_send {st : St} {rs : RS} (h : Rel st rs) (now : Int) (m : Msg) : Rel (sendS st now m) (rsendS rs now m) := by
  have hd := rel_drops h m
  have hok := h.ok.send now m
  unfold sendS at hok ⊢
  unfold rsendS
  rw [hd]
  cases hD : drops st m with
  | true =>
    rw [hD] at hok
    simp only [if_true] at hok ⊢
    exact ⟨h.nodes, h.script, by show st.sent + 1 = rs.sent + 1; rw [h.sent], h.grp, hok, h.perm, h.same, fun p hp => by have := h.low p hp; show p.sent < ((rs.sent + 1 : Nat) : Int); omega⟩
  | false =>
    rw [hD] at hok
    simp only [Bool.false_eq_true, if_false] at hok ⊢
    refine ⟨h.nodes, h.script, by show st.sent + 1 = rs.sent + 1; rw [h.sent], h.grp, hok, ?_, ?_, ?_⟩
    · show (pushK st.waiting m _ st.sent _).Perm (rs.l ++ batchF m _ rs.sent _)
      rw [← h.script, ← h.sent]
      exact (pushK_perm _ _ _ _ _).trans (((batch_batchF _ _ _ _).append h.perm).trans List.perm_append_comm)
    · intro p hp q hq e
      simp only [List.mem_append] at hp hq
      rcases hp with hp | hp <;> rcases hq with hq | hq
      · exact h.same p hp q hq e
      · have h1 := h.low p hp
        have h2 := batchF_form _ _ _ _ _ hq
        have h3 : q.sent = rs.sent := by rw [h2]
        omega
      · have h1 := h.low q hq
        have h2 := batchF_form _ _ _ _ _ hp
        have h3 : p.sent = rs.sent := by rw [h2]
        omega
      · have h1 := batchF_form _ _ _ _ _ hp
        have h2 := batchF_form _ _ _ _ _ hq
        rw [h1, h2]
        exact ⟨rfl, rfl, rfl⟩
    · intro p hp
      simp only [List.mem_append] at hp
      show p.sent < ((rs.sent + 1 : Nat) : Int)
      rcases hp with hp | hp
      · have := h.low p hp; omega
      · have h3 : p.sent = rs.sent := by rw [batchF_form _ _ _ _ _ hp]
        omega
theorem rel_part {st : St} {rs : RS} (h : Rel st rs) (gs : List Int) : Rel (partS st gs) { rs with gs := gs } :=
  ⟨h.nodes, h.script, h.sent, rfl, h.ok, h.perm, h.same, h.low⟩
theorem take_drop_perm (l : List Pc) (i : Nat) (h : i < l.length) : (l[i]! :: (l.take i ++ l.drop (i + 1))).Perm l := by
  have e : l.take i ++ l[i]! :: l.drop (i + 1) = l := by
    rw [List.getElem!_eq_getElem?_getD, List.getElem?_eq_getElem h, Option.getD_some, ← List.drop_eq_getElem_cons h, List.take_append_drop]
  exact List.perm_middle.symm.trans (by rw [e])
theorem rel_next {st : St} {rs : RS} (h : Rel st rs) (n : Nat) (hn : st.waiting.length = n + 1) :
    ∃ p, (popL st.waiting)[n]! = p ∧ rs.l[bestN rs.l n]! = p ∧ rs.l.length = n + 1 ∧ Rel (nextS st) (rnextS rs) := by
  obtain ⟨e1, e2, e3, e4⟩ := popL_spec st.waiting n hn h.ok
  have hl : rs.l.length = n + 1 := by rw [← h.perm.length_eq, hn]
  have hb := bestN_le rs.l n
  have hm1 := get!_mem st.waiting 0 (by omega)
  have hm2 := get!_mem rs.l (bestN rs.l n) (by omega)
  have l1 := e4 _ (h.perm.mem_iff.2 hm2)
  have hm3 := h.perm.mem_iff.1 hm1
  have l2 : leP rs.l[bestN rs.l n]! st.waiting[0]! := by
    obtain ⟨i, hi, he⟩ := List.getElem_of_mem hm3
    have := bestN_least rs.l n i (by omega)
    rw [List.getElem!_eq_getElem?_getD (l := rs.l) (i := i), List.getElem?_eq_getElem hi, Option.getD_some, he] at this
    exact this
  have hpq : rs.l[bestN rs.l n]! = st.waiting[0]! := by
    rw [leP_iff] at l1 l2
    have ht : rs.l[bestN rs.l n]!.tm = st.waiting[0]!.tm := by omega
    have hs : rs.l[bestN rs.l n]!.sent = st.waiting[0]!.sent := by omega
    obtain ⟨a, b, c⟩ := h.same _ hm2 _ hm3 hs
    generalize rs.l[bestN rs.l n]! = x at *
    generalize st.waiting[0]! = y at *
    cases x
    cases y
    simp only at ht hs a b c
    rw [ht, hs, a, b, c]
  refine ⟨_, e1, hpq, hl, h.nodes, h.script, h.sent, h.grp, h.ok.next n hn, ?_, ?_, ?_⟩
  · have hnw : (nextS st).waiting = (popL st.waiting).take n := by unfold nextS; simp only [hn, Nat.add_sub_cancel]
    have hrw : (rnextS rs).l = rs.l.take (bestN rs.l n) ++ rs.l.drop (bestN rs.l n + 1) := by unfold rnextS; simp only [hl, Nat.add_sub_cancel]
    rw [hnw, hrw]
    have h1 := (e2.trans h.perm).trans (take_drop_perm rs.l (bestN rs.l n) (by omega)).symm
    rw [hpq] at h1
    exact h1.cons_inv
  · intro p hp q hq
    exact h.same p (by unfold rnextS at hp; simp only [List.mem_append] at hp; rcases hp with hp | hp; exact List.mem_of_mem_take hp; exact List.mem_of_mem_drop hp) q (by unfold rnextS at hq; simp only [List.mem_append] at hq; rcases hq with hq | hq; exact List.mem_of_mem_take hq; exact List.mem_of_mem_drop hq)
  · intro p hp
    exact h.low p (by unfold rnextS at hp; simp only [List.mem_append] at hp; rcases hp with hp | hp; exact List.mem_of_mem_take hp; exact List.mem_of_mem_drop hp)
end Go.Proofs.Ytibnpddmohjeoaa
