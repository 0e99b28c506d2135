/- How the arguments of NetPlays read. -/
import Derived.Test.YtibnpddmohjeoaaIn2
import Derived.Test.YtibnpddmohjeoaaPlays
import Derived.SizedLaws
namespace Go.Proofs.Ytibnpddmohjeoaa
open Go.ChangeShapes Go.WideShapes Go.ChangeAt Go.RowKit Go.Deep

section
variable {H : Type} {enc : TypeId × Value → H} {w : World}
theorem weightsAll_mem {P : Program} {e : TypeId} : ∀ {l : List (DataW H)} {d : DataW H} {n : Nat}, d ∈ l → n ∈ d.weights P e → n ∈ DataW.weightsAll P e l := by
  intro l
  induction l with
  | nil => intro d n h; cases h
  | cons a l ih =>
    intro d n h hn
    simp only [DataW.weightsAll, List.mem_append]
    rw [List.mem_cons] at h
    rcases h with rfl | h
    · exact Or.inl hn
    · exact Or.inr (ih h hn)
theorem spot_none {a : Addr} {v : Value} (h : w.cell? a = some v) : a.spot = none ∧ a.block < w.heap.size := by
  refine ⟨?_, World.block_lt_of_cell? w _ h⟩
  unfold World.cell? at h
  split at h
  · split at h
    · cases h
    · rename_i hs
      cases hsp : a.spot with
      | none => rfl
      | some x => rw [hsp] at hs; simp at hs
  · cases h
theorem groups_in {k : Nat} {v : Value} {x : DataW H × List MemPlace} (h : DataW.trod enc Try.prog w 0 (fun _ => true) true k 32 [v] = some x) (hw : ∀ n ∈ x.1.weights Try.prog 32, n ≤ reachBytes) :
    ∃ gs, GroupsAt w w.heap.size v gs ∧ gs.length * 8 ≤ 140737488355328 := by
  have hC : Try.prog.cellsOf 3 = 1 := by kernel_rfl
  rcases open_slice Try.underlying32 h with ⟨hcs, _⟩ | ⟨a, len, cap, m, n, D, Pl, hcs, _, hl, hm, hmm, hx, hi⟩
  · simp at hcs
    subst hcs
    exact ⟨[], ⟨Or.inl ⟨_, _, rfl, rfl⟩, Or.inl rfl, fun h => absurd rfl h⟩, by simp⟩
  · simp at hcs
    subst hcs
    rw [hC] at hi
    have hbytes : Try.prog.bytesOf 3 = 8 := by kernel_rfl
    have hlen : len * 8 ≤ 140737488355328 := by
      have h1 := hw (((List.range len).map D).length + ((List.range (m - len)).map fun j => D (len + j)).length |> (· * Try.prog.bytesOf 3)) (by rw [hx]; simp [DataW.weights, Try.underlying32])
      simp only [List.length_map, List.length_range] at h1
      rw [hbytes] at h1
      have h2 : reachBytes < 2 ^ 47 := reachBytes_lt
      have h3 : len * 8 ≤ (len + (m - len)) * 8 := Nat.mul_le_mul_right _ (by omega)
      omega
    by_cases h0 : 0 < len
    · have hel : ∀ i, i < len → ∃ t : Int, w.cell? (a.add (i * 1)) = some (.int .i64 t) ∧ InI t := by
        intro i hlt
        obtain ⟨cs', h1, h2⟩ := hi i (by rw [hmm]; simp only [if_true]; omega)
        obtain ⟨t, e0, _, hwf⟩ := DataW.trod_int Try.underlying3 h2
        subst e0
        obtain ⟨_, _, g3⟩ := World.cells?_some h1
        have := g3 0 (by omega)
        have e : (a.add (i * 1)).add 0 = a.add (i * 1) := by unfold Addr.add; rfl
        rw [e] at this
        exact ⟨t, this, has_i64 (wf_has hwf)⟩
      obtain ⟨t0, hc0, _⟩ := hel 0 h0
      obtain ⟨b, off, spot⟩ := a
      have e0 : (⟨b, off, spot⟩ : Addr).add (0 * 1) = ⟨b, off, spot⟩ := by unfold Addr.add; rfl
      rw [e0] at hc0
      obtain ⟨hs, hb⟩ := spot_none hc0
      simp only at hs hb
      subst hs
      obtain ⟨l, hll, hp⟩ := list_of len (fun i (t : Int) => w.cell? ⟨b, off + i, none⟩ = some (.int .i64 t) ∧ InI t) (fun i hlt => by
        obtain ⟨t, g1, g2⟩ := hel i hlt
        rw [add_none, Nat.mul_one] at g1
        exact ⟨t, g1, g2⟩)
      subst hll
      exact ⟨l, ⟨Or.inr ⟨b, off, cap, rfl, hp⟩, Or.inr ⟨_, _, _, rfl⟩, fun _ g e => by simp only [Value.ownBlock, Option.some.injEq] at e; omega⟩, hlen⟩
    · have : len = 0 := by omega
      subst this
      exact ⟨[], ⟨Or.inl ⟨_, _, rfl, rfl⟩, Or.inr ⟨_, _, _, rfl⟩, fun h => absurd rfl h⟩, by simp⟩
theorem list4 {α : Type} {l : List α} (h : l.length = 4) : ∃ a b c d, l = [a, b, c, d] := by
  match l, h with
  | [a, b, c, d], _ => exact ⟨a, b, c, d, rfl⟩
theorem list6 {α : Type} {l : List α} (h : l.length = 6) : ∃ a b c d e f, l = [a, b, c, d, e, f] := by
  match l, h with
  | [a, b, c, d, e, f], _ => exact ⟨a, b, c, d, e, f, rfl⟩
theorem trod34 {k : Nat} {cs : List Value} {x : DataW H × List MemPlace} (h : DataW.trod enc Try.prog w 0 (fun _ => true) true k 34 cs = some x) (hw : ∀ n ∈ x.1.weights Try.prog 34, n ≤ reachBytes) :
    ∃ t : Ac, cs = t.cells ∧ GroupsAt w w.heap.size t.gv t.gs ∧ t.gs.length * 8 ≤ 140737488355328 := by
  obtain ⟨xs, n, _, hx, hlen, hxl, hf⟩ := DataW.trod_struct Try.underlying34 h
  have hC : Try.prog.cellsOf 34 = 6 := by kernel_rfl
  rw [hC] at hlen
  obtain ⟨a, b, c, d, e, f, rfl⟩ := list6 hlen
  obtain ⟨x0, x1, x2, x3, rfl⟩ := list4 hxl
  have h0 : DataW.trod enc Try.prog w 0 (fun _ => true) true n 3 (([a, b, c, d, e, f].drop 0).take (Try.prog.cellsOf 3)) = some x0 := hf 0 _ rfl
  have h1 : DataW.trod enc Try.prog w 0 (fun _ => true) true n 3 (([a, b, c, d, e, f].drop 1).take (Try.prog.cellsOf 3)) = some x1 := hf 1 _ rfl
  have h2 : DataW.trod enc Try.prog w 0 (fun _ => true) true n 31 (([a, b, c, d, e, f].drop 2).take (Try.prog.cellsOf 31)) = some x2 := hf 2 _ rfl
  have h3 : DataW.trod enc Try.prog w 0 (fun _ => true) true n 32 (([a, b, c, d, e, f].drop 5).take (Try.prog.cellsOf 32)) = some x3 := hf 3 _ rfl
  have c3 : Try.prog.cellsOf 3 = 1 := by kernel_rfl
  have c31 : Try.prog.cellsOf 31 = 3 := by kernel_rfl
  have c32 : Try.prog.cellsOf 32 = 1 := by kernel_rfl
  rw [c3] at h0 h1
  rw [c31] at h2
  rw [c32] at h3
  obtain ⟨v0, e0, _⟩ := DataW.trod_int (x := x0) Try.underlying3 h0
  obtain ⟨v1, e1, _⟩ := DataW.trod_int (x := x1) Try.underlying3 h1
  obtain ⟨m, e2⟩ := trod31 h2
  have h3' : DataW.trod enc Try.prog w 0 (fun _ => true) true n 32 [f] = some x3 := h3
  obtain ⟨gs, hg, hl⟩ := groups_in h3' (fun y hy => hw y (by
    rw [hx]
    simp only [DataW.weights, Try.underlying34]
    exact DataW.weights_mem_each (j := 3) rfl rfl y hy))
  simp [Msg.cells] at e0 e1 e2
  obtain ⟨e2, e3, e4⟩ := e2
  exact ⟨⟨v0, v1, m.frm, m.to_, m.text, f, gs⟩, by rw [e0, e1, e2, e3, e4]; rfl, hg, hl⟩
theorem acts_in {r : Reach} {base : Nat} {v : Value} {d : DataW H} {p : List MemPlace} (hv : Value.okWide Try.prog w r base 23 v) (h : DataW.Trod enc Try.prog w 0 (fun _ => true) true 23 v d p) (hw : ∀ n ∈ d.weights Try.prog 23, n ≤ reachBytes) :
    ∃ a n c l, v = .slice a n c ∧ ActsAt w a n c l ∧ n ≤ 9223372036854775807 := by
  obtain ⟨a0, len0, cap0, rfl⟩ := okWide_slice Try.underlying23 hv
  have hcap := cap_ok Try.underlying23 hv
  have hC : Try.prog.cellsOf 34 = 6 := by kernel_rfl
  obtain ⟨fuel, hf⟩ := h
  rcases open_slice Try.underlying23 hf with ⟨hcs, _⟩ | ⟨a, len, cap, m, k, D, Pl, hcs, _, hl, hm, hmm, hx, hi⟩
  · simp [Value.cells] at hcs
    obtain ⟨rfl, rfl, rfl⟩ := hcs
    exact ⟨_, _, _, [], rfl, ⟨by omega, rfl, fun i hi => by omega⟩, by omega⟩
  · simp [Value.cells] at hcs
    obtain ⟨rfl, rfl, rfl⟩ := hcs
    rw [hC] at hi
    have hd : d = .slice ((List.range len0).map D) ((List.range (m - len0)).map fun j => D (len0 + j)) := by
      have := congrArg Prod.fst hx
      exact this
    obtain ⟨b, off, spot⟩ := a
    have hel : ∀ i, i < len0 → ∃ t : Ac, spot = none ∧ b < w.heap.size ∧ (∀ f, f < 6 → w.cell? ⟨b, off + (i * 6 + f), none⟩ = t.cells[f]?) ∧ GroupsAt w w.heap.size t.gv t.gs ∧ t.gs.length * 8 ≤ 140737488355328 := by
      intro i hlt
      obtain ⟨cs', h1, h2⟩ := hi i (by rw [hmm]; simp only [if_true]; omega)
      obtain ⟨t, e0, hg, hgl⟩ := trod34 h2 (fun y hy => hw y (by
        rw [hd]
        simp only [DataW.weights, Try.underlying23, List.mem_cons, List.mem_append]
        exact Or.inr (Or.inl (weightsAll_mem (List.mem_map.2 ⟨i, List.mem_range.2 hlt, rfl⟩) hy))))
      subst e0
      obtain ⟨_, _, g3⟩ := World.cells?_some h1
      obtain ⟨cs0, h10, h20⟩ := hi 0 (by rw [hmm]; simp only [if_true]; omega)
      obtain ⟨_, gl0, g30⟩ := World.cells?_some h10
      have h0 := g30 0 (by omega)
      rw [List.getElem?_eq_getElem (by omega)] at h0
      have e0 : ((⟨b, off, spot⟩ : Addr).add (0 * 6)).add 0 = ⟨b, off, spot⟩ := by unfold Addr.add; rfl
      rw [e0] at h0
      obtain ⟨hs', hb⟩ := spot_none h0
      simp only at hs' hb
      subst hs'
      refine ⟨t, rfl, hb, fun f hlt => ?_, hg, hgl⟩
      have := g3 f hlt
      rwa [add_none, add_none, Nat.add_assoc] at this
    obtain ⟨l, hll, hp⟩ := list_of len0 _ hel
    refine ⟨_, _, _, l, rfl, ⟨hcap.1, hll, fun i hlt => ?_⟩, hcap.2⟩
    obtain ⟨rfl, hb, hc, hg, hgl⟩ := hp i hlt
    exact ⟨b, off, rfl, hb, hc, hg, hgl⟩
end
end Go.Proofs.Ytibnpddmohjeoaa
