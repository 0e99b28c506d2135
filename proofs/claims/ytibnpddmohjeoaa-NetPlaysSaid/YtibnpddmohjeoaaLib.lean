/- How the arguments of the laws read: the values' forms and the cells behind them. -/
import Derived.Test.YtibnpddmohjeoaaOne
import Derived.ProofKit
import Derived.OpenShut
import Derived.ShutString
import Derived.ChangeOld
import Derived.Lib.SmallJoins
import Derived.Deep.Slices
import Derived.Deep.Fields
namespace Go.Proofs.Ytibnpddmohjeoaa
open Go.ChangeShapes Go.WideShapes Go.ChangeAt Go.RowKit Go.Deep

theorem Try.own : ownKnob Try.prog.godebug = none := by kernel_rfl
theorem Try.laidOut : laidOutB Try.prog = true := by kernel_rfl

section
variable {P : Program} {w : World} {r : Reach} {base : Nat}
/-- The cells of an aggregate that came in, each of its own type. -/
theorem agg_cells {t : TypeId} {v : Value} (hk : (match P.underlying t with | some (.struct _) | some (.array _ _) => true | _ => false) = true) (ts : List TypeId) (hts : P.cellTypes P.depth t = some ts) (hn : P.cellsOf t = ts.length) (h : Value.okWide P w r base t v) :
    ∃ cs : List Value, v = .agg cs.toArray ∧ cs.length = ts.length ∧ ∀ (i : Nat) (u : TypeId) (x : Value), ts[i]? = some u → cs[i]? = some x → Cell.okWide P w r base u x := by
  have h2 : ∃ cs, v = .agg cs ∧ cs.size = P.cellsOf t ∧ Row.okWide P w r base t cs := by
    unfold Value.okWide at h
    revert hk h
    cases P.underlying t with
    | none => intro hk; cases hk
    | some d => cases d <;> first | (intro _ h; exact h) | (intro hk; cases hk)
  obtain ⟨cs, rfl, hsz, ts', hts', _, hc⟩ := h2
  rw [hts] at hts'
  simp only [Option.some.injEq] at hts'
  subst hts'
  refine ⟨cs.toList, by simp, by simp [hsz, hn], fun i u x hu hx => ?_⟩
  have hi : i < ts.length := (List.getElem?_eq_some_iff.1 hu).1
  obtain ⟨u', hu', hok⟩ := hc i x (by simpa using hx)
  rw [Nat.mod_eq_of_lt hi, hu] at hu'
  simp only [Option.some.injEq] at hu'
  subst hu'
  exact hok
theorem cell_int {u : TypeId} {k : IntKind} (hu : P.underlying u = some (.int k)) {v : Value} (h : Cell.okWide P w r base u v) : ∃ n, v = .int k n ∧ k.has n := by
  unfold Cell.okWide at h
  rw [hu] at h
  simp only [Cell.ok, hu] at h
  cases v <;> simp_all
theorem cell_bool {u : TypeId} (hu : P.underlying u = some .bool) {v : Value} (h : Cell.okWide P w r base u v) : ∃ n, v = .bool n := by
  unfold Cell.okWide at h
  rw [hu] at h
  simp only [Cell.ok, hu] at h
  cases v <;> simp_all
theorem cell_string {u : TypeId} (hu : P.underlying u = some .string) {v : Value} (h : Cell.okWide P w r base u v) : ∃ n, v = .string n := by
  unfold Cell.okWide at h
  rw [hu] at h
  simp only [Cell.ok, hu] at h
  cases v <;> simp_all
end
end Go.Proofs.Ytibnpddmohjeoaa
namespace Go.Proofs.Ytibnpddmohjeoaa
open Go.ChangeShapes Go.WideShapes Go.ChangeAt Go.RowKit Go.Deep
theorem Value.ok_int' {P : Program} {w : World} {r : Reach} {base : Nat} {u : TypeId} {k : IntKind} (hu : P.underlying u = some (.int k)) {v : Value} (h : Value.okWide P w r base u v) : ∃ n, v = .int k n ∧ k.has n := by
  unfold Value.okWide at h
  rw [hu] at h
  exact cell_int hu h
theorem list2 {α : Type} {l : List α} (h : l.length = 2) : ∃ a b, l = [a, b] := by
  match l, h with
  | [a, b], _ => exact ⟨a, b, rfl⟩
theorem list3 {α : Type} {l : List α} (h : l.length = 3) : ∃ a b c, l = [a, b, c] := by
  match l, h with
  | [a, b, c], _ => exact ⟨a, b, c, rfl⟩
theorem has_u8 {n : Int} (h : IntKind.u8.has n) : 0 ≤ n ∧ n ≤ 255 := by
  have h2 : IntKind.u8.min ≤ n ∧ n ≤ IntKind.u8.max := h
  rw [show IntKind.u8.min = 0 from rfl, show IntKind.u8.max = 255 from rfl] at h2
  exact h2
theorem has_u16 {n : Int} (h : IntKind.u16.has n) : 0 ≤ n ∧ n ≤ 65535 := by
  have h2 : IntKind.u16.min ≤ n ∧ n ≤ IntKind.u16.max := h
  rw [show IntKind.u16.min = 0 from rfl, show IntKind.u16.max = 65535 from rfl] at h2
  exact h2
theorem has_i8 {n : Int} (h : IntKind.i8.has n) : -128 ≤ n ∧ n ≤ 127 := by
  have h2 : IntKind.i8.min ≤ n ∧ n ≤ IntKind.i8.max := h
  rw [show IntKind.i8.min = -128 from rfl, show IntKind.i8.max = 127 from rfl] at h2
  exact h2
theorem has_i64 {n : Int} (h : IntKind.i64.has n) : InI n := by
  have h2 : IntKind.i64.min ≤ n ∧ n ≤ IntKind.i64.max := h
  rw [show IntKind.i64.min = -9223372036854775808 from rfl, show IntKind.i64.max = 9223372036854775807 from rfl] at h2
  exact h2
theorem list_of {α : Type} [Inhabited α] (n : Nat) (P : Nat → α → Prop) (h : ∀ i, i < n → ∃ a, P i a) : ∃ l : List α, l.length = n ∧ ∀ i, i < n → P i l[i]! := by
  induction n with
  | zero => exact ⟨[], rfl, fun i hi => by omega⟩
  | succ n ih =>
    obtain ⟨l, hl, hp⟩ := ih (fun i hi => h i (by omega))
    obtain ⟨a, ha⟩ := h n (by omega)
    refine ⟨l ++ [a], by simp [hl], fun i hi => ?_⟩
    by_cases e : i = n
    · subst e
      rw [List.getElem!_eq_getElem?_getD, List.getElem?_append_right (by omega), hl]
      simpa using ha
    · have := hp i (by omega)
      rw [List.getElem!_eq_getElem?_getD] at this ⊢
      rw [List.getElem?_append_left (by omega)]
      exact this

theorem add_none (b o j : Nat) : (⟨b, o, none⟩ : Addr).add j = ⟨b, o + j, none⟩ := by
  unfold Addr.add
  split
  · rename_i h; subst h; rfl
  · rfl
/-- A slice that came in: its elements' cells. -/
theorem slice_cells {H : Type} {enc : TypeId × Value → H} {P : Program} {w : World} {r : Reach} {base : Nat} {t e : TypeId} {v : Value} {d : DataW H} {p : List MemPlace} (n : Nat) (ht : P.underlying t = some (.slice e)) (hn : P.cellsOf e = n)
    (F : List Value → Prop) (hF : ∀ k cs x, DataW.trod enc P w 0 (fun _ => true) true k e cs = some x → F cs) (hv : Value.okWide P w r base t v)
    (h : DataW.Trod enc P w 0 (fun _ => true) true t v d p) :
    (∃ a c, v = .slice a 0 c ∧ ∀ g, v.ownBlock = some g → g < w.heap.size) ∨ ∃ g o len c, v = .slice (some ⟨g, o, none⟩) len c ∧ len ≤ 9223372036854775807 ∧ g < w.heap.size ∧ ∀ i, i < len → ∃ cs, F cs ∧ cs.length = n ∧ ∀ j, j < n → w.cell? ⟨g, o + (i * n + j), none⟩ = cs[j]? := by
  obtain ⟨a0, len0, cap0, rfl⟩ := okWide_slice ht hv
  have hok : Cell.ok P w r base t (.slice a0 len0 cap0) := by
    unfold Value.okWide at hv
    rw [ht] at hv
    unfold Cell.okWide at hv
    rw [ht] at hv
    exact hv
  obtain ⟨fuel, hf⟩ := h
  rcases open_slice ht hf with ⟨hcs, _⟩ | ⟨a, len, cap, m, k, D, Pl, hcs, _, hl, hm, hmm, _, hi⟩
  · left
    simp [Value.cells] at hcs
    obtain ⟨rfl, rfl, rfl⟩ := hcs
    exact ⟨_, _, rfl, by intro g e; cases e⟩
  · simp [Value.cells] at hcs
    obtain ⟨rfl, rfl, rfl⟩ := hcs
    have hhas : a.spot = none ∧ a.block < w.heap.size := by
      unfold Cell.ok at hok
      rw [ht] at hok
      obtain ⟨_, _, _, hs, row, cells, hsh, _⟩ := hok
      refine ⟨hs, ?_⟩
      unfold World.shape? at hsh
      rcases Nat.lt_or_ge a.block w.heap.size with h' | h'
      · exact h'
      · rw [Array.getElem?_eq_none h'] at hsh
        cases hsh
    by_cases h0 : 0 < len0
    · right
      obtain ⟨b, off, spot⟩ := a
      rw [hn] at hi
      have hcell : ∀ i, i < len0 → ∃ cs, F cs ∧ cs.length = n ∧ ∀ j, j < n → w.cell? (((⟨b, off, spot⟩ : Addr).add (i * n)).add j) = cs[j]? := by
        intro i hlt
        obtain ⟨cs', h1, h2⟩ := hi i (by rw [hmm]; simp only [if_true]; omega)
        obtain ⟨_, g2, g3⟩ := World.cells?_some h1
        exact ⟨cs', hF _ _ _ h2, g2, g3⟩
      obtain ⟨hspot, hb⟩ := hhas
      simp only at hspot hb
      subst hspot
      refine ⟨b, off, len0, cap0, rfl, by unfold maxLen at hm; omega, hb, fun i hlt => ?_⟩
      obtain ⟨cs, g1, g2, g3⟩ := hcell i hlt
      refine ⟨cs, g1, g2, fun j hj => ?_⟩
      have := g3 j hj
      rwa [add_none, add_none, Nat.add_assoc] at this
    · left
      have e0 : len0 = 0 := by omega
      subst e0
      refine ⟨_, _, rfl, ?_⟩
      intro g e
      simp only [Value.ownBlock, Option.some.injEq] at e
      subst e
      exact hhas.2
theorem trod44 {H : Type} {enc : TypeId × Value → H} {w : World} {k : Nat} {cs : List Value} {x : DataW H × List MemPlace} (h : DataW.trod enc Try.prog w 0 (fun _ => true) true k 44 cs = some x) : ∃ t : Tr, cs = t.cells := by
  obtain ⟨xs, n, _, _, hlen, hxl, hf⟩ := DataW.trod_struct Try.underlying44 h
  have hC : Try.prog.cellsOf 44 = 3 := by kernel_rfl
  rw [hC] at hlen
  obtain ⟨a, b, c, rfl⟩ := list3 hlen
  obtain ⟨x0, x1, x2, rfl⟩ := list3 hxl
  have h0 : DataW.trod enc Try.prog w 0 (fun _ => true) true n 4 (([a, b, c].drop 0).take (Try.prog.cellsOf 4)) = some x0 := hf 0 _ rfl
  have h1 : DataW.trod enc Try.prog w 0 (fun _ => true) true n 3 (([a, b, c].drop 1).take (Try.prog.cellsOf 3)) = some x1 := hf 1 _ rfl
  have h2 : DataW.trod enc Try.prog w 0 (fun _ => true) true n 3 (([a, b, c].drop 2).take (Try.prog.cellsOf 3)) = some x2 := hf 2 _ rfl
  have c3 : Try.prog.cellsOf 3 = 1 := by kernel_rfl
  have c4 : Try.prog.cellsOf 4 = 1 := by kernel_rfl
  rw [c4] at h0
  rw [c3] at h1 h2
  obtain ⟨v0, e0, _⟩ := DataW.trod_bool (x := x0) Try.underlying4 h0
  obtain ⟨v1, e1, _⟩ := DataW.trod_int (x := x1) Try.underlying3 h1
  obtain ⟨v2, e2, _⟩ := DataW.trod_int (x := x2) Try.underlying3 h2
  simp at e0 e1 e2
  exact ⟨⟨v0, v1, v2⟩, by rw [e0, e1, e2]; rfl⟩
theorem trs_in {H : Type} {enc : TypeId × Value → H} {w : World} {r : Reach} {base : Nat} {v : Value} {d : DataW H} {p : List MemPlace} (hv : Value.okWide Try.prog w r base 22 v) (h : DataW.Trod enc Try.prog w 0 (fun _ => true) true 22 v d p) :
    ∃ l : List Tr, TrsAt w v l ∧ l.length ≤ 9223372036854775807 ∧ ∀ g, v.ownBlock = some g → g < w.heap.size := by
  rcases slice_cells 3 Try.underlying22 (by kernel_rfl) (fun cs => ∃ t : Tr, cs = t.cells) (fun k cs x => trod44) hv h with ⟨a, c, rfl, hb⟩ | ⟨g, o, len, c, rfl, hlen, hg, hc⟩
  · exact ⟨[], Or.inl ⟨a, c, rfl, rfl⟩, by simp, hb⟩
  · obtain ⟨l, hl, hp⟩ := list_of len (fun i (t : Tr) => ∀ f, f < 3 → w.cell? ⟨g, o + (i * 3 + f), none⟩ = t.cells[f]?) (fun i hi => by
      obtain ⟨cs, ⟨t, rfl⟩, _, hj⟩ := hc i hi
      exact ⟨t, hj⟩)
    subst hl
    exact ⟨l, Or.inr ⟨g, o, c, rfl, fun i f hi hf => hp i hi f hf⟩, hlen, fun g' e => by simp only [Value.ownBlock, Option.some.injEq] at e; omega⟩
theorem trod31 {H : Type} {enc : TypeId × Value → H} {w : World} {k : Nat} {cs : List Value} {x : DataW H × List MemPlace} (h : DataW.trod enc Try.prog w 0 (fun _ => true) true k 31 cs = some x) : ∃ t : Msg, cs = t.cells := by
  obtain ⟨xs, n, _, _, hlen, hxl, hf⟩ := DataW.trod_struct Try.underlying31 h
  have hC : Try.prog.cellsOf 31 = 3 := by kernel_rfl
  rw [hC] at hlen
  obtain ⟨a, b, c, rfl⟩ := list3 hlen
  obtain ⟨x0, x1, x2, rfl⟩ := list3 hxl
  have h0 : DataW.trod enc Try.prog w 0 (fun _ => true) true n 3 (([a, b, c].drop 0).take (Try.prog.cellsOf 3)) = some x0 := hf 0 _ rfl
  have h1 : DataW.trod enc Try.prog w 0 (fun _ => true) true n 3 (([a, b, c].drop 1).take (Try.prog.cellsOf 3)) = some x1 := hf 1 _ rfl
  have h2 : DataW.trod enc Try.prog w 0 (fun _ => true) true n 9 (([a, b, c].drop 2).take (Try.prog.cellsOf 9)) = some x2 := hf 2 _ rfl
  have c3 : Try.prog.cellsOf 3 = 1 := by kernel_rfl
  have c9 : Try.prog.cellsOf 9 = 1 := by kernel_rfl
  rw [c3] at h0 h1
  rw [c9] at h2
  obtain ⟨v0, e0, _⟩ := DataW.trod_int (x := x0) Try.underlying3 h0
  obtain ⟨v1, e1, _⟩ := DataW.trod_int (x := x1) Try.underlying3 h1
  obtain ⟨v2, e2, _⟩ := DataW.trod_string (x := x2) Try.underlying9 h2
  simp at e0 e1 e2
  exact ⟨⟨v0, v1, v2⟩, by rw [e0, e1, e2]; rfl⟩
theorem cap_ok {P : Program} {w : World} {r : Reach} {base : Nat} {t e : TypeId} {a : Option Addr} {n c : Nat} (ht : P.underlying t = some (.slice e)) (hv : Value.okWide P w r base t (.slice a n c)) : n ≤ c ∧ n ≤ 9223372036854775807 := by
  unfold Value.okWide at hv
  rw [ht] at hv
  unfold Cell.okWide at hv
  rw [ht] at hv
  cases a with
  | none =>
    unfold Cell.ok at hv
    rw [ht] at hv
    rcases n with _ | n
    · omega
    · exact hv.elim
  | some a =>
    unfold Cell.ok at hv
    rw [ht] at hv
    obtain ⟨h1, h2, _⟩ := hv
    rw [show IntKind.i64.max = 9223372036854775807 from rfl] at h2
    omega
theorem msgs_in {H : Type} {enc : TypeId × Value → H} {w : World} {r : Reach} {base : Nat} {v : Value} {d : DataW H} {p : List MemPlace} (hv : Value.okWide Try.prog w r base 47 v) (h : DataW.Trod enc Try.prog w 0 (fun _ => true) true 47 v d p) :
    ∃ a n c l, v = .slice a n c ∧ MsgsAt w a n c l ∧ n ≤ 9223372036854775807 := by
  rcases slice_cells 3 Try.underlying47 (by kernel_rfl) (fun cs => ∃ t : Msg, cs = t.cells) (fun k cs x => trod31) hv h with ⟨a, c, rfl, hb⟩ | ⟨g, o, len, c, rfl, hlen, hg, hc⟩
  · have := cap_ok Try.underlying47 hv
    exact ⟨a, 0, c, [], rfl, ⟨by omega, rfl, fun i hi => by omega⟩, by omega⟩
  · have := cap_ok Try.underlying47 hv
    obtain ⟨l, hl, hp⟩ := list_of len (fun i (t : Msg) => ∀ f, f < 3 → w.cell? ⟨g, o + (i * 3 + f), none⟩ = t.cells[f]?) (fun i hi => by
      obtain ⟨cs, ⟨t, rfl⟩, _, hj⟩ := hc i hi
      exact ⟨t, hj⟩)
    exact ⟨_, _, _, l, rfl, ⟨this.1, hl, fun i hi => ⟨g, o, rfl, hg, hp i hi⟩⟩, hlen⟩
end Go.Proofs.Ytibnpddmohjeoaa
