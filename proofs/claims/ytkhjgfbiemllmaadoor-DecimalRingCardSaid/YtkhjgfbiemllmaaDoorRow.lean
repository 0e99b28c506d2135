/- Rows of ints and of bytes that a call has made: append, and what follows. -/
import Derived.Test.YtkhjgfbiemllmaaDoorNum
import Derived.Maps.AppendAt
import Derived.Deep.AppendLies
import Derived.Deep.Onto
import Derived.Laws.OwnMore
import Derived.Laws.IdiomStrings
import Derived.OwnWalk
import Derived.ProofKit
namespace Go.Proofs.YtkhjgfbiemllmaaDoor
open Go.RowKit

def dV (l : List Nat) : List Value := l.map (fun d : Nat => .int .i64 (d : Int))
def bV (l : List UInt8) : List Value := l.map (fun b : UInt8 => .int .u8 (b.toNat : Int))
theorem dV_len (l : List Nat) : (dV l).length = l.length := by simp [dV]
theorem bV_len (l : List UInt8) : (bV l).length = l.length := by simp [bV]
theorem dV_snoc (l : List Nat) (d : Nat) : dV (l ++ [d]) = dV l ++ [.int .i64 (d : Int)] := by simp [dV]
theorem bV_append (l m : List UInt8) : bV (l ++ m) = bV l ++ bV m := by simp [bV]
theorem dV_append (l m : List Nat) : dV (l ++ m) = dV l ++ dV m := by simp [dV]
theorem dV_get (l : List Nat) (i : Nat) (h : i < l.length) : (dV l)[i]? = some (.int .i64 ((l[i]! : Nat) : Int)) := by
  simp [dV, List.getElem?_eq_getElem h, List.getElem!_eq_getElem?_getD]
theorem bV_get (l : List UInt8) (i : Nat) (h : i < l.length) : (bV l)[i]? = some (.int .u8 (l[i].toNat : Int)) := by
  simp [bV, List.getElem?_eq_getElem h]
theorem dV_one (l : List Nat) : ∀ u ∈ dV l, u.oneCell' = true := by
  intro u hu
  simp only [dV, List.mem_map] at hu
  obtain ⟨t, _, rfl⟩ := hu
  rfl
theorem bV_one (l : List UInt8) : ∀ u ∈ bV l, u.oneCell' = true := by
  intro u hu
  simp only [bV, List.mem_map] at hu
  obtain ⟨t, _, rfl⟩ := hu
  rfl
theorem infoInt : (Tryd.prog.info? 3).map (fun i => (i.zero, i.size, i.bytes)) = some (some (.int .i64 0), 1, 8) := by kernel_rfl
theorem infoU8 : (Tryd.prog.info? 5).map (fun i => (i.zero, i.size, i.bytes)) = some (some (.int .u8 0), 1, 1) := by kernel_rfl
theorem own_slice {w : World} {base : Nat} {e : TypeId} {size : Nat} {v : Value} {n : Nat} {xs : List Value} (h : w.ownsRow base e size v n xs) : ∃ a c, v = .slice a n c := by
  rcases h.2 with ⟨rfl, rfl⟩ | ⟨g', cap, cur, rfl, _, hh, _⟩
  · exact ⟨_, _, rfl⟩
  · exact ⟨_, _, rfl⟩
/-- A row of ints in blocks from B on. -/
def RowD (w : World) (B : Nat) (v : Value) (l : List Nat) : Prop := w.ownsRow B 3 1 v l.length (dV l)
/-- A row of bytes in blocks from B on. -/
def RowB (w : World) (B : Nat) (v : Value) (l : List UInt8) : Prop := w.ownsRow B 5 1 v l.length (bV l)
theorem RowD.nil (w : World) (B : Nat) : RowD w B (.slice none 0 0) [] := World.ownsRow_nil ..
theorem RowB.nil (w : World) (B : Nat) : RowB w B (.slice none 0 0) [] := World.ownsRow_nil ..
theorem RowD.slice {w : World} {B : Nat} {v : Value} {l : List Nat} (h : RowD w B v l) : ∃ a c, v = .slice a l.length c := own_slice h
theorem RowB.slice {w : World} {B : Nat} {v : Value} {l : List UInt8} (h : RowB w B v l) : ∃ a c, v = .slice a l.length c := own_slice h
theorem RowD.base {w : World} {B B' : Nat} {v : Value} {l : List Nat} (h : RowD w B v l) (hB : B' ≤ B) : RowD w B' v l := World.ownsRow.mono h hB
theorem RowD.kb {S : Nat → Prop} {w w' : World} {B : Nat} {v : Value} {l : List Nat} (h : RowD w B v l) (k : Kb S w w') (hs : ∀ x, S x → x < B ∨ w.heap.size ≤ x) : RowD w' B v l :=
  k.row h (fun g e hg => by
    have := World.ownsRow.lt h g e
    rcases hs g hg with h | h <;> omega)
theorem RowD.kb0 {w w' : World} {B : Nat} {v : Value} {l : List Nat} (h : RowD w B v l) (k : Kb (fun _ => False) w w') : RowD w' B v l := k.row h (fun _ _ x => x)
theorem RowD.form {w : World} {B : Nat} {a : Option Addr} {n c : Nat} {l : List Nat} (h : RowD w B (.slice a n c) l) (hn : 0 < l.length) :
    ∃ g, a = some ⟨g, 0, none⟩ ∧ n = l.length ∧ B ≤ g ∧ g < w.heap.size ∧ ∀ i, i < l.length → w.cell? ⟨g, i, none⟩ = some (.int .i64 ((l[i]! : Nat) : Int)) := by
  rcases h.2 with ⟨_, h0⟩ | ⟨g, cap, cur, e, hg, hh, _⟩
  · omega
  · simp only [Value.slice.injEq] at e
    obtain ⟨rfl, rfl, rfl⟩ := e
    refine ⟨g, rfl, rfl, hg, block_lt hh, fun i hi => ?_⟩
    rw [World.ownsRow.cellAt h i (by omega), dV_get l i hi]
theorem kb_le {B : Nat} {w w' : World} (k : Kb (fun x => B ≤ x) w w') {w0 : World} (k0 : Kb (fun _ => False) w0 w) (h0 : w0.heap.size ≤ B) : Kb (fun _ => False) w0 w' :=
  k0.trans' k (fun i hi hx => by omega)

section
variable {ops : Array Oper} {rest : List Oper} {o : Oper} {a : Act} {Q : Exit → Act → World → Prop}
theorem grown_kb {B : Nat} {w w' : World} {v : Value} (hg : w.grownBy w' v.ownBlock) (hv : ∀ k, v.ownBlock = some k → B ≤ k) : Kb (fun x => B ≤ x) w w' :=
  (Kb.refl _ _).grown hg (fun k e => Or.inl (hv k e))
/-- append of one int. -/
theorem app_int1 {wr : World} {z : Int} (hgd : o.guard = none) (s x : Operand)
    (ho : o.op = .call { callee := .builtin .append, args := #[s, x], argTypes := #[26, 26] }) (B : Nat) (v : Value) (l : List Nat) (d : Nat) (hs : a.eval s = v)
    (hx : a.eval x = .slice (some ⟨wr.heap.size, 0, none⟩) 1 1) (hown : RowD wr B v l) (hz : z = (d : Int)) (hl : l.length ≤ 1000000000) (hB : B ≤ wr.heap.size)
    (h : ∀ a' c' w', RowD w' B (.slice a' (l.length + 1) c') (l ++ [d]) → Kb (fun x => B ≤ x) wr w' → wpList Tryd.prog ops Q rest (a.put o.dst (.slice a' (l.length + 1) c')) w') :
    wpList Tryd.prog ops Q (o :: rest) a (wr.alloc (.cells #[.int .i64 z] 3)) := by
  obtain ⟨i0, hi0, hz0, hz1, hz2⟩ := info_parts infoInt
  subst hz
  refine wpList_append_own_at _ hgd s x _ ho B 3 i0 _ 1 8 Tryd.underlying26 hi0 hz0 hz1 hz2 rfl (by omega) v l.length (dV l) hs (World.ownsRow.alloc hown _) ⟨wr.heap.size, 0, none⟩ 1 1 [.int .i64 (d : Int)] hx (by rfl)
    (World.news_of_block (cs := #[.int .i64 (d : Int)]) (t := 3) (fr := (0, 0)) (heap_alloc_new wr _)) (by simp [Value.oneCell']) (by unfold maxLen; omega) (by omega) (by simp; omega) ?_
  intro v' w' hown1 hgrow _ _
  obtain ⟨a', c', rfl⟩ := own_slice hown1
  refine h a' c' w' ?_ ?_
  · unfold RowD
    rw [dV_snoc, List.length_append, List.length_singleton]
    exact hown1
  · exact ((Kb.refl _ wr).alloc _).trans (grown_kb hgrow (fun k e => (World.ownsRow.lt hown k e).1))
/-- append of one byte. -/
theorem app_u81 {wr : World} {z : Int} (hgd : o.guard = none) (s x : Operand)
    (ho : o.op = .call { callee := .builtin .append, args := #[s, x], argTypes := #[83, 83] }) (B : Nat) (v : Value) (l : List UInt8) (d : UInt8) (hs : a.eval s = v)
    (hx : a.eval x = .slice (some ⟨wr.heap.size, 0, none⟩) 1 1) (hown : RowB wr B v l) (hz : z = (d.toNat : Int)) (hl : l.length ≤ 1000000000) (hB : B ≤ wr.heap.size)
    (h : ∀ a' c' w', RowB w' B (.slice a' (l.length + 1) c') (l ++ [d]) → Kb (fun x => B ≤ x) wr w' → wpList Tryd.prog ops Q rest (a.put o.dst (.slice a' (l.length + 1) c')) w') :
    wpList Tryd.prog ops Q (o :: rest) a (wr.alloc (.cells #[.int .u8 z] 5)) := by
  obtain ⟨i0, hi0, hz0, hz1, hz2⟩ := info_parts infoU8
  subst hz
  refine wpList_append_own_at _ hgd s x _ ho B 5 i0 _ 1 1 Tryd.underlying83 hi0 hz0 hz1 hz2 rfl (by omega) v l.length (bV l) hs (World.ownsRow.alloc hown _) ⟨wr.heap.size, 0, none⟩ 1 1 [.int .u8 (d.toNat : Int)] hx (by rfl)
    (World.news_of_block (cs := #[.int .u8 (d.toNat : Int)]) (t := 5) (fr := (0, 0)) (heap_alloc_new wr _)) (by simp [Value.oneCell']) (by unfold maxLen; omega) (by omega) (by simp; omega) ?_
  intro v' w' hown1 hgrow _ _
  obtain ⟨a', c', rfl⟩ := own_slice hown1
  refine h a' c' w' ?_ ?_
  · unfold RowB
    rw [bV_append, List.length_append, List.length_singleton]
    exact hown1
  · exact ((Kb.refl _ wr).alloc _).trans (grown_kb hgrow (fun k e => (World.ownsRow.lt hown k e).1))
end
/-- 'string(b)'. -/
theorem conv_row {w : World} {B : Nat} {a : Option Addr} {n c : Nat} {l : List UInt8} (h : RowB w B (.slice a n c) l) (dst : TypeId) (hd : Tryd.prog.underlying dst = some .string) :
    (convert 83 dst (.slice a n c)).run Tryd.prog w = .ok (.string ⟨l.toArray⟩) w := by
  rcases h.2 with ⟨e, h0⟩ | ⟨g, cap, cur, e, hg, hh, _⟩
  · simp only [Value.slice.injEq] at e
    obtain ⟨rfl, rfl, rfl⟩ := e
    obtain rfl : l = [] := List.eq_nil_of_length_eq_zero h0
    rw [run_convert_bytes_string w _ dst 5 none 0 0 Tryd.underlying83 Tryd.underlying5 hd]
    simp [Conv.bytesToString]
    rfl
  · simp only [Value.slice.injEq] at e
    obtain ⟨rfl, rfl, rfl⟩ := e
    exact run_convert_bytes_back w _ dst 5 ⟨g, 0, none⟩ c l Tryd.underlying83 Tryd.underlying5 hd (fun j hj => by
      have h1 := World.ownsRow.cells (g := g) h rfl j (.int .u8 (l[j].toNat : Int)) (bV_get l j hj)
      exact h1)
end Go.Proofs.YtkhjgfbiemllmaaDoor
