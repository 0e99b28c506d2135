/- A net in memory, and the walks of its small methods. -/
import Derived.Test.YtibnpddmohjeoaaHP
import Derived.Maps.Own
import Derived.Maps.Views
namespace Go.Proofs.Ytibnpddmohjeoaa
open Go.RowKit

/-- What happens to a message. -/
structure Tr where
  lost : Bool
  copies : Int
  delay : Int
instance : Inhabited Tr := ⟨⟨false, 0, 0⟩⟩
def Tr.cells (t : Tr) : List Value := [.bool t.lost, .int .i64 t.copies, .int .i64 t.delay]
def flatT (l : List Tr) : List Value := l.flatMap Tr.cells
theorem flatT_cons (p : Tr) (l : List Tr) : flatT (p :: l) = p.cells ++ flatT l := rfl
theorem flatT_append (a b : List Tr) : flatT (a ++ b) = flatT a ++ flatT b := by simp [flatT]
theorem flatT_length (l : List Tr) : (flatT l).length = l.length * 3 := by
  induction l with
  | nil => rfl
  | cons p l ih => rw [flatT_cons, List.length_append, ih, List.length_cons]; simp [Tr.cells]; omega
theorem flatT_get (l : List Tr) : ∀ (i f : Nat) (_ : i < l.length) (_ : f < 3), (flatT l)[i * 3 + f]? = (l[i]!).cells[f]? := by
  induction l with
  | nil => intro i f h; simp at h
  | cons p l ih =>
    intro i f hi hf
    rw [flatT_cons]
    cases i with
    | zero => rw [List.getElem?_append_left (by simp [Tr.cells]; omega)]; simp
    | succ i =>
      rw [List.getElem?_append_right (by simp [Tr.cells]; omega)]
      have e : (i + 1) * 3 + f - p.cells.length = i * 3 + f := by simp [Tr.cells]; omega
      rw [e, ih i f (by simpa using hi) hf]
      simp

/-- A row of troubles. -/
abbrev RowT (w : World) (v : Value) (l : List Tr) : Prop := w.ownsRow 0 44 3 v l.length (flatT l)

def InI (k : Int) : Prop := -9223372036854775808 ≤ k ∧ k ≤ 9223372036854775807

/-- Block b is a map that holds f k at k, and 0 where nothing is. -/
def MapIs (w : World) (b n : Nat) (f : Int → Int) : Prop :=
  ∃ D : DataW Unit, w.ownsMap Try.prog 3 (plainElem Try.prog 3) b n D ∧ Maps.IsMap D ∧ ∀ k, InI k → D.atKey (.int .i64 k) (.lit (.int .i64 0)) = .lit (.int .i64 (f k))

theorem keyed3 : Maps.Keyed Try.prog 3 := Maps.int_keyed Try.underlying3
theorem wf_i64 {k : Int} (h : InI k) : (Lit.int .i64 k).wf = true := WalkArith.wf_i64 h
theorem zero3 (w : World) : (zeroValue 3).run Try.prog w = .ok (.int .i64 0) w := by kernel_rfl

theorem MapIs.look {w : World} {b n : Nat} {f : Int → Int} (h : MapIs w b n f) {k : Int} (hk : InI k) : (Instr.lookup 54 (.map (some b)) (.int .i64 k) false).run Try.prog w = .ok (.int .i64 (f k)) w := by
  obtain ⟨D, ho, _, hf⟩ := h
  obtain ⟨c, hrun, hat, _⟩ := ho.lookup_int keyed3 Try.underlying54 Try.underlying3 (zero3 w) (Maps.keyOf_int_mk Try.underlying3 (wf_i64 hk))
  rw [hf k hk] at hat
  simp only [DataW.lit.injEq, Lit.int.injEq, true_and] at hat
  rw [hat]
  exact hrun
theorem MapIs.made (w : World) : MapIs (w.alloc (.map #[] 0)) w.heap.size 0 (fun _ => 0) :=
  ⟨.map [], World.ownsMap_made .., Maps.isMap_empty, fun _ _ => rfl⟩
theorem MapIs.kb {S : Nat → Prop} {w w' : World} {b n : Nat} {f : Int → Int} (h : MapIs w b n f) (k : Kb S w w') (hs : ¬ S b) : MapIs w' b n f := by
  obtain ⟨D, ⟨es, clock, hb, r⟩, r2⟩ := h
  exact ⟨D, ⟨es, clock, k.heap hb hs, r⟩, r2⟩
theorem look_nil (w : World) (k : Int) : (Instr.lookup 54 (.map none) (.int .i64 k) false).run Try.prog w = .ok (.int .i64 0) w := by kernel_rfl

def isNode (nodes k : Int) : Bool := decide (0 ≤ k) && decide (k < nodes)
set_option maxHeartbeats 400000 in
theorem node_any (b : Nat) (k nodes : Int) (w : World) (h0 : w.cell? ⟨b, 0, none⟩ = some (.int .i64 nodes)) :
    Calls Try.prog 25 #[.pointer (some ⟨b, 0, none⟩), .int .i64 k] w fun e w' => e = .returned (.bool (isNode nodes k)) ∧ w' = w := by
  unfold isNode
  by_cases h : 0 ≤ k
  · rw [show decide (0 ≤ k) = true by simpa using h, Bool.true_and]
    go_enter Try.func25, Try.ntmps25
    go_wp2
    go_ret
    exact ⟨rfl, rfl⟩
  · rw [show decide (0 ≤ k) = false by simpa using h, Bool.false_and]
    go_enter Try.func25, Try.ntmps25
    go_wp2
    go_ret
    exact ⟨rfl, rfl⟩
set_option maxHeartbeats 400000 in
theorem queue_any (b : Nat) (w : World) :
    Calls Try.prog 27 #[.pointer (some ⟨b, 0, none⟩)] w fun e w' => e = .returned (.iface 84 (.pointer (some ⟨b, 2, none⟩))) ∧ w' = w := by
  go_enter Try.func27, Try.ntmps27
  go_wp2
  go_ret
  exact ⟨rfl, rfl⟩
set_option maxHeartbeats 400000 in
theorem waiting_any (b n c : Nat) (g : Option Addr) (w : World) (hb : w.cell? ⟨b, 2, none⟩ = some (.slice g n c)) :
    Calls Try.prog 21 #[.pointer (some ⟨b, 0, none⟩)] w fun e w' => e = .returned (.int .i64 n) ∧ w' = w := by
  have hm := m_len ⟨b, 2, none⟩ w _ hb
  go_enter Try.func21, Try.ntmps21
  go_wp2_with fail
  refine (queue_any b w).mono ?_
  rintro e w' ⟨rfl, rfl⟩
  go_wp2_with fail
  refine (len_any g n c _).mono ?_
  rintro e w' ⟨rfl, rfl⟩
  go_wp2_with fail
  go_ret
  exact ⟨rfl, rfl⟩
set_option maxHeartbeats 400000 in
theorem waiting_nil (w : World) :
    Calls Try.prog 21 #[.pointer none] w fun e w' => e = .returned (.int .i64 0) ∧ w' = w := by
  go_enter Try.func21, Try.ntmps21
  go_wp2_with fail
  go_ret
  exact ⟨rfl, rfl⟩
end Go.Proofs.Ytibnpddmohjeoaa
