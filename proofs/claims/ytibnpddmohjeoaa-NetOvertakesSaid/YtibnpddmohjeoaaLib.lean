/- How the arguments of the laws read: the values' forms and the cells behind them. -/
import Derived.Test.YtibnpddmohjeoaaScr
import Derived.ProofKit
import Derived.OpenShut
import Derived.ShutString
import Derived.ChangeOld
import Derived.Lib.SmallJoins
import Derived.Deep.Slices
import Derived.Deep.Fields
namespace Go.Proofs.Ytibnpddmohjeoaa
open Go.ChangeShapes Go.WideShapes Go.ChangeAt Go.RowKit Go.Deep

theorem Try.own : ownKnob Try.prog.godebug = none := by kernel_rfl
theorem Try.laidOut : laidOutB Try.prog = true := by kernel_rfl

section
variable {P : Program} {w : World} {r : Reach} {base : Nat}
/-- The cells of an aggregate that came in, each of its own type. -/
theorem agg_cells {t : TypeId} {v : Value} (hk : (match P.underlying t with | some (.struct _) | some (.array _ _) => true | _ => false) = true) (ts : List TypeId) (hts : P.cellTypes P.depth t = some ts) (hn : P.cellsOf t = ts.length) (h : Value.okWide P w r base t v) :
    ∃ cs : List Value, v = .agg cs.toArray ∧ cs.length = ts.length ∧ ∀ (i : Nat) (u : TypeId) (x : Value), ts[i]? = some u → cs[i]? = some x → Cell.okWide P w r base u x := by
  have h2 : ∃ cs, v = .agg cs ∧ cs.size = P.cellsOf t ∧ Row.okWide P w r base t cs := by
    unfold Value.okWide at h
    revert hk h
    cases P.underlying t with
    | none => intro hk; cases hk
    | some d => cases d <;> first | (intro _ h; exact h) | (intro hk; cases hk)
  obtain ⟨cs, rfl, hsz, ts', hts', _, hc⟩ := h2
  rw [hts] at hts'
  simp only [Option.some.injEq] at hts'
  subst hts'
  refine ⟨cs.toList, by simp, by simp [hsz, hn], fun i u x hu hx => ?_⟩
  have hi : i < ts.length := (List.getElem?_eq_some_iff.1 hu).1
  obtain ⟨u', hu', hok⟩ := hc i x (by simpa using hx)
  rw [Nat.mod_eq_of_lt hi, hu] at hu'
  simp only [Option.some.injEq] at hu'
  subst hu'
  exact hok
theorem cell_int {u : TypeId} {k : IntKind} (hu : P.underlying u = some (.int k)) {v : Value} (h : Cell.okWide P w r base u v) : ∃ n, v = .int k n ∧ k.has n := by
  unfold Cell.okWide at h
  rw [hu] at h
  simp only [Cell.ok, hu] at h
  cases v <;> simp_all
theorem cell_bool {u : TypeId} (hu : P.underlying u = some .bool) {v : Value} (h : Cell.okWide P w r base u v) : ∃ n, v = .bool n := by
  unfold Cell.okWide at h
  rw [hu] at h
  simp only [Cell.ok, hu] at h
  cases v <;> simp_all
theorem cell_string {u : TypeId} (hu : P.underlying u = some .string) {v : Value} (h : Cell.okWide P w r base u v) : ∃ n, v = .string n := by
  unfold Cell.okWide at h
  rw [hu] at h
  simp only [Cell.ok, hu] at h
  cases v <;> simp_all
end
end Go.Proofs.Ytibnpddmohjeoaa
namespace Go.Proofs.Ytibnpddmohjeoaa
open Go.ChangeShapes Go.WideShapes Go.ChangeAt Go.RowKit Go.Deep
theorem Value.ok_int' {P : Program} {w : World} {r : Reach} {base : Nat} {u : TypeId} {k : IntKind} (hu : P.underlying u = some (.int k)) {v : Value} (h : Value.okWide P w r base u v) : ∃ n, v = .int k n ∧ k.has n := by
  unfold Value.okWide at h
  rw [hu] at h
  exact cell_int hu h
theorem list2 {α : Type} {l : List α} (h : l.length = 2) : ∃ a b, l = [a, b] := by
  match l, h with
  | [a, b], _ => exact ⟨a, b, rfl⟩
theorem list3 {α : Type} {l : List α} (h : l.length = 3) : ∃ a b c, l = [a, b, c] := by
  match l, h with
  | [a, b, c], _ => exact ⟨a, b, c, rfl⟩
theorem has_u8 {n : Int} (h : IntKind.u8.has n) : 0 ≤ n ∧ n ≤ 255 := by
  have h2 : IntKind.u8.min ≤ n ∧ n ≤ IntKind.u8.max := h
  rw [show IntKind.u8.min = 0 from rfl, show IntKind.u8.max = 255 from rfl] at h2
  exact h2
theorem has_u16 {n : Int} (h : IntKind.u16.has n) : 0 ≤ n ∧ n ≤ 65535 := by
  have h2 : IntKind.u16.min ≤ n ∧ n ≤ IntKind.u16.max := h
  rw [show IntKind.u16.min = 0 from rfl, show IntKind.u16.max = 65535 from rfl] at h2
  exact h2
theorem has_i8 {n : Int} (h : IntKind.i8.has n) : -128 ≤ n ∧ n ≤ 127 := by
  have h2 : IntKind.i8.min ≤ n ∧ n ≤ IntKind.i8.max := h
  rw [show IntKind.i8.min = -128 from rfl, show IntKind.i8.max = 127 from rfl] at h2
  exact h2
theorem has_i64 {n : Int} (h : IntKind.i64.has n) : InI n := by
  have h2 : IntKind.i64.min ≤ n ∧ n ≤ IntKind.i64.max := h
  rw [show IntKind.i64.min = -9223372036854775808 from rfl, show IntKind.i64.max = 9223372036854775807 from rfl] at h2
  exact h2
end Go.Proofs.Ytibnpddmohjeoaa
