/- How further arguments of the laws read: slices of small numbers. -/
import Derived.Test.YtibnpddmohjeoaaLib
import Derived.Test.YtibnpddmohjeoaaDrains
namespace Go.Proofs.Ytibnpddmohjeoaa
open Go.ChangeShapes Go.WideShapes Go.ChangeAt Go.RowKit Go.Deep

theorem wf_has {k : IntKind} {n : Int} (h : (Lit.int k n).wf = true) : k.has n := by
  simp only [Lit.wf, Bool.and_eq_true, decide_eq_true_eq] at h
  exact h
theorem trod42 {H : Type} {enc : TypeId × Value → H} {w : World} {k : Nat} {cs : List Value} {x : DataW H × List MemPlace} (h : DataW.trod enc Try.prog w 0 (fun _ => true) true k 42 cs = some x) : ∃ t : Int, cs = [.int .u16 t] ∧ 0 ≤ t ∧ t ≤ 65535 := by
  obtain ⟨v0, e0, _, hw⟩ := DataW.trod_int (x := x) Try.underlying42 h
  exact ⟨v0, e0, has_u16 (wf_has hw)⟩
theorem u16s_in {H : Type} {enc : TypeId × Value → H} {w : World} {r : Reach} {base : Nat} {v : Value} {d : DataW H} {p : List MemPlace} (hv : Value.okWide Try.prog w r base 41 v) (h : DataW.Trod enc Try.prog w 0 (fun _ => true) true 41 v d p) :
    ∃ a n c l, v = .slice a n c ∧ U16At w a n c l ∧ n ≤ 9223372036854775807 := by
  rcases slice_cells 1 Try.underlying41 (by kernel_rfl) (fun cs => ∃ t : Int, cs = [.int .u16 t] ∧ 0 ≤ t ∧ t ≤ 65535) (fun k cs x => trod42) hv h with ⟨a, c, rfl, hb⟩ | ⟨g, o, len, c, rfl, hlen, hg, hc⟩
  · have := cap_ok Try.underlying41 hv
    exact ⟨a, 0, c, [], rfl, ⟨by omega, rfl, fun i hi => by omega⟩, by omega⟩
  · have := cap_ok Try.underlying41 hv
    obtain ⟨l, hl, hp⟩ := list_of len (fun i (t : Int) => w.cell? ⟨g, o + i, none⟩ = some (.int .u16 t) ∧ 0 ≤ t ∧ t ≤ 65535) (fun i hi => by
      obtain ⟨cs, ⟨t, rfl, hb⟩, _, hj⟩ := hc i hi
      have := hj 0 (by omega)
      simp only [Nat.mul_one, Nat.add_zero] at this
      exact ⟨t, this, hb⟩)
    exact ⟨_, _, _, l, rfl, ⟨this.1, hl, fun i hi => ⟨g, o, rfl, hg, (hp i hi).1, (hp i hi).2⟩⟩, hlen⟩
end Go.Proofs.Ytibnpddmohjeoaa
