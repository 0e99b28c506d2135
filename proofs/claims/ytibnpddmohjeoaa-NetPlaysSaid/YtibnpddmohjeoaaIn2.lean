/- How the arguments of NetParts read. -/
import Derived.Test.YtibnpddmohjeoaaIn
import Derived.Test.YtibnpddmohjeoaaParts
namespace Go.Proofs.Ytibnpddmohjeoaa
open Go.ChangeShapes Go.WideShapes Go.ChangeAt Go.RowKit Go.Deep

theorem trod60 {H : Type} {enc : TypeId × Value → H} {w : World} {k : Nat} {cs : List Value} {x : DataW H × List MemPlace} (h : DataW.trod enc Try.prog w 0 (fun _ => true) true k 60 cs = some x) : ∃ t : Int, cs = [.int .i8 t] ∧ -128 ≤ t ∧ t ≤ 127 := by
  obtain ⟨v0, e0, _, hw⟩ := DataW.trod_int (x := x) Try.underlying60 h
  exact ⟨v0, e0, has_i8 (wf_has hw)⟩
theorem i8s_in {H : Type} {enc : TypeId × Value → H} {w : World} {r : Reach} {base : Nat} {v : Value} {d : DataW H} {p : List MemPlace} (hv : Value.okWide Try.prog w r base 58 v) (h : DataW.Trod enc Try.prog w 0 (fun _ => true) true 58 v d p) :
    ∃ a n c l, v = .slice a n c ∧ I8At w a n c l ∧ n ≤ 9223372036854775807 := by
  rcases slice_cells 1 Try.underlying58 (by kernel_rfl) (fun cs => ∃ t : Int, cs = [.int .i8 t] ∧ -128 ≤ t ∧ t ≤ 127) (fun k cs x => trod60) hv h with ⟨a, c, rfl, hb⟩ | ⟨g, o, len, c, rfl, hlen, hg, hc⟩
  · have := cap_ok Try.underlying58 hv
    exact ⟨a, 0, c, [], rfl, ⟨by omega, rfl, fun i hi => by omega⟩, by omega⟩
  · have := cap_ok Try.underlying58 hv
    obtain ⟨l, hl, hp⟩ := list_of len (fun i (t : Int) => w.cell? ⟨g, o + i, none⟩ = some (.int .i8 t) ∧ -128 ≤ t ∧ t ≤ 127) (fun i hi => by
      obtain ⟨cs, ⟨t, rfl, hb⟩, _, hj⟩ := hc i hi
      have := hj 0 (by omega)
      simp only [Nat.mul_one, Nat.add_zero] at this
      exact ⟨t, this, hb⟩)
    exact ⟨_, _, _, l, rfl, ⟨this.1, hl, fun i hi => ⟨g, o, rfl, hg, (hp i hi).1, (hp i hi).2⟩⟩, hlen⟩
theorem trod61 {H : Type} {enc : TypeId × Value → H} {w : World} {k : Nat} {cs : List Value} {x : DataW H × List MemPlace} (h : DataW.trod enc Try.prog w 0 (fun _ => true) true k 61 cs = some x) :
    ∃ t : Int × Int, cs = [.int .u8 t.1, .int .u8 t.2] ∧ 0 ≤ t.1 ∧ t.1 ≤ 255 ∧ 0 ≤ t.2 ∧ t.2 ≤ 255 := by
  obtain ⟨xs, n, _, _, hlen, hxl, hf⟩ := DataW.trod_array Try.underlying61 h
  have hC : Try.prog.cellsOf 61 = 2 := by kernel_rfl
  rw [hC] at hlen
  obtain ⟨a, b, rfl⟩ := list2 hlen
  obtain ⟨x0, x1, rfl⟩ := list2 hxl
  have c5 : Try.prog.cellsOf 5 = 1 := by kernel_rfl
  rw [c5] at hf
  have h0 : DataW.trod enc Try.prog w 0 (fun _ => true) true n 5 [a] = some x0 := hf 0 (by omega)
  have h1 : DataW.trod enc Try.prog w 0 (fun _ => true) true n 5 [b] = some x1 := hf 1 (by omega)
  obtain ⟨v0, e0, _, w0⟩ := DataW.trod_int (x := x0) Try.underlying5 h0
  obtain ⟨v1, e1, _, w1⟩ := DataW.trod_int (x := x1) Try.underlying5 h1
  simp at e0 e1
  have b0 := has_u8 (wf_has w0)
  have b1 := has_u8 (wf_has w1)
  exact ⟨(v0, v1), by rw [e0, e1], b0.1, b0.2, b1.1, b1.2⟩
theorem u8ps_in {H : Type} {enc : TypeId × Value → H} {w : World} {r : Reach} {base : Nat} {v : Value} {d : DataW H} {p : List MemPlace} (hv : Value.okWide Try.prog w r base 59 v) (h : DataW.Trod enc Try.prog w 0 (fun _ => true) true 59 v d p) :
    ∃ a n c l, v = .slice a n c ∧ U8pAt w a n c l ∧ n ≤ 9223372036854775807 := by
  rcases slice_cells 2 Try.underlying59 (by kernel_rfl) (fun cs => ∃ t : Int × Int, cs = [.int .u8 t.1, .int .u8 t.2] ∧ 0 ≤ t.1 ∧ t.1 ≤ 255 ∧ 0 ≤ t.2 ∧ t.2 ≤ 255) (fun k cs x => trod61) hv h with ⟨a, c, rfl, hb⟩ | ⟨g, o, len, c, rfl, hlen, hg, hc⟩
  · have := cap_ok Try.underlying59 hv
    exact ⟨a, 0, c, [], rfl, ⟨by omega, rfl, fun i hi => by omega⟩, by omega⟩
  · have := cap_ok Try.underlying59 hv
    obtain ⟨l, hl, hp⟩ := list_of len (fun i (t : Int × Int) => w.cell? ⟨g, o + i * 2, none⟩ = some (.int .u8 t.1) ∧ w.cell? ⟨g, o + i * 2 + 1, none⟩ = some (.int .u8 t.2) ∧ 0 ≤ t.1 ∧ t.1 ≤ 255 ∧ 0 ≤ t.2 ∧ t.2 ≤ 255) (fun i hi => by
      obtain ⟨cs, ⟨t, rfl, hb⟩, _, hj⟩ := hc i hi
      have h0 := hj 0 (by omega)
      have h1 := hj 1 (by omega)
      simp only [Nat.add_zero, ← Nat.add_assoc] at h0 h1
      exact ⟨t, h0, h1, hb⟩)
    exact ⟨_, _, _, l, rfl, ⟨this.1, hl, fun i hi => ⟨g, o, rfl, hg, hp i hi⟩⟩, hlen⟩
end Go.Proofs.Ytibnpddmohjeoaa
