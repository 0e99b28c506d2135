/- What the row's listed variables give: the environment; and a world that holds them. -/
import Derived.Test.YtkhjgfbiemllmaaGreatDoorGF
import Derived.Test.YtkhjgfbiemllmaaGreatDoorCards
import Derived.Test.YtkhjgfbiemllmaaGreatDoorTie
import Derived.ProofKit
import Derived.OpenShut
import Derived.Deep.DeepHandedRow
import Derived.Deep.DeepWitnessRowRef
import Derived.Lib.LaidTab
import Derived.LaidSub
import Derived.Stop.LaidErr
import Derived.Lib.SmallJoins
namespace Go.Proofs.YtkhjgfbiemllmaaGreatDoor
set_option linter.unusedSimpArgs false
set_option linter.unusedVariables false
open Go.RowKit Go.Shelf

theorem laidOutD : laidOutB Tryz.prog = true := by kernel_rfl
theorem own : ownKnob Tryz.prog.godebug = none := by kernel_rfl
theorem gPow : Tryz.prog.globalNamed "concord/decimal.powers" = some 0 := by kernel_rfl
theorem gPowType : (Tryz.prog.globals[0]?).map (·.type) = some 58 := by kernel_rfl
theorem gU : Tryz.prog.globalNamed "internal/strconv.uint64pow10" = some 6 := by kernel_rfl
theorem gUType : (Tryz.prog.globals[6]?).map (·.type) = some 135 := by kernel_rfl
theorem gES : Tryz.prog.globalNamed "strconv.ErrSyntax" = some 4 := by kernel_rfl
theorem gESType : (Tryz.prog.globals[4]?).map (·.type) = some 68 := by kernel_rfl
theorem gER : Tryz.prog.globalNamed "strconv.ErrRange" = some 5 := by kernel_rfl
theorem gERType : (Tryz.prog.globals[5]?).map (·.type) = some 68 := by kernel_rfl
theorem starES : "*" ++ "errors.errorString" = "*errors.errorString" := by decide
theorem rowES (u : TypeId) (h : Tryz.prog.typeName? 3 u = some "*errors.errorString") : u = 142 :=
  typeName_ptr_named (nm := "errors.errorString") (by rw [starES]; kernel_rfl) (by kernel_rfl) (by decide) u (by rw [starES]; exact h)
theorem cells19 : Tryz.prog.cellsOf 58 = 19 := by kernel_rfl
theorem cells20 : Tryz.prog.cellsOf 135 = 20 := by kernel_rfl
theorem cellsInt : Tryz.prog.cellsOf 3 = 1 := by kernel_rfl
theorem cellsU64 : Tryz.prog.cellsOf 48 = 1 := by kernel_rfl
theorem cellsES : Tryz.prog.cellsOf 144 = 1 := by kernel_rfl
theorem cellsStr : Tryz.prog.cellsOf 9 = 1 := by kernel_rfl
def powZ : List Int := [1, 10, 100, 1000, 10000, 100000, 1000000, 10000000, 100000000, 1000000000, 10000000000, 100000000000, 1000000000000, 10000000000000, 100000000000000, 1000000000000000, 10000000000000000, 100000000000000000, 1000000000000000000]
theorem env_of {W : World} (h : laidMetH Tryz.prog Rows.decimalProductsRow.laid W) (hsh : W.ShapedOpen Tryz.prog) : Env W := by
  have h0 : laidMet Tryz.prog Rows.decimalProductsRow.laid W := h
  have hp := h0.filter (fun x => x.1 == "concord/decimal.powers")
  have hu := h0.filter (fun x => x.1 == "internal/strconv.uint64pow10")
  have hs := h0.filter (fun x => x.1 == "strconv.ErrSyntax")
  have hr := h0.filter (fun x => x.1 == "strconv.ErrRange")
  have tp : Lib.TabIs Tryz.prog W "concord/decimal.powers" .i64 powZ :=
    Lib.tabIs_of_head (rest := []) gPow gPowType Tryz.underlying58 Tryz.underlying3 cellsInt cells19 hp
  have tu : Lib.TabIs Tryz.prog W "internal/strconv.uint64pow10" .u64 Lib.pow10Tab :=
    Lib.tabIs_of_head (rest := []) gU gUType Tryz.underlying135 Tryz.underlying48 cellsU64 cells20 hu
  obtain ⟨a1, _, e1, _⟩ := laid_sentinel (r := []) hs gES gESType Tryz.underlying68 rowES Tryz.underlying142 Tryz.underlying144 rfl rfl Tryz.underlying9 cellsES cellsStr
  obtain ⟨a2, _, e2, _⟩ := laid_sentinel (r := []) hr gER gERType Tryz.underlying68 rowES Tryz.underlying142 Tryz.underlying144 rfl rfl Tryz.underlying9 cellsES cellsStr
  refine ⟨fun k hk => ?_, Tryz.laysM145.s1_3 W hsh, ⟨_, _, e1⟩, ⟨_, _, e2⟩, tu⟩
  have hc := tp.cell gPow k (by show k < 19; omega)
  rw [hc]
  obtain rfl | rfl | rfl | rfl | rfl | rfl | rfl | rfl | rfl | rfl | rfl | rfl | rfl | rfl | rfl | rfl | rfl | rfl | rfl : k = 0 ∨ k = 1 ∨ k = 2 ∨ k = 3 ∨ k = 4 ∨ k = 5 ∨ k = 6 ∨ k = 7 ∨ k = 8 ∨ k = 9 ∨ k = 10 ∨ k = 11 ∨ k = 12 ∨ k = 13 ∨ k = 14 ∨ k = 15 ∨ k = 16 ∨ k = 17 ∨ k = 18 := by omega
  all_goals rfl

/-! A world that holds the listed variables, for the witness. -/
abbrev synS : ByteArray := ⟨#[105, 110, 118, 97, 108, 105, 100, 32, 115, 121, 110, 116, 97, 120]⟩
abbrev ranS : ByteArray := ⟨#[118, 97, 108, 117, 101, 32, 111, 117, 116, 32, 111, 102, 32, 114, 97, 110, 103, 101]⟩
noncomputable def low : Nat := (World.holding Tryz.prog default ⟨#[], #[], []⟩).heap.size
def deB32 : List Int := [0, 1, 28, 2, 29, 14, 24, 3, 30, 22, 20, 15, 25, 17, 4, 8, 31, 27, 13, 23, 21, 19, 16, 7, 26, 12, 18, 6, 11, 5, 10, 9]
def deB64 : List Int := [0, 1, 56, 2, 57, 49, 28, 3, 61, 58, 42, 50, 38, 29, 17, 4, 62, 47, 59, 36, 45, 43, 51, 22, 53, 39, 33, 30, 24, 18, 12, 5, 63, 55, 48, 27, 60, 41, 37, 16, 46, 35, 44, 21, 52, 32, 23, 11, 54, 26, 40, 15, 34, 20, 31, 10, 25, 14, 19, 9, 13, 8, 7, 6]
noncomputable def laidWorld (os : Os) : World :=
  let w0 := World.holding Tryz.prog os ⟨#[.cells #[.string synS] 144, .cells #[.string ranS] 144], #[], []⟩
  let put (h : Array Obj) (g : Nat) (cs : Array Value) : Array Obj := h.modify g fun
    | .cells _ t frozen => .cells cs t frozen
    | o => o
  let h1 := put w0.heap 0 (powZ.map fun z => Value.int .i64 z).toArray
  let h2 := put h1 6 (Lib.pow10Tab.map fun z => Value.int .u64 z).toArray
  let h3 := put h2 4 #[.iface 142 (.pointer (some ⟨low, 0, none⟩))]
  let h4 := put h3 5 #[.iface 142 (.pointer (some ⟨low + 1, 0, none⟩))]
  let h5 := put h4 7 (deB32.map fun z => Value.int .u8 z).toArray
  let h6 := put h5 8 (deB64.map fun z => Value.int .u8 z).toArray
  { w0 with heap := h6 }
theorem laid_met (os : Os) (args : Array Value) : laidMet Tryz.prog Rows.decimalProductsRow.laid ((laidWorld os).forCall (fun _ _ => 0) ⟨#[], args, []⟩).memory :=
  laidMet_of_run' 8 (by kernel_rfl) (by kernel_rfl)

/-! Arguments. -/
theorem list6 (l : List Int) (h : l.length = 6) : ∃ a b c d e f, l = [a, b, c, d, e, f] := by
  match l, h with
  | [a, b, c, d, e, f], _ => exact ⟨a, b, c, d, e, f, rfl⟩
theorem u8_bd {a : Int} (h : (Lit.int .u8 a).wf = true) : 0 ≤ a ∧ a ≤ 255 := by
  unfold Lit.wf at h
  simpa [IntKind.min, IntKind.max, IntKind.bits, IntKind.signed] using h
theorem int_bd {a : Int} (h : (Lit.int .i64 a).wf = true) : -9223372036854775808 ≤ a ∧ a ≤ 9223372036854775807 := by
  unfold Lit.wf at h
  simpa [IntKind.min, IntKind.max, IntKind.bits, IntKind.signed] using h
section
variable {H : Type} {enc : TypeId × Value → H} {w : World} {base : Nat} {spare : Nat → Bool} {held : Bool}
set_option maxRecDepth 100000 in
theorem dec_arg {b0 : Nat} {v : Value} {d : DataW H} {p : List MemPlace} (hv : Value.okWide Tryz.prog w .any b0 23 v) (h : DataW.Trod enc Tryz.prog w base spare held 23 v d p) :
    ∃ n s : Int, v = .agg #[.int .i64 n, .int .i64 s] := by
  obtain ⟨v0, v1, y0, y1, m, rfl, _, _, h0, h1⟩ := Joins.open_agg2 Tryz.underlying23 (by kernel_rfl) (by kernel_rfl) hv h
  obtain ⟨n, e0, _⟩ := DataW.trod_int Tryz.underlying3 h0
  obtain ⟨s, e1, _⟩ := DataW.trod_int Tryz.underlying3 h1
  simp only [List.cons.injEq, and_true] at e0 e1
  exact ⟨n, s, by rw [e0, e1]⟩
set_option maxRecDepth 100000 in
/-- An array of ints, by value. -/
theorem arr_ints {b0 : Nat} {t e : TypeId} {n k : Nat} {v : Value} (hu : Tryz.prog.underlying t = some (.array n e)) (hc : Tryz.prog.cellsOf t = k) (hts : Tryz.prog.cellTypes Tryz.prog.depth t = some (List.replicate k 3))
    (hv : Value.okWide Tryz.prog w .any b0 t v) : ∃ zs : List Int, zs.length = k ∧ v = .agg (zs.map (Value.int .i64)).toArray := by
  unfold Value.okWide at hv
  rw [hu] at hv
  obtain ⟨cs, rfl, hsz, ts, h1, _, h3⟩ := hv
  rw [hts] at h1
  obtain rfl := Option.some.inj h1
  rw [hc] at hsz
  have hcell : ∀ u, Cell.okWide Tryz.prog w .any b0 3 u → ∃ z, u = .int .i64 z := by
    intro u hu2
    refine Go.WideShapes.okWide_int (P := Tryz.prog) (w := w) (r := .any) (base := b0) Tryz.underlying3 ?_
    unfold Value.okWide
    rw [Tryz.underlying3]
    exact hu2
  have hall : ∀ u ∈ cs.toList, ∃ z, u = Value.int .i64 z := by
    intro u hm
    obtain ⟨i, hi, rfl⟩ := List.getElem_of_mem hm
    have hi2 : i < cs.size := by simpa using hi
    obtain ⟨ty, hty, hcl⟩ := h3 i cs[i] (by rw [Array.getElem?_eq_getElem hi2])
    have e : ty = 3 := by
      rw [List.length_replicate] at hty
      have := List.mem_of_getElem? hty
      exact (List.mem_replicate.1 this).2
    subst e
    obtain ⟨z, hz⟩ := hcell _ hcl
    exact ⟨z, by simpa using hz⟩
  have hex : ∀ l : List Value, (∀ u ∈ l, ∃ z, u = Value.int .i64 z) → ∃ zs : List Int, zs.length = l.length ∧ l = zs.map (Value.int .i64) := by
    intro l
    induction l with
    | nil => intro _; exact ⟨[], rfl, rfl⟩
    | cons a l ih =>
      intro hl
      obtain ⟨z, rfl⟩ := hl a (by simp)
      obtain ⟨zs, e1, e2⟩ := ih (fun u hu => hl u (List.mem_cons_of_mem _ hu))
      exact ⟨z :: zs, by simp [e1], by rw [e2]; rfl⟩
  obtain ⟨zs, e1, e2⟩ := hex cs.toList hall
  refine ⟨zs, by rw [e1]; simpa using hsz, ?_⟩
  rw [← e2]
end
end Go.Proofs.YtkhjgfbiemllmaaGreatDoor
