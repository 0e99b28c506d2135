/- The walks of the heap's own methods: Len, Less, Swap. -/
import Derived.Test.YtibnpddmohjeoaaBase
import Derived.Test.YtibnpddmohjeoaaHeap
import Derived.WalkLawsBesides
import Derived.BigQuiet
import Derived.Deep.QuietTactic
import Derived.BigRegion
namespace Go.Proofs.Ytibnpddmohjeoaa
open Go.RowKit
set_option maxHeartbeats 1000000 in
theorem swap_cells (g n c i j : Nat) (p q : Pc) (w : World) (hi : i < n) (hj : j < n)
  (h0 : w.cell? ⟨g, i * 5, none⟩ = some (.int .i64 p.frm))
  (h1 : w.cell? ⟨g, i * 5 + 1, none⟩ = some (.int .i64 p.to_))
  (h2 : w.cell? ⟨g, i * 5 + 2, none⟩ = some (.string p.text))
  (h3 : w.cell? ⟨g, i * 5 + 3, none⟩ = some (.int .i64 p.tm))
  (h4 : w.cell? ⟨g, i * 5 + 4, none⟩ = some (.int .i64 p.sent))
  (k0 : w.cell? ⟨g, j * 5, none⟩ = some (.int .i64 q.frm))
  (k1 : w.cell? ⟨g, j * 5 + 1, none⟩ = some (.int .i64 q.to_))
  (k2 : w.cell? ⟨g, j * 5 + 2, none⟩ = some (.string q.text))
  (k3 : w.cell? ⟨g, j * 5 + 3, none⟩ = some (.int .i64 q.tm))
  (k4 : w.cell? ⟨g, j * 5 + 4, none⟩ = some (.int .i64 q.sent))
  (fz : ∀ k, w.frozen? ⟨g, k, none⟩ = false) :
    Calls Try.prog 50 #[.slice (some ⟨g, 0, none⟩) n c, .int .i64 i, .int .i64 j] w fun e w' => e = .returned (.tuple #[]) ∧ w' =
      ((((((((((w.setCell ⟨g, i * 5, none⟩ (.int .i64 q.frm)).setCell ⟨g, i * 5 + 1, none⟩ (.int .i64 q.to_)).setCell ⟨g, i * 5 + 2, none⟩ (.string q.text)).setCell ⟨g, i * 5 + 3, none⟩ (.int .i64 q.tm)).setCell ⟨g, i * 5 + 4, none⟩ (.int .i64 q.sent)).setCell ⟨g, j * 5, none⟩ (.int .i64 p.frm)).setCell ⟨g, j * 5 + 1, none⟩ (.int .i64 p.to_)).setCell ⟨g, j * 5 + 2, none⟩ (.string p.text)).setCell ⟨g, j * 5 + 3, none⟩ (.int .i64 p.tm)).setCell ⟨g, j * 5 + 4, none⟩ (.int .i64 p.sent)).drew := by
  have hi' : (i : Int) < n := by omega
  have hj' : (j : Int) < n := by omega
  obtain ⟨v00, z00⟩ := cell?_setCell_some (w := w) (p := ⟨g, i * 5, none⟩) (x := .int .i64 q.frm) (q := ⟨g, j * 5, none⟩) k0
  obtain ⟨v10, z10⟩ := cell?_setCell_some (w := w) (p := ⟨g, i * 5, none⟩) (x := .int .i64 q.frm) (q := ⟨g, j * 5 + 1, none⟩) k1
  obtain ⟨v11, z11⟩ := cell?_setCell_some (w := (w.setCell ⟨g, i * 5, none⟩ (.int .i64 q.frm))) (p := ⟨g, i * 5 + 1, none⟩) (x := .int .i64 q.to_) (q := ⟨g, j * 5 + 1, none⟩) z10
  clear z10
  obtain ⟨v20, z20⟩ := cell?_setCell_some (w := w) (p := ⟨g, i * 5, none⟩) (x := .int .i64 q.frm) (q := ⟨g, j * 5 + 2, none⟩) k2
  obtain ⟨v21, z21⟩ := cell?_setCell_some (w := (w.setCell ⟨g, i * 5, none⟩ (.int .i64 q.frm))) (p := ⟨g, i * 5 + 1, none⟩) (x := .int .i64 q.to_) (q := ⟨g, j * 5 + 2, none⟩) z20
  obtain ⟨v22, z22⟩ := cell?_setCell_some (w := ((w.setCell ⟨g, i * 5, none⟩ (.int .i64 q.frm)).setCell ⟨g, i * 5 + 1, none⟩ (.int .i64 q.to_))) (p := ⟨g, i * 5 + 2, none⟩) (x := .string q.text) (q := ⟨g, j * 5 + 2, none⟩) z21
  clear z20
  clear z21
  obtain ⟨v30, z30⟩ := cell?_setCell_some (w := w) (p := ⟨g, i * 5, none⟩) (x := .int .i64 q.frm) (q := ⟨g, j * 5 + 3, none⟩) k3
  obtain ⟨v31, z31⟩ := cell?_setCell_some (w := (w.setCell ⟨g, i * 5, none⟩ (.int .i64 q.frm))) (p := ⟨g, i * 5 + 1, none⟩) (x := .int .i64 q.to_) (q := ⟨g, j * 5 + 3, none⟩) z30
  obtain ⟨v32, z32⟩ := cell?_setCell_some (w := ((w.setCell ⟨g, i * 5, none⟩ (.int .i64 q.frm)).setCell ⟨g, i * 5 + 1, none⟩ (.int .i64 q.to_))) (p := ⟨g, i * 5 + 2, none⟩) (x := .string q.text) (q := ⟨g, j * 5 + 3, none⟩) z31
  obtain ⟨v33, z33⟩ := cell?_setCell_some (w := (((w.setCell ⟨g, i * 5, none⟩ (.int .i64 q.frm)).setCell ⟨g, i * 5 + 1, none⟩ (.int .i64 q.to_)).setCell ⟨g, i * 5 + 2, none⟩ (.string q.text))) (p := ⟨g, i * 5 + 3, none⟩) (x := .int .i64 q.tm) (q := ⟨g, j * 5 + 3, none⟩) z32
  clear z30
  clear z31
  clear z32
  obtain ⟨v40, z40⟩ := cell?_setCell_some (w := w) (p := ⟨g, i * 5, none⟩) (x := .int .i64 q.frm) (q := ⟨g, j * 5 + 4, none⟩) k4
  obtain ⟨v41, z41⟩ := cell?_setCell_some (w := (w.setCell ⟨g, i * 5, none⟩ (.int .i64 q.frm))) (p := ⟨g, i * 5 + 1, none⟩) (x := .int .i64 q.to_) (q := ⟨g, j * 5 + 4, none⟩) z40
  obtain ⟨v42, z42⟩ := cell?_setCell_some (w := ((w.setCell ⟨g, i * 5, none⟩ (.int .i64 q.frm)).setCell ⟨g, i * 5 + 1, none⟩ (.int .i64 q.to_))) (p := ⟨g, i * 5 + 2, none⟩) (x := .string q.text) (q := ⟨g, j * 5 + 4, none⟩) z41
  obtain ⟨v43, z43⟩ := cell?_setCell_some (w := (((w.setCell ⟨g, i * 5, none⟩ (.int .i64 q.frm)).setCell ⟨g, i * 5 + 1, none⟩ (.int .i64 q.to_)).setCell ⟨g, i * 5 + 2, none⟩ (.string q.text))) (p := ⟨g, i * 5 + 3, none⟩) (x := .int .i64 q.tm) (q := ⟨g, j * 5 + 4, none⟩) z42
  obtain ⟨v44, z44⟩ := cell?_setCell_some (w := ((((w.setCell ⟨g, i * 5, none⟩ (.int .i64 q.frm)).setCell ⟨g, i * 5 + 1, none⟩ (.int .i64 q.to_)).setCell ⟨g, i * 5 + 2, none⟩ (.string q.text)).setCell ⟨g, i * 5 + 3, none⟩ (.int .i64 q.tm))) (p := ⟨g, i * 5 + 4, none⟩) (x := .int .i64 q.sent) (q := ⟨g, j * 5 + 4, none⟩) z43
  clear z40
  clear z41
  clear z42
  clear z43
  go_enter Try.func50, Try.ntmps50
  go_wp2_with fail
  go_region
  all_goals (go_end0; exact ⟨rfl, rfl⟩)

/-- A row of n copies. -/
abbrev Row (w : World) (g c n : Nat) (l : List Pc) : Prop := w.ownsRow 0 75 5 (.slice (some ⟨g, 0, none⟩) n c) n (flat l)

theorem Row.len {w : World} {g c n : Nat} {l : List Pc} (h : Row w g c n l) : l.length = n := by
  have := h.1; rw [flat_length] at this; omega
theorem Row.get {w : World} {g c n : Nat} {l : List Pc} (h : Row w g c n l) (i f : Nat) (hi : i < n) (hf : f < 5) : w.cell? ⟨g, i * 5 + f, none⟩ = (l[i]!).cells[f]? := by
  rw [World.ownsRow.cellAt h (i * 5 + f) (by omega), flat_get l i f (by rw [h.len]; exact hi) hf]
theorem Row.set {w : World} {g c n : Nat} {l : List Pc} (h : Row w g c n l) (i : Nat) (hi : i < n) (q : Pc) :
    Row (((((w.setCell ⟨g, i * 5, none⟩ (.int .i64 q.frm)).setCell ⟨g, i * 5 + 1, none⟩ (.int .i64 q.to_)).setCell ⟨g, i * 5 + 2, none⟩ (.string q.text)).setCell ⟨g, i * 5 + 3, none⟩ (.int .i64 q.tm)).setCell ⟨g, i * 5 + 4, none⟩ (.int .i64 q.sent)) g c n (l.set i q) := by
  have h5 := ((((((h.stored (i * 5) (.int .i64 q.frm)).1).stored (i * 5 + 1) (.int .i64 q.to_)).1.stored (i * 5 + 2) (.string q.text)).1.stored (i * 5 + 3) (.int .i64 q.tm)).1.stored (i * 5 + 4) (.int .i64 q.sent)).1
  unfold Row
  rw [flat_set l i q (by rw [h.len]; exact hi)]
  exact h5

set_option maxHeartbeats 400000 in
theorem len_any (g : Option Addr) (n c : Nat) (w : World) :
    Calls Try.prog 48 #[.slice g n c] w fun e w' => e = .returned (.int .i64 n) ∧ w = w' := by
  go_enter Try.func48, Try.ntmps48
  go_wp2
  go_ret
  exact ⟨rfl, rfl⟩

set_option maxHeartbeats 400000 in
theorem less_any (g c n i j : Nat) (l : List Pc) (w : World) (hi : i < n) (hj : j < n) (h : Row w g c n l) :
    Calls Try.prog 49 #[.slice (some ⟨g, 0, none⟩) n c, .int .i64 i, .int .i64 j] w fun e w' => e = .returned (.bool (lessP l[i]! l[j]!)) ∧ ∃ n, w' = w.drewN n := by
  have h0 := h.get i 3 hi (by omega)
  have h1 := h.get i 4 hi (by omega)
  have h2 := h.get j 3 hj (by omega)
  have h3 := h.get j 4 hj (by omega)
  have hr : lessP l[i]! l[j]! = decide (l[i]!.tm < l[j]!.tm ∨ l[i]!.tm = l[j]!.tm ∧ l[i]!.sent < l[j]!.sent) := rfl
  rw [hr]
  clear hr h
  generalize l[i]! = p at *
  generalize l[j]! = q at *
  simp only [Pc.cells, List.getElem?_cons_succ, List.getElem?_cons_zero] at h0 h1 h2 h3
  have hi' : (i : Int) < n := by omega
  have hj' : (j : Int) < n := by omega
  by_cases he : p.tm = q.tm
  · have hb : (p.tm != q.tm) = false := by simp [he]
    have hf : decide (p.tm < q.tm ∨ p.tm = q.tm ∧ p.sent < q.sent) = decide (p.sent < q.sent) := by
      rw [Bool.eq_iff_iff]; simp [he]
    rw [hf]
    clear hf he
    go_enter Try.func49, Try.ntmps49
    go_wp2_with fail
    go_quiet (fail)
    go_wp2_with fail
    go_quiet (fail)
    go_wp2_with fail
    go_ret
    exact ⟨rfl, _, World.drewN_drewN ..⟩
  · have hb : (p.tm != q.tm) = true := by simp [he]
    have hf : decide (p.tm < q.tm ∨ p.tm = q.tm ∧ p.sent < q.sent) = decide (p.tm < q.tm) := by
      rw [Bool.eq_iff_iff]; simp [he]
    rw [hf]
    clear hf he
    go_enter Try.func49, Try.ntmps49
    go_wp2_with fail
    go_quiet (fail)
    go_wp2_with fail
    go_quiet (fail)
    go_wp2_with fail
    go_ret
    exact ⟨rfl, _, World.drewN_drewN ..⟩

theorem m_push (a : Addr) (w : World) : (method 205 84 (.pointer (some a)) "Push").run Try.prog w = .ok (52, .pointer (some a)) w := by kernel_rfl
theorem m_pop (a : Addr) (w : World) : (method 205 84 (.pointer (some a)) "Pop").run Try.prog w = .ok (51, .pointer (some a)) w := by kernel_rfl
theorem meth84 (name : String) (f : Nat) (hm : ((Try.prog.info? 84).bind (·.methods.find? (·.name == name))).map (fun m => (m.path, m.func)) = some (#[], some (f, false))) (a : Addr) (w : World) (v : Value) (h : w.cell? a = some v) : (method 205 84 (.pointer (some a)) name).run Try.prog w = .ok (f, v) w := by
  cases hi : Try.prog.info? 84 with
  | none => rw [hi] at hm; cases hm
  | some i =>
  rw [hi] at hm
  cases hf : (i.methods.find? (·.name == name)) with
  | none => simp only [Option.bind_some, hf] at hm; cases hm
  | some m =>
    simp only [Option.bind_some, hf, Option.map_some, Option.some.injEq, Prod.mk.injEq] at hm
    obtain ⟨h1, h2⟩ := hm
    have hu : Try.prog.underlying 84 = some (.pointer 53) := by kernel_rfl
    have hl : (loadVar 53 a).run Try.prog w = .ok v w := by
      simp [loadVar, go_sem, h]
    have hti : (typeInfo 84).run Try.prog w = .ok i w := by
      simp [typeInfo, go_sem, hi]
    have chk : ∀ s t, (Builtin.ssaWrapNilChk_ #[84] 84 #[.pointer (some a), strVal s, strVal t]).run Try.prog w = .ok (.pointer (some a)) w := fun _ _ => rfl
    unfold method
    simp only [Sem.run_bind, Sem.run_pure, Result.andThen_ok, hti, hf, h1, follow, h2]
    unfold receiverAt
    simp only [Sem.run_bind, Sem.run_pure, Result.andThen_ok, run_underlying hu, Place.get, Array.isEmpty_empty, if_true, chk, asAddr, hl]
theorem m_len (a : Addr) (w : World) (v : Value) (h : w.cell? a = some v) : (method 205 84 (.pointer (some a)) "Len").run Try.prog w = .ok (48, v) w :=
  meth84 "Len" 48 (by kernel_rfl) a w v h
theorem m_less (a : Addr) (w : World) (v : Value) (h : w.cell? a = some v) : (method 205 84 (.pointer (some a)) "Less").run Try.prog w = .ok (49, v) w :=
  meth84 "Less" 49 (by kernel_rfl) a w v h
theorem m_swap (a : Addr) (w : World) (v : Value) (h : w.cell? a = some v) : (method 205 84 (.pointer (some a)) "Swap").run Try.prog w = .ok (50, v) w :=
  meth84 "Swap" 50 (by kernel_rfl) a w v h

theorem heap_drew (w : World) : w.drew.heap = w.heap := rfl
theorem Row.same {w w' : World} {g c n : Nat} {l l' : List Pc} (h : Row w g c n l) (e : l' = l) (hh : w'.heap = w.heap) : Row w' g c n l' := by
  subst e
  obtain ⟨h1, h2⟩ := h
  refine ⟨h1, ?_⟩
  rw [hh]
  exact h2
theorem Row.drewN {w : World} {g c n : Nat} {l : List Pc} (h : Row w g c n l) (k : Nat) : Row (w.drewN k) g c n l := h.same rfl rfl
theorem Row.kb {w w' : World} {g c n : Nat} {l : List Pc} {S : Nat → Prop} (h : Row w g c n l) (k : Kb S w w') (hg : ¬ S g) : Row w' g c n l :=
  k.row h (by intro k hk; simp only [Value.ownBlock, Option.some.injEq] at hk; subst hk; exact hg)

set_option maxHeartbeats 1000000 in
theorem swap_any (g c n i j : Nat) (l : List Pc) (w : World) (hi : i < n) (hj : j < n) (h : Row w g c n l) :
    Calls Try.prog 50 #[.slice (some ⟨g, 0, none⟩) n c, .int .i64 i, .int .i64 j] w fun e w' => e = .returned (.tuple #[]) ∧ Kb (fun k => k = g) w w' ∧ w'.heap.size = w.heap.size ∧ Row w' g c n (swapL l i j) := by
  obtain ⟨p, hp⟩ : ∃ p, p = l[i]! := ⟨_, rfl⟩
  obtain ⟨q, hq⟩ : ∃ q, q = l[j]! := ⟨_, rfl⟩
  have e0 := h.get i 0 hi (by omega)
  have e1 := h.get i 1 hi (by omega)
  have e2 := h.get i 2 hi (by omega)
  have e3 := h.get i 3 hi (by omega)
  have e4 := h.get i 4 hi (by omega)
  have f0 := h.get j 0 hj (by omega)
  have f1 := h.get j 1 hj (by omega)
  have f2 := h.get j 2 hj (by omega)
  have f3 := h.get j 3 hj (by omega)
  have f4 := h.get j 4 hj (by omega)
  rw [← hp] at e0 e1 e2 e3 e4
  rw [← hq] at f0 f1 f2 f3 f4
  have fz := World.ownsRow.frozenAt h
  have r := (h.set i hi q).set j hj p
  unfold swapL
  rw [← hp, ← hq]
  refine (swap_cells g n c i j p q w hi hj e0 e1 e2 e3 e4 f0 f1 f2 f3 f4 fz).mono ?_
  rintro e w' ⟨rfl, rfl⟩
  refine ⟨rfl, ?_, ?_, ?_⟩
  · refine Kb.drew ?_
    iterate 10 (refine Kb.setCell (S := fun k => k = g) ?_ (Or.inl rfl) _)
    exact Kb.refl _ _
  · simp
  · exact r.same rfl (heap_drew _)

theorem less_at (g c n : Nat) (x y : Int) (l : List Pc) (w : World) (hx : 0 ≤ x) (hi : x < n) (hy : 0 ≤ y) (hj : y < n) (h : Row w g c n l) :
    Calls Try.prog 49 #[.slice (some ⟨g, 0, none⟩) n c, .int .i64 x, .int .i64 y] w fun e w' => e = .returned (.bool (lessP l[x.toNat]! l[y.toNat]!)) ∧ ∃ n, w' = w.drewN n := by
  obtain ⟨i, rfl⟩ := Int.eq_ofNat_of_zero_le hx
  obtain ⟨j, rfl⟩ := Int.eq_ofNat_of_zero_le hy
  exact less_any g c n i j l w (by omega) (by omega) h
theorem swap_at (g c n : Nat) (x y : Int) (l : List Pc) (w : World) (hx : 0 ≤ x) (hi : x < n) (hy : 0 ≤ y) (hj : y < n) (h : Row w g c n l) :
    Calls Try.prog 50 #[.slice (some ⟨g, 0, none⟩) n c, .int .i64 x, .int .i64 y] w fun e w' => e = .returned (.tuple #[]) ∧ Kb (fun k => k = g) w w' ∧ w'.heap.size = w.heap.size ∧ Row w' g c n (swapL l x.toNat y.toNat) := by
  obtain ⟨i, rfl⟩ := Int.eq_ofNat_of_zero_le hx
  obtain ⟨j, rfl⟩ := Int.eq_ofNat_of_zero_le hy
  exact swap_any g c n i j l w (by omega) (by omega) h
end Go.Proofs.Ytibnpddmohjeoaa
