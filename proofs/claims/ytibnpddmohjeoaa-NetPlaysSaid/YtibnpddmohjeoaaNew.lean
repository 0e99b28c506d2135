/- The walks of Clone, New, trouble. -/
import Derived.Test.YtibnpddmohjeoaaNet
namespace Go.Proofs.Ytibnpddmohjeoaa
open Go.RowKit

def trOf (l : List Tr) (k : Nat) : Tr := if l.length = 0 then ⟨false, 1, 1⟩ else l[k % l.length]!

theorem RowT.form {w : World} {v : Value} {l : List Tr} (h : RowT w v l) : (v = .slice none 0 0 ∧ l = []) ∨ ∃ g c, v = .slice (some ⟨g, 0, none⟩) l.length c ∧ ∀ i f, i < l.length → f < 3 → w.cell? ⟨g, i * 3 + f, none⟩ = (l[i]!).cells[f]? := by
  rcases h.2 with ⟨rfl, h0⟩ | ⟨g, c, cur, rfl, _⟩
  · exact Or.inl ⟨rfl, List.eq_nil_of_length_eq_zero h0⟩
  · refine Or.inr ⟨g, c, rfl, fun i f hi hf => ?_⟩
    rw [World.ownsRow.cellAt h (i * 3 + f) (by omega), flatT_get l i f hi hf]
theorem RowT.kb {S : Nat → Prop} {w w' : World} {v : Value} {l : List Tr} (h : RowT w v l) (k : Kb S w w') (hs : ∀ g, v.ownBlock = some g → ¬ S g) : RowT w' v l := k.row h hs

set_option maxHeartbeats 1000000 in
theorem trouble_any (b k : Nat) (v : Value) (l : List Tr) (w : World) (hn : l.length ≤ 1000000000) (hk : k ≤ 1000000000)
    (h1 : w.cell? ⟨b, 1, none⟩ = some v) (h3 : w.cell? ⟨b, 3, none⟩ = some (.int .i64 k)) (h : RowT w v l) :
    Calls Try.prog 24 #[.pointer (some ⟨b, 0, none⟩)] w fun e w' => e = .returned (.agg (trOf l k).cells.toArray) ∧ Kb (fun _ => False) w w' := by
  have hbl : b < w.heap.size := World.block_lt_of_cell? w _ h1
  unfold trOf
  by_cases h0 : l.length = 0
  · rw [if_pos h0]
    have hv : ∃ g c, v = .slice g 0 c := by
      rcases h.form with ⟨rfl, _⟩ | ⟨g, c, rfl, _⟩
      · exact ⟨_, _, rfl⟩
      · exact ⟨_, _, by rw [h0]⟩
    obtain ⟨g, c, rfl⟩ := hv
    clear h h0
    go_enter Try.func24, Try.ntmps24
    go_wp2
    exact bodyPost_ret (v := .agg #[.bool false, .int .i64 1, .int .i64 1]) (by simp [results, Try.results24, go_sem]) rfl ⟨rfl, (Kb.refl _ _).alloc _⟩
  · rw [if_neg h0]
    rcases h.form with ⟨_, rfl⟩ | ⟨g, c, rfl, hc⟩
    · simp at h0
    · have hm : k % l.length < l.length := Nat.mod_lt _ (by omega)
      have c0 := hc (k % l.length) 0 hm (by omega)
      have c1 := hc (k % l.length) 1 hm (by omega)
      have c2 := hc (k % l.length) 2 hm (by omega)
      generalize l[k % l.length]! = t at *
      clear h hc
      generalize l.length = n at *
      simp only [Tr.cells, List.getElem?_cons_succ, List.getElem?_cons_zero, Nat.add_zero] at c0 c1 c2
      have hgl : g < w.heap.size := World.block_lt_of_cell? w _ c0
      have hz : ((n : Int) == 0) = false := by rw [beq_eq_false_iff_ne]; omega
      have hlt : (k : Int) % (n : Int) < (n : Int) := Int.emod_lt_of_pos _ (by omega)
      have hlt0 : 0 ≤ (k : Int) % (n : Int) := Int.emod_nonneg _ (by omega)
      go_enter Try.func24, Try.ntmps24
      go_wp2_with fail
      go_region
      all_goals
        go_wp2
        exact bodyPost_ret (v := .agg #[.bool t.lost, .int .i64 t.copies, .int .i64 t.delay]) (by simp [results, Try.results24, go_sem]) rfl ⟨rfl, ((Kb.refl _ _).alloc _).drew⟩

theorem RowT.news {w : World} {g c : Nat} {l : List Tr} (h : RowT w (.slice (some ⟨g, 0, none⟩) l.length c) l) : ∀ j u, (flatT l)[j]? = some u → w.cell? ((⟨g, 0, none⟩ : Addr).add j) = some u :=
  World.ownsRow.cells h rfl
theorem info44 : (Try.prog.info? 44).map (fun i => (i.zero, i.size, i.bytes)) = some (some (.agg #[.bool false, .int .i64 0, .int .i64 0]), 3, 24) := by kernel_rfl
theorem flatT_one (l : List Tr) : ∀ u ∈ flatT l, u.oneCell' = true := by
  intro u hu
  simp only [flatT, List.mem_flatMap] at hu
  obtain ⟨t, _, ht⟩ := hu
  simp only [Tr.cells, List.mem_cons, List.not_mem_nil, or_false] at ht
  rcases ht with rfl | rfl | rfl <;> rfl

set_option maxHeartbeats 1000000 in
theorem clone_any (v : Value) (l : List Tr) (w : World) (hn : l.length ≤ 1000000) (h : RowT w v l) :
    Calls Try.prog 23 #[v] w fun e w' => ∃ v', e = .returned v' ∧ RowT w' v' l ∧ Kb (fun _ => False) w w' ∧ (∀ g, v'.ownBlock = some g → w.heap.size ≤ g) := by
  have h' := h
  rcases h.form with ⟨rfl, rfl⟩ | ⟨g, c, rfl, hc⟩
  · have he := @Lib.run_eql_slice_nil Try.prog
    clear h'
    go_enter Try.func23, Try.ntmps23
    go_wp2
    go_ret
    exact ⟨_, rfl, h, Kb.refl _ _, by intro g hg; cases hg⟩
  · have he := @Lib.run_eql_slice_nil Try.prog
    obtain ⟨i0, hi0, hz0, hz1, hz2⟩ := info_parts info44
    have hg : g < w.heap.size := (World.ownsRow.lt h g rfl).2
    have hnews : ∀ o j u, (flatT l)[j]? = some u → (w.alloc o).cell? ((⟨g, 0, none⟩ : Addr).add j) = some u := by
      intro o j u hu
      have hb : ((⟨g, 0, none⟩ : Addr).add j).block < w.heap.size := by unfold Addr.add; split <;> exact hg
      rw [World.cell?_alloc_lt _ _ _ hb]
      exact h.news j u hu
    have hown0 : (w.alloc (.cells #[] 44)).ownsRow 0 44 3 (.slice (some ⟨w.heap.size, 0, none⟩) 0 0) 0 [] := World.ownsRow_made w #[] 0 (Nat.zero_le _) (by decide) rfl
    have HN := hid hnews
    have HO := hid hown0
    clear hnews hown0 hc h'
    go_enter Try.func23, Try.ntmps23
    go_wp2_with (at_builtin; refine wpList_append_own_at _ rfl _ _ _ rfl 0 44 i0 _ 3 24 Try.underlying22 hi0 hz0 hz1 hz2 rfl (by omega) (.slice (some ⟨w.heap.size, 0, none⟩) 0 0) 0 [] (by rfl) HO.out ⟨g, 0, none⟩ l.length c (flatT l) (by rfl) (flatT_length l) (HN.out _) (flatT_one l) (by unfold maxLen; omega) (by omega) (Nat.zero_le _) ?_; intro v' w1 hown1 hgrow _ hat)
    go_ret
    rw [Nat.zero_add, List.nil_append] at hown1
    refine ⟨_, rfl, hown1, ?_, ?_⟩
    · exact ((Kb.refl (fun _ => False) w).alloc _).grown hgrow (by intro k hk; simp only [Value.ownBlock, Option.some.injEq] at hk; right; omega)
    · intro k hk
      rcases hat with hat | hat
      · have e := hat.symm.trans hk
        simp only [Value.ownBlock, Option.some.injEq] at e
        omega
      · have e := hat.symm.trans hk
        simp only [Option.some.injEq, World.size_alloc] at e
        omega
end Go.Proofs.Ytibnpddmohjeoaa
