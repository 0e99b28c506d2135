/- The walk of the law's script. -/
import Derived.Test.YtibnpddmohjeoaaSan
namespace Go.Proofs.Ytibnpddmohjeoaa
open Go.RowKit

/-- A value that reads as a list of troubles. -/
def TrsAt (w : World) (v : Value) (l : List Tr) : Prop :=
  (∃ a c, v = .slice a 0 c ∧ l = []) ∨ ∃ g o c, v = .slice (some ⟨g, o, none⟩) l.length c ∧ ∀ i f, i < l.length → f < 3 → w.cell? ⟨g, o + (i * 3 + f), none⟩ = (l[i]!).cells[f]?
theorem TrsAt.kb {S : Nat → Prop} {w w' : World} {v : Value} {l : List Tr} (h : TrsAt w v l) (k : Kb S w w') (hs : ∀ g, v.ownBlock = some g → ¬ S g) : TrsAt w' v l := by
  rcases h with h | ⟨g, o, c, rfl, hc⟩
  · exact Or.inl h
  · refine Or.inr ⟨g, o, c, rfl, fun i f hi hf => ?_⟩
    have e := hc i f hi hf
    have e2 : (l[i]!).cells[f]? ≠ none := by
      have : f = 0 ∨ f = 1 ∨ f = 2 := by omega
      rcases this with rfl | rfl | rfl <;> simp [Tr.cells]
    cases h : (l[i]!).cells[f]? with
    | none => exact absurd h e2
    | some u => rw [h] at e; exact k.cell e (hs g rfl)

theorem heap_alloc2 (w : World) (A B : Obj) : ((w.alloc A).alloc B).heap[w.heap.size + 1]? = some B := by
  have h := heap_alloc_new (w.alloc A) B
  rwa [World.size_alloc] at h

def cutTr (t : Tr) : Tr := ⟨t.lost, t.copies, t.delay.tmod 100000⟩
def scriptL (l : List Tr) : List Tr := (l.take 12).map cutTr
theorem scriptL_length (l : List Tr) : (scriptL l).length = min 12 l.length := by simp [scriptL]

set_option maxHeartbeats 2000000 in
theorem script_any (v : Value) (l : List Tr) (w : World) (hl : l.length ≤ 9223372036854775807) (h : TrsAt w v l) (hv : ∀ g, v.ownBlock = some g → g < w.heap.size) :
    Calls Try.prog 12 #[v] w fun e w' => ∃ v', e = .returned v' ∧ Kb (fun _ => False) w w' ∧ RowT w' v' (scriptL l) ∧ (∀ g, v'.ownBlock = some g → w.heap.size ≤ g) := by
  obtain ⟨a, c, rfl⟩ : ∃ a c, v = .slice a l.length c := by
    rcases h with ⟨a, c, rfl, rfl⟩ | ⟨g, o, c, rfl, _⟩
    · exact ⟨_, _, rfl⟩
    · exact ⟨_, _, rfl⟩
  obtain ⟨i0, hi0, hz0, hz1, hz2⟩ := info_parts info44
  have HH := hid h
  have HV := hid hv
  clear h hv
  go_enter Try.func12, Try.ntmps12
  go_wp2_with fail
  go_loopw [3, 4, 5] (fun ov kv _ wr => ∃ k : Nat, kv = .int .i64 k ∧ k ≤ l.length ∧ k ≤ 12 ∧ Kb (fun _ => False) w wr ∧ wr.ownsRow 0 44 3 ov k (flatT ((l.take k).map cutTr)) ∧ Hid (∀ g, ov.ownBlock = some g → w.heap.size ≤ g)) (fun _ kv _ _ => 12 - (intOf kv).toNat)
  case atStart => exact ⟨0, rfl, by omega, by omega, Kb.refl _ _, World.ownsRow_nil .., by intro g e; cases e⟩
  case round =>
    obtain ⟨k, rfl, hk1, hk2, hkb, hown, hblk⟩ := hrel
    by_cases hlt : k < l.length ∧ k < 12
    · obtain ⟨hlt1, hlt2⟩ := hlt
      obtain ⟨g, o, ha, hcell⟩ : ∃ g o, a = some ⟨g, o, none⟩ ∧ ∀ i f, i < l.length → f < 3 → w.cell? ⟨g, o + (i * 3 + f), none⟩ = (l[i]!).cells[f]? := by
        rcases HH.out with ⟨a', c', e, rfl⟩ | ⟨g, o, c', e, hc⟩
        · simp at hlt1
        · simp only [Value.slice.injEq] at e
          exact ⟨g, o, e.1, hc⟩
      subst ha
      have c0 := hkb.cell (v := .bool l[k]!.lost) (hcell k 0 hlt1 (by omega)) (by simp)
      have c1 := hkb.cell (v := .int .i64 l[k]!.copies) (hcell k 1 hlt1 (by omega)) (by simp)
      have c2 := hkb.cell (v := .int .i64 l[k]!.delay) (hcell k 2 hlt1 (by omega)) (by simp)
      have hsn : (l.take (k + 1)).map cutTr = (l.take k).map cutTr ++ [cutTr l[k]!] := by
        rw [List.take_succ_eq_append_getElem hlt1, List.map_append, List.getElem!_eq_getElem?_getD, List.getElem?_eq_getElem hlt1]
        rfl
      generalize l[k]! = t at *
      simp only [Nat.add_zero, ← Nat.add_assoc] at c0 c1 c2
      have hgl : g < wr.heap.size := World.block_lt_of_cell? wr _ c0
      have hm1 : t.delay.tmod 100000 < 100000 := Int.tmod_lt_of_pos _ (by omega)
      have hm2 : -100000 < t.delay.tmod 100000 := by
        have := Int.lt_tmod_of_pos t.delay (show (0 : Int) < 100000 by omega)
        omega
      have HSN := hid hsn
      have HO := hid hown
      clear hsn hown hcell
      go_wp2_with (at_builtin; go_must (refine wpList_append_own_at _ rfl _ _ _ rfl 0 44 i0 _ 3 24 Try.underlying22 hi0 hz0 hz1 hz2 rfl (by omega) _ k (flatT ((l.take k).map cutTr)) (by rfl) ((HO.out.alloc _).alloc _) ⟨wr.heap.size + 1, 0, none⟩ 1 1 (cutTr t).cells (by rfl) (by rfl) (World.news_of_block (cs := (cutTr t).cells.toArray) (t := 44) (fr := (0, 0)) (heap_alloc2 wr _ _)) (by simp [Tr.cells, Value.oneCell']) (by unfold maxLen; omega) (by omega) (Nat.zero_le _) ?_); intro v' w1 hown1 hgrow _ hat)
      refine ⟨⟨k + 1, by go_num, by omega, by omega, ?_, ?_, ?_⟩, by simp [intOf]; omega⟩
      · exact ((hkb.alloc _).alloc _).grown hgrow (fun g' e => Or.inr (hblk.out g' e))
      · rw [HSN.out, flatT_append]
        simpa [flatT] using hown1
      · intro g' e
        rcases hat with h | h
        · rw [h] at e
          exact hblk.out g' e
        · have e2 := h.symm.trans e
          simp only [Option.some.injEq, World.size_alloc] at e2
          have := hkb.size
          omega
    · have hkk : k = min 12 l.length := by omega
      have ht : l.take k = l.take 12 := by
        rw [hkk]
        rcases Nat.le_total 12 l.length with h | h
        · rw [Nat.min_eq_left h]
        · rw [Nat.min_eq_right h, List.take_length, List.take_of_length_le h]
      have hres : RowT wr u3 (scriptL l) := by
        unfold RowT
        rw [scriptL_length, ← hkk]
        unfold scriptL
        rw [← ht]
        exact hown
      have HR := hid hres
      by_cases hk : k < l.length
      · have hk12 : k = 12 := by omega
        subst hk12
        clear hkk ht hres hown
        go_wp2_with fail
        go_ret
        exact ⟨_, rfl, hkb, HR.out, hblk.out⟩
      · have hkl : (l.length : Int) ≤ k := by omega
        clear hkk ht hres hown
        go_wp2_with fail
        go_ret
        exact ⟨_, rfl, hkb, HR.out, hblk.out⟩
end Go.Proofs.Ytibnpddmohjeoaa
