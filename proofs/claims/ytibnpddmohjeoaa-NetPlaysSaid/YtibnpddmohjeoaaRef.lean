/- The reference's net in memory, and the walks of its small functions. -/
import Derived.Test.YtibnpddmohjeoaaParts
namespace Go.Proofs.Ytibnpddmohjeoaa
open Go.RowKit

structure RS where
  nodes : Int
  script : List Tr
  l : List Pc
  sent : Nat
  gs : List Int

def RefIs (S : Nat → Prop) (b : Nat) (w : World) (rs : RS) : Prop :=
  ∃ sv lv gv, w.heap[b]? = some (.cells #[.int .i64 rs.nodes, sv, lv, .int .i64 rs.sent, gv] 67 (0, 0)) ∧ S b ∧ RowT w sv rs.script ∧ (∀ g, sv.ownBlock = some g → S g) ∧
    w.ownsRow 0 78 5 lv rs.l.length (flat rs.l) ∧ (∀ g, lv.ownBlock = some g → S g) ∧ RowI w gv rs.gs ∧ (∀ g, gv.ownBlock = some g → S g)
theorem RefIs.kb {S T : Nat → Prop} {b : Nat} {w w' : World} {rs : RS} (h : RefIs S b w rs) (k : Kb T w w') (hd : ∀ x, S x → ¬ T x) : RefIs S b w' rs := by
  obtain ⟨sv, lv, gv, hb, hsb, hs, hss, hw, hws, hg, hgs⟩ := h
  exact ⟨sv, lv, gv, k.heap hb (hd b hsb), hsb, hs.kb k (fun g e => hd g (hss g e)), hss, k.row hw (fun g e => hd g (hws g e)), hws, hg.kb k (fun g e => hd g (hgs g e)), hgs⟩
theorem RefIs.mono {S S' : Nat → Prop} {b : Nat} {w : World} {rs : RS} (h : RefIs S b w rs) (hd : ∀ x, S x → S' x) : RefIs S' b w rs := by
  obtain ⟨sv, lv, gv, hb, hsb, hs, hss, hw, hws, hg, hgs⟩ := h
  exact ⟨sv, lv, gv, hb, hd _ hsb, hs, fun g e => hd _ (hss g e), hw, fun g e => hd _ (hws g e), hg, fun g e => hd _ (hgs g e)⟩
theorem RefIs.old {S : Nat → Prop} {b : Nat} {w : World} {rs : RS} (h : RefIs S b w rs) : RefIs (fun x => S x ∧ x < w.heap.size) b w rs := by
  obtain ⟨sv, lv, gv, hb, hsb, hs, hss, hw, hws, hg, hgs⟩ := h
  exact ⟨sv, lv, gv, hb, ⟨hsb, block_lt hb⟩, hs, fun g e => ⟨hss g e, (World.ownsRow.lt hs g e).2⟩, hw, fun g e => ⟨hws g e, (World.ownsRow.lt hw g e).2⟩, hg, fun g e => ⟨hgs g e, (World.ownsRow.lt hg g e).2⟩⟩
def RefP (b : Nat) (rs : RS) : (Nat → Prop) → World → Prop := fun S w => RefIs S b w rs
theorem add_none' (b o j : Nat) : (⟨b, o, none⟩ : Addr).add j = ⟨b, o + j, none⟩ := by
  unfold Addr.add
  split
  · rename_i h; subst h; rfl
  · rfl
theorem info78' : (Try.prog.info? 78).map (fun i => (i.zero, i.size, i.bytes)) = some (some (.agg #[.int .i64 0, .int .i64 0, .string .empty, .int .i64 0, .int .i64 0]), 5, 48) := by kernel_rfl
theorem stab_ref (b : Nat) (rs : RS) : Stab (RefP b rs) := ⟨fun h k d => RefIs.kb h k d, fun h => RefIs.old h⟩

set_option maxHeartbeats 1000000 in
theorem rgroup_any (b : Nat) (k : Int) (gv : Value) (gs : List Int) (w : World) (hk : 0 ≤ k) (h4 : w.cell? ⟨b, 4, none⟩ = some gv) (h : RowI w gv gs) (hl : gs.length ≤ 9223372036854775807) :
    Calls Try.prog 28 #[.pointer (some ⟨b, 0, none⟩), .int .i64 k] w fun e w' => e = .returned (.int .i64 (grpOf gs k)) ∧ w' = w := by
  have hbl : b < w.heap.size := World.block_lt_of_cell? w _ h4
  obtain ⟨a, c, rfl⟩ := own_slice h
  unfold grpOf
  by_cases hlt : k < gs.length
  · rcases h.slice with ⟨_, rfl⟩ | ⟨g, c', e, hg⟩
    · simp at hlt; omega
    · simp only [Value.slice.injEq] at e
      obtain ⟨rfl, _, rfl⟩ := e
      have hc := h.cell k.toNat (by omega)
      rw [if_pos ⟨hk, hlt⟩]
      generalize gs[k.toNat]! = x at *
      clear h
      go_enter Try.func28, Try.ntmps28
      go_wp2_with fail
      go_ret
      exact ⟨rfl, rfl⟩
  · rw [if_neg (by omega)]
    have hge : (gs.length : Int) ≤ k := by omega
    clear h hlt
    go_enter Try.func28, Try.ntmps28
    go_wp2_with fail
    go_ret
    exact ⟨rfl, rfl⟩

set_option maxHeartbeats 1000000 in
theorem rwait_at (S : Nat → Prop) (b : Nat) (rs : RS) (w : World) (h : RefIs S b w rs) :
    Calls Try.prog 22 #[.pointer (some ⟨b, 0, none⟩)] w fun e w' => e = .returned (.int .i64 rs.l.length) ∧ w' = w := by
  obtain ⟨sv, lv, gv, hb, hsb, hs, hss, hw, hws, hg, hgs⟩ := h
  obtain ⟨a, c, rfl⟩ := own_slice hw
  have h2 := cell_of_heap hb 2
  have hbl := block_lt hb
  simp only [List.getElem?_toArray, List.getElem?_cons_succ, List.getElem?_cons_zero] at h2
  clear hb hs hss hw hws hg hgs
  go_enter Try.func22, Try.ntmps22
  go_wp2_with fail
  go_ret
  exact ⟨rfl, rfl⟩

set_option maxHeartbeats 2000000 in
theorem rnew_any (nodes : Int) (v : Value) (l : List Tr) (w : World) (hn : l.length ≤ 1000000) (h : RowT w v l) :
    Calls Try.prog 14 #[.int .i64 nodes, v] w fun e w' => ∃ b, e = .returned (.pointer (some ⟨b, 0, none⟩)) ∧ Kb (fun _ => False) w w' ∧ RefIs (fun x => w.heap.size ≤ x) b w' ⟨nodes, l, [], 0, []⟩ := by
  obtain ⟨i0, hi0, hz0, hz1, hz2⟩ := info_parts info44
  have hfin : ∀ w1 sv, Kb (fun _ => False) w w1 → RowT w1 sv l → (∀ g, sv.ownBlock = some g → w.heap.size ≤ g) →
      Kb (fun _ => False) w (w1.alloc (.cells #[.int .i64 nodes, sv, .slice none 0 0, .int .i64 0, .slice none 0 0] 67)) ∧
      RefIs (fun x => w.heap.size ≤ x) w1.heap.size (w1.alloc (.cells #[.int .i64 nodes, sv, .slice none 0 0, .int .i64 0, .slice none 0 0] 67)) ⟨nodes, l, [], 0, []⟩ := by
    intro w1 sv k1 r1 hb
    have hz := k1.size
    have ka : Kb (fun _ => False) w1 (w1.alloc (.cells #[.int .i64 nodes, sv, .slice none 0 0, .int .i64 0, .slice none 0 0] 67)) := (Kb.refl _ _).alloc _
    exact ⟨k1.trans ka, sv, .slice none 0 0, .slice none 0 0, heap_alloc_new w1 _, hz, r1.kb ka (fun _ _ => by simp), hb, World.ownsRow_nil .., (fun g e => by cases e), World.ownsRow_nil .., (fun g e => by cases e)⟩
  have HF := hid hfin
  clear hfin
  rcases h.slice with ⟨rfl, rfl⟩ | ⟨g, c, rfl, hg⟩
  · go_enter Try.func14, Try.ntmps14
    go_wp2_with fail
    go_ret
    have h0 := HF.out (w.alloc (.cells #[] 44)) (.slice (some ⟨w.heap.size, 0, none⟩) 0 0) ((Kb.refl _ _).alloc _) (World.ownsRow_made w #[] 0 (Nat.zero_le _) (by decide) rfl) (fun g e => by simp only [Value.ownBlock, Option.some.injEq] at e; omega)
    rw [World.size_alloc] at h0
    exact ⟨_, rfl, h0⟩
  · have hnews : ∀ o j u, (flatT l)[j]? = some u → (w.alloc o).cell? ((⟨g, 0, none⟩ : Addr).add j) = some u := by
      intro o j u hu
      have hb : ((⟨g, 0, none⟩ : Addr).add j).block < w.heap.size := by unfold Addr.add; split <;> exact hg
      rw [World.cell?_alloc_lt _ _ _ hb]
      exact RowT.news h j u hu
    have hown0 : (w.alloc (.cells #[] 44)).ownsRow 0 44 3 (.slice (some ⟨w.heap.size, 0, none⟩) 0 0) 0 [] := World.ownsRow_made w #[] 0 (Nat.zero_le _) (by decide) rfl
    have HN := hid hnews
    have HO := hid hown0
    clear hnews hown0 h
    go_enter Try.func14, Try.ntmps14
    go_wp2_with (at_builtin; go_must (refine wpList_append_own_at _ rfl _ _ _ rfl 0 44 i0 _ 3 24 Try.underlying22 hi0 hz0 hz1 hz2 rfl (by omega) (.slice (some ⟨w.heap.size, 0, none⟩) 0 0) 0 [] (by rfl) HO.out ⟨g, 0, none⟩ l.length c (flatT l) (by rfl) (flatT_length _) (HN.out _) (flatT_one _) (by unfold maxLen; omega) (by omega) (Nat.zero_le _) ?_); intro v' w4 hown1 hgrow _ hat; obtain ⟨a', c', rfl⟩ := own_slice hown1)
    rw [Nat.zero_add] at *
    rw [List.nil_append] at hown1
    have k4 : Kb (fun _ => False) w w4 := ((Kb.refl _ _).alloc _).grown hgrow (fun k e => by simp only [Value.ownBlock, Option.some.injEq] at e; right; omega)
    have hb4 : ∀ g, (Value.slice a' l.length c').ownBlock = some g → w.heap.size ≤ g := by
      intro g' e
      rcases hat with h | h
      · rw [h] at e
        simp only [Value.ownBlock, Option.some.injEq] at e
        omega
      · have e2 := h.symm.trans e
        simp only [Option.some.injEq, World.size_alloc] at e2
        omega
    clear hgrow hat
    go_ret
    exact ⟨_, rfl, HF.out _ _ k4 hown1 hb4⟩
end Go.Proofs.Ytibnpddmohjeoaa
