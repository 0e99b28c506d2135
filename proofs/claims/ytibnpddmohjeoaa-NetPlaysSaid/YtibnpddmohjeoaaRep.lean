/- What a net in memory is, and the walk of New. -/
import Derived.Test.YtibnpddmohjeoaaNew
namespace Go.Proofs.Ytibnpddmohjeoaa
open Go.RowKit

/-- The state of a net. -/
structure St where
  nodes : Int
  script : List Tr
  waiting : List Pc
  sent : Nat
  grp : Int → Int

def GrpIs (w : World) (S : Nat → Prop) (gv : Value) (f : Int → Int) : Prop :=
  (gv = .map none ∧ ∀ k, f k = 0) ∨ ∃ mb n, gv = .map (some mb) ∧ S mb ∧ MapIs w mb n f

/-- A net with the state st at block b, all of it in blocks of S. -/
def NetIs (S : Nat → Prop) (b : Nat) (w : World) (st : St) : Prop :=
  ∃ sv wv gv, w.heap[b]? = some (.cells #[.int .i64 st.nodes, sv, wv, .int .i64 st.sent, gv] 56 (0, 0)) ∧ S b ∧ RowT w sv st.script ∧ (∀ g, sv.ownBlock = some g → S g) ∧
    w.ownsRow 0 75 5 wv st.waiting.length (flat st.waiting) ∧ (∀ g, wv.ownBlock = some g → S g) ∧ GrpIs w S gv st.grp

theorem GrpIs.kb {w w' : World} {S T : Nat → Prop} {gv : Value} {f : Int → Int} (h : GrpIs w S gv f) (k : Kb T w w') (hd : ∀ x, S x → ¬ T x) : GrpIs w' S gv f := by
  rcases h with h | ⟨mb, n, e, hs, hm⟩
  · exact Or.inl h
  · exact Or.inr ⟨mb, n, e, hs, hm.kb k (hd mb hs)⟩
theorem GrpIs.mono {w : World} {S S' : Nat → Prop} {gv : Value} {f : Int → Int} (h : GrpIs w S gv f) (hd : ∀ x, S x → S' x) : GrpIs w S' gv f := by
  rcases h with h | ⟨mb, n, e, hs, hm⟩
  · exact Or.inl h
  · exact Or.inr ⟨mb, n, e, hd _ hs, hm⟩
theorem NetIs.kb {S T : Nat → Prop} {b : Nat} {w w' : World} {st : St} (h : NetIs S b w st) (k : Kb T w w') (hd : ∀ x, S x → ¬ T x) : NetIs S b w' st := by
  obtain ⟨sv, wv, gv, hb, hsb, hs, hss, hw, hws, hg⟩ := h
  exact ⟨sv, wv, gv, k.heap hb (hd b hsb), hsb, hs.kb k (fun g e => hd g (hss g e)), hss, k.row hw (fun g e => hd g (hws g e)), hws, hg.kb k hd⟩
theorem NetIs.mono {S S' : Nat → Prop} {b : Nat} {w : World} {st : St} (h : NetIs S b w st) (hd : ∀ x, S x → S' x) : NetIs S' b w st := by
  obtain ⟨sv, wv, gv, hb, hsb, hs, hss, hw, hws, hg⟩ := h
  exact ⟨sv, wv, gv, hb, hd _ hsb, hs, fun g e => hd _ (hss g e), hw, fun g e => hd _ (hws g e), hg.mono hd⟩
theorem own_heap {w : World} {base : Nat} {e : TypeId} {size : Nat} {v : Value} {n : Nat} {xs : List Value} (h : w.ownsRow base e size v n xs) {g : Nat} (hg : v.ownBlock = some g) : ∃ cur, w.heap[g]? = some (.cells cur e (0, 0)) := by
  rcases h.2 with ⟨rfl, _⟩ | ⟨g', cap, cur, rfl, _, hh, _⟩
  · cases hg
  · simp only [Value.ownBlock, Option.some.injEq] at hg
    subst hg
    exact ⟨cur, hh⟩
theorem own_ne {w : World} {base : Nat} {e : TypeId} {size : Nat} {v : Value} {n : Nat} {xs : List Value} (h : w.ownsRow base e size v n xs) {g b : Nat} (hg : v.ownBlock = some g) {c : Array Value} {t : TypeId} {fz : Nat × Nat} (hb : w.heap[b]? = some (.cells c t fz)) (hne : t ≠ e) : b ≠ g := by
  rintro rfl
  obtain ⟨cur, hc⟩ := own_heap h hg
  rw [hb] at hc
  simp only [Option.some.injEq, Obj.cells.injEq] at hc
  exact hne hc.2.1
theorem map_ne {w : World} {mb n : Nat} {f : Int → Int} (h : MapIs w mb n f) {b : Nat} {c : Array Value} {t : TypeId} {fz : Nat × Nat} (hb : w.heap[b]? = some (.cells c t fz)) : b ≠ mb := by
  rintro rfl
  obtain ⟨D, ⟨es, clock, hm, _⟩, _⟩ := h
  rw [hb] at hm
  cases hm
theorem NetIs.old {S : Nat → Prop} {b : Nat} {w : World} {st : St} (h : NetIs S b w st) : NetIs (fun x => S x ∧ x < w.heap.size) b w st := by
  obtain ⟨sv, wv, gv, hb, hsb, hs, hss, hw, hws, hg⟩ := h
  refine ⟨sv, wv, gv, hb, ⟨hsb, block_lt hb⟩, hs, fun g e => ⟨hss g e, (World.ownsRow.lt hs g e).2⟩, hw, fun g e => ⟨hws g e, (World.ownsRow.lt hw g e).2⟩, ?_⟩
  rcases hg with hg | ⟨mb, n, e, hs, hm⟩
  · exact Or.inl hg
  · exact Or.inr ⟨mb, n, e, ⟨hs, by obtain ⟨D, ho, _⟩ := hm; exact ho.lt⟩, hm⟩

theorem own_slice {w : World} {base : Nat} {e : TypeId} {size : Nat} {v : Value} {n : Nat} {xs : List Value} (h : w.ownsRow base e size v n xs) : ∃ a c, v = .slice a n c := by
  rcases h.2 with ⟨rfl, rfl⟩ | ⟨g', cap, cur, rfl, _, hh, _⟩
  · exact ⟨_, _, rfl⟩
  · exact ⟨_, _, rfl⟩
def newS (nodes : Int) (l : List Tr) : St := ⟨nodes, l, [], 0, fun _ => 0⟩

set_option maxHeartbeats 1000000 in
theorem new_any (nodes : Int) (v : Value) (l : List Tr) (w : World) (hn : l.length ≤ 1000000) (h : RowT w v l) :
    Calls Try.prog 13 #[.int .i64 nodes, v] w fun e w' => ∃ b, e = .returned (.pointer (some ⟨b, 0, none⟩)) ∧ Kb (fun _ => False) w w' ∧ NetIs (fun x => w.heap.size ≤ x) b w' (newS nodes l) := by
  go_enter Try.func13, Try.ntmps13
  go_wp2_with fail
  refine (clone_any v l w hn h).mono ?_
  rintro e w1 ⟨v', rfl, hr, hk, ho⟩
  obtain ⟨a, c, rfl⟩ := own_slice hr
  go_wp2
  go_ret
  refine ⟨_, rfl, hk.alloc _, .slice a l.length c, .slice none 0 0, .map none, ?_, hk.size, hr.alloc _, ho, World.ownsRow_nil .., by (intro g e; cases e), Or.inl ⟨rfl, fun _ => rfl⟩⟩
  exact heap_alloc_new w1 _
end Go.Proofs.Ytibnpddmohjeoaa
