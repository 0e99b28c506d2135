/- What calls on the two nets of NetPlays leave of each other. -/
import Derived.Test.YtibnpddmohjeoaaPrel
namespace Go.Proofs.Ytibnpddmohjeoaa
open Go.RowKit

/-- A value of a slice that came in, which need not lie anywhere if it is empty. -/
def GroupsAt (w : World) (B : Nat) (v : Value) (gs : List Int) : Prop :=
  IntsAt w v gs ∧ (v = .slice none 0 0 ∨ ∃ ad n c, v = .slice (some ad) n c) ∧ (gs ≠ [] → ∀ g, v.ownBlock = some g → g < B)
theorem GroupsAt.kb {S : Nat → Prop} {w w' : World} {B : Nat} {v : Value} {gs : List Int} (h : GroupsAt w B v gs) (k : Kb S w w') (hs : ∀ g, S g → B ≤ g) : GroupsAt w' B v gs := by
  obtain ⟨h1, h2, h3⟩ := h
  refine ⟨?_, h2, h3⟩
  rcases h1 with h | ⟨g, o, c, rfl, hc⟩
  · exact Or.inl h
  · refine Or.inr ⟨g, o, c, rfl, fun i hi => ⟨k.cell (hc i hi).1 ?_, (hc i hi).2⟩⟩
    intro hS
    have := hs g hS
    have := h3 (by intro e; rw [e] at hi; simp at hi) g rfl
    omega

set_option maxHeartbeats 2000000 in
theorem part_none (S : Nat → Prop) (b : Nat) (st : St) (v : Value) (w : World) (h : NetIs S b w st) (hv : ∃ a c, v = .slice a 0 c) (hSlt : ∀ x, S x → x < w.heap.size) :
    Calls Try.prog 17 #[.pointer (some ⟨b, 0, none⟩), v] w fun e w' => e = .returned (.tuple #[]) ∧ Kb S w w' ∧ NetIs (fun x => S x ∨ x = w.heap.size) b w' (partS st []) := by
  obtain ⟨sv, wv, gv, hb, hsb, hs, hss, hw, hws, hg⟩ := h
  have hbl := block_lt hb
  have hmm := @run_makeMap Try.prog
  have hb4 := cell_of_heap hb 4
  have hfz := frozen_of_heap hb 4
  simp only [List.getElem?_toArray, List.getElem?_cons_succ, List.getElem?_cons_zero] at hb4
  obtain ⟨a, c, rfl⟩ := hv
  have HB := hid hb
  have HSL := hid hSlt
  clear hb hSlt
  go_enter Try.func17, Try.ntmps17
  go_wp2_with fail
  generalize hW : World.alloc _ _ = W
  have B2 : W.heap[b]? = some (.cells #[.int .i64 st.nodes, sv, wv, .int .i64 st.sent, .map (some w.heap.size)] 56 (0, 0)) := by
    subst hW
    rw [Below.heap_alloc _ _ _ (by simpa using hbl), heap_setCell_same w b 4 _ 56 _ HB.out]
    rfl
  have M2 : W.heap[w.heap.size]? = some (.map #[] 0) := by
    subst hW
    have := heap_alloc_new (w.setCell ⟨b, 4, none⟩ (.map (some w.heap.size))) (.map #[] 0)
    simpa using this
  have k2 : Kb (fun k => k = b) w W := by
    subst hW
    exact Kb.alloc (Kb.setCell (S := fun k => k = b) (Kb.refl _ _) (Or.inl rfl) _) _
  have mb0 : MapIs W w.heap.size 0 (fun _ => 0) :=
    ⟨.map [], ⟨#[], 0, M2, ⟨by simp, MapKept.stamped_empty 0, by simp⟩, Nat.le_refl _, rfl⟩, Maps.isMap_empty, fun _ _ => rfl⟩
  clear hW M2
  obtain ⟨mb, hmb⟩ : ∃ mb, mb = w.heap.size := ⟨_, rfl⟩
  rw [← hmb] at B2 mb0 ⊢
  have HMB := hid hmb
  have HB2 := hid B2
  have HM0 := hid mb0
  have HK2 := hid k2
  clear hmb B2 mb0 k2 hb4 hfz
  go_loopw [4, 5, 14] (fun _ _ jv wr => jv = .int .i64 0 ∧ wr = W) (fun _ _ jv _ => 0 - (intOf jv).toNat)
  case atStart => exact ⟨rfl, rfl⟩
  case round =>
    obtain ⟨rfl, rfl⟩ := hrel
    go_wp2_with fail
    go_end0
    have e : grpOf [] = fun _ => 0 := by funext k; unfold grpOf; rw [if_neg (by simp)]
    refine ⟨rfl, HK2.out.mono (fun i _ e => by subst e; exact hsb), sv, wv, .map (some mb), HB2.out, Or.inl hsb, ?_, fun g e => Or.inl (hss g e), ?_, fun g e => Or.inl (hws g e), ?_⟩
    · exact hs.kb HK2.out (fun g e r => own_ne hs e HB.out (by decide) r.symm)
    · exact HK2.out.row hw (fun g e r => own_ne hw e HB.out (by decide) r.symm)
    · refine Or.inr ⟨mb, 0, rfl, Or.inr HMB.out, ?_⟩
      show MapIs _ _ _ (grpOf [])
      rw [e]
      exact HM0.out
theorem part_groups (S : Nat → Prop) (b B : Nat) (st : St) (gs : List Int) (v : Value) (w : World) (h : NetIs S b w st) (hv : GroupsAt w B v gs) (hB : B ≤ w.heap.size) (hS : ∀ x, S x → B ≤ x) (hl : gs.length ≤ 9223372036854775807) :
    Calls Try.prog 17 #[.pointer (some ⟨b, 0, none⟩), v] w fun e w' => e = .returned (.tuple #[]) ∧ ∃ S' : Nat → Prop, (∀ x, S' x → S x ∨ w.heap.size ≤ x) ∧ Kb S w w' ∧ NetIs S' b w' (partS st gs) := by
  cases gs with
  | nil =>
    have hz : ∃ a c, v = .slice a 0 c := by
      rcases hv.1 with ⟨a, c, rfl, _⟩ | ⟨g, o, c, rfl, _⟩
      · exact ⟨_, _, rfl⟩
      · exact ⟨_, _, rfl⟩
    refine (part_none (fun x => S x ∧ x < w.heap.size) b st v w h.old hz (fun x hx => hx.2)).mono ?_
    rintro e w' ⟨he, h2, h3⟩
    refine ⟨he, _, ?_, h2.mono (fun x _ hx => hx.1), h3⟩
    rintro x (hx | hx)
    · exact Or.inl hx.1
    · exact Or.inr (by omega)
  | cons g0 gr =>
    refine part_any S b st (g0 :: gr) v w h hv.1 (fun g e => ?_) hl
    have := hv.2.2 (by simp) g e
    exact ⟨fun hx => by have := hS g hx; omega, by omega⟩
theorem rsend_any (S : Nat → Prop) (b : Nat) (rs : RS) (now f t : Int) (x : ByteArray) (w : World) (h : RefIs S b w rs) (hsc : rs.script.length ≤ 1000000) (hse : rs.sent ≤ 1000000) (hwl : rs.l.length ≤ 900000)
    (hnow : -1000000000000 ≤ now ∧ now ≤ 1000000000000) (hdel : (trOf rs.script rs.sent).delay ≤ 1000000000000) (hgl : rs.gs.length ≤ 9223372036854775807) :
    Calls Try.prog 16 #[.pointer (some ⟨b, 0, none⟩), .int .i64 now, .agg #[.int .i64 f, .int .i64 t, .string x]] w fun e w' => e = .returned (.tuple #[]) ∧ ∃ S' : Nat → Prop, (∀ x, S' x → S x ∨ w.heap.size ≤ x) ∧ Kb S w w' ∧ RefIs S' b w' (rsendS rs now ⟨f, t, x⟩) := by
  refine (rsend_core (fun x => S x ∧ x < w.heap.size) b rs now ⟨f, t, x⟩ w (fun x hx => hx.2) h.old hsc hse hwl hnow hdel hgl).mono ?_
  rintro e w' ⟨he, S', h1, h2, h3⟩
  refine ⟨he, S', ?_, h2.mono (fun x _ hx => hx.1), h3⟩
  intro x hx
  rcases h1 x hx with h | h
  · exact Or.inl h.1
  · exact Or.inr h

theorem Sepx.mono {D D' : Nat → Prop} {P Q : (Nat → Prop) → World → Prop} {w : World} (h : Sepx D P Q w) (hD : ∀ x, D x → D' x) : Sepx D' P Q w := by
  obtain ⟨S, T, h1, h2, h3, h4⟩ := h
  exact ⟨S, T, h1, h2, fun x hx => ⟨hD x (h3 x hx).1, (h3 x hx).2⟩, fun x hx => ⟨hD x (h4 x hx).1, (h4 x hx).2⟩⟩
theorem Sepx.alloc {D : Nat → Prop} {P Q : (Nat → Prop) → World → Prop} {w : World} (h : Sepx D P Q w) (hP : Stab P) (hQ : Stab Q) (o : Obj) : Sepx (fun x => D x ∧ x ≠ w.heap.size) P Q (w.alloc o) := by
  have k : Kb (fun _ => False) w (w.alloc o) := (Kb.refl _ _).alloc _
  obtain ⟨S, T, h1, h2, h3, h4⟩ := h
  exact ⟨S, T, hP.kb h1 k (fun _ _ x => x), hQ.kb h2 k (fun _ _ x => x), fun x hx => ⟨⟨(h3 x hx).1, by have := (h3 x hx).2.1; omega⟩, by have := (h3 x hx).2.1; simp; omega, (h3 x hx).2.2⟩,
    fun x hx => ⟨⟨(h4 x hx).1, by have := (h4 x hx).2; omega⟩, by have := (h4 x hx).2; simp; omega⟩⟩
section
variable {D : Nat → Prop} {B b : Nat} {rs : RS} {Q : (Nat → Prop) → World → Prop} {w : World}
theorem rsep_send (hQ : Stab Q) (h : Sepx D (RefP b rs) Q w) (hD : ∀ x, w.heap.size ≤ x → D x) (now f t : Int) (x : ByteArray) (hsc : rs.script.length ≤ 1000000) (hse : rs.sent ≤ 1000000) (hwl : rs.l.length ≤ 900000)
    (hnow : -1000000000000 ≤ now ∧ now ≤ 1000000000000) (hdel : (trOf rs.script rs.sent).delay ≤ 1000000000000) (hgl : rs.gs.length ≤ 9223372036854775807) :
    Calls Try.prog 16 #[.pointer (some ⟨b, 0, none⟩), .int .i64 now, .agg #[.int .i64 f, .int .i64 t, .string x]] w fun e w' => e = .returned (.tuple #[]) ∧ Sepx D (RefP b (rsendS rs now ⟨f, t, x⟩)) Q w' ∧ Kb D w w' := by
  obtain ⟨S, T, h1, h2, h3, h4⟩ := h
  refine (rsend_any S b rs now f t x w h1 hsc hse hwl hnow hdel hgl).mono ?_
  rintro e w' ⟨he, S', g1, g2, g3⟩
  exact ⟨he, Sepx.step (stab_ref b _) hQ h2 h3 h4 hD g2 g1 g3⟩
theorem rsep_next (hQ : Stab Q) (h : Sepx D (RefP b rs) Q w) (hD : ∀ x, w.heap.size ≤ x → D x) (n : Nat) (h0 : rs.l.length = n + 1) (hn : n + 1 ≤ 1000000) (f t : Int) (x : ByteArray) (tm s : Int) (hp : rs.l[bestN rs.l n]! = ⟨f, t, x, tm, s⟩) :
    Calls Try.prog 20 #[.pointer (some ⟨b, 0, none⟩)] w fun e w' => e = .returned (.tuple #[.agg #[.int .i64 f, .int .i64 t, .string x], .int .i64 tm, .bool true]) ∧ Sepx D (RefP b (rnextS rs)) Q w' ∧ Kb D w w' := by
  obtain ⟨S, T, h1, h2, h3, h4⟩ := h
  refine (rnext_at S b n rs w h1 h0 hn _ hp).mono ?_
  rintro e w' ⟨he, S', g1, g2, g3⟩
  exact ⟨he, Sepx.step (stab_ref b _) hQ h2 h3 h4 hD g2 g1 g3⟩
theorem rsep_empty (hQ : Stab Q) (h : Sepx D (RefP b rs) Q w) (h0 : rs.l = []) :
    Calls Try.prog 20 #[.pointer (some ⟨b, 0, none⟩)] w fun e w' => e = .returned noMsg ∧ Sepx D (RefP b rs) Q w' ∧ Kb (fun _ => False) w w' := by
  have hs := h
  obtain ⟨S, T, h1, h2, h3, h4⟩ := h
  refine (rnext_empty S b rs w h1 h0).mono ?_
  rintro e w' ⟨he, g2⟩
  exact ⟨he, hs.kb0 (stab_ref b _) hQ g2, g2⟩
theorem rsep_wait (h : Sepx D (RefP b rs) Q w) :
    Calls Try.prog 22 #[.pointer (some ⟨b, 0, none⟩)] w fun e w' => e = .returned (.int .i64 rs.l.length) ∧ w' = w := by
  obtain ⟨S, T, h1, _⟩ := h
  exact rwait_at S b rs w h1
theorem rsep_part (hQ : Stab Q) (h : Sepx D (RefP b rs) Q w) (hD : ∀ x, w.heap.size ≤ x → D x) (gs : List Int) (v : Value) (hv : GroupsAt w B v gs) (hl : gs.length * 8 ≤ 140737488355328) :
    Calls Try.prog 18 #[.pointer (some ⟨b, 0, none⟩), v] w fun e w' => e = .returned (.tuple #[]) ∧ Sepx D (RefP b { rs with gs := gs }) Q w' ∧ Kb D w w' := by
  obtain ⟨S, T, h1, h2, h3, h4⟩ := h
  refine (rpart_any S b rs gs v w h1 hv.1 hv.2.1 hl).mono ?_
  rintro e w' ⟨he, S', g1, g2, g3⟩
  exact ⟨he, Sepx.step (stab_ref b _) hQ h2 h3 h4 hD g2 g1 g3⟩
theorem gsep_part {st : St} (hQ : Stab Q) (h : Sepx D (NetP b st) Q w) (hD : ∀ x, w.heap.size ≤ x → D x) (hDB : ∀ x, D x → B ≤ x) (hB : B ≤ w.heap.size) (gs : List Int) (v : Value) (hv : GroupsAt w B v gs) (hl : gs.length ≤ 9223372036854775807) :
    Calls Try.prog 17 #[.pointer (some ⟨b, 0, none⟩), v] w fun e w' => e = .returned (.tuple #[]) ∧ Sepx D (NetP b (partS st gs)) Q w' ∧ Kb D w w' := by
  obtain ⟨S, T, h1, h2, h3, h4⟩ := h
  refine (part_groups S b B st gs v w h1 hv hB (fun x hx => hDB x (h3 x hx).1) hl).mono ?_
  rintro e w' ⟨he, S', g1, g2, g3⟩
  exact ⟨he, Sepx.step (stab_net b _) hQ h2 h3 h4 hD g2 g1 g3⟩
end
end Go.Proofs.Ytibnpddmohjeoaa
