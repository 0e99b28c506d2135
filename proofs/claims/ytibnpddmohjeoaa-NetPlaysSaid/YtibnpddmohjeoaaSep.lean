/- Two things in memory that share no block: what a call on one of them leaves of the other. -/
import Derived.Test.YtibnpddmohjeoaaScr
namespace Go.Proofs.Ytibnpddmohjeoaa
open Go.RowKit

/-- A thing that lies in the blocks of S: it stays while other blocks change. -/
structure Stab (P : (Nat → Prop) → World → Prop) : Prop where
  kb : ∀ {S T : Nat → Prop} {w w' : World}, P S w → Kb T w w' → (∀ x, S x → ¬ T x) → P S w'
  old : ∀ {S : Nat → Prop} {w : World}, P S w → P (fun x => S x ∧ x < w.heap.size) w
def NetP (b : Nat) (st : St) : (Nat → Prop) → World → Prop := fun S w => NetIs S b w st
theorem stab_net (b : Nat) (st : St) : Stab (NetP b st) := ⟨fun h k d => NetIs.kb h k d, fun h => NetIs.old h⟩

/-- Two things in blocks from B on, which share none. -/
def Sep (B : Nat) (P Q : (Nat → Prop) → World → Prop) (w : World) : Prop :=
  ∃ S T : Nat → Prop, P S w ∧ Q T w ∧ (∀ x, S x → B ≤ x ∧ x < w.heap.size ∧ ¬ T x) ∧ (∀ x, T x → B ≤ x ∧ x < w.heap.size)
theorem Sep.swap {B : Nat} {P Q : (Nat → Prop) → World → Prop} {w : World} (h : Sep B P Q w) : Sep B Q P w := by
  obtain ⟨S, T, h1, h2, h3, h4⟩ := h
  exact ⟨T, S, h2, h1, fun x hx => ⟨(h4 x hx).1, (h4 x hx).2, fun hs => (h3 x hs).2.2 hx⟩, fun x hx => ⟨(h3 x hx).1, (h3 x hx).2.1⟩⟩
theorem Sep.kb {B : Nat} {P Q : (Nat → Prop) → World → Prop} {w w' : World} (h : Sep B P Q w) (hP : Stab P) (hQ : Stab Q) {U : Nat → Prop} (k : Kb U w w') (hU : ∀ x, U x → x < B) : Sep B P Q w' := by
  obtain ⟨S, T, h1, h2, h3, h4⟩ := h
  have := k.size
  exact ⟨S, T, hP.kb h1 k (fun x hx u => by have := hU x u; have := (h3 x hx).1; omega), hQ.kb h2 k (fun x hx u => by have := hU x u; have := (h4 x hx).1; omega),
    fun x hx => ⟨(h3 x hx).1, by have := (h3 x hx).2.1; omega, (h3 x hx).2.2⟩, fun x hx => ⟨(h4 x hx).1, by have := (h4 x hx).2; omega⟩⟩
theorem Sep.kb0 {B : Nat} {P Q : (Nat → Prop) → World → Prop} {w w' : World} (h : Sep B P Q w) (hP : Stab P) (hQ : Stab Q) (k : Kb (fun _ => False) w w') : Sep B P Q w' :=
  h.kb hP hQ k (fun _ x => x.elim)
/-- What a call that changes the first thing leaves. -/
theorem Sep.step {B : Nat} {P' Q : (Nat → Prop) → World → Prop} {w w' : World} (hP : Stab P') (hQ : Stab Q) {S T : Nat → Prop} (h2 : Q T w) (h3 : ∀ x, S x → B ≤ x ∧ x < w.heap.size ∧ ¬ T x) (h4 : ∀ x, T x → B ≤ x ∧ x < w.heap.size)
    (hB : B ≤ w.heap.size) {S' : Nat → Prop} (k : Kb S w w') (hS : ∀ x, S' x → S x ∨ w.heap.size ≤ x) (h1 : P' S' w') : Sep B P' Q w' ∧ Kb (fun x => B ≤ x) w w' := by
  have hz := k.size
  refine ⟨⟨fun x => S' x ∧ x < w'.heap.size, T, hP.old h1, hQ.kb h2 k (fun x hx hs => (h3 x hs).2.2 hx), ?_, ?_⟩, k.mono (fun x _ hx => (h3 x hx).1)⟩
  · rintro x ⟨hx, hlt⟩
    refine ⟨?_, hlt, ?_⟩
    · rcases hS x hx with h | h
      · exact (h3 x h).1
      · omega
    · intro ht
      rcases hS x hx with h | h
      · exact (h3 x h).2.2 ht
      · have := (h4 x ht).2; omega
  · intro x hx
    have := h4 x hx
    exact ⟨this.1, by omega⟩
/-- A new thing beside an old one. -/
theorem Sep.mk {B : Nat} {P Q : (Nat → Prop) → World → Prop} {w w' : World} (hP : Stab P) (hQ : Stab Q) {S : Nat → Prop} (h1 : P S w) (h3 : ∀ x, S x → B ≤ x ∧ x < w.heap.size) (hB : B ≤ w.heap.size) (k : Kb (fun _ => False) w w') (h2 : Q (fun x => w.heap.size ≤ x) w') : Sep B P Q w' := by
  have hz := k.size
  refine ⟨S, fun x => w.heap.size ≤ x ∧ x < w'.heap.size, hP.kb h1 k (fun _ _ x => x), hQ.old h2, ?_, ?_⟩
  · intro x hx
    have := h3 x hx
    exact ⟨this.1, by omega, by rintro ⟨h, _⟩; omega⟩
  · rintro x ⟨h, h'⟩
    exact ⟨by omega, h'⟩

section
variable {B b : Nat} {st : St} {Q : (Nat → Prop) → World → Prop} {w : World}
theorem sep_send (hQ : Stab Q) (h : Sep B (NetP b st) Q w) (hB : B ≤ w.heap.size) (now f t : Int) (x : ByteArray) (hsc : st.script.length ≤ 1000000) (hse : st.sent ≤ 1000000) (hwl : st.waiting.length ≤ 900000)
    (hbd : drops st ⟨f, t, x⟩ = false → (-1000000000000 ≤ now ∧ now ≤ 1000000000000) ∧ (trOf st.script st.sent).delay ≤ 1000000000000) (hnd : st.nodes ≤ 9223372036854775807) :
    Calls Try.prog 15 #[.pointer (some ⟨b, 0, none⟩), .int .i64 now, .agg #[.int .i64 f, .int .i64 t, .string x]] w fun e w' => e = .returned (.tuple #[]) ∧ Sep B (NetP b (sendS st now ⟨f, t, x⟩)) Q w' ∧ Kb (fun x => B ≤ x) w w' := by
  obtain ⟨S, T, h1, h2, h3, h4⟩ := h
  refine (send_at S b st now f t x w h1 hsc hse hwl hbd hnd).mono ?_
  rintro e w' ⟨he, S', g1, g2, g3⟩
  exact ⟨he, Sep.step (stab_net b _) hQ h2 h3 h4 hB g2 g1 g3⟩
theorem sep_next (hQ : Stab Q) (h : Sep B (NetP b st) Q w) (hB : B ≤ w.heap.size) (n : Nat) (h0 : st.waiting.length = n + 1) (hn : n + 1 ≤ 1000000) (f t : Int) (x : ByteArray) (tm s : Int) (hp : (popL st.waiting)[n]! = ⟨f, t, x, tm, s⟩) :
    Calls Try.prog 19 #[.pointer (some ⟨b, 0, none⟩)] w fun e w' => e = .returned (.tuple #[.agg #[.int .i64 f, .int .i64 t, .string x], .int .i64 tm, .bool true]) ∧ Sep B (NetP b (nextS st)) Q w' ∧ Kb (fun x => B ≤ x) w w' := by
  obtain ⟨S, T, h1, h2, h3, h4⟩ := h
  refine (next_at S b n st w h1 h0 hn f t x tm s hp).mono ?_
  rintro e w' ⟨he, g2, g3⟩
  exact ⟨he, Sep.step (stab_net b _) hQ h2 h3 h4 hB g2 (fun x hx => Or.inl hx) g3⟩
theorem sep_empty (hQ : Stab Q) (h : Sep B (NetP b st) Q w) (h0 : st.waiting = []) :
    Calls Try.prog 19 #[.pointer (some ⟨b, 0, none⟩)] w fun e w' => e = .returned noMsg ∧ Sep B (NetP b st) Q w' ∧ Kb (fun _ => False) w w' := by
  have hs := h
  obtain ⟨S, T, h1, h2, h3, h4⟩ := h
  refine (next_empty S b st w h1 h0).mono ?_
  rintro e w' ⟨he, g2⟩
  exact ⟨he, hs.kb0 (stab_net b _) hQ g2, g2⟩
theorem sep_wait (h : Sep B (NetP b st) Q w) :
    Calls Try.prog 21 #[.pointer (some ⟨b, 0, none⟩)] w fun e w' => e = .returned (.int .i64 st.waiting.length) ∧ w' = w := by
  obtain ⟨S, T, h1, _⟩ := h
  exact wait_at S b st w h1
theorem sep_part (hQ : Stab Q) (h : Sep B (NetP b st) Q w) (hB : B ≤ w.heap.size) (gs : List Int) (v : Value) (hv : IntsAt w v gs) (hsep : ∀ g, v.ownBlock = some g → g < B) (hl : gs.length ≤ 9223372036854775807) :
    Calls Try.prog 17 #[.pointer (some ⟨b, 0, none⟩), v] w fun e w' => e = .returned (.tuple #[]) ∧ Sep B (NetP b (partS st gs)) Q w' ∧ Kb (fun x => B ≤ x) w w' := by
  obtain ⟨S, T, h1, h2, h3, h4⟩ := h
  refine (part_any S b st gs v w h1 hv (fun g e => ⟨fun hx => by have := (h3 g hx).1; have := hsep g e; omega, by have := hsep g e; omega⟩) hl).mono ?_
  rintro e w' ⟨he, S', g1, g2, g3⟩
  exact ⟨he, Sep.step (stab_net b _) hQ h2 h3 h4 hB g2 g1 g3⟩
theorem sep_part_new {w0 : World} (hQ : Stab Q) (h : Sep B (NetP b st) Q w0) (k : Kb (fun _ => False) w0 w) (hB : B ≤ w0.heap.size) (gs : List Int) (v : Value) (hv : IntsAt w v gs) (hsep : ∀ g, v.ownBlock = some g → w0.heap.size ≤ g ∧ g < w.heap.size) (hl : gs.length ≤ 9223372036854775807) :
    Calls Try.prog 17 #[.pointer (some ⟨b, 0, none⟩), v] w fun e w' => e = .returned (.tuple #[]) ∧ Sep B (NetP b (partS st gs)) Q w' ∧ Kb (fun x => B ≤ x) w0 w' := by
  have hz := k.size
  obtain ⟨S, T, h1, h2, h3, h4⟩ := h
  refine (part_any S b st gs v w (h1.kb k (fun _ _ x => x)) hv (fun g e => ⟨fun hx => by have := (h3 g hx).2.1; have := hsep g e; omega, (hsep g e).2⟩) hl).mono ?_
  rintro e w' ⟨he, S', g1, g2, g3⟩
  have r := Sep.step (B := B) (S := S) (T := T) (stab_net b _) hQ (hQ.kb h2 k (fun _ _ x => x)) (fun x hx => ⟨(h3 x hx).1, by have := (h3 x hx).2.1; omega, (h3 x hx).2.2⟩) (fun x hx => ⟨(h4 x hx).1, by have := (h4 x hx).2; omega⟩) (by omega) g2 g1 g3
  exact ⟨he, r.1, (k.mono (fun _ _ x => x.elim)).trans r.2⟩
theorem sep_next_new {w0 : World} (hQ : Stab Q) (h : Sep B (NetP b st) Q w0) (k : Kb (fun _ => False) w0 w) (hB : B ≤ w0.heap.size) (n : Nat) (h0 : st.waiting.length = n + 1) (hn : n + 1 ≤ 1000000) (f t : Int) (x : ByteArray) (tm s : Int) (hp : (popL st.waiting)[n]! = ⟨f, t, x, tm, s⟩) :
    Calls Try.prog 19 #[.pointer (some ⟨b, 0, none⟩)] w fun e w' => e = .returned (.tuple #[.agg #[.int .i64 f, .int .i64 t, .string x], .int .i64 tm, .bool true]) ∧ Sep B (NetP b (nextS st)) Q w' ∧ Kb (fun x => B ≤ x ∧ x < w0.heap.size) w w' := by
  have hz := k.size
  obtain ⟨S, T, h1, h2, h3, h4⟩ := h
  refine (next_at S b n st w (h1.kb k (fun _ _ x => x)) h0 hn f t x tm s hp).mono ?_
  rintro e w' ⟨he, g2, g3⟩
  have r := Sep.step (B := B) (S := S) (T := T) (stab_net b _) hQ (hQ.kb h2 k (fun _ _ x => x)) (fun x hx => ⟨(h3 x hx).1, by have := (h3 x hx).2.1; omega, (h3 x hx).2.2⟩) (fun x hx => ⟨(h4 x hx).1, by have := (h4 x hx).2; omega⟩) (by omega) g2 (fun x hx => Or.inl hx) g3
  exact ⟨he, r.1, g2.mono (fun x _ hx => ⟨(h3 x hx).1, (h3 x hx).2.1⟩)⟩
end
end Go.Proofs.Ytibnpddmohjeoaa
