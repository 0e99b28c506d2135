/- Two things in memory that share no block, and keep out of further blocks (Sep, with a property in the place of a bound). -/
import Derived.Test.YtibnpddmohjeoaaDrains
namespace Go.Proofs.Ytibnpddmohjeoaa
open Go.RowKit

def Sepx (D : Nat → Prop) (P Q : (Nat → Prop) → World → Prop) (w : World) : Prop :=
  ∃ S T : Nat → Prop, P S w ∧ Q T w ∧ (∀ x, S x → D x ∧ x < w.heap.size ∧ ¬ T x) ∧ (∀ x, T x → D x ∧ x < w.heap.size)
theorem Sep.sepx {B : Nat} {D : Nat → Prop} {P Q : (Nat → Prop) → World → Prop} {w : World} (h : Sep B P Q w) (hD : ∀ x, B ≤ x → x < w.heap.size → D x) : Sepx D P Q w := by
  obtain ⟨S, T, h1, h2, h3, h4⟩ := h
  exact ⟨S, T, h1, h2, fun x hx => ⟨hD x (h3 x hx).1 (h3 x hx).2.1, (h3 x hx).2⟩, fun x hx => ⟨hD x (h4 x hx).1 (h4 x hx).2, (h4 x hx).2⟩⟩
theorem Sepx.swap {D : Nat → Prop} {P Q : (Nat → Prop) → World → Prop} {w : World} (h : Sepx D P Q w) : Sepx D Q P w := by
  obtain ⟨S, T, h1, h2, h3, h4⟩ := h
  exact ⟨T, S, h2, h1, fun x hx => ⟨(h4 x hx).1, (h4 x hx).2, fun hs => (h3 x hs).2.2 hx⟩, fun x hx => ⟨(h3 x hx).1, (h3 x hx).2.1⟩⟩
theorem Sepx.kb {D : Nat → Prop} {P Q : (Nat → Prop) → World → Prop} {w w' : World} (h : Sepx D P Q w) (hP : Stab P) (hQ : Stab Q) {U : Nat → Prop} (k : Kb U w w') (hU : ∀ x, U x → ¬ D x) : Sepx D P Q w' := by
  obtain ⟨S, T, h1, h2, h3, h4⟩ := h
  have := k.size
  exact ⟨S, T, hP.kb h1 k (fun x hx u => hU x u (h3 x hx).1), hQ.kb h2 k (fun x hx u => hU x u (h4 x hx).1),
    fun x hx => ⟨(h3 x hx).1, by have := (h3 x hx).2.1; omega, (h3 x hx).2.2⟩, fun x hx => ⟨(h4 x hx).1, by have := (h4 x hx).2; omega⟩⟩
theorem Sepx.kb0 {D : Nat → Prop} {P Q : (Nat → Prop) → World → Prop} {w w' : World} (h : Sepx D P Q w) (hP : Stab P) (hQ : Stab Q) (k : Kb (fun _ => False) w w') : Sepx D P Q w' :=
  h.kb hP hQ k (fun _ x => x.elim)
theorem Sepx.step {D : Nat → Prop} {P' Q : (Nat → Prop) → World → Prop} {w w' : World} (hP : Stab P') (hQ : Stab Q) {S T : Nat → Prop} (h2 : Q T w) (h3 : ∀ x, S x → D x ∧ x < w.heap.size ∧ ¬ T x) (h4 : ∀ x, T x → D x ∧ x < w.heap.size)
    (hD : ∀ x, w.heap.size ≤ x → D x) {S' : Nat → Prop} (k : Kb S w w') (hS : ∀ x, S' x → S x ∨ w.heap.size ≤ x) (h1 : P' S' w') : Sepx D P' Q w' ∧ Kb D w w' := by
  have hz := k.size
  refine ⟨⟨fun x => S' x ∧ x < w'.heap.size, T, hP.old h1, hQ.kb h2 k (fun x hx hs => (h3 x hs).2.2 hx), ?_, ?_⟩, k.mono (fun x _ hx => (h3 x hx).1)⟩
  · rintro x ⟨hx, hlt⟩
    refine ⟨?_, hlt, ?_⟩
    · rcases hS x hx with h | h
      · exact (h3 x h).1
      · exact hD x h
    · intro ht
      rcases hS x hx with h | h
      · exact (h3 x h).2.2 ht
      · have := (h4 x ht).2; omega
  · intro x hx
    have := h4 x hx
    exact ⟨this.1, by omega⟩
section
variable {D : Nat → Prop} {b : Nat} {st : St} {Q : (Nat → Prop) → World → Prop} {w : World}
theorem sepx_send (hQ : Stab Q) (h : Sepx D (NetP b st) Q w) (hD : ∀ x, w.heap.size ≤ x → D x) (now f t : Int) (x : ByteArray) (hsc : st.script.length ≤ 1000000) (hse : st.sent ≤ 1000000) (hwl : st.waiting.length ≤ 900000)
    (hbd : drops st ⟨f, t, x⟩ = false → (-1000000000000 ≤ now ∧ now ≤ 1000000000000) ∧ (trOf st.script st.sent).delay ≤ 1000000000000) (hnd : st.nodes ≤ 9223372036854775807) :
    Calls Try.prog 15 #[.pointer (some ⟨b, 0, none⟩), .int .i64 now, .agg #[.int .i64 f, .int .i64 t, .string x]] w fun e w' => e = .returned (.tuple #[]) ∧ Sepx D (NetP b (sendS st now ⟨f, t, x⟩)) Q w' ∧ Kb D w w' := by
  obtain ⟨S, T, h1, h2, h3, h4⟩ := h
  refine (send_at S b st now f t x w h1 hsc hse hwl hbd hnd).mono ?_
  rintro e w' ⟨he, S', g1, g2, g3⟩
  exact ⟨he, Sepx.step (stab_net b _) hQ h2 h3 h4 hD g2 g1 g3⟩
theorem sepx_next (hQ : Stab Q) (h : Sepx D (NetP b st) Q w) (hD : ∀ x, w.heap.size ≤ x → D x) (n : Nat) (h0 : st.waiting.length = n + 1) (hn : n + 1 ≤ 1000000) (f t : Int) (x : ByteArray) (tm s : Int) (hp : (popL st.waiting)[n]! = ⟨f, t, x, tm, s⟩) :
    Calls Try.prog 19 #[.pointer (some ⟨b, 0, none⟩)] w fun e w' => e = .returned (.tuple #[.agg #[.int .i64 f, .int .i64 t, .string x], .int .i64 tm, .bool true]) ∧ Sepx D (NetP b (nextS st)) Q w' ∧ Kb D w w' := by
  obtain ⟨S, T, h1, h2, h3, h4⟩ := h
  refine (next_at S b n st w h1 h0 hn f t x tm s hp).mono ?_
  rintro e w' ⟨he, g2, g3⟩
  exact ⟨he, Sepx.step (stab_net b _) hQ h2 h3 h4 hD g2 (fun x hx => Or.inl hx) g3⟩
theorem sepx_next_new {w0 : World} (hQ : Stab Q) (h : Sepx D (NetP b st) Q w0) (k : Kb (fun _ => False) w0 w) (hD : ∀ x, w.heap.size ≤ x → D x) (n : Nat) (h0 : st.waiting.length = n + 1) (hn : n + 1 ≤ 1000000) (f t : Int) (x : ByteArray) (tm s : Int) (hp : (popL st.waiting)[n]! = ⟨f, t, x, tm, s⟩) :
    Calls Try.prog 19 #[.pointer (some ⟨b, 0, none⟩)] w fun e w' => e = .returned (.tuple #[.agg #[.int .i64 f, .int .i64 t, .string x], .int .i64 tm, .bool true]) ∧ Sepx D (NetP b (nextS st)) Q w' ∧ Kb (fun x => D x ∧ x < w0.heap.size) w w' := by
  have hz := k.size
  obtain ⟨S, T, h1, h2, h3, h4⟩ := h
  refine (next_at S b n st w (h1.kb k (fun _ _ x => x)) h0 hn f t x tm s hp).mono ?_
  rintro e w' ⟨he, g2, g3⟩
  have r := Sepx.step (D := D) (S := S) (T := T) (stab_net b _) hQ (hQ.kb h2 k (fun _ _ x => x)) (fun x hx => ⟨(h3 x hx).1, by have := (h3 x hx).2.1; omega, (h3 x hx).2.2⟩) (fun x hx => ⟨(h4 x hx).1, by have := (h4 x hx).2; omega⟩) hD g2 (fun x hx => Or.inl hx) g3
  exact ⟨he, r.1, g2.mono (fun x _ hx => ⟨(h3 x hx).1, (h3 x hx).2.1⟩)⟩
theorem sepx_empty (hQ : Stab Q) (h : Sepx D (NetP b st) Q w) (h0 : st.waiting = []) :
    Calls Try.prog 19 #[.pointer (some ⟨b, 0, none⟩)] w fun e w' => e = .returned noMsg ∧ Sepx D (NetP b st) Q w' ∧ Kb (fun _ => False) w w' := by
  have hs := h
  obtain ⟨S, T, h1, h2, h3, h4⟩ := h
  refine (next_empty S b st w h1 h0).mono ?_
  rintro e w' ⟨he, g2⟩
  exact ⟨he, hs.kb0 (stab_net b _) hQ g2, g2⟩
theorem sepx_wait (h : Sepx D (NetP b st) Q w) :
    Calls Try.prog 21 #[.pointer (some ⟨b, 0, none⟩)] w fun e w' => e = .returned (.int .i64 st.waiting.length) ∧ w' = w := by
  obtain ⟨S, T, h1, _⟩ := h
  exact wait_at S b st w h1
end
end Go.Proofs.Ytibnpddmohjeoaa
