/- Plain: waiting copies as lists, their cells, and what the heap's two loops do to a list. -/
import Derived.Below
namespace Go.Proofs.Ytibnpddmohjeoaa

/-- A copy that waits. -/
structure Pc where
  frm : Int
  to_ : Int
  text : ByteArray
  tm : Int
  sent : Int
instance : Inhabited Pc := ⟨⟨0, 0, .empty, 0, 0⟩⟩

def Pc.cells (p : Pc) : List Value := [.int .i64 p.frm, .int .i64 p.to_, .string p.text, .int .i64 p.tm, .int .i64 p.sent]
def flat (l : List Pc) : List Value := l.flatMap Pc.cells
theorem flat_nil : flat [] = [] := rfl
theorem flat_cons (p : Pc) (l : List Pc) : flat (p :: l) = p.cells ++ flat l := rfl
theorem flat_append (a b : List Pc) : flat (a ++ b) = flat a ++ flat b := by simp [flat]
theorem flat_length (l : List Pc) : (flat l).length = l.length * 5 := by
  induction l with
  | nil => rfl
  | cons p l ih => rw [flat_cons, List.length_append, ih, List.length_cons]; simp [Pc.cells]; omega
theorem flat_get (l : List Pc) : ∀ (i f : Nat) (_ : i < l.length) (_ : f < 5), (flat l)[i * 5 + f]? = (l[i]!).cells[f]? := by
  induction l with
  | nil => intro i f h; simp at h
  | cons p l ih =>
    intro i f hi hf
    rw [flat_cons]
    cases i with
    | zero => rw [List.getElem?_append_left (by simp [Pc.cells]; omega)]; simp
    | succ i =>
      rw [List.getElem?_append_right (by simp [Pc.cells]; omega)]
      have e : (i + 1) * 5 + f - p.cells.length = i * 5 + f := by simp [Pc.cells]; omega
      rw [e, ih i f (by simpa using hi) hf]
      simp
theorem flat_set (l : List Pc) : ∀ (i : Nat) (p : Pc) (_ : i < l.length), flat (l.set i p) = (((((flat l).set (i * 5) (.int .i64 p.frm)).set (i * 5 + 1) (.int .i64 p.to_)).set (i * 5 + 2) (.string p.text)).set (i * 5 + 3) (.int .i64 p.tm)).set (i * 5 + 4) (.int .i64 p.sent) := by
  induction l with
  | nil => intro i p h; simp at h
  | cons q l ih =>
    intro i p hi
    cases i with
    | zero => simp [flat_cons, Pc.cells]
    | succ i =>
      rw [List.set_cons_succ, flat_cons, flat_cons, ih i p (by simpa using hi)]
      have e0 : (i + 1) * 5 = q.cells.length + i * 5 := by simp [Pc.cells]; omega
      have key : ∀ (A : List Value) (B : List Value) (k : Nat) (v : Value), (A ++ B).set (A.length + k) v = A ++ B.set k v := by
        intro A B k v
        rw [List.set_append_right _ _ (by omega)]
        congr 2; omega
      rw [e0]
      rw [show q.cells.length + i * 5 + 1 = q.cells.length + (i * 5 + 1) from by omega, show q.cells.length + i * 5 + 2 = q.cells.length + (i * 5 + 2) from by omega,
        show q.cells.length + i * 5 + 3 = q.cells.length + (i * 5 + 3) from by omega, show q.cells.length + i * 5 + 4 = q.cells.length + (i * 5 + 4) from by omega]
      rw [key, key, key, key, key]

/-- The order of the copies. -/
def lessP (a b : Pc) : Bool := decide (a.tm < b.tm ∨ a.tm = b.tm ∧ a.sent < b.sent)
def swapL (l : List Pc) (i j : Nat) : List Pc := (l.set i l[j]!).set j l[i]!
@[simp] theorem swapL_length (l : List Pc) (i j : Nat) : (swapL l i j).length = l.length := by simp [swapL]
def upL : Nat → List Pc → Nat → List Pc
  | 0, l, _ => l
  | f + 1, l, j => if j = 0 then l else if lessP l[j]! l[(j - 1) / 2]! then upL f (swapL l ((j - 1) / 2) j) ((j - 1) / 2) else l
/-- The child that comes first. -/
def kid (l : List Pc) (i n : Nat) : Nat := if 2 * i + 2 < n ∧ lessP l[2 * i + 2]! l[2 * i + 1]! = true then 2 * i + 2 else 2 * i + 1
def downL : Nat → List Pc → Nat → Nat → List Pc
  | 0, l, _, _ => l
  | f + 1, l, i, n => if n ≤ 2 * i + 1 then l else if lessP l[kid l i n]! l[i]! then downL f (swapL l i (kid l i n)) (kid l i n) n else l
theorem upL_length : ∀ (f : Nat) (l : List Pc) (j : Nat), (upL f l j).length = l.length := by
  intro f
  induction f with
  | zero => intro l j; rfl
  | succ f ih => intro l j; rw [upL]; split; rfl; split; rw [ih]; simp; rfl
theorem downL_length : ∀ (f : Nat) (l : List Pc) (i n : Nat), (downL f l i n).length = l.length := by
  intro f
  induction f with
  | zero => intro l i n; rfl
  | succ f ih => intro l i n; rw [downL]; split; rfl; split; rw [ih]; simp; rfl
theorem upL_fuel : ∀ (f : Nat) (l : List Pc) (j : Nat), j < f → upL f l j = upL (j + 1) l j := by
  intro f
  induction f with
  | zero => intro l j h; omega
  | succ f ih =>
    intro l j h
    rw [upL, upL]
    split
    · rfl
    · split
      · rw [ih _ _ (by omega)]
        by_cases e : (j - 1) / 2 + 1 = j
        · rw [e]
        · have key : ∀ k, (j - 1) / 2 < k → k ≤ f → upL k (swapL l ((j - 1) / 2) j) ((j - 1) / 2) = upL ((j - 1) / 2 + 1) (swapL l ((j - 1) / 2) j) ((j - 1) / 2) := by
            intro k
            induction k with
            | zero => intro h; omega
            | succ k ihk =>
              intro h1 h2
              rw [← ih _ _ (show (j - 1) / 2 < f by omega)]
              clear ihk
              have mono : ∀ (a b : Nat) (l : List Pc) (j : Nat), j < a → a ≤ b → upL a l j = upL b l j := by
                intro a
                induction a with
                | zero => intro b l j h; omega
                | succ a iha =>
                  intro b l j h1 h2
                  obtain ⟨b, rfl⟩ : ∃ c, b = c + 1 := ⟨b - 1, by omega⟩
                  rw [upL, upL]
                  split
                  · rfl
                  · split
                    · exact iha _ _ _ (by omega) (by omega)
                    · rfl
              exact mono _ _ _ _ h1 h2
          rw [key j (by omega) (by omega)]
      · rfl
theorem upL_step (l : List Pc) (i : Nat) (h : lessP l[i + 1]! l[i / 2]! = true) : upL (i + 1 + 1) l (i + 1) = upL (i / 2 + 1) (swapL l (i / 2) (i + 1)) (i / 2) := by
  rw [upL, if_neg (by omega), show (i + 1 - 1) / 2 = i / 2 from by omega, if_pos h, upL_fuel _ _ _ (by omega)]
theorem upL_stop (l : List Pc) (i : Nat) (h : lessP l[i + 1]! l[i / 2]! = false) : upL (i + 1 + 1) l (i + 1) = l := by
  rw [upL, if_neg (by omega), show (i + 1 - 1) / 2 = i / 2 from by omega, if_neg (by rw [h]; decide)]
theorem kid_gt (l : List Pc) (i n : Nat) : i < kid l i n := by unfold kid; split <;> omega
theorem kid_lt (l : List Pc) (i n : Nat) (h : 2 * i + 1 < n) : kid l i n < n := by
  unfold kid
  split
  · rename_i h; exact h.1
  · exact h
theorem downL_mono : ∀ (a b : Nat) (l : List Pc) (i n : Nat), n ≤ a + i → a ≤ b → downL a l i n = downL b l i n := by
  intro a
  induction a with
  | zero =>
    intro b l i n h1 h2
    cases b with
    | zero => rfl
    | succ b => rw [downL, downL, if_pos (by omega)]
  | succ a iha =>
    intro b l i n h1 h2
    obtain ⟨b, rfl⟩ : ∃ c, b = c + 1 := ⟨b - 1, by omega⟩
    rw [downL, downL]
    split
    · rfl
    · split
      · have := kid_gt l i n
        exact iha _ _ _ _ (by omega) (by omega)
      · rfl
theorem downL_step (l : List Pc) (i n : Nat) (h : 2 * i + 1 < n) (hl : lessP l[kid l i n]! l[i]! = true) : downL (n - i) l i n = downL (n - kid l i n) (swapL l i (kid l i n)) (kid l i n) n := by
  obtain ⟨f, hf⟩ : ∃ f, n - i = f + 1 := ⟨n - i - 1, by omega⟩
  have := kid_gt l i n
  rw [hf, downL, if_neg (by omega), if_pos hl]
  exact (downL_mono _ _ _ _ _ (by omega) (by omega)).symm
theorem downL_stop (l : List Pc) (i n : Nat) (h : n ≤ 2 * i + 1 ∨ lessP l[kid l i n]! l[i]! = false) : downL (n - i) l i n = l := by
  cases hf : n - i with
  | zero => rfl
  | succ f =>
    rw [downL]
    rcases h with h | h
    · rw [if_pos h]
    · split
      · rfl
      · rw [if_neg (by rw [h]; decide)]
end Go.Proofs.Ytibnpddmohjeoaa
