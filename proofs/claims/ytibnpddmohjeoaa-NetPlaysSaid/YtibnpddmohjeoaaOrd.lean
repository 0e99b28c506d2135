/- Plain: what the heap's loops do to the order and to the set of copies. -/
import Derived.Test.YtibnpddmohjeoaaHeap
namespace Go.Proofs.Ytibnpddmohjeoaa

def leP (a b : Pc) : Prop := lessP b a = false
theorem leP_iff (a b : Pc) : leP a b ↔ a.tm < b.tm ∨ a.tm = b.tm ∧ a.sent ≤ b.sent := by
  unfold leP lessP
  rw [decide_eq_false_iff_not]
  omega
theorem lessP_iff (a b : Pc) : lessP a b = true ↔ a.tm < b.tm ∨ a.tm = b.tm ∧ a.sent < b.sent := by
  unfold lessP
  rw [decide_eq_true_iff]
theorem leP_refl (a : Pc) : leP a a := by rw [leP_iff]; omega
theorem leP_trans {a b c : Pc} (h : leP a b) (k : leP b c) : leP a c := by rw [leP_iff] at *; omega
theorem leP_of_less {a b : Pc} (h : lessP a b = true) : leP a b := by rw [leP_iff]; rw [lessP_iff] at h; omega

theorem swapL_get (l : List Pc) (i j k : Nat) (hi : i < l.length) (hj : j < l.length) : (swapL l i j)[k]! = if k = j then l[i]! else if k = i then l[j]! else l[k]! := by
  unfold swapL
  simp only [List.getElem!_eq_getElem?_getD, List.getElem?_set, List.length_set]
  by_cases h1 : k = j
  · subst h1; simp [hj]
  · rw [if_neg h1, if_neg (fun e => h1 e.symm)]
    by_cases h2 : k = i
    · subst h2; simp [hi]
    · rw [if_neg h2, if_neg (fun e => h2 e.symm)]
theorem swapL_perm (l : List Pc) (i j : Nat) (hi : i < l.length) (hj : j < l.length) : (swapL l i j).Perm l := by
  have h := Array.swap_perm (xs := l.toArray) (i := i) (j := j) (by simpa using hi) (by simpa using hj)
  have e : (l.toArray.swap i j (by simpa using hi) (by simpa using hj)).toList = swapL l i j := by
    unfold swapL
    simp [Array.swap, hi, hj]
  have h2 := h.toList
  rw [e] at h2
  simpa using h2
theorem upL_perm : ∀ (f : Nat) (l : List Pc) (j : Nat), j < l.length → (upL f l j).Perm l := by
  intro f
  induction f with
  | zero => intro l j _; exact List.Perm.refl _
  | succ f ih =>
    intro l j hj
    rw [upL]
    split
    · exact List.Perm.refl _
    · split
      · exact (ih _ _ (by simp; omega)).trans (swapL_perm l _ _ (by omega) hj)
      · exact List.Perm.refl _
theorem downL_perm : ∀ (f : Nat) (l : List Pc) (i n : Nat), n ≤ l.length → (downL f l i n).Perm l := by
  intro f
  induction f with
  | zero => intro l i n _; exact List.Perm.refl _
  | succ f ih =>
    intro l i n hn
    rw [downL]
    split
    · exact List.Perm.refl _
    · split
      · have h1 := kid_gt l i n
        have h2 := kid_lt l i n (by omega)
        exact (ih _ _ _ (by simpa using hn)).trans (swapL_perm l _ _ (by omega) (by omega))
      · exact List.Perm.refl _
/-- down leaves what is from n on. -/
theorem downL_out : ∀ (f : Nat) (l : List Pc) (i n k : Nat), n ≤ l.length → n ≤ k → (downL f l i n)[k]! = l[k]! := by
  intro f
  induction f with
  | zero => intro l i n k _ _; rfl
  | succ f ih =>
    intro l i n k hn hk
    rw [downL]
    split
    · rfl
    · split
      · have h1 := kid_gt l i n
        have h2 := kid_lt l i n (by omega)
        rw [ih _ _ _ _ (by simpa using hn) hk, swapL_get _ _ _ _ (by omega) (by omega), if_neg (by omega), if_neg (by omega)]
      · rfl

/-- The first n copies are a heap. -/
def HeapN (l : List Pc) (n : Nat) : Prop := ∀ k, 0 < k → k < n → leP l[(k - 1) / 2]! l[k]!
theorem HeapN.root {l : List Pc} {n : Nat} (h : HeapN l n) : ∀ k, k < n → leP l[0]! l[k]! := by
  intro k
  induction k using Nat.strongRecOn with
  | _ k ih =>
    intro hk
    by_cases h0 : k = 0
    · subst h0; exact leP_refl _
    · exact leP_trans (ih ((k - 1) / 2) (by omega) (by omega)) (h k (by omega) hk)

/-- A heap but for the place j, which may be too small for its parent. -/
def UpInv (l : List Pc) (n j : Nat) : Prop :=
  (∀ k, 0 < k → k < n → k ≠ j → leP l[(k - 1) / 2]! l[k]!) ∧ (∀ k, 0 < k → k < n → (k - 1) / 2 = j → 0 < j → leP l[(j - 1) / 2]! l[k]!)
theorem upL_heap : ∀ (f : Nat) (l : List Pc) (j : Nat), j < f → j < l.length → UpInv l l.length j → HeapN (upL f l j) l.length := by
  intro f
  induction f with
  | zero => intro l j h; omega
  | succ f ih =>
    intro l j hf hj hinv
    rw [upL]
    split
    · rename_i h0
      subst h0
      intro k h1 h2
      exact hinv.1 k h1 h2 (by omega)
    · rename_i h0
      split
      · rename_i hless
        have hp : (j - 1) / 2 < j := by omega
        have hl : (swapL l ((j - 1) / 2) j).length = l.length := by simp
        have hr := ih (swapL l ((j - 1) / 2) j) ((j - 1) / 2) (by omega) (by rw [hl]; omega) ?_
        · rw [hl] at hr; exact hr
        · rw [hl]
          constructor
          · intro k h1 h2 h3
            rw [swapL_get _ _ _ _ (by omega) hj, swapL_get _ _ _ _ (by omega) hj]
            by_cases e : k = j
            · subst e
              rw [if_neg (by omega), if_pos rfl, if_pos rfl]
              exact leP_of_less hless
            · rw [if_neg e, if_neg h3]
              by_cases e2 : (k - 1) / 2 = j
              · rw [if_pos e2]
                exact hinv.2 k h1 h2 e2 (by omega)
              · rw [if_neg e2]
                by_cases e3 : (k - 1) / 2 = (j - 1) / 2
                · rw [if_pos e3]
                  refine leP_trans (leP_of_less hless) ?_
                  rw [← e3]
                  exact hinv.1 k h1 h2 e
                · rw [if_neg e3]
                  exact hinv.1 k h1 h2 e
          · intro k h1 h2 h3 h4
            rw [swapL_get _ _ _ _ (by omega) hj, swapL_get _ _ _ _ (by omega) hj]
            rw [if_neg (by omega), if_neg (by omega)]
            have hg := hinv.1 ((j - 1) / 2) h4 (by omega) (by omega)
            by_cases e : k = j
            · subst e
              rw [if_pos rfl]
              exact hg
            · rw [if_neg e, if_neg (by omega)]
              refine leP_trans hg ?_
              rw [← h3]
              exact hinv.1 k h1 h2 e
      · rename_i hless
        intro k h1 h2
        by_cases e : k = j
        · subst e
          unfold leP
          simpa using hless
        · exact hinv.1 k h1 h2 e
/-- A heap but for the place i, which may be too great for its children. -/
def DownInv (l : List Pc) (n i : Nat) : Prop :=
  (∀ k, 0 < k → k < n → (k - 1) / 2 ≠ i → leP l[(k - 1) / 2]! l[k]!) ∧ (∀ k, 0 < k → k < n → (k - 1) / 2 = i → 0 < i → leP l[(i - 1) / 2]! l[k]!)
theorem kid_le (l : List Pc) (i n k : Nat) (h1 : 0 < k) (h2 : k < n) (h3 : (k - 1) / 2 = i) : leP l[kid l i n]! l[k]! := by
  unfold kid
  have hk : k = 2 * i + 1 ∨ k = 2 * i + 2 := by omega
  split
  · rename_i h
    rcases hk with rfl | rfl
    · exact leP_of_less h.2
    · exact leP_refl _
  · rename_i h
    rcases hk with rfl | rfl
    · exact leP_refl _
    · unfold leP
      by_cases e : lessP l[2 * i + 2]! l[2 * i + 1]! = true
      · exact absurd ⟨h2, e⟩ h
      · simpa using e
theorem kid_par (l : List Pc) (i n : Nat) : (kid l i n - 1) / 2 = i := by unfold kid; split <;> omega
theorem downL_heap : ∀ (f : Nat) (l : List Pc) (i n : Nat), n ≤ f + i → n ≤ l.length → DownInv l n i → HeapN (downL f l i n) n := by
  intro f
  induction f with
  | zero =>
    intro l i n hf hn hinv k h1 h2
    exact hinv.1 k h1 h2 (by omega)
  | succ f ih =>
    intro l i n hf hn hinv
    rw [downL]
    split
    · intro k h1 h2
      exact hinv.1 k h1 h2 (by omega)
    · rename_i hlt
      have hk1 := kid_gt l i n
      have hk2 := kid_lt l i n (by omega)
      have hkp := kid_par l i n
      split
      · rename_i hless
        refine ih _ _ _ (by omega) (by simpa using hn) ?_
        constructor
        · intro k h1 h2 h3
          rw [swapL_get _ _ _ _ (by omega) (by omega), swapL_get _ _ _ _ (by omega) (by omega)]
          rw [if_neg h3]
          by_cases e : k = kid l i n
          · subst e
            rw [if_pos hkp, if_pos rfl]
            exact leP_of_less hless
          · rw [if_neg e]
            by_cases e2 : (k - 1) / 2 = i
            · rw [if_pos e2, if_neg (by omega)]
              exact kid_le l i n k h1 h2 e2
            · rw [if_neg e2]
              by_cases e3 : k = i
              · rw [if_pos e3]
                subst e3
                exact hinv.2 (kid l k n) (by omega) hk2 hkp (by omega)
              · rw [if_neg e3]
                exact hinv.1 k h1 h2 e2
        · intro k h1 h2 h3 h4
          rw [swapL_get _ _ _ _ (by omega) (by omega), swapL_get _ _ _ _ (by omega) (by omega)]
          rw [hkp, if_neg (by omega), if_pos rfl, if_neg (by omega), if_neg (by omega)]
          rw [← h3]
          exact hinv.1 k h1 h2 (by omega)
      · rename_i hless
        intro k h1 h2
        by_cases e : (k - 1) / 2 = i
        · rw [e]
          refine leP_trans ?_ (kid_le l i n k h1 h2 e)
          unfold leP
          simpa using hless
        · exact hinv.1 k h1 h2 e
end Go.Proofs.Ytibnpddmohjeoaa
