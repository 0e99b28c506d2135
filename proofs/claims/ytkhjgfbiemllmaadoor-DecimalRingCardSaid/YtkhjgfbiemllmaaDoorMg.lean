/- Decimal: the law's small helpers d and gives. -/
import Derived.Test.YtkhjgfbiemllmaaDoorMf
namespace Go.Proofs.YtkhjgfbiemllmaaDoor
open Go.RowKit

set_option maxHeartbeats 1000000 in
theorem d_c (n s : Int) (w : World) :
    Calls Tryd.prog 20 #[.int .i64 n, .int .i64 s] w fun e w' => e = .returned (.agg #[.int .i64 n, .int .i64 s]) ∧ Kb (fun _ => False) w w' := by
  go_enter Tryd.func20, Tryd.ntmps20
  go_wp2_with fail
  exact bodyPost_ret (v := .agg #[.int .i64 n, .int .i64 s]) (by simp [results, Tryd.results20, go_sem]) rfl ⟨rfl, (by repeat (with_reducible first | exact Kb.refl _ _ | exact KW.out | refine Kb.setC ?_ (by assumption) | apply Kb.drew | apply Kb.drewN | apply Kb.grew | apply Kb.alloc))⟩
def givesB (n s : Int) (ok : Bool) (n2 s2 : Int) : Bool := ok && (n == n2 && s == s2)
set_option maxHeartbeats 1000000 in
theorem gives_c (n s : Int) (ok : Bool) (n2 s2 : Int) (w : World) :
    Calls Tryd.prog 24 #[.agg #[.int .i64 n, .int .i64 s], .bool ok, .agg #[.int .i64 n2, .int .i64 s2]] w fun e w' => e = .returned (.bool (givesB n s ok n2 s2)) ∧ Kb (fun _ => False) w w' := by
  unfold givesB
  cases ok
  · go_enter Tryd.func24, Tryd.ntmps24
    go_wp2_with fail
    go_ret
    exact ⟨rfl, (by repeat (with_reducible first | exact Kb.refl _ _ | exact KW.out | refine Kb.setC ?_ (by assumption) | apply Kb.drew | apply Kb.drewN | apply Kb.grew | apply Kb.alloc))⟩
  · by_cases h1 : n = n2
    · subst h1
      by_cases h2 : s = s2
      · subst h2
        go_enter Tryd.func24, Tryd.ntmps24
        go_wp2_with fail
        go_ret
        exact ⟨by simp, (by repeat (with_reducible first | exact Kb.refl _ _ | exact KW.out | refine Kb.setC ?_ (by assumption) | apply Kb.drew | apply Kb.drewN | apply Kb.grew | apply Kb.alloc))⟩
      · go_enter Tryd.func24, Tryd.ntmps24
        go_wp2_with fail
        go_ret
        exact ⟨by simp [h2], (by repeat (with_reducible first | exact Kb.refl _ _ | exact KW.out | refine Kb.setC ?_ (by assumption) | apply Kb.drew | apply Kb.drewN | apply Kb.grew | apply Kb.alloc))⟩
    · go_enter Tryd.func24, Tryd.ntmps24
      go_wp2_with fail
      all_goals
        go_ret
        exact ⟨by simp [h1], (by repeat (with_reducible first | exact Kb.refl _ _ | exact KW.out | refine Kb.setC ?_ (by assumption) | apply Kb.drew | apply Kb.drewN | apply Kb.grew | apply Kb.alloc))⟩
end Go.Proofs.YtkhjgfbiemllmaaDoor
