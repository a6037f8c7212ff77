/- The walk of window.Mean: the mean of a window that may be. Conditions: the gaps lie in memory as the list says, and may be. -/
import Derived.Test.YtbmbofccmmplkaaRatio
namespace Go.Proofs.Ytbmbofccmmplkaa
open Go.RowKit

set_option maxHeartbeats 400000 in
theorem winMean_any (last boot : Int) (A : Option Addr) (l : List Int) (c : Nat) (w : World) (hA : Rd w A l) (hR : rightB last l = true) :
    Calls Try.prog 15 #[.agg #[.int .i64 last, .slice A l.length c], .int .i64 boot] w fun e w' => e = .returned (.int .i64 (meanF l boot)) ∧ Below w.heap.size w w' := by
  obtain ⟨-, -, hl, hG⟩ := rightB_true hR
  have HG := hidI hG
  clear hG hR
  by_cases h0 : l = []
  · subst h0
    have hM : Hid (meanF [] boot = max 1 boot) := by unfold Hid meanF; rw [if_pos rfl]
    simp only [List.length_nil]
    go_enter Try.func15, Try.ntmps15
    go_wp2_with fail
    all_goals
      go_ret
      exact ⟨retI (by rw [hM.out]; omega), (Below.refl _ _).alloc (Nat.le_refl _) _⟩
  · have hM : Hid (meanF l boot = max 1 (l.sum / (l.length : Int))) := by unfold Hid meanF; rw [if_neg h0]
    have hl0 : 0 < l.length := List.length_pos_iff.2 h0
    clear h0
    go_enter Try.func15, Try.ntmps15
    go_wp2_with fail
    refine (ratioMean_any A l c _ (hA.alloc _) hl hl0 HG.out).mono ?_
    rintro e w1 ⟨rfl, hb⟩
    generalize l.sum / (l.length : Int) = q at *
    go_wp2_with fail
    all_goals
      go_ret
      exact ⟨retI (by rw [hM.out]; omega), ((Below.refl _ _).alloc (Nat.le_refl _) _).trans (hb.mono (by simp))⟩
end Go.Proofs.Ytbmbofccmmplkaa
