/- The walk of phi.Bound, for every threshold and mean: the least silence that is enough. No condition. -/
import Derived.Test.YtbmbofccmmplkaaBits
import Derived.Test.YtbmbofccmmplkaaSpec
namespace Go.Proofs.Ytbmbofccmmplkaa
open Go.RowKit

theorem div434_any (p : Int) (w : World) (h0 : 0 ≤ p) (h : hiW p ≤ 433) :
    Calls Try.prog 21 #[.int .u64 (hiW p), .int .u64 (loW p), .int .u64 434] w fun e w' => e = .returned (.tuple #[.int .u64 (p / 434), .int .u64 (p % 434)]) ∧ Below w.heap.size w w' := by
  have b0 : 0 ≤ loW p ∧ loW p ≤ 18446744073709551615 := by unfold loW; omega
  have e : hiW p * 18446744073709551616 + loW p = p := by unfold hiW loW; omega
  by_cases hz : hiW p = 0
  · have e2 : loW p = p := by rw [hz] at e; omega
    rw [hz, e2]
    rw [e2] at b0
    exact div64_low p 434 w b0.1 b0.2 (by omega) (by omega)
  · have h1 : 1 ≤ hiW p := by unfold hiW at hz ⊢; omega
    refine (div434 (hiW p) (loW p) w h1 h b0.1 b0.2).mono ?_
    rintro e1 w' ⟨rfl, rfl⟩
    rw [e]
    exact ⟨rfl, Below.refl _ _⟩

theorem within_yes (n m : Int) (w : World) (h1 : m ≤ n) (h2 : n ≤ 1099511627776) :
    Calls Try.prog 19 #[.int .i64 n, .int .i64 m] w fun e w' => e = .returned (.bool true) ∧ w = w' := by
  have d1 : decide (m ≤ n) = true := decide_eq_true h1
  have d2 : decide (n ≤ 1099511627776) = true := decide_eq_true h2
  go_enter Try.func19, Try.ntmps19
  go_wp2
  go_ret
  exact ⟨rfl, rfl⟩

theorem within_no (n m : Int) (w : World) (h : n < m ∨ 1099511627776 < n) :
    Calls Try.prog 19 #[.int .i64 n, .int .i64 m] w fun e w' => e = .returned (.bool false) ∧ w = w' := by
  by_cases h1 : m ≤ n
  · have d1 : decide (m ≤ n) = true := decide_eq_true h1
    have d2 : decide (n ≤ 1099511627776) = false := decide_eq_false (by omega)
    go_enter Try.func19, Try.ntmps19
    go_wp2
    go_ret
    exact ⟨rfl, rfl⟩
  · have d1 : decide (m ≤ n) = false := decide_eq_false h1
    go_enter Try.func19, Try.ntmps19
    go_wp2
    go_ret
    exact ⟨rfl, rfl⟩

theorem boundF_bad {t m : Int} (h : t < 0 ∨ 1099511627776 < t ∨ m < 1 ∨ 1099511627776 < m) : boundF t m = 0 := by
  unfold boundF; rw [if_neg (by omega)]
theorem boundF_good {t m : Int} (h1 : 0 ≤ t) (h2 : t ≤ 1099511627776) (h3 : 1 ≤ m) (h4 : m ≤ 1099511627776) : boundF t m = min 4611686018427387904 (((t + 1) * m + 433) / 434) := by
  unfold boundF; rw [if_pos ⟨h1, h2, h3, h4⟩]
theorem bound_prod {t m : Int} (h1 : 0 ≤ t) (h2 : t ≤ 1099511627776) (h3 : 1 ≤ m) (h4 : m ≤ 1099511627776) : 1 ≤ (t + 1) * m ∧ (t + 1) * m ≤ 1208925819615728686333952 := by
  have a := Int.mul_le_mul (show t + 1 ≤ 1099511627777 by omega) h4 (by omega) (by omega)
  have b := Int.mul_le_mul (show 1 ≤ t + 1 by omega) h3 (by omega) (by omega)
  omega

set_option maxHeartbeats 400000 in
theorem phiBound_any (t m : Int) (w : World) :
    Calls Try.prog 11 #[.int .i64 t, .int .i64 m] w fun e w' => e = .returned (.int .i64 (boundF t m)) ∧ Below w.heap.size w w' := by
  by_cases ht : 0 ≤ t ∧ t ≤ 1099511627776
  · obtain ⟨t1, t2⟩ := ht
    by_cases hm : 1 ≤ m ∧ m ≤ 1099511627776
    · obtain ⟨m1, m2⟩ := hm
      have hF := hidI (boundF_good t1 t2 m1 m2)
      obtain ⟨p0, p1⟩ := bound_prod t1 t2 m1 m2
      go_enter Try.func11, Try.ntmps11
      go_wp2_with fail
      refine (within_yes t 0 _ t1 t2).mono ?_
      rintro e w1 ⟨rfl, rfl⟩
      go_wp2_with fail
      refine (within_yes m 1 _ m1 m2).mono ?_
      rintro e w1 ⟨rfl, rfl⟩
      go_wp2_with fail
      refine (mul64_any (t + 1) m _ (by omega) (by omega) (by omega) (by omega)).mono ?_
      rintro e w1 ⟨rfl, rfl⟩
      generalize hp : (t + 1) * m = p at *
      have HP := hidI hp
      clear hp
      by_cases hbig : 434 ≤ hiW p
      · have hE : Hid (boundF t m = 4611686018427387904) := by
          unfold Hid; rw [hF.out]; unfold hiW at hbig; omega
        have d1 : decide (434 ≤ hiW p) = true := decide_eq_true hbig
        go_wp2_with fail
        go_ret
        exact ⟨retI hE.out.symm, Below.refl _ _⟩
      · have d1 : decide (434 ≤ hiW p) = false := decide_eq_false hbig
        go_wp2_with fail
        refine (div434_any p _ (by omega) (by omega)).mono ?_
        rintro e w1 ⟨rfl, hb⟩
        have q0 : 0 ≤ p / 434 := by omega
        have q1 : p / 434 ≤ 18446744073709551615 := by unfold hiW at hbig; omega
        have r0 : 0 ≤ p % 434 := by omega
        by_cases hq : 4611686018427387904 ≤ p / 434
        · have hE : Hid (boundF t m = 4611686018427387904) := by
            unfold Hid; rw [hF.out]; omega
          have d2 : decide (4611686018427387904 ≤ p / 434) = true := decide_eq_true hq
          go_wp2_with fail
          go_ret
          exact ⟨retI hE.out.symm, hb⟩
        · have d2 : decide (4611686018427387904 ≤ p / 434) = false := decide_eq_false hq
          by_cases hr : 0 < p % 434
          · have hE : Hid (boundF t m = p / 434 + 1) := by
              unfold Hid; rw [hF.out]; omega
            have d3 : decide (0 < p % 434) = true := decide_eq_true hr
            go_wp2_with fail
            go_ret
            exact ⟨retI hE.out.symm, hb⟩
          · have hE : Hid (boundF t m = p / 434) := by
              unfold Hid; rw [hF.out]; omega
            have d3 : decide (0 < p % 434) = false := decide_eq_false hr
            go_wp2_with fail
            go_ret
            exact ⟨retI hE.out.symm, hb⟩
    · have hF := hidI (boundF_bad (t := t) (m := m) (by omega))
      go_enter Try.func11, Try.ntmps11
      go_wp2_with fail
      refine (within_yes t 0 _ t1 t2).mono ?_
      rintro e w1 ⟨rfl, rfl⟩
      go_wp2_with fail
      refine (within_no m 1 _ (by omega)).mono ?_
      rintro e w1 ⟨rfl, rfl⟩
      go_wp2_with fail
      go_ret
      exact ⟨retI hF.out.symm, Below.refl _ _⟩
  · have hF := hidI (boundF_bad (t := t) (m := m) (by omega))
    go_enter Try.func11, Try.ntmps11
    go_wp2_with fail
    refine (within_no t 0 _ (by omega)).mono ?_
    rintro e w1 ⟨rfl, rfl⟩
    go_wp2_with fail
    go_ret
    exact ⟨retI hF.out.symm, Below.refl _ _⟩
end Go.Proofs.Ytbmbofccmmplkaa
