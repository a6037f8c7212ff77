/- The walk of bellwetherref10.Right: whether a window may be. Condition: the gaps lie in memory as the list says. -/
import Derived.Test.YtbmbofccmmplkaaProg
import Derived.Test.YtbmbofccmmplkaaSpec
import Derived.WalkKit
import Derived.WalkSpells
import Derived.WalkLawsBesides
import Derived.LoopTactic
namespace Go.Proofs.Ytbmbofccmmplkaa
open Go.RowKit

set_option maxHeartbeats 400000 in
theorem refRight_any (last : Int) (A : Option Addr) (l : List Int) (c : Nat) (w : World) (hA : Rd w A l) (hl : l.length ≤ 9223372036854775807) :
    Calls Try.prog 16 #[.agg #[.int .i64 last, .slice A l.length c]] w fun e w' =>
      e = .returned (.bool (rightB last l)) ∧ Below w.heap.size w w' := by
  go_enter Try.func16, Try.ntmps16
  go_wp2_with fail
  go_loop [3] (fun v => ∃ k : Nat, v = .int .i64 k ∧ k ≤ l.length ∧ k ≤ 17 ∧ ∀ i, i < k → okG (l[i]?.getD 0) = true) (fun v => 20 - (intOf v).toNat)
  case atStart => exact ⟨0, rfl, by omega, by omega, fun i hi => by omega⟩
  case round =>
    obtain ⟨k, rfl, hk, hk17, hok⟩ := hrel
    have HOK := hidI hok
    clear hok
    by_cases hlt : k < l.length
    · by_cases h17 : k < 17
      · rcases hA with hA | ⟨b, off, rfl, hb, hc⟩
        · rw [hA] at hlt; simp at hlt
        · have hck := hc k hlt
          have HG := hidI (rfl : okG (l[k]?.getD 0) = okG (l[k]?.getD 0))
          generalize hg : l[k]?.getD 0 = g at hck
          have HE := hidI hg
          clear hg hc HG
          by_cases hg1 : g < 1
          · have hbad : rightB last l = false := rightB_bad hlt (by rw [HE.out]; unfold okG; exact decide_eq_false (by omega))
            have HB := hidI hbad
            have d1 : decide (g < 1) = true := decide_eq_true hg1
            have d17 : decide ((k : Int) < 17) = true := decide_eq_true (by omega)
            clear hbad
            go_wp2
            go_ret
            exact ⟨retB HB.out.symm, (Below.refl _ _).alloc (Nat.le_refl _) _⟩
          · by_cases hg2 : 1099511627776 < g
            · have hbad : rightB last l = false := rightB_bad hlt (by rw [HE.out]; unfold okG; exact decide_eq_false (by omega))
              have HB := hidI hbad
              have d1 : decide (g < 1) = false := decide_eq_false hg1
              have d2 : decide (1099511627776 < g) = true := decide_eq_true hg2
              have d17 : decide ((k : Int) < 17) = true := decide_eq_true (by omega)
              clear hbad
              go_wp2
              go_ret
              exact ⟨retB HB.out.symm, (Below.refl _ _).alloc (Nat.le_refl _) _⟩
            · have d1 : decide (g < 1) = false := decide_eq_false hg1
              have d2 : decide (1099511627776 < g) = false := decide_eq_false hg2
              have d17 : decide ((k : Int) < 17) = true := decide_eq_true (by omega)
              go_wp2
              go_round
              case rel => exact ⟨k + 1, by go_num, by omega, by omega, fun i hi => by
                rcases Nat.lt_succ_iff_lt_or_eq.1 hi with h | rfl
                · exact HOK.out i h
                · rw [HE.out]; unfold okG; exact decide_eq_true (by omega)⟩
              case measure => simp [intOf]; omega
      · have hbad : rightB last l = false := rightB_long (by omega)
        have HB := hidI hbad
        have d17 : decide ((k : Int) < 17) = false := decide_eq_false (by omega)
        have h16 : decide ((l.length : Int) ≤ 16) = false := decide_eq_false (by omega)
        clear hbad
        by_cases a1 : -1 ≤ last
        · by_cases a2 : last ≤ 1099511627776
          · go_wp2
            go_ret
            exact ⟨retB HB.out.symm, (Below.refl _ _).alloc (Nat.le_refl _) _⟩
          · have a3 : decide (last ≤ 1099511627776) = false := decide_eq_false a2
            go_wp2
            go_ret
            exact ⟨retB HB.out.symm, (Below.refl _ _).alloc (Nat.le_refl _) _⟩
        · have a3 : decide (-1 ≤ last) = false := decide_eq_false a1
          go_wp2
          go_ret
          exact ⟨retB HB.out.symm, (Below.refl _ _).alloc (Nat.le_refl _) _⟩
    · have HB := hidI (rightB_all (last := last) (l := l) (fun i hi => HOK.out i (by omega)))
      by_cases a1 : -1 ≤ last
      · by_cases a2 : last ≤ 1099511627776
        · by_cases a3 : l.length ≤ 16
          · have a4 : decide ((l.length : Int) ≤ 16) = true := decide_eq_true (by omega)
            go_wp2
            go_ret
            exact ⟨retB (HB.out.trans (decide_eq_true (by omega))).symm, (Below.refl _ _).alloc (Nat.le_refl _) _⟩
          · have a4 : decide ((l.length : Int) ≤ 16) = false := decide_eq_false (by omega)
            go_wp2
            go_ret
            exact ⟨retB (HB.out.trans (decide_eq_false (by omega))).symm, (Below.refl _ _).alloc (Nat.le_refl _) _⟩
        · have a3 : decide (last ≤ 1099511627776) = false := decide_eq_false a2
          go_wp2
          go_ret
          exact ⟨retB (HB.out.trans (decide_eq_false (by omega))).symm, (Below.refl _ _).alloc (Nat.le_refl _) _⟩
      · have a3 : decide (-1 ≤ last) = false := decide_eq_false a1
        go_wp2
        go_ret
        exact ⟨retB (HB.out.trans (decide_eq_false (by omega))).symm, (Below.refl _ _).alloc (Nat.le_refl _) _⟩
end Go.Proofs.Ytbmbofccmmplkaa
