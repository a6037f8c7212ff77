/- The walk of window.Right and of what it calls (its closure, slices.ContainsFunc, slices.IndexFunc): whether a window may be. Condition: the gaps lie in memory as the list says. -/
import Derived.Test.YtbmbofccmmplkaaProg
import Derived.Test.YtbmbofccmmplkaaSpec
import Derived.WalkKit
import Derived.WalkSpells
import Derived.WalkLawsBesides
import Derived.LoopTactic
namespace Go.Proofs.Ytbmbofccmmplkaa
open Go.RowKit

set_option maxHeartbeats 400000 in
theorem odd_any (n : Int) (w : World) :
    Calls Try.prog 24 #[.int .i64 n] w fun e w' => e = .returned (.bool (!okG n)) ∧ w = w' := by
  by_cases h1 : n < 1
  · have e : okG n = false := by unfold okG; exact decide_eq_false (by omega)
    have H := hidI e
    have d1 : decide (n < 1) = true := decide_eq_true h1
    clear e
    go_enter Try.func24, Try.ntmps24
    go_wp2
    go_ret
    exact ⟨retB (by rw [H.out]; rfl), rfl⟩
  · have d1 : decide (n < 1) = false := decide_eq_false h1
    by_cases h2 : 1099511627776 < n
    · have e : okG n = false := by unfold okG; exact decide_eq_false (by omega)
      have H := hidI e
      have d2 : decide (1099511627776 < n) = true := decide_eq_true h2
      clear e
      go_enter Try.func24, Try.ntmps24
      go_wp2
      go_ret
      exact ⟨retB (by rw [H.out]; rfl), rfl⟩
    · have e : okG n = true := by unfold okG; exact decide_eq_true (by omega)
      have H := hidI e
      have d2 : decide (1099511627776 < n) = false := decide_eq_false h2
      clear e
      go_enter Try.func24, Try.ntmps24
      go_wp2
      go_ret
      exact ⟨retB (by rw [H.out]; rfl), rfl⟩

/-- what slices.IndexFunc answers: -1 where all may be, else a place -/
def IdxPost (l : List Int) (w : World) (e : Ending) (w' : World) : Prop :=
  ∃ r : Int, (l.all okG = true ∧ r = -1 ∨ l.all okG = false ∧ 0 ≤ r) ∧ e = .returned (.int .i64 r) ∧ w = w'

theorem all_false {l : List Int} {i : Nat} (hi : i < l.length) (h : okG (l[i]?.getD 0) = false) : l.all okG = false := by
  rw [List.all_eq_false]
  refine ⟨l[i], List.getElem_mem hi, ?_⟩
  rw [List.getElem?_eq_getElem hi] at h; simpa using h

theorem all_true {l : List Int} (h : ∀ i, i < l.length → okG (l[i]?.getD 0) = true) : l.all okG = true := by
  rw [List.all_eq_true]
  intro x hx
  obtain ⟨i, hi, rfl⟩ := List.getElem_of_mem hx
  have := h i hi
  rwa [List.getElem?_eq_getElem hi] at this

set_option maxHeartbeats 400000 in
theorem index_any (A : Option Addr) (l : List Int) (c : Nat) (w : World) (hA : Rd w A l) (hl : l.length ≤ 9223372036854775807) :
    Calls Try.prog 30 #[.slice A l.length c, .func (Fn.func 24) #[] #[]] w (IdxPost l w) := by
  go_enter Try.func30, Try.ntmps30
  go_wp2_with fail
  go_loop [5, 8] (fun _ v => ∃ k : Nat, v = .int .i64 k ∧ k ≤ l.length ∧ ∀ i, i < k → okG (l[i]?.getD 0) = true) (fun _ v => l.length - (intOf v).toNat)
  case atStart => exact ⟨0, rfl, by omega, fun i hi => by omega⟩
  case round =>
    obtain ⟨k, rfl, hk, hok⟩ := hrel
    have HOK := hidI hok
    clear hok
    by_cases hlt : k < l.length
    · rcases hA with hA | ⟨b, off, rfl, hb, hc⟩
      · rw [hA] at hlt; simp at hlt
      · have hck := hc k hlt
        generalize hg : l[k]?.getD 0 = g at hck
        have HE := hidI hg
        clear hg hc
        go_wp2_with fail
        refine (odd_any g _).mono ?_
        rintro e w1 ⟨rfl, rfl⟩
        cases hb2 : okG g with
        | false =>
          have HB := hidI hb2
          clear hb2
          go_wp2_with fail
          go_ret
          exact ⟨k, Or.inr ⟨all_false hlt (by rw [HE.out]; exact HB.out), by omega⟩, rfl, rfl⟩
        | true =>
          have HB := hidI hb2
          clear hb2
          go_wp2_with fail
          go_round
          case rel => exact ⟨k + 1, by go_num, by omega, fun i hi => by
            rcases Nat.lt_succ_iff_lt_or_eq.1 hi with h | rfl
            · exact HOK.out i h
            · rw [HE.out]; exact HB.out⟩
          case measure => simp [intOf]; omega
    · go_wp2_with fail
      go_ret
      exact ⟨-1, Or.inl ⟨all_true (fun i hi => HOK.out i (by omega)), rfl⟩, rfl, rfl⟩

set_option maxHeartbeats 400000 in
theorem contains_any (A : Option Addr) (l : List Int) (c : Nat) (w : World) (hA : Rd w A l) (hl : l.length ≤ 9223372036854775807) :
    Calls Try.prog 25 #[.slice A l.length c, .func (Fn.func 24) #[] #[]] w fun e w' => e = .returned (.bool (!l.all okG)) ∧ w = w' := by
  go_enter Try.func25, Try.ntmps25
  go_wp2_with fail
  refine (index_any A l c _ hA hl).mono ?_
  rintro e w1 ⟨r, hr, rfl, rfl⟩
  rcases hr with ⟨h1, rfl⟩ | ⟨h1, h2⟩
  · have H := hidI h1
    clear h1
    go_wp2_with fail
    go_ret
    exact ⟨retB (by rw [H.out]; rfl), rfl⟩
  · have H := hidI h1
    have d : decide (0 ≤ r) = true := decide_eq_true h2
    clear h1
    go_wp2_with fail
    go_ret
    exact ⟨retB (by rw [H.out]; rfl), rfl⟩

set_option maxHeartbeats 400000 in
theorem winRight_any (last : Int) (A : Option Addr) (l : List Int) (c : Nat) (w : World) (hA : Rd w A l) (hl : l.length ≤ 9223372036854775807) :
    Calls Try.prog 13 #[.agg #[.int .i64 last, .slice A l.length c]] w fun e w' =>
      e = .returned (.bool (rightB last l)) ∧ Below w.heap.size w w' := by
  by_cases a1 : -1 ≤ last
  · have d1 : decide (-1 ≤ last) = true := decide_eq_true a1
    by_cases a2 : last ≤ 1099511627776
    · have d2 : decide (last ≤ 1099511627776) = true := decide_eq_true a2
      by_cases a3 : l.length ≤ 16
      · have d3 : decide ((l.length : Int) ≤ 16) = true := decide_eq_true (by omega)
        have H : Hid (rightB last l = l.all okG) := by
          unfold Hid rightB
          rw [decide_eq_true (by omega), Bool.true_and]
        go_enter Try.func13, Try.ntmps13
        go_wp2_with fail
        refine (contains_any A l c _ (hA.alloc _) hl).mono ?_
        rintro e w1 ⟨rfl, rfl⟩
        cases hb : l.all okG with
        | false =>
          have HB := hidI hb
          clear hb
          go_wp2_with fail
          go_ret
          exact ⟨retB (by rw [H.out, HB.out]), (Below.refl _ _).alloc (Nat.le_refl _) _⟩
        | true =>
          have HB := hidI hb
          clear hb
          go_wp2_with fail
          go_ret
          exact ⟨retB (by rw [H.out, HB.out]), (Below.refl _ _).alloc (Nat.le_refl _) _⟩
      · have d3 : decide ((l.length : Int) ≤ 16) = false := decide_eq_false (by omega)
        have H : Hid (rightB last l = false) := rightB_long (by omega)
        go_enter Try.func13, Try.ntmps13
        go_wp2_with fail
        go_ret
        exact ⟨retB H.out.symm, (Below.refl _ _).alloc (Nat.le_refl _) _⟩
    · have d2 : decide (last ≤ 1099511627776) = false := decide_eq_false a2
      have H : Hid (rightB last l = false) := by
        unfold Hid rightB
        rw [decide_eq_false (by omega), Bool.false_and]
      go_enter Try.func13, Try.ntmps13
      go_wp2_with fail
      go_ret
      exact ⟨retB H.out.symm, (Below.refl _ _).alloc (Nat.le_refl _) _⟩
  · have d1 : decide (-1 ≤ last) = false := decide_eq_false a1
    have H : Hid (rightB last l = false) := by
      unfold Hid rightB
      rw [decide_eq_false (by omega), Bool.false_and]
    go_enter Try.func13, Try.ntmps13
    go_wp2_with fail
    go_ret
    exact ⟨retB H.out.symm, (Below.refl _ _).alloc (Nat.le_refl _) _⟩
end Go.Proofs.Ytbmbofccmmplkaa
