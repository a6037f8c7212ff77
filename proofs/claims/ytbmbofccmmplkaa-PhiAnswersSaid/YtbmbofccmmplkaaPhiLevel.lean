/- The walk of phi.Level, at every window whose gaps lie in memory as the list says: the level, and the error's number. Conditions: the numbers are int's. -/
import Derived.Test.YtbmbofccmmplkaaWinMean
import Derived.Test.YtbmbofccmmplkaaWinRight
import Derived.Deep.RegionHeld3
namespace Go.Proofs.Ytbmbofccmmplkaa
open Go.RowKit

theorem Rd.drew {w : World} {A : Option Addr} {l : List Int} (h : Rd w A l) : Rd w.drew A l := h

theorem meanF_bd {l : List Int} {last boot : Int} (hR : rightB last l = true) (hb : boot ≤ 9223372036854775807) : 1 ≤ meanF l boot ∧ meanF l boot ≤ 9223372036854775807 := by
  obtain ⟨-, -, hl, hG⟩ := rightB_true hR
  unfold meanF
  by_cases h0 : l = []
  · rw [if_pos h0]; omega
  · rw [if_neg h0]
    have hs := sum_take_bd hG l.length (Nat.le_refl _)
    rw [List.take_length] at hs
    have := Int.ediv_le_self (l.length : Int) hs.1
    generalize l.sum / (l.length : Int) = q at *
    omega

theorem levelF_bad {last now boot : Int} {l : List Int} (h : now < 0 ∨ now < last ∨ 1099511627776 < now ∨ rightB last l = false) : levelF last l now boot = (0, 1) := by
  unfold levelF; rw [if_pos h]
theorem levelF_none {last now boot : Int} {l : List Int} (h1 : 0 ≤ now) (h2 : last ≤ now) (h3 : now ≤ 1099511627776) (h4 : rightB last l = true) (h : last < 0) : levelF last l now boot = (0, 0) := by
  unfold levelF; rw [if_neg (by rw [h4]; simp; omega), if_pos h]
theorem levelF_main {last now boot : Int} {l : List Int} (h2 : last ≤ now) (h3 : now ≤ 1099511627776) (h4 : rightB last l = true) (h : 0 ≤ last) : levelF last l now boot = ((now - last) * 434 / meanF l boot, 0) := by
  unfold levelF; rw [if_neg (by rw [h4]; simp; omega), if_neg (by omega)]

theorem retP {k m : IntKind} {a c : Int} {p : Int × Int} (h : p = (a, c)) : Ending.returned (.tuple #[.int k a, .int m c]) = Ending.returned (.tuple #[.int k p.1, .int m p.2]) := by rw [h]

/-- too early -/
theorem phiLevel_early (last now boot : Int) (A : Option Addr) (l : List Int) (c : Nat) (w : World) (h : now < 0 ∨ now < last) :
    Calls Try.prog 5 #[.agg #[.int .i64 last, .slice A l.length c], .int .i64 now, .int .i64 boot] w fun e w' =>
      e = .returned (.tuple #[.int .i64 (levelF last l now boot).1, .int .i64 (levelF last l now boot).2]) ∧ Below w.heap.size w w' := by
  have hE := hidI (levelF_bad (last := last) (now := now) (boot := boot) (l := l) (by omega))
  by_cases hm : 0 < last
  · have d1 : decide (now < last) = true := decide_eq_true (by omega)
    clear h
    go_enter Try.func5, Try.ntmps5
    go_wp2_with fail
    go_ret2
    exact ⟨retP hE.out, (Below.refl _ _).alloc (Nat.le_refl _) _⟩
  · have d1 : decide (now < 0) = true := decide_eq_true (by omega)
    clear h
    go_enter Try.func5, Try.ntmps5
    go_wp2_with fail
    go_ret2
    exact ⟨retP hE.out, (Below.refl _ _).alloc (Nat.le_refl _) _⟩

/-- too late -/
theorem phiLevel_late (last now boot : Int) (A : Option Addr) (l : List Int) (c : Nat) (w : World) (h1 : last ≤ now) (h : 1099511627776 < now) :
    Calls Try.prog 5 #[.agg #[.int .i64 last, .slice A l.length c], .int .i64 now, .int .i64 boot] w fun e w' =>
      e = .returned (.tuple #[.int .i64 (levelF last l now boot).1, .int .i64 (levelF last l now boot).2]) ∧ Below w.heap.size w w' := by
  have hE := hidI (levelF_bad (last := last) (now := now) (boot := boot) (l := l) (by omega))
  have d1 : decide (now < last) = false := decide_eq_false (by omega)
  have d2 : decide (now < 0) = false := decide_eq_false (by omega)
  have d3 : decide (1099511627776 < now) = true := decide_eq_true h
  by_cases hm : 0 < last
  all_goals
    go_enter Try.func5, Try.ntmps5
    go_wp2_with fail
    go_ret2
    exact ⟨retP hE.out, (Below.refl _ _).alloc (Nat.le_refl _) _⟩

set_option maxHeartbeats 400000 in
/-- a window that may not be -/
theorem phiLevel_wrong (last now boot : Int) (A : Option Addr) (l : List Int) (c : Nat) (w : World) (hA : Rd w A l) (hl : l.length ≤ 9223372036854775807) (h0 : 0 ≤ now) (h1 : last ≤ now) (h2 : now ≤ 1099511627776) (h : rightB last l = false) :
    Calls Try.prog 5 #[.agg #[.int .i64 last, .slice A l.length c], .int .i64 now, .int .i64 boot] w fun e w' =>
      e = .returned (.tuple #[.int .i64 (levelF last l now boot).1, .int .i64 (levelF last l now boot).2]) ∧ Below w.heap.size w w' := by
  have hE := hidI (levelF_bad (last := last) (now := now) (boot := boot) (l := l) (Or.inr (Or.inr (Or.inr h))))
  have hR := hidI (fun w' hA' => winRight_any last A l c w' hA' hl)
  rw [h] at hR
  have d1 : decide (now < last) = false := decide_eq_false (by omega)
  have d2 : decide (now < 0) = false := decide_eq_false (by omega)
  have d3 : decide (1099511627776 < now) = false := decide_eq_false (by omega)
  clear h
  by_cases hm : 0 < last
  all_goals
    go_enter Try.func5, Try.ntmps5
    go_wp2_with fail
    refine (hR.out _ (hA.alloc _)).mono ?_
    rintro e w1 ⟨rfl, hb1⟩
    go_wp2_with fail
    go_ret2
    exact ⟨retP hE.out, ((Below.refl _ _).alloc (Nat.le_refl _) _).trans (hb1.mono (by simp))⟩

set_option maxHeartbeats 400000 in
/-- nothing has come yet -/
theorem phiLevel_none (last now boot : Int) (A : Option Addr) (l : List Int) (c : Nat) (w : World) (hA : Rd w A l) (hl : l.length ≤ 9223372036854775807) (h0 : 0 ≤ now) (h1 : last ≤ now) (h2 : now ≤ 1099511627776) (h : rightB last l = true) (hn : last < 0) :
    Calls Try.prog 5 #[.agg #[.int .i64 last, .slice A l.length c], .int .i64 now, .int .i64 boot] w fun e w' =>
      e = .returned (.tuple #[.int .i64 (levelF last l now boot).1, .int .i64 (levelF last l now boot).2]) ∧ Below w.heap.size w w' := by
  have hE := hidI (levelF_none (last := last) (now := now) (boot := boot) (l := l) h0 h1 h2 h hn)
  have hR := hidI (fun w' hA' => winRight_any last A l c w' hA' hl)
  rw [h] at hR
  have d2 : decide (now < 0) = false := decide_eq_false (by omega)
  have d3 : decide (1099511627776 < now) = false := decide_eq_false (by omega)
  have hm : ¬ 0 < last := by omega
  clear h
  go_enter Try.func5, Try.ntmps5
  go_wp2_with fail
  refine (hR.out _ (hA.alloc _)).mono ?_
  rintro e w1 ⟨rfl, hb1⟩
  have hB := (Blk.new w #[.int .i64 last, .slice A l.length c] 24).below hb1
  have c0 := hB.c0
  go_wp2_with fail
  go_ret2
  exact ⟨retP hE.out, ((Below.refl _ _).alloc (Nat.le_refl _) _).trans (hb1.mono (by simp))⟩

set_option maxHeartbeats 1000000 in
/-- the level -/
theorem phiLevel_main (last now boot : Int) (A : Option Addr) (l : List Int) (c : Nat) (w : World) (hA : Rd w A l) (hl : l.length ≤ 9223372036854775807) (hb : boot ≤ 9223372036854775807) (h1 : last ≤ now) (h2 : now ≤ 1099511627776) (h : rightB last l = true) (hn : 0 ≤ last) :
    Calls Try.prog 5 #[.agg #[.int .i64 last, .slice A l.length c], .int .i64 now, .int .i64 boot] w fun e w' =>
      e = .returned (.tuple #[.int .i64 (levelF last l now boot).1, .int .i64 (levelF last l now boot).2]) ∧ Below w.heap.size w w' := by
  have hE := hidI (levelF_main (last := last) (now := now) (boot := boot) (l := l) h1 h2 h hn)
  have hM := hidI (fun w' hA' => winMean_any last boot A l c w' hA' h)
  obtain ⟨m1, m2⟩ := meanF_bd (boot := boot) h hb
  have hR := hidI (fun w' hA' => winRight_any last A l c w' hA' hl)
  rw [h] at hR
  have d1 : decide (now < last) = false := decide_eq_false (by omega)
  have d2 : decide (now < 0) = false := decide_eq_false (by omega)
  have d3 : decide (1099511627776 < now) = false := decide_eq_false (by omega)
  have s0 : 0 ≤ now - last := by omega
  have s1 : now - last ≤ 1099511627776 := by omega
  clear h
  by_cases hm : 0 < last
  all_goals
    go_enter Try.func5, Try.ntmps5
    go_wp2_with fail
    refine (hR.out _ (hA.alloc _)).mono ?_
    rintro e w1 ⟨rfl, hb1⟩
    have hB := (Blk.new w #[.int .i64 last, .slice A l.length c] 24).below hb1
    have hW := ((Below.refl w.heap.size w).alloc (Nat.le_refl _) (.cells #[.int .i64 last, .slice A l.length c] 24)).trans (hb1.mono (by simp))
    have hA1 := (hA.alloc (.cells #[.int .i64 last, .slice A l.length c] 24)).below hb1
    have c0 := hB.c0
    clear hb1
    go_wp2_with fail
    have es : IntKind.i64.wrap (now - last) = now - last := IntWalk.i64_in _ (by omega)
    go_region_held3 (fun w' => w'.cell? ⟨w.heap.size, 0, none⟩ = some (.int .i64 last) ∧ w'.cell? ⟨w.heap.size, 1, none⟩ = some (.slice A l.length c) ∧ Blk w' w.heap.size #[.int .i64 last, .slice A l.length c] 24 ∧ Below w.heap.size w w')
      (first
        | exact ⟨(((Blk.drew hB).below hb2).below hb3).c0, (((Blk.drew hB).below hb2).below hb3).c1, ((Blk.drew hB).below hb2).below hb3, ((Below.drew hW).trans (hb2.mono (Below.drew hW).size)).trans (hb3.mono ((Below.drew hW).trans (hb2.mono (Below.drew hW).size)).size)⟩
        | exact ⟨((Blk.drew hB).below hb2).c0, ((Blk.drew hB).below hb2).c1, (Blk.drew hB).below hb2, (Below.drew hW).trans (hb2.mono (Below.drew hW).size)⟩
        | exact ⟨(Blk.drew hB).c0, (Blk.drew hB).c1, Blk.drew hB, Below.drew hW⟩)
      (first
        | (go_at_call 15; refine (hM.out _ (Rd.drew hA1)).mono ?_; rintro e w2 ⟨rfl, hb2⟩)
        | (go_at_call 14; refine (mulDiv_any (now - last) (meanF l boot) _ s0 s1 m1 m2).mono ?_; rintro e w3 ⟨rfl, hb3⟩))
    rename_i hH
    obtain ⟨-, -, hB', hW'⟩ := hH
    clear hb2 hb3 hB hW w2 es
    go_wp2_with fail
    go_ret2
    exact ⟨retP hE.out, hW'⟩

theorem phiLevel_any (last now boot : Int) (A : Option Addr) (l : List Int) (c : Nat) (w : World) (hA : Rd w A l) (hl : l.length ≤ 9223372036854775807) (hb : boot ≤ 9223372036854775807) :
    Calls Try.prog 5 #[.agg #[.int .i64 last, .slice A l.length c], .int .i64 now, .int .i64 boot] w fun e w' =>
      e = .returned (.tuple #[.int .i64 (levelF last l now boot).1, .int .i64 (levelF last l now boot).2]) ∧ Below w.heap.size w w' := by
  by_cases h1 : now < 0 ∨ now < last
  · exact phiLevel_early last now boot A l c w h1
  · by_cases h2 : 1099511627776 < now
    · exact phiLevel_late last now boot A l c w (by omega) h2
    · cases h3 : rightB last l with
      | false => exact phiLevel_wrong last now boot A l c w hA hl (by omega) (by omega) (by omega) h3
      | true =>
        by_cases h4 : last < 0
        · exact phiLevel_none last now boot A l c w hA hl (by omega) (by omega) (by omega) h3 h4
        · exact phiLevel_main last now boot A l c w hA hl hb (by omega) (by omega) h3 (by omega)

end Go.Proofs.Ytbmbofccmmplkaa
