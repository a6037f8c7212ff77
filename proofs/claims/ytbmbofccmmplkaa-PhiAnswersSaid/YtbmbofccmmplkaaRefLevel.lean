/- The walk of bellwetherref11.Level, at every window whose gaps lie in memory as the list says: the level, and the error's number. Conditions: the numbers are int's. -/
import Derived.Test.YtbmbofccmmplkaaPhiLevel
import Derived.Test.YtbmbofccmmplkaaRefMean
import Derived.Test.YtbmbofccmmplkaaRefRight
namespace Go.Proofs.Ytbmbofccmmplkaa
open Go.RowKit

set_option maxHeartbeats 400000 in
theorem refLevel_bad (last now boot : Int) (A : Option Addr) (l : List Int) (c : Nat) (w : World) (hA : Rd w A l) (hl : l.length ≤ 9223372036854775807) (h : now < 0 ∨ now < last ∨ 1099511627776 < now ∨ rightB last l = false) :
    Calls Try.prog 6 #[.agg #[.int .i64 last, .slice A l.length c], .int .i64 now, .int .i64 boot] w fun e w' =>
      e = .returned (.tuple #[.int .i64 (levelF last l now boot).1, .int .i64 (levelF last l now boot).2]) ∧ Below w.heap.size w w' := by
  have hE := hidI (levelF_bad (last := last) (now := now) (boot := boot) (l := l) h)
  have hR := hidI (fun w' hA' => refRight_any last A l c w' hA' hl)
  cases hb : rightB last l with
  | false =>
    rw [hb] at hR
    clear h hb
    go_enter Try.func6, Try.ntmps6
    go_wp2_with fail
    refine (hR.out _ (hA.alloc _)).mono ?_
    rintro e w1 ⟨rfl, hb1⟩
    go_wp2_with fail
    go_ret2
    exact ⟨retP hE.out, ((Below.refl _ _).alloc (Nat.le_refl _) _).trans (hb1.mono (by simp))⟩
  | true =>
    rw [hb] at hR
    have h' : now < 0 ∨ now < last ∨ 1099511627776 < now := by
      rcases h with h | h | h | h
      · exact Or.inl h
      · exact Or.inr (Or.inl h)
      · exact Or.inr (Or.inr h)
      · rw [hb] at h; cases h
    clear h hb
    by_cases h1 : now < 0
    · have d1 : decide (now < 0) = true := decide_eq_true h1
      clear h'
      go_enter Try.func6, Try.ntmps6
      go_wp2_with fail
      refine (hR.out _ (hA.alloc _)).mono ?_
      rintro e w1 ⟨rfl, hb1⟩
      go_wp2_with fail
      go_ret2
      exact ⟨retP hE.out, ((Below.refl _ _).alloc (Nat.le_refl _) _).trans (hb1.mono (by simp))⟩
    · have d1 : decide (now < 0) = false := decide_eq_false h1
      by_cases h2 : now < last
      · have d2 : decide (now < last) = true := decide_eq_true h2
        clear h'
        go_enter Try.func6, Try.ntmps6
        go_wp2_with fail
        refine (hR.out _ (hA.alloc _)).mono ?_
        rintro e w1 ⟨rfl, hb1⟩
        have c0 := ((Blk.new w #[.int .i64 last, .slice A l.length c] 24).below hb1).c0
        go_wp2_with fail
        go_ret2
        exact ⟨retP hE.out, ((Below.refl _ _).alloc (Nat.le_refl _) _).trans (hb1.mono (by simp))⟩
      · have d2 : decide (now < last) = false := decide_eq_false h2
        have d3 : decide (1099511627776 < now) = true := decide_eq_true (by omega)
        clear h'
        go_enter Try.func6, Try.ntmps6
        go_wp2_with fail
        refine (hR.out _ (hA.alloc _)).mono ?_
        rintro e w1 ⟨rfl, hb1⟩
        have c0 := ((Blk.new w #[.int .i64 last, .slice A l.length c] 24).below hb1).c0
        go_wp2_with fail
        go_ret2
        exact ⟨retP hE.out, ((Below.refl _ _).alloc (Nat.le_refl _) _).trans (hb1.mono (by simp))⟩

set_option maxHeartbeats 400000 in
/-- nothing has come yet -/
theorem refLevel_none (last now boot : Int) (A : Option Addr) (l : List Int) (c : Nat) (w : World) (hA : Rd w A l) (hl : l.length ≤ 9223372036854775807) (h0 : 0 ≤ now) (h1 : last ≤ now) (h2 : now ≤ 1099511627776) (h : rightB last l = true) (hn : last < 0) :
    Calls Try.prog 6 #[.agg #[.int .i64 last, .slice A l.length c], .int .i64 now, .int .i64 boot] w fun e w' =>
      e = .returned (.tuple #[.int .i64 (levelF last l now boot).1, .int .i64 (levelF last l now boot).2]) ∧ Below w.heap.size w w' := by
  have hE := hidI (levelF_none (last := last) (now := now) (boot := boot) (l := l) h0 h1 h2 h hn)
  have hR := hidI (fun w' hA' => refRight_any last A l c w' hA' hl)
  rw [h] at hR
  have d1 : decide (now < last) = false := decide_eq_false (by omega)
  have d2 : decide (now < 0) = false := decide_eq_false (by omega)
  have d3 : decide (1099511627776 < now) = false := decide_eq_false (by omega)
  clear h
  go_enter Try.func6, Try.ntmps6
  go_wp2_with fail
  refine (hR.out _ (hA.alloc _)).mono ?_
  rintro e w1 ⟨rfl, hb1⟩
  have c0 := ((Blk.new w #[.int .i64 last, .slice A l.length c] 24).below hb1).c0
  go_wp2_with fail
  go_ret2
  exact ⟨retP hE.out, ((Below.refl _ _).alloc (Nat.le_refl _) _).trans (hb1.mono (by simp))⟩

set_option maxHeartbeats 1000000 in
/-- the level -/
theorem refLevel_main (last now boot : Int) (A : Option Addr) (l : List Int) (c : Nat) (w : World) (hA : Rd w A l) (hl : l.length ≤ 9223372036854775807) (hb : boot ≤ 9223372036854775807) (h1 : last ≤ now) (h2 : now ≤ 1099511627776) (h : rightB last l = true) (hn : 0 ≤ last) :
    Calls Try.prog 6 #[.agg #[.int .i64 last, .slice A l.length c], .int .i64 now, .int .i64 boot] w fun e w' =>
      e = .returned (.tuple #[.int .i64 (levelF last l now boot).1, .int .i64 (levelF last l now boot).2]) ∧ Below w.heap.size w w' := by
  have hE := hidI (levelF_main (last := last) (now := now) (boot := boot) (l := l) h1 h2 h hn)
  have hM := hidI (fun w' hA' => refMean_any last boot A l c w' hA' h)
  obtain ⟨m1, m2⟩ := meanF_bd (boot := boot) h hb
  have hR := hidI (fun w' hA' => refRight_any last A l c w' hA' hl)
  rw [h] at hR
  have d1 : decide (now < last) = false := decide_eq_false (by omega)
  have d2 : decide (now < 0) = false := decide_eq_false (by omega)
  have d3 : decide (1099511627776 < now) = false := decide_eq_false (by omega)
  have d4 : decide (last < 0) = false := decide_eq_false (by omega)
  have s0 : 0 ≤ now - last := by omega
  have s1 : now - last ≤ 1099511627776 := by omega
  clear h
  go_enter Try.func6, Try.ntmps6
  go_wp2_with fail
  refine (hR.out _ (hA.alloc _)).mono ?_
  rintro e w1 ⟨rfl, hb1⟩
  have hB := (Blk.new w #[.int .i64 last, .slice A l.length c] 24).below hb1
  have hW := ((Below.refl w.heap.size w).alloc (Nat.le_refl _) (.cells #[.int .i64 last, .slice A l.length c] 24)).trans (hb1.mono (by simp))
  have hA1 := (hA.alloc (.cells #[.int .i64 last, .slice A l.length c] 24)).below hb1
  have c0 := hB.c0
  clear hb1
  go_wp2_with fail
  have es : IntKind.i64.wrap (now - last) = now - last := IntWalk.i64_in _ (by omega)
  go_region_held3 (fun w' => w'.cell? ⟨w.heap.size, 0, none⟩ = some (.int .i64 last) ∧ w'.cell? ⟨w.heap.size, 1, none⟩ = some (.slice A l.length c) ∧ Blk w' w.heap.size #[.int .i64 last, .slice A l.length c] 24 ∧ Below w.heap.size w w')
    (first
      | exact ⟨(((Blk.drew hB).below hb2).below hb3).c0, (((Blk.drew hB).below hb2).below hb3).c1, ((Blk.drew hB).below hb2).below hb3, ((Below.drew hW).trans (hb2.mono (Below.drew hW).size)).trans (hb3.mono ((Below.drew hW).trans (hb2.mono (Below.drew hW).size)).size)⟩
      | exact ⟨((Blk.drew hB).below hb2).c0, ((Blk.drew hB).below hb2).c1, (Blk.drew hB).below hb2, (Below.drew hW).trans (hb2.mono (Below.drew hW).size)⟩
      | exact ⟨(Blk.drew hB).c0, (Blk.drew hB).c1, Blk.drew hB, Below.drew hW⟩)
    (first
      | (go_at_call 18; refine (hM.out _ (Rd.drew hA1)).mono ?_; rintro e w2 ⟨rfl, hb2⟩)
      | (go_at_call 17; refine (refMulDiv_any (now - last) (meanF l boot) _ s0 s1 m1 m2).mono ?_; rintro e w3 ⟨rfl, hb3⟩))
  rename_i hH
  obtain ⟨-, -, hB', hW'⟩ := hH
  clear hb2 hb3 hB hW w2 es
  go_wp2_with fail
  go_ret2
  exact ⟨retP hE.out, hW'⟩

theorem refLevel_any (last now boot : Int) (A : Option Addr) (l : List Int) (c : Nat) (w : World) (hA : Rd w A l) (hl : l.length ≤ 9223372036854775807) (hb : boot ≤ 9223372036854775807) :
    Calls Try.prog 6 #[.agg #[.int .i64 last, .slice A l.length c], .int .i64 now, .int .i64 boot] w fun e w' =>
      e = .returned (.tuple #[.int .i64 (levelF last l now boot).1, .int .i64 (levelF last l now boot).2]) ∧ Below w.heap.size w w' := by
  by_cases h1 : now < 0 ∨ now < last ∨ 1099511627776 < now ∨ rightB last l = false
  · exact refLevel_bad last now boot A l c w hA hl h1
  · have h3 : rightB last l = true := by
      cases h3 : rightB last l with
      | false => exact absurd (Or.inr (Or.inr (Or.inr h3))) h1
      | true => rfl
    have h2 : 0 ≤ now ∧ last ≤ now ∧ now ≤ 1099511627776 := by
      refine ⟨?_, ?_, ?_⟩ <;> refine Int.not_lt.1 fun h => h1 ?_
      · exact Or.inl h
      · exact Or.inr (Or.inl h)
      · exact Or.inr (Or.inr (Or.inl h))
    by_cases h4 : last < 0
    · exact refLevel_none last now boot A l c w hA hl h2.1 h2.2.1 h2.2.2 h3 h4
    · exact refLevel_main last now boot A l c w hA hl hb h2.2.1 h2.2.2 h3 (by omega)

end Go.Proofs.Ytbmbofccmmplkaa
