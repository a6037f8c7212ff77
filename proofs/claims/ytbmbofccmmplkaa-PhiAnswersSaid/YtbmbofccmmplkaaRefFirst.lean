/- The walks of bellwetherref11.First and Suspect, at every window whose gaps lie in memory as the list says. Conditions: the numbers are int's. -/
import Derived.Test.YtbmbofccmmplkaaPhiFirst
import Derived.Test.YtbmbofccmmplkaaRefLevel
import Derived.Test.YtbmbofccmmplkaaRefBound
namespace Go.Proofs.Ytbmbofccmmplkaa
open Go.RowKit

set_option maxHeartbeats 400000 in
theorem refFirst_any (last boot t : Int) (A : Option Addr) (l : List Int) (c : Nat) (w : World) (hA : Rd w A l) (hl : l.length ≤ 9223372036854775807) (hb : boot ≤ 9223372036854775807) :
    Calls Try.prog 8 #[.agg #[.int .i64 last, .slice A l.length c], .int .i64 boot, .int .i64 t] w fun e w' =>
      e = .returned (.tuple #[.int .i64 (firstF last l boot t).1, .int .i64 (firstF last l boot t).2]) ∧ Below w.heap.size w w' := by
  have hR := hidI (fun w' hA' => refRight_any last A l c w' hA' hl)
  cases h : rightB last l with
  | false =>
    have hE := hidI (firstF_wrong (boot := boot) (t := t) h)
    rw [h] at hR
    clear h
    go_enter Try.func8, Try.ntmps8
    go_wp2_with fail
    refine (hR.out _ (hA.alloc _)).mono ?_
    rintro e w1 ⟨rfl, hb1⟩
    go_wp2_with fail
    go_ret2
    exact ⟨retP hE.out, ((Below.refl _ _).alloc (Nat.le_refl _) _).trans (hb1.mono (by simp))⟩
  | true =>
    rw [h] at hR
    have hl2 := (rightB_true h).2.1
    by_cases hn : last < 0
    · have hE := hidI (firstF_none (boot := boot) (t := t) h hn)
      have d1 : decide (last < 0) = true := decide_eq_true hn
      clear h
      go_enter Try.func8, Try.ntmps8
      go_wp2_with fail
      refine (hR.out _ (hA.alloc _)).mono ?_
      rintro e w1 ⟨rfl, hb1⟩
      have c0 := ((Blk.new w #[.int .i64 last, .slice A l.length c] 24).below hb1).c0
      go_wp2_with fail
      go_ret2
      exact ⟨retP hE.out, ((Below.refl _ _).alloc (Nat.le_refl _) _).trans (hb1.mono (by simp))⟩
    · have d1 : decide (last < 0) = false := decide_eq_false hn
      have hn0 : 0 ≤ last := by omega
      by_cases ht : t < 0 ∨ 1099511627776 < t
      · have hE := hidI (firstF_arg (boot := boot) h hn0 ht)
        by_cases ht1 : t < 0
        · have e1 : decide (t < 0) = true := decide_eq_true ht1
          clear h ht
          go_enter Try.func8, Try.ntmps8
          go_wp2_with fail
          refine (hR.out _ (hA.alloc _)).mono ?_
          rintro e w1 ⟨rfl, hb1⟩
          have c0 := ((Blk.new w #[.int .i64 last, .slice A l.length c] 24).below hb1).c0
          go_wp2_with fail
          go_ret2
          exact ⟨retP hE.out, ((Below.refl _ _).alloc (Nat.le_refl _) _).trans (hb1.mono (by simp))⟩
        · have e1 : decide (t < 0) = false := decide_eq_false ht1
          have e2 : decide (1099511627776 < t) = true := decide_eq_true (by omega)
          clear h ht
          go_enter Try.func8, Try.ntmps8
          go_wp2_with fail
          refine (hR.out _ (hA.alloc _)).mono ?_
          rintro e w1 ⟨rfl, hb1⟩
          have c0 := ((Blk.new w #[.int .i64 last, .slice A l.length c] 24).below hb1).c0
          go_wp2_with fail
          go_ret2
          exact ⟨retP hE.out, ((Below.refl _ _).alloc (Nat.le_refl _) _).trans (hb1.mono (by simp))⟩
      · have t0 : 0 ≤ t := by omega
        have t1 : t ≤ 1099511627776 := by omega
        have hM := hidI (fun w' hA' => refMean_any last boot A l c w' hA' h)
        have hbd := meanF_bd (boot := boot) h hb
        have E1 := hidI (fun hm => firstF_mean (boot := boot) h hn0 ⟨t0, t1⟩ hm)
        have E2 := hidI (fun hm hf => firstF_full (boot := boot) h hn0 ⟨t0, t1⟩ hm hf)
        have E3 := hidI (fun hm hf => firstF_main (boot := boot) h hn0 ⟨t0, t1⟩ hm hf)
        have e1 : decide (t < 0) = false := decide_eq_false (by omega)
        have e2 : decide (1099511627776 < t) = false := decide_eq_false (by omega)
        clear h ht
        go_enter Try.func8, Try.ntmps8
        go_wp2_with fail
        refine (hR.out _ (hA.alloc _)).mono ?_
        rintro e w1 ⟨rfl, hb1⟩
        have hB := (Blk.new w #[.int .i64 last, .slice A l.length c] 24).below hb1
        have hW := ((Below.refl w.heap.size w).alloc (Nat.le_refl _) (.cells #[.int .i64 last, .slice A l.length c] 24)).trans (hb1.mono (by simp))
        have hA1 := (hA.alloc (.cells #[.int .i64 last, .slice A l.length c] 24)).below hb1
        have c0 := hB.c0
        have c1 := hB.c1
        clear hb1 hR
        go_wp2_with fail
        refine (hM.out _ hA1).mono ?_
        rintro e w2 ⟨rfl, hb2⟩
        have kB := hB.below hb2
        have kW := hW.trans (hb2.mono hW.size)
        clear hB hW hA1 c0 c1 hb2 hM
        have c0 := kB.c0
        have c1 := kB.c1
        generalize meanF l boot = M at *
        by_cases hm : 1099511627776 < M
        · have hE := hidI (E1.out hm)
          have d2 : decide (1099511627776 < M) = true := decide_eq_true hm
          go_wp2_with fail
          go_ret2
          exact ⟨retP hE.out, kW⟩
        · have d2 : decide (1099511627776 < M) = false := decide_eq_false hm
          go_wp2_with fail
          refine (refBound_any t M _).mono ?_
          rintro e w3 ⟨rfl, hb3⟩
          have jB := kB.below hb3
          have jW := kW.trans (hb3.mono kW.size)
          obtain ⟨b0, b1⟩ := boundF_bd t M
          clear kB kW c0 c1 hb3
          have c0 := jB.c0
          generalize boundF t M = N at *
          by_cases hf : 1099511627776 - last < N
          · have hE := hidI (E2.out (by omega) hf)
            have d3 : decide (1099511627776 - last < N) = true := decide_eq_true hf
            go_wp2_with fail
            go_ret2
            exact ⟨retP hE.out, jW⟩
          · have hE := hidI (E3.out (by omega) (by omega))
            have d3 : decide (1099511627776 - last < N) = false := decide_eq_false hf
            go_wp2_with fail
            go_ret2
            exact ⟨retP hE.out, jW⟩

set_option maxHeartbeats 400000 in
theorem refSuspect_any (last now boot t : Int) (A : Option Addr) (l : List Int) (c : Nat) (w : World) (hA : Rd w A l) (hl : l.length ≤ 9223372036854775807) (hb : boot ≤ 9223372036854775807) :
    Calls Try.prog 10 #[.agg #[.int .i64 last, .slice A l.length c], .int .i64 now, .int .i64 boot, .int .i64 t] w fun e w' =>
      e = .returned (.bool (suspectF last l now boot t)) ∧ Below w.heap.size w w' := by
  have hL := hidI (fun w' hA' => refLevel_any last now boot A l c w' hA' hl hb)
  have S1 := hidI (fun n e (h : levelF last l now boot = (n, e)) => suspectF_bad (t := t) h)
  have S2 := hidI (fun n (h : levelF last l now boot = (n, 0)) => suspectF_ok (t := t) h)
  rcases hx : levelF last l now boot with ⟨n, er⟩
  have HX := hidI hx
  rw [hx] at hL
  dsimp only at hL
  clear hx
  by_cases he : er = 0
  · subst he
    have hE := hidI (S2.out n HX.out)
    by_cases hs : t < n
    · have d : decide (t < n) = true := decide_eq_true hs
      go_enter Try.func10, Try.ntmps10
      go_wp2_with fail
      refine (hL.out _ (hA.alloc _)).mono ?_
      rintro e w1 ⟨rfl, hb1⟩
      go_wp2_with fail
      go_ret
      exact ⟨retB (by rw [hE.out, d]), ((Below.refl _ _).alloc (Nat.le_refl _) _).trans (hb1.mono (by simp))⟩
    · have d : decide (t < n) = false := decide_eq_false hs
      go_enter Try.func10, Try.ntmps10
      go_wp2_with fail
      refine (hL.out _ (hA.alloc _)).mono ?_
      rintro e w1 ⟨rfl, hb1⟩
      go_wp2_with fail
      go_ret
      exact ⟨retB (by rw [hE.out, d]), ((Below.refl _ _).alloc (Nat.le_refl _) _).trans (hb1.mono (by simp))⟩
  · have hE := hidI (S1.out n er HX.out he)
    have d : (er == 0) = false := beq_eq_false_iff_ne.2 he
    clear he
    go_enter Try.func10, Try.ntmps10
    go_wp2_with fail
    refine (hL.out _ (hA.alloc _)).mono ?_
    rintro e w1 ⟨rfl, hb1⟩
    go_wp2_with fail
    go_ret
    exact ⟨retB hE.out.symm, ((Below.refl _ _).alloc (Nat.le_refl _) _).trans (hb1.mono (by simp))⟩

end Go.Proofs.Ytbmbofccmmplkaa
