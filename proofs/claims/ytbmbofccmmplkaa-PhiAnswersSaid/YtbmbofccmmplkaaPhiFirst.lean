/- The walks of phi.First and phi.Suspect, at every window whose gaps lie in memory as the list says. Conditions: the numbers are int's. -/
import Derived.Test.YtbmbofccmmplkaaPhiLevel
import Derived.Test.YtbmbofccmmplkaaPhiBound
namespace Go.Proofs.Ytbmbofccmmplkaa
open Go.RowKit

theorem firstF_wrong {last boot t : Int} {l : List Int} (h : rightB last l = false) : firstF last l boot t = (0, 1) := by
  unfold firstF; rw [if_pos h]
theorem firstF_none {last boot t : Int} {l : List Int} (h : rightB last l = true) (hn : last < 0) : firstF last l boot t = (0, 7) := by
  unfold firstF; rw [if_neg (by rw [h]; simp), if_pos hn]
theorem firstF_arg {last boot t : Int} {l : List Int} (h : rightB last l = true) (hn : 0 ≤ last) (ht : t < 0 ∨ 1099511627776 < t) : firstF last l boot t = (0, 1) := by
  unfold firstF; rw [if_neg (by rw [h]; simp), if_neg (by omega), if_pos ht]
theorem firstF_mean {last boot t : Int} {l : List Int} (h : rightB last l = true) (hn : 0 ≤ last) (ht : 0 ≤ t ∧ t ≤ 1099511627776) (hm : 1099511627776 < meanF l boot) : firstF last l boot t = (0, 8) := by
  unfold firstF; rw [if_neg (by rw [h]; simp), if_neg (by omega), if_neg (by omega), if_pos hm]
theorem firstF_full {last boot t : Int} {l : List Int} (h : rightB last l = true) (hn : 0 ≤ last) (ht : 0 ≤ t ∧ t ≤ 1099511627776) (hm : meanF l boot ≤ 1099511627776) (hf : 1099511627776 - last < boundF t (meanF l boot)) : firstF last l boot t = (0, 8) := by
  unfold firstF; rw [if_neg (by rw [h]; simp), if_neg (by omega), if_neg (by omega), if_neg (by omega), if_pos hf]
theorem firstF_main {last boot t : Int} {l : List Int} (h : rightB last l = true) (hn : 0 ≤ last) (ht : 0 ≤ t ∧ t ≤ 1099511627776) (hm : meanF l boot ≤ 1099511627776) (hf : boundF t (meanF l boot) ≤ 1099511627776 - last) : firstF last l boot t = (last + boundF t (meanF l boot), 0) := by
  unfold firstF; rw [if_neg (by rw [h]; simp), if_neg (by omega), if_neg (by omega), if_neg (by omega), if_neg (by omega)]
theorem boundF_bd (t m : Int) : 0 ≤ boundF t m ∧ boundF t m ≤ 4611686018427387904 := by
  by_cases h : t < 0 ∨ 1099511627776 < t ∨ m < 1 ∨ 1099511627776 < m
  · rw [boundF_bad h]; omega
  · have h1 : 0 ≤ t := by omega
    have h2 : t ≤ 1099511627776 := by omega
    have h3 : 1 ≤ m := by omega
    have h4 : m ≤ 1099511627776 := by omega
    have := bound_prod h1 h2 h3 h4
    rw [boundF_good h1 h2 h3 h4]; omega

set_option maxHeartbeats 400000 in
theorem phiFirst_any (last boot t : Int) (A : Option Addr) (l : List Int) (c : Nat) (w : World) (hA : Rd w A l) (hl : l.length ≤ 9223372036854775807) (hb : boot ≤ 9223372036854775807) :
    Calls Try.prog 7 #[.agg #[.int .i64 last, .slice A l.length c], .int .i64 boot, .int .i64 t] w fun e w' =>
      e = .returned (.tuple #[.int .i64 (firstF last l boot t).1, .int .i64 (firstF last l boot t).2]) ∧ Below w.heap.size w w' := by
  have hR := hidI (fun w' hA' => winRight_any last A l c w' hA' hl)
  cases h : rightB last l with
  | false =>
    have hE := hidI (firstF_wrong (boot := boot) (t := t) h)
    rw [h] at hR
    clear h
    go_enter Try.func7, Try.ntmps7
    go_wp2_with fail
    refine (hR.out _ (hA.alloc _)).mono ?_
    rintro e w1 ⟨rfl, hb1⟩
    go_wp2_with fail
    go_ret2
    exact ⟨retP hE.out, ((Below.refl _ _).alloc (Nat.le_refl _) _).trans (hb1.mono (by simp))⟩
  | true =>
    rw [h] at hR
    have hl2 := (rightB_true h).2.1
    by_cases hn : last < 0
    · have hE := hidI (firstF_none (boot := boot) (t := t) h hn)
      have d1 : decide (last < 0) = true := decide_eq_true hn
      clear h
      go_enter Try.func7, Try.ntmps7
      go_wp2_with fail
      refine (hR.out _ (hA.alloc _)).mono ?_
      rintro e w1 ⟨rfl, hb1⟩
      have c0 := ((Blk.new w #[.int .i64 last, .slice A l.length c] 24).below hb1).c0
      go_wp2_with fail
      go_ret2
      exact ⟨retP hE.out, ((Below.refl _ _).alloc (Nat.le_refl _) _).trans (hb1.mono (by simp))⟩
    · have d1 : decide (last < 0) = false := decide_eq_false hn
      have hn0 : 0 ≤ last := by omega
      by_cases ht : t < 0 ∨ 1099511627776 < t
      · have hE := hidI (firstF_arg (boot := boot) h hn0 ht)
        have hT := hidI ht
        clear h ht
        go_enter Try.func7, Try.ntmps7
        go_wp2_with fail
        refine (hR.out _ (hA.alloc _)).mono ?_
        rintro e w1 ⟨rfl, hb1⟩
        have c0 := ((Blk.new w #[.int .i64 last, .slice A l.length c] 24).below hb1).c0
        go_wp2_with fail
        refine (within_no t 0 _ hT.out).mono ?_
        rintro e w2 ⟨rfl, rfl⟩
        go_wp2_with fail
        go_ret2
        exact ⟨retP hE.out, ((Below.refl _ _).alloc (Nat.le_refl _) _).trans (hb1.mono (by simp))⟩
      · have t0 : 0 ≤ t := by omega
        have t1 : t ≤ 1099511627776 := by omega
        have hM := hidI (fun w' hA' => winMean_any last boot A l c w' hA' h)
        have hbd := meanF_bd (boot := boot) h hb
        have E1 := hidI (fun hm => firstF_mean (boot := boot) h hn0 ⟨t0, t1⟩ hm)
        have E2 := hidI (fun hm hf => firstF_full (boot := boot) h hn0 ⟨t0, t1⟩ hm hf)
        have E3 := hidI (fun hm hf => firstF_main (boot := boot) h hn0 ⟨t0, t1⟩ hm hf)
        clear h ht
        go_enter Try.func7, Try.ntmps7
        go_wp2_with fail
        refine (hR.out _ (hA.alloc _)).mono ?_
        rintro e w1 ⟨rfl, hb1⟩
        have hB := (Blk.new w #[.int .i64 last, .slice A l.length c] 24).below hb1
        have hW := ((Below.refl w.heap.size w).alloc (Nat.le_refl _) (.cells #[.int .i64 last, .slice A l.length c] 24)).trans (hb1.mono (by simp))
        have hA1 := (hA.alloc (.cells #[.int .i64 last, .slice A l.length c] 24)).below hb1
        have c0 := hB.c0
        have c1 := hB.c1
        clear hb1 hR
        go_wp2_with fail
        refine (within_yes t 0 _ t0 t1).mono ?_
        rintro e w2 ⟨rfl, rfl⟩
        go_wp2_with fail
        refine (hM.out _ hA1).mono ?_
        rintro e w2 ⟨rfl, hb2⟩
        have kB := hB.below hb2
        have kW := hW.trans (hb2.mono hW.size)
        clear hB hW hA1 c0 c1 hb2 hM
        have c0 := kB.c0
        have c1 := kB.c1
        generalize meanF l boot = M at *
        by_cases hm : 1099511627776 < M
        · have hE := hidI (E1.out hm)
          have d2 : decide (1099511627776 < M) = true := decide_eq_true hm
          go_wp2_with fail
          go_ret2
          exact ⟨retP hE.out, kW⟩
        · have d2 : decide (1099511627776 < M) = false := decide_eq_false hm
          go_wp2_with fail
          refine (phiBound_any t M _).mono ?_
          rintro e w3 ⟨rfl, hb3⟩
          have jB := kB.below hb3
          have jW := kW.trans (hb3.mono kW.size)
          obtain ⟨b0, b1⟩ := boundF_bd t M
          clear kB kW c0 c1 hb3
          have c0 := jB.c0
          generalize boundF t M = N at *
          by_cases hf : 1099511627776 - last < N
          · have hE := hidI (E2.out (by omega) hf)
            have d3 : decide (1099511627776 - last < N) = true := decide_eq_true hf
            go_wp2_with fail
            go_ret2
            exact ⟨retP hE.out, jW⟩
          · have hE := hidI (E3.out (by omega) (by omega))
            have d3 : decide (1099511627776 - last < N) = false := decide_eq_false hf
            go_wp2_with fail
            go_ret2
            exact ⟨retP hE.out, jW⟩

theorem suspectF_bad {last now boot t : Int} {l : List Int} {n e : Int} (h : levelF last l now boot = (n, e)) (he : e ≠ 0) : suspectF last l now boot t = false := by
  unfold suspectF; rw [h]; exact decide_eq_false (fun x => he x.1)
theorem suspectF_ok {last now boot t : Int} {l : List Int} {n : Int} (h : levelF last l now boot = (n, 0)) : suspectF last l now boot t = decide (t < n) := by
  unfold suspectF; rw [h]; simp

set_option maxHeartbeats 400000 in
theorem phiSuspect_any (last now boot t : Int) (A : Option Addr) (l : List Int) (c : Nat) (w : World) (hA : Rd w A l) (hl : l.length ≤ 9223372036854775807) (hb : boot ≤ 9223372036854775807) :
    Calls Try.prog 9 #[.agg #[.int .i64 last, .slice A l.length c], .int .i64 now, .int .i64 boot, .int .i64 t] w fun e w' =>
      e = .returned (.bool (suspectF last l now boot t)) ∧ Below w.heap.size w w' := by
  have hL := hidI (fun w' hA' => phiLevel_any last now boot A l c w' hA' hl hb)
  have S1 := hidI (fun n e (h : levelF last l now boot = (n, e)) => suspectF_bad (t := t) h)
  have S2 := hidI (fun n (h : levelF last l now boot = (n, 0)) => suspectF_ok (t := t) h)
  rcases hx : levelF last l now boot with ⟨n, er⟩
  have HX := hidI hx
  rw [hx] at hL
  dsimp only at hL
  clear hx
  by_cases he : er = 0
  · subst he
    have hE := hidI (S2.out n HX.out)
    by_cases hs : t < n
    · have d : decide (t < n) = true := decide_eq_true hs
      go_enter Try.func9, Try.ntmps9
      go_wp2_with fail
      refine (hL.out _ (hA.alloc _)).mono ?_
      rintro e w1 ⟨rfl, hb1⟩
      go_wp2_with fail
      go_ret
      exact ⟨retB (by rw [hE.out, d]), ((Below.refl _ _).alloc (Nat.le_refl _) _).trans (hb1.mono (by simp))⟩
    · have d : decide (t < n) = false := decide_eq_false hs
      go_enter Try.func9, Try.ntmps9
      go_wp2_with fail
      refine (hL.out _ (hA.alloc _)).mono ?_
      rintro e w1 ⟨rfl, hb1⟩
      go_wp2_with fail
      go_ret
      exact ⟨retB (by rw [hE.out, d]), ((Below.refl _ _).alloc (Nat.le_refl _) _).trans (hb1.mono (by simp))⟩
  · have hE := hidI (S1.out n er HX.out he)
    have d : (er == 0) = false := beq_eq_false_iff_ne.2 he
    clear he
    go_enter Try.func9, Try.ntmps9
    go_wp2_with fail
    refine (hL.out _ (hA.alloc _)).mono ?_
    rintro e w1 ⟨rfl, hb1⟩
    go_wp2_with fail
    go_ret
    exact ⟨retB hE.out.symm, ((Below.refl _ _).alloc (Nat.le_refl _) _).trans (hb1.mono (by simp))⟩

end Go.Proofs.Ytbmbofccmmplkaa
