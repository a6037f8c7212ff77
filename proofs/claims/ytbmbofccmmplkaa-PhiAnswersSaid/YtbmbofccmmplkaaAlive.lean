/- The walk of bellwetherlaw11.alive: the fixed fact is true. No condition. -/
import Derived.Test.YtbmbofccmmplkaaPhiFirst
namespace Go.Proofs.Ytbmbofccmmplkaa
open Go.RowKit

theorem al1 : levelF 50 [10, 10] 150 1 = (4340, 0) := by decide +kernel
theorem al2 : firstF 50 [10, 10] 1 4340 = (151, 0) := by decide +kernel
theorem al3 : suspectF 50 [10, 10] 151 1 4340 = true := by decide +kernel
theorem al4 : suspectF 50 [10, 10] 150 1 4340 = false := by decide +kernel
theorem al5 : boundF 4340 10 = 101 := by decide +kernel

theorem alLevel (A : Option Addr) (w : World) (hA : Rd w A [10, 10]) :
    Calls Try.prog 5 #[.agg #[.int .i64 50, .slice A 2 2], .int .i64 150, .int .i64 1] w fun e w' => e = .returned (.tuple #[.int .i64 4340, .int .i64 0]) ∧ Below w.heap.size w w' := by
  have h := phiLevel_any 50 150 1 A [10, 10] 2 w hA (by decide) (by omega)
  rw [al1] at h; exact h
theorem alFirst (A : Option Addr) (w : World) (hA : Rd w A [10, 10]) :
    Calls Try.prog 7 #[.agg #[.int .i64 50, .slice A 2 2], .int .i64 1, .int .i64 4340] w fun e w' => e = .returned (.tuple #[.int .i64 151, .int .i64 0]) ∧ Below w.heap.size w w' := by
  have h := phiFirst_any 50 1 4340 A [10, 10] 2 w hA (by decide) (by omega)
  rw [al2] at h; exact h
theorem alYes (A : Option Addr) (w : World) (hA : Rd w A [10, 10]) :
    Calls Try.prog 9 #[.agg #[.int .i64 50, .slice A 2 2], .int .i64 151, .int .i64 1, .int .i64 4340] w fun e w' => e = .returned (.bool true) ∧ Below w.heap.size w w' := by
  have h := phiSuspect_any 50 151 1 4340 A [10, 10] 2 w hA (by decide) (by omega)
  rw [al3] at h; exact h
theorem alNo (A : Option Addr) (w : World) (hA : Rd w A [10, 10]) :
    Calls Try.prog 9 #[.agg #[.int .i64 50, .slice A 2 2], .int .i64 150, .int .i64 1, .int .i64 4340] w fun e w' => e = .returned (.bool false) ∧ Below w.heap.size w w' := by
  have h := phiSuspect_any 50 150 1 4340 A [10, 10] 2 w hA (by decide) (by omega)
  rw [al4] at h; exact h
theorem alBound (w : World) :
    Calls Try.prog 11 #[.int .i64 4340, .int .i64 10] w fun e w' => e = .returned (.int .i64 101) ∧ Below w.heap.size w w' := by
  have h := phiBound_any 4340 10 w
  rw [al5] at h; exact h

/-- what alive's calls keep: its window, the window's gaps, and what was there -/
def AlSt (w w' : World) : Prop :=
  Blk w' (w.heap.size + 1) #[.int .i64 50, .slice (some ⟨w.heap.size, 0, none⟩) 2 2] 24 ∧ Rd w' (some ⟨w.heap.size, 0, none⟩) [10, 10] ∧ Below w.heap.size w w'

theorem AlSt.start (w : World) : AlSt w ((w.alloc (.cells #[.int .i64 10, .int .i64 10] 3)).alloc (.cells #[.int .i64 50, .slice (some ⟨w.heap.size, 0, none⟩) 2 2] 24)) := by
  refine ⟨?_, ?_, ((Below.refl _ _).alloc (Nat.le_refl _) _).alloc (by simp) _⟩
  · have h := Blk.new (w.alloc (.cells #[.int .i64 10, .int .i64 10] 3)) #[.int .i64 50, .slice (some ⟨w.heap.size, 0, none⟩) 2 2] 24
    rw [show (w.alloc (.cells #[.int .i64 10, .int .i64 10] 3)).heap.size = w.heap.size + 1 from by simp] at h
    exact h
  · have h := (Blk.new w #[.int .i64 10, .int .i64 10] 3).alloc (.cells #[.int .i64 50, .slice (some ⟨w.heap.size, 0, none⟩) 2 2] 24)
    refine Or.inr ⟨w.heap.size, 0, rfl, h.lt, fun i hi => ?_⟩
    match i, hi with
    | 0, _ => exact h.c0
    | 1, _ => exact h.c1
theorem AlSt.next {w w1 w2 : World} (h : AlSt w w1) (hb : Below w1.heap.size w1 w2) : AlSt w w2 :=
  ⟨h.1.below hb, h.2.1.below hb, h.2.2.trans (hb.mono h.2.2.size)⟩

set_option maxHeartbeats 400000 in
theorem alive_any (w : World) :
    Calls Try.prog 4 #[] w fun e w' => e = .returned (.bool true) ∧ Below w.heap.size w w' := by
  have S0 := AlSt.start w
  go_enter Try.func4, Try.ntmps4
  go_wp2_with fail
  refine (alLevel _ _ S0.2.1).mono ?_
  rintro e w1 ⟨rfl, hb⟩
  have S1 := S0.next hb
  clear S0 hb
  have c0 := S1.1.c0
  have c1 := S1.1.c1
  go_wp2_with fail
  refine (alFirst _ _ S1.2.1).mono ?_
  rintro e w2 ⟨rfl, hb⟩
  have S2 := S1.next hb
  clear S1 hb c0 c1
  have c0 := S2.1.c0
  have c1 := S2.1.c1
  go_wp2_with fail
  refine (alYes _ _ S2.2.1).mono ?_
  rintro e w3 ⟨rfl, hb⟩
  have S3 := S2.next hb
  clear S2 hb c0 c1
  have c0 := S3.1.c0
  have c1 := S3.1.c1
  go_wp2_with fail
  refine (alNo _ _ S3.2.1).mono ?_
  rintro e w4 ⟨rfl, hb⟩
  have S4 := S3.next hb
  clear S3 hb c0 c1
  go_wp2_with fail
  refine (alBound _).mono ?_
  rintro e w5 ⟨rfl, hb⟩
  have S5 := S4.next hb
  clear S4 hb
  go_wp2_with fail
  go_ret
  exact ⟨rfl, S5.2.2⟩
end Go.Proofs.Ytbmbofccmmplkaa
