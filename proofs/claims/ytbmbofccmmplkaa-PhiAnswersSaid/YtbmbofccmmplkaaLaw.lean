/- The walk of bellwetherlaw11.PhiAnswers: true, for every window whose gaps lie in memory as the list says, and every three numbers. Conditions: the numbers are int's. -/
import Derived.Test.YtbmbofccmmplkaaAlive
import Derived.Test.YtbmbofccmmplkaaRefFirst
namespace Go.Proofs.Ytbmbofccmmplkaa
open Go.RowKit

/-- what the law's calls keep: its window, its three numbers, the gaps, and what was there -/
def LwSt (last a b t : Int) (A : Option Addr) (l : List Int) (c : Nat) (w w' : World) : Prop :=
  Blk w' w.heap.size #[.int .i64 last, .slice A l.length c] 24 ∧ Blk w' (w.heap.size + 1) #[.int .i64 a, .int .i64 b, .int .i64 t] 25 ∧ Rd w' A l ∧ Below w.heap.size w w'

section
variable {last a b t : Int} {A : Option Addr} {l : List Int} {c : Nat} {w w1 w2 : World}

theorem LwSt.start (hA : Rd w A l) : LwSt last a b t A l c w ((w.alloc (.cells #[.int .i64 last, .slice A l.length c] 24)).alloc (.cells #[.int .i64 a, .int .i64 b, .int .i64 t] 25)) := by
  refine ⟨(Blk.new _ _ _).alloc _, ?_, (hA.alloc _).alloc _, ((Below.refl _ _).alloc (Nat.le_refl _) _).alloc (by simp) _⟩
  have h := Blk.new (w.alloc (.cells #[.int .i64 last, .slice A l.length c] 24)) #[.int .i64 a, .int .i64 b, .int .i64 t] 25
  rw [show (w.alloc (.cells #[.int .i64 last, .slice A l.length c] 24)).heap.size = w.heap.size + 1 from by simp] at h
  exact h
theorem LwSt.next (h : LwSt last a b t A l c w w1) (hb : Below w1.heap.size w1 w2) : LwSt last a b t A l c w w2 :=
  ⟨h.1.below hb, h.2.1.below hb, h.2.2.1.below hb, h.2.2.2.trans (hb.mono h.2.2.2.size)⟩
theorem LwSt.drew (h : LwSt last a b t A l c w w1) : LwSt last a b t A l c w w1.drew := ⟨h.1.drew, h.2.1.drew, h.2.2.1.drew, h.2.2.2.drew⟩
theorem LwSt.cells (h : LwSt last a b t A l c w w1) : w1.cell? ⟨w.heap.size, 0, none⟩ = some (.int .i64 last) ∧ w1.cell? ⟨w.heap.size, 1, none⟩ = some (.slice A l.length c) ∧
    w1.cell? ⟨w.heap.size + 1, 0, none⟩ = some (.int .i64 a) ∧ w1.cell? ⟨w.heap.size + 1, 1, none⟩ = some (.int .i64 b) ∧ w1.cell? ⟨w.heap.size + 1, 2, none⟩ = some (.int .i64 t) ∧ LwSt last a b t A l c w w1 :=
  ⟨h.1.c0, h.1.c1, h.2.1.cell 0, h.2.1.cell 1, h.2.1.cell 2, h⟩
end

set_option maxRecDepth 100000 in
set_option maxHeartbeats 1000000 in
theorem law_any (last a b t : Int) (A : Option Addr) (l : List Int) (c : Nat) (w : World) (hA : Rd w A l) (hl : l.length ≤ 9223372036854775807) (hb : b ≤ 9223372036854775807) :
    Calls Try.prog 3 #[.agg #[.int .i64 last, .slice A l.length c], .agg #[.int .i64 a, .int .i64 b, .int .i64 t]] w fun e w' => e = .returned (.bool true) ∧ Below w.heap.size w w' := by
  have S0 : LwSt last a b t A l c w _ := LwSt.start hA
  go_enter Try.func3, Try.ntmps3
  go_wp2_with fail
  refine (alive_any _).mono ?_
  rintro e w1 ⟨rfl, hb1⟩
  have S1 := S0.next hb1
  clear S0 hb1
  obtain ⟨c0, c1, q0, q1, q2, -⟩ := S1.cells
  by_cases h200 : 200 < l.length
  · have d1 : decide ((200 : Int) < (l.length : Int)) = true := decide_eq_true (by omega)
    go_wp2_with fail
    go_ret
    exact ⟨rfl, S1.2.2.2⟩
  · have d1 : decide ((200 : Int) < (l.length : Int)) = false := decide_eq_false (by omega)
    go_wp2_with fail
    refine (phiLevel_any last a b A l c _ S1.2.2.1 hl hb).mono ?_
    rintro e w2 ⟨rfl, hb2⟩
    have S2 := S1.next hb2
    clear S1 hb2 c0 c1 q0 q1 q2
    obtain ⟨c0, c1, q0, q1, q2, -⟩ := S2.cells
    go_wp2_with fail
    refine (refLevel_any last a b A l c _ S2.2.2.1 hl hb).mono ?_
    rintro e w3 ⟨rfl, hb3⟩
    have S3 := S2.next hb3
    clear S2 hb3 c0 c1 q0 q1 q2
    obtain ⟨c0, c1, q0, q1, q2, -⟩ := S3.cells
    go_wp2_with fail
    refine (phiFirst_any last b t A l c _ S3.2.2.1 hl hb).mono ?_
    rintro e w4 ⟨rfl, hb4⟩
    have S4 := S3.next hb4
    clear S3 hb4 c0 c1 q0 q1 q2
    obtain ⟨c0, c1, q0, q1, q2, -⟩ := S4.cells
    go_wp2_with fail
    refine (refFirst_any last b t A l c _ S4.2.2.1 hl hb).mono ?_
    rintro e w5 ⟨rfl, hb5⟩
    have S5 := S4.next hb5
    clear S4 hb5 c0 c1 q0 q1 q2
    generalize (levelF last l a b).1 = n1 at *
    generalize (levelF last l a b).2 = e1 at *
    generalize (firstF last l b t).1 = n2 at *
    generalize (firstF last l b t).2 = e2 at *
    go_wp2_with fail
    go_region_held3 (fun w' => w'.cell? ⟨w.heap.size, 0, none⟩ = some (.int .i64 last) ∧ w'.cell? ⟨w.heap.size, 1, none⟩ = some (.slice A l.length c) ∧
        w'.cell? ⟨w.heap.size + 1, 0, none⟩ = some (.int .i64 a) ∧ w'.cell? ⟨w.heap.size + 1, 1, none⟩ = some (.int .i64 b) ∧ w'.cell? ⟨w.heap.size + 1, 2, none⟩ = some (.int .i64 t) ∧ LwSt last a b t A l c w w')
      (first
        | exact ((((LwSt.drew S5).next hb9).next hb10).next hb11 |>.next hb12).cells
        | exact ((((LwSt.drew S5).next hb9).next hb10).next hb11).cells
        | exact (((LwSt.drew S5).next hb9).next hb10).cells
        | exact ((LwSt.drew S5).next hb9).cells
        | exact (LwSt.drew S5).cells)
      (first
        | (go_at_call 9; refine (phiSuspect_any last a b t A l c _ (LwSt.drew S5).2.2.1 hl hb).mono ?_; rintro e w9 ⟨rfl, hb9⟩)
        | (go_at_call 10; refine (refSuspect_any last a b t A l c _ ((LwSt.drew S5).next hb9).2.2.1 hl hb).mono ?_; rintro e w10 ⟨rfl, hb10⟩)
        | (go_at_call 11; refine (phiBound_any t b _).mono ?_; rintro e w11 ⟨rfl, hb11⟩)
        | (go_at_call 12; refine (refBound_any t b _).mono ?_; rintro e w12 ⟨rfl, hb12⟩))
    rename_i hH
    obtain ⟨-, -, -, -, -, S6⟩ := hH
    clear hb9 hb10 hb11 hb12 S5
    go_wp2_with fail
    go_ret
    exact ⟨rfl, S6.2.2.2⟩
end Go.Proofs.Ytbmbofccmmplkaa
