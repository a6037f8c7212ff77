/- The walk of bellwetherref11.Bound, for every threshold and mean: the least silence that is enough. No condition. -/
import Derived.Test.YtbmbofccmmplkaaRefMulDiv
import Derived.Test.YtbmbofccmmplkaaPhiBound
namespace Go.Proofs.Ytbmbofccmmplkaa
open Go.RowKit

/-- what the loop keeps: the answer lies in n + 1 .. n + 2^k -/
def BndInv (R n : Int) (k : Nat) : Prop := -1 ≤ n ∧ n + 1 ≤ R ∧ R ≤ n + 2 ^ k

theorem bndInv_start {R : Int} (h0 : 1 ≤ R) (h1 : R ≤ 4611686018427387904) : BndInv R (-1) 63 := by
  unfold BndInv
  have e : ((-1 : Int) + 2 ^ 63) = 9223372036854775807 := rfl
  rw [e]; omega
theorem bndInv_go {R n P : Int} {j : Nat} (h : BndInv R n (j + 1)) (hP : (2 : Int) ^ j = P) (hn : 0 ≤ n + P) (hm : n + P + 1 ≤ R) : BndInv R (n + P) j := by
  obtain ⟨a1, a2, a3⟩ := h
  rw [Int.pow_succ, hP] at a3
  unfold BndInv; rw [hP]; omega
theorem bndInv_stay {R n P : Int} {j : Nat} (h : BndInv R n (j + 1)) (hP : (2 : Int) ^ j = P) (hm : R ≤ n + P) : BndInv R n j := by
  obtain ⟨a1, a2, a3⟩ := h
  unfold BndInv; rw [hP]; omega
theorem bndInv_end {R n : Int} (h : BndInv R n 0) : n + 1 = R := by
  obtain ⟨a1, a2, a3⟩ := h
  rw [show (2 : Int) ^ 0 = 1 from rfl] at a3
  omega

set_option maxHeartbeats 400000 in
theorem refBound_good (t m : Int) (w : World) (t1 : 0 ≤ t) (t2 : t ≤ 1099511627776) (m1 : 1 ≤ m) (m2 : m ≤ 1099511627776) :
    Calls Try.prog 12 #[.int .i64 t, .int .i64 m] w fun e w' => e = .returned (.int .i64 (boundF t m)) ∧ Below w.heap.size w w' := by
  have hF := boundF_good t1 t2 m1 m2
  obtain ⟨p0, p1⟩ := bound_prod t1 t2 m1 m2
  have d1 : decide (t < 0) = false := decide_eq_false (by omega)
  have d2 : decide (1099511627776 < t) = false := decide_eq_false (by omega)
  have d3 : decide (m < 1) = false := decide_eq_false (by omega)
  have d4 : decide (1099511627776 < m) = false := decide_eq_false (by omega)
  have hR : boundF t m = min 4611686018427387904 (((t + 1) * m + 433) / 434) := hF
  have HF := hidI hF
  clear hR hF
  go_enter Try.func12, Try.ntmps12
  go_wp2_with fail
  refine (mul_any (t + 1) m _ (by omega) (by omega) (by omega) (by omega)).mono ?_
  rintro e w1 ⟨rfl, hb⟩
  go_wp2_with fail
  generalize hp : (t + 1) * m = p at *
  have hB0 := Blk.new w1 #[.int .u64 (hiW p), .int .u64 (loW p)] 42
  have hW0 := hb.alloc hb.size (.cells #[.int .u64 (hiW p), .int .u64 (loW p)] 42)
  have hg := hb.size
  clear hb hp
  generalize w1.alloc (.cells #[.int .u64 (hiW p), .int .u64 (loW p)] 42) = W0 at *
  generalize w1.heap.size = g at *
  clear w1
  generalize hR : boundF t m = R at *
  have HR := hidI hR
  have R1 : 1 ≤ R ∧ R ≤ 4611686018427387904 := by have := HF.out; omega
  clear hR
  go_loopw [6, 7, 8] (fun v6 v7 _ wr => ∃ (n : Int) (k : Nat), v6 = .int .i64 n ∧ v7 = .int .i64 ((k : Int) - 1) ∧ k ≤ 63 ∧ BndInv R n k ∧ Blk wr g #[.int .u64 (hiW p), .int .u64 (loW p)] 42 ∧ Below w.heap.size w wr) (fun _ v7 _ _ => (intOf v7 + 1).toNat)
  case atStart => exact ⟨-1, 63, rfl, rfl, by omega, bndInv_start R1.1 R1.2, hB0, hW0⟩
  case round =>
    clear hB0 hW0
    obtain ⟨n, k, rfl, rfl, hk, hI, hB, hW⟩ := hrel
    rcases k with _ | j
    · have hE := hidI (bndInv_end hI)
      have b1 := hI.1
      have b2 := hI.2.1
      go_wp2_with fail
      go_ret
      exact ⟨retI (by rw [HR.out, hE.out]), hW⟩
    · have e1 : ((j + 1 : Nat) : Int) - 1 = j := by omega
      rw [e1]
      clear e1
      obtain ⟨P, hP, hP1, hP2⟩ := pow_bd j (by omega)
      have b1 := hI.1
      have b2 := hI.2.1
      have b3 : 0 ≤ n + P := by omega
      have bP : P ≤ 4611686018427387904 := by omega
      have hgo := hidI (bndInv_go hI hP b3)
      have hstay := hidI (bndInv_stay hI hP)
      have b4 : n + P ≤ 9223372036854775807 := by omega
      clear hP2 hI
      by_cases hG : n + P < 4611686018427387904
      · have dG : decide (n + P < 4611686018427387904) = true := decide_eq_true hG
        go_wp2_with fail
        go_region_held3 (fun w' => w'.cell? ⟨g, 0, none⟩ = some (.int .u64 (hiW p)) ∧ w'.cell? ⟨g, 1, none⟩ = some (.int .u64 (loW p)) ∧ Blk w' g #[.int .u64 (hiW p), .int .u64 (loW p)] 42 ∧ Below w.heap.size w w')
          (first
            | exact ⟨(((Blk.drew hB).below hb2).below hb3).c0, (((Blk.drew hB).below hb2).below hb3).c1, ((Blk.drew hB).below hb2).below hb3, ((Below.drew hW).trans (hb2.mono (Below.drew hW).size)).trans (hb3.mono ((Below.drew hW).trans (hb2.mono (Below.drew hW).size)).size)⟩
            | exact ⟨((Blk.drew hB).below hb2).c0, ((Blk.drew hB).below hb2).c1, (Blk.drew hB).below hb2, (Below.drew hW).trans (hb2.mono (Below.drew hW).size)⟩
            | exact ⟨(Blk.drew hB).c0, (Blk.drew hB).c1, Blk.drew hB, Below.drew hW⟩)
          (first
            | (go_at_call 22; refine (mul_any (n + P) 434 _ b3 b4 (by omega) (by omega)).mono ?_; rintro e w2 ⟨rfl, hb2⟩)
            | (go_at_call 23; refine (lower_any ((n + P) * 434) p _).mono ?_; rintro e w3 ⟨rfl, hb3⟩))
        rename_i hH
        obtain ⟨-, -, hB', hW'⟩ := hH
        clear hb2 hb3 hB hW w2
        by_cases hlt : (n + P) * 434 < p
        · have hD := hgo.out (by have := HF.out; omega)
          have e2 : ltB ((n + P) * 434) p = true := by unfold ltB; exact decide_eq_true hlt
          rw [e2]
          clear e2 hlt
          go_wp2_with fail
          go_roundw
          case rel => exact ⟨n + P, j, rfl, rfl, by omega, hD, hB', hW'⟩
          case measure => simp [intOf]
        · have hD := hstay.out (by have := HF.out; omega)
          have e2 : ltB ((n + P) * 434) p = false := by unfold ltB; exact decide_eq_false hlt
          rw [e2]
          clear e2 hlt
          go_wp2_with fail
          go_roundw
          case rel => exact ⟨n, j, rfl, rfl, by omega, hD, hB', hW'⟩
          case measure => simp [intOf]
      · have dG : decide (n + P < 4611686018427387904) = false := decide_eq_false hG
        have hD := hstay.out (by have := HF.out; omega)
        go_wp2_with fail
        go_quiet (fail)
        go_wp2_with fail
        go_roundw
        case rel => exact ⟨n, j, rfl, rfl, by omega, hD, Blk.drewN hB _, below_drewN hW _⟩
        case measure => simp [intOf]

set_option maxHeartbeats 400000 in
theorem refBound_bad (t m : Int) (w : World) (h : t < 0 ∨ 1099511627776 < t ∨ m < 1 ∨ 1099511627776 < m) :
    Calls Try.prog 12 #[.int .i64 t, .int .i64 m] w fun e w' => e = .returned (.int .i64 (boundF t m)) ∧ Below w.heap.size w w' := by
  have hF := hidI (boundF_bad h)
  by_cases h1 : t < 0
  · have d1 : decide (t < 0) = true := decide_eq_true h1
    clear h
    go_enter Try.func12, Try.ntmps12
    go_wp2_with fail
    go_ret
    exact ⟨retI hF.out.symm, Below.refl _ _⟩
  · have d1 : decide (t < 0) = false := decide_eq_false h1
    by_cases h2 : 1099511627776 < t
    · have d2 : decide (1099511627776 < t) = true := decide_eq_true h2
      clear h
      go_enter Try.func12, Try.ntmps12
      go_wp2_with fail
      go_ret
      exact ⟨retI hF.out.symm, Below.refl _ _⟩
    · have d2 : decide (1099511627776 < t) = false := decide_eq_false h2
      by_cases h3 : m < 1
      · have d3 : decide (m < 1) = true := decide_eq_true h3
        clear h
        go_enter Try.func12, Try.ntmps12
        go_wp2_with fail
        go_ret
        exact ⟨retI hF.out.symm, Below.refl _ _⟩
      · have d3 : decide (m < 1) = false := decide_eq_false h3
        have h4 : 1099511627776 < m := by omega
        have d4 : decide (1099511627776 < m) = true := decide_eq_true h4
        clear h
        go_enter Try.func12, Try.ntmps12
        go_wp2_with fail
        go_ret
        exact ⟨retI hF.out.symm, Below.refl _ _⟩

theorem refBound_any (t m : Int) (w : World) :
    Calls Try.prog 12 #[.int .i64 t, .int .i64 m] w fun e w' => e = .returned (.int .i64 (boundF t m)) ∧ Below w.heap.size w w' := by
  by_cases h : t < 0 ∨ 1099511627776 < t ∨ m < 1 ∨ 1099511627776 < m
  · exact refBound_bad t m w h
  · exact refBound_good t m w (by omega) (by omega) (by omega) (by omega)

end Go.Proofs.Ytbmbofccmmplkaa
