/- The walks of bellwetherref09.Mean and bellwetherref10.Mean: the mean of a window that may be. Conditions: the gaps lie in memory as the list says, and may be. -/
import Derived.Test.YtbmbofccmmplkaaRefMulDiv
import Derived.Test.YtbmbofccmmplkaaRatio
import Derived.StillTailTactics
namespace Go.Proofs.Ytbmbofccmmplkaa
open Go.RowKit

theorem add_small (x g : Int) (w : World) (hx : Bd x) (h0 : 0 ≤ g) (h1 : g ≤ 18446744073709551615) :
    Calls Try.prog 29 #[.agg #[.int .u64 (hiW x), .int .u64 (loW x)], .agg #[.int .u64 0, .int .u64 g]] w fun e w' =>
      e = .returned (.agg #[.int .u64 (hiW (x + g)), .int .u64 (loW (x + g))]) ∧ Below w.heap.size w w' := by
  have h := add_any x g w hx (by unfold Bd; omega)
  rw [hi_small h0 h1, lo_small h0 h1] at h
  exact h

set_option maxHeartbeats 400000 in
theorem refMeanList_any (A : Option Addr) (l : List Int) (c : Nat) (w : World) (hA : Rd w A l) (hl : l.length ≤ 16) (hl0 : 0 < l.length) (hG : ∀ i, i < l.length → 1 ≤ l[i]?.getD 0 ∧ l[i]?.getD 0 ≤ 1099511627776) :
    Calls Try.prog 27 #[.slice A l.length c] w fun e w' => e = .returned (.int .i64 (l.sum / (l.length : Int))) ∧ Below w.heap.size w w' := by
  have d0 : ((l.length : Int) == 0) = false := beq_eq_false_iff_ne.2 (by omega)
  have HG := hidI hG
  clear hG
  rcases hA with hA | ⟨b, off, rfl, hb, hc⟩
  · rw [hA] at hl0; simp at hl0
  have HC := hidI hc
  clear hc
  go_enter Try.func27, Try.ntmps27
  go_wp2_with fail
  go_loopw [4] (fun v4 wr => ∃ (k : Nat), v4 = .int .i64 k ∧ k ≤ l.length ∧ Blk wr w.heap.size #[.int .u64 (hiW (l.take k).sum), .int .u64 (loW (l.take k).sum)] 42 ∧ Below w.heap.size w wr) (fun v4 _ => l.length - (intOf v4).toNat)
  case atStart => 
    refine ⟨0, rfl, by omega, Blk.new _ _ _, (Below.refl _ _).alloc (Nat.le_refl _) _⟩
  case round =>
    obtain ⟨k, rfl, hk, hB, hW⟩ := hrel
    by_cases hlt : k < l.length
    · have hck := HC.out k hlt
      rw [← hW.cell (p := ⟨b, off + k, none⟩) hb] at hck
      have hs := hidI (sum_take_succ hlt)
      have hbd := sum_take_bd HG.out k hk
      have hg := HG.out k hlt
      generalize l[k]?.getD 0 = g at *
      generalize hS : (l.take k).sum = S at *
      clear hS
      go_wp2_with fail
      have i0 : (0 : Int) ≤ (k : Int) := by omega
      have i1 : (k : Int) < (l.length : Int) := by omega
      obtain ⟨g1, g2⟩ := hg
      have c0 := hB.c0
      have c1 := hB.c1
      go_still_tail 9, (by kernel_rfl)
      have m1 : (if g < 0 then (0 : Int) else g) = g := if_neg (by omega)
      have m2 : (if 1125899906842624 < g then (1125899906842624 : Int) else g) = g := if_neg (by omega)
      have m3 : IntKind.u64.wrap g = g := IntWalk.u64_in g (by omega)
      simp only [m1, m2, m3]
      clear m1 m2 m3 c0 c1
      change wpList _ _ _ _ _ wr.drew
      have hB' := hB.drew
      have hW' := hW.drew
      clear hB hW hck
      generalize wr.drew = W at *
      go_wp2_with fail
      refine (add_small S g _ (by unfold Bd; omega) (by omega) (by omega)).mono ?_
      rintro e w1 ⟨rfl, hb1⟩
      have k3 := hB'.below hb1
      have hz := hW'.trans (hb1.mono hW'.size)
      clear hB' hW' hb1
      have c0 := k3.c0
      have c1 := k3.c1
      have f0 := k3.free 0
      have f1 := k3.free 1
      go_wp2_with fail
      go_roundw
      case rel => exact ⟨k + 1, by go_num, by omega, by rw [hs.out]; exact k3.put2 _ _, (hz.setCell (by simp) _).setCell (by simp) _⟩
      case measure => simp [intOf]; omega
    · obtain rfl : k = l.length := by omega
      have hbd := sum_take_bd HG.out _ (Nat.le_refl _)
      rw [List.take_length] at *
      generalize hS : l.sum = S at *
      have HS := hidI hS
      clear hS
      go_wp2_with fail
      obtain ⟨wo, rfl⟩ : ∃ wo : World, wo = wr := ⟨_, rfl⟩
      have L1 : (1 : Int) ≤ (l.length : Int) := by omega
      have L2 : (l.length : Int) ≤ 16 := by omega
      have hS0 := hbd.1
      have hS1 : S ≤ 17592186044416 := by omega
      have hst : DivInv S l.length 0 51 := by
        unfold DivInv
        have e : ((0 : Int) + 2 ^ 51) = 2251799813685248 := rfl
        rw [e]
        exact ⟨by omega, by omega, by omega, by omega, by omega⟩
      clear hbd d0
      go_loopw [5, 6, 7] (fun v5 v6 _ wr => ∃ (n : Int) (k : Nat), v5 = .int .i64 n ∧ v6 = .int .i64 ((k : Int) - 1) ∧ k ≤ 63 ∧ DivInv S l.length n k ∧ Blk wr w.heap.size #[.int .u64 (hiW S), .int .u64 (loW S)] 42 ∧ Below w.heap.size w wr) (fun _ v6 _ _ => (intOf v6 + 1).toNat)
      case atStart => exact ⟨0, 51, rfl, rfl, by omega, hst, hB, hW⟩
      case round =>
        clear hB hW hst
        obtain ⟨n, k, rfl, rfl, hk, hI, hB, hW⟩ := hrel
        rcases k with _ | j
        · have hE := hidI (divInv_end hI L1)
          go_wp2_with fail
          go_ret
          exact ⟨retI (by rw [HS.out, hE.out]), hW⟩
        · have e1 : ((j + 1 : Nat) : Int) - 1 = j := by omega
          rw [e1]
          clear e1
          obtain ⟨P, hP, hP1, hP2⟩ := pow_bd j (by omega)
          have hroom := divInv_room hI hP hP1 hP2
          have hstay := hidI (divInv_stay hI hP)
          have hgo := hidI (divInv_go hI L1 (by omega) hP hP1)
          obtain ⟨r1, r2, r3, r4⟩ := hroom
          clear hP2 hI
          go_wp2_with fail
          go_region_held3 (fun w' => w'.cell? ⟨w.heap.size, 0, none⟩ = some (.int .u64 (hiW S)) ∧ w'.cell? ⟨w.heap.size, 1, none⟩ = some (.int .u64 (loW S)) ∧ Blk w' w.heap.size #[.int .u64 (hiW S), .int .u64 (loW S)] 42 ∧ Below w.heap.size w w')
            (first
              | exact ⟨(((Blk.drew hB).below hb2).below hb3).c0, (((Blk.drew hB).below hb2).below hb3).c1, ((Blk.drew hB).below hb2).below hb3, ((Below.drew hW).trans (hb2.mono (Below.drew hW).size)).trans (hb3.mono ((Below.drew hW).trans (hb2.mono (Below.drew hW).size)).size)⟩
              | exact ⟨((Blk.drew hB).below hb2).c0, ((Blk.drew hB).below hb2).c1, (Blk.drew hB).below hb2, (Below.drew hW).trans (hb2.mono (Below.drew hW).size)⟩
              | exact ⟨(Blk.drew hB).c0, (Blk.drew hB).c1, Blk.drew hB, Below.drew hW⟩)
            (first
              | (go_at_call 22; refine (mul_any l.length (n + P) _ (by omega) (by omega) (by omega) (by omega)).mono ?_; rintro e w2 ⟨rfl, hb2⟩)
              | (go_at_call 23; refine (lower_any S ((l.length : Int) * (n + P)) _).mono ?_; rintro e w3 ⟨rfl, hb3⟩))
          rename_i hH
          obtain ⟨-, -, hB', hW'⟩ := hH
          clear hb2 hb3 hB hW w2
          by_cases hlt : S < (l.length : Int) * (n + P)
          · have hD := hstay.out hlt
            have e2 : ltB S ((l.length : Int) * (n + P)) = true := by unfold ltB; exact decide_eq_true hlt
            rw [e2, Bool.not_true]
            clear e2 hlt
            go_wp2_with fail
            go_roundw
            case rel => exact ⟨n, j, rfl, rfl, by omega, hD, hB', hW'⟩
            case measure => simp [intOf]
          · have hD := hgo.out (by omega)
            have e2 : ltB S ((l.length : Int) * (n + P)) = false := by unfold ltB; exact decide_eq_false hlt
            rw [e2, Bool.not_false]
            clear e2 hlt
            go_wp2_with fail
            go_roundw
            case rel => exact ⟨n + P, j, rfl, rfl, by omega, hD, hB', hW'⟩
            case measure => simp [intOf]

set_option maxHeartbeats 400000 in
theorem refMean_any (last boot : Int) (A : Option Addr) (l : List Int) (c : Nat) (w : World) (hA : Rd w A l) (hR : rightB last l = true) :
    Calls Try.prog 18 #[.agg #[.int .i64 last, .slice A l.length c], .int .i64 boot] w fun e w' => e = .returned (.int .i64 (meanF l boot)) ∧ Below w.heap.size w w' := by
  obtain ⟨-, -, hl, hG⟩ := rightB_true hR
  have HG := hidI hG
  clear hG hR
  by_cases h0 : l = []
  · subst h0
    have hM : Hid (meanF [] boot = max 1 boot) := by unfold Hid meanF; rw [if_pos rfl]
    simp only [List.length_nil]
    go_enter Try.func18, Try.ntmps18
    go_wp2_with fail
    all_goals
      go_ret
      exact ⟨retI (by rw [hM.out]; omega), (Below.refl _ _).alloc (Nat.le_refl _) _⟩
  · have hM : Hid (meanF l boot = max 1 (l.sum / (l.length : Int))) := by unfold Hid meanF; rw [if_neg h0]
    have hl0 : 0 < l.length := List.length_pos_iff.2 h0
    have d0 : ((l.length : Int) == 0) = false := beq_eq_false_iff_ne.2 (by omega)
    clear h0
    go_enter Try.func18, Try.ntmps18
    go_wp2_with fail
    refine (refMeanList_any A l c _ (hA.alloc _) hl hl0 HG.out).mono ?_
    rintro e w1 ⟨rfl, hb⟩
    generalize l.sum / (l.length : Int) = q at *
    go_wp2_with fail
    all_goals
      go_ret
      exact ⟨retI (by rw [hM.out]; omega), ((Below.refl _ _).alloc (Nat.le_refl _) _).trans (hb.mono (by simp))⟩

end Go.Proofs.Ytbmbofccmmplkaa
