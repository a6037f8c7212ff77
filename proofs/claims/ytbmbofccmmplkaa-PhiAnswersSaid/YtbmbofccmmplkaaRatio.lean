/- The walks of ratio.MulDiv (times 434, of what a level wants) and of ratio.Mean (of at most 16 gaps). Conditions: the numbers' bounds; the gaps lie in memory as the list says. -/
import Derived.Test.YtbmbofccmmplkaaBits
import Derived.Test.YtbmbofccmmplkaaSpec
import Derived.LoopTactic
import Derived.Laws.Externs
namespace Go.Proofs.Ytbmbofccmmplkaa
open Go.RowKit

set_option maxHeartbeats 400000 in
theorem mulDiv_any (a c : Int) (w : World) (ha : 0 ≤ a) (ha' : a ≤ 1099511627776) (hc : 1 ≤ c) (hc' : c ≤ 9223372036854775807) :
    Calls Try.prog 14 #[.int .i64 a, .int .i64 434, .int .i64 c] w fun e w' => e = .returned (.tuple #[.int .i64 (a * 434 / c), .int .i64 0]) ∧ Below w.heap.size w w' := by
  have d1 : decide (a < 0) = false := decide_eq_false (by omega)
  have d2 : decide (c < 1) = false := decide_eq_false (by omega)
  have e1 := hidI (hi_small (x := a * 434) (by omega) (by omega))
  have e2 := hidI (lo_small (x := a * 434) (by omega) (by omega))
  go_enter Try.func14, Try.ntmps14
  go_wp2_with fail
  refine (mul64_any a 434 _ ha (by omega) (by omega) (by omega)).mono ?_
  rintro e w1 ⟨rfl, rfl⟩
  rw [e1.out, e2.out]
  have b0 : 0 ≤ a * 434 := by omega
  have b1 : a * 434 ≤ 477188048781344 := by omega
  have d3 : decide (c ≤ 0) = false := decide_eq_false (by omega)
  go_wp2_with fail
  refine (div64_low (a * 434) c _ (by omega) (by omega) hc (by omega)).mono ?_
  rintro e w1 ⟨rfl, hb⟩
  have q0 : 0 ≤ a * 434 / c := Int.ediv_nonneg b0 (by omega)
  have q1 : a * 434 / c ≤ 477188048781344 := Int.le_trans (Int.ediv_le_self _ b0) b1
  generalize hq : a * 434 / c = q at *
  have HQ := hidI hq
  clear hq
  have d4 : decide (4611686018427387904 < q) = false := decide_eq_false (by omega)
  go_wp2_with fail
  go_ret2
  exact ⟨retII HQ.out.symm rfl, hb⟩

theorem add64_small (x y : Int) (w : World) (hx : 0 ≤ x) (hy : 0 ≤ y) (h : x + y ≤ 18446744073709551615) :
    (callFunc 31 #[.int .u64 x, .int .u64 y, .int .u64 0]).run Try.prog w = .ok (.value (.tuple #[.int .u64 (x + y), .int .u64 0])) w := by
  rw [run_callFunc_extern (f := 31) Try.func31 (by kernel_rfl) (by kernel_rfl) (by kernel_rfl) (e := add64Entry) (by kernel_rfl), run_add64 x y 0 hx hy (by omega) (by omega)]
  simp only [Result.andThen]
  have e1 : (x + y + 0) % 18446744073709551616 = x + y := by omega
  have e2 : (x + y + 0) / 18446744073709551616 = 0 := by omega
  rw [e1, e2]

theorem clamp_any (n : Int) (w : World) (h0 : 0 ≤ n) (h1 : n ≤ 1125899906842624) :
    Calls Try.prog 32 #[.int .i64 n, .int .i64 0, .int .i64 1125899906842624] w fun e w' => e = .returned (.int .i64 n) ∧ w = w' := by
  go_enter Try.func32, Try.ntmps32
  go_wp2_with fail
  go_ret
  exact ⟨rfl, rfl⟩

theorem sum_take_succ {l : List Int} {k : Nat} (h : k < l.length) : (l.take (k + 1)).sum = (l.take k).sum + l[k]?.getD 0 := by
  rw [List.take_add_one, List.sum_append]
  rw [List.getElem?_eq_getElem h]; simp

theorem sum_take_bd {l : List Int} (hG : ∀ i, i < l.length → 1 ≤ l[i]?.getD 0 ∧ l[i]?.getD 0 ≤ 1099511627776) :
    ∀ k, k ≤ l.length → 0 ≤ (l.take k).sum ∧ (l.take k).sum ≤ k * 1099511627776
  | 0, _ => by simp
  | k + 1, h => by
    have := sum_take_bd hG k (by omega)
    have := hG k (by omega)
    rw [sum_take_succ (by omega)]; omega

set_option maxHeartbeats 400000 in
theorem ratioMean_any (A : Option Addr) (l : List Int) (c : Nat) (w : World) (hA : Rd w A l) (hl : l.length ≤ 16) (hl0 : 0 < l.length) (hG : ∀ i, i < l.length → 1 ≤ l[i]?.getD 0 ∧ l[i]?.getD 0 ≤ 1099511627776) :
    Calls Try.prog 26 #[.slice A l.length c] w fun e w' => e = .returned (.int .i64 (l.sum / (l.length : Int))) ∧ Below w.heap.size w w' := by
  have d0 : ((l.length : Int) == 0) = false := beq_eq_false_iff_ne.2 (by omega)
  have HG := hidI hG
  clear hG
  go_enter Try.func26, Try.ntmps26
  go_wp2_with fail
  go_loop [3, 4, 6, 7, 15] (fun v3 v4 _ _ v15 => ∃ (k : Nat), v3 = .int .u64 0 ∧ v4 = .int .u64 (l.take k).sum ∧ v15 = .int .i64 k ∧ k ≤ l.length) (fun _ _ _ _ v => l.length - (intOf v).toNat)
  case atStart => exact ⟨0, rfl, by simp, rfl, by omega⟩
  case round =>
    obtain ⟨k, rfl, rfl, rfl, hk⟩ := hrel
    by_cases hlt : k < l.length
    · rcases hA with hA | ⟨b, off, rfl, hb, hc⟩
      · rw [hA] at hlt; simp at hlt
      · have hck := hc k hlt
        have hs := hidI (sum_take_succ hlt)
        have hbd := sum_take_bd HG.out k hk
        have hg := HG.out k hlt
        clear hc
        generalize l[k]?.getD 0 = g at *
        generalize hS : (l.take k).sum = S at *
        clear hS
        have hadd := add64_small S g w (by omega) (by omega) (by omega)
        go_wp2_with fail
        refine (clamp_any g _ (by omega) (by omega)).mono ?_
        rintro e w1 ⟨rfl, rfl⟩
        go_wp2_with fail
        go_round
        case rel => exact ⟨k + 1, rfl, by rw [hs.out], by go_num, by omega⟩
        case measure => simp [intOf]; omega
    · obtain rfl : k = l.length := by omega
      have hbd := sum_take_bd HG.out _ (Nat.le_refl _)
      rw [List.take_length] at *
      generalize hS : l.sum = S at *
      have HS := hidI hS
      clear hS
      go_wp2_with fail
      refine (div64_low S l.length _ (by omega) (by omega) (by omega) (by omega)).mono ?_
      rintro e w1 ⟨rfl, hb⟩
      have q0 : 0 ≤ S / (l.length : Int) := Int.ediv_nonneg hbd.1 (by omega)
      have q1 : S / (l.length : Int) ≤ 17592186044416 := Int.le_trans (Int.ediv_le_self _ hbd.1) (by omega)
      generalize hq : S / (l.length : Int) = q at *
      have HQ := hidI hq
      clear hq
      go_wp2_with fail
      go_ret
      exact ⟨retI (by rw [HS.out, HQ.out]), hb⟩
end Go.Proofs.Ytbmbofccmmplkaa
