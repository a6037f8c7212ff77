/- The walks of math/bits' Mul64, and of Div64 where the high half is nothing, or the divisor is 434: the halves of the product, the quotient and the rest. Conditions: the halves' bounds. -/
import Derived.Test.YtbmbofccmmplkaaProg
import Derived.Test.YtbmbofccmmplkaaNums
import Derived.Test.YtbmbofccmmplkaaBlocks
import Derived.WalkKit
import Derived.WalkSpells
import Derived.WalkLawsBesides
import Derived.Laws.Bits64b
import Derived.Deep.QuietTactic
import Derived.BigQuiet
import Derived.LoopN
namespace Go.Proofs.Ytbmbofccmmplkaa
open Go.RowKit

/-- the low 32 bits of a number -/
theorem mask_eq (x : Int) (h0 : 0 ≤ x) (h1 : x ≤ 18446744073709551615) : bits .and .u64 x 4294967295 = x % 4294967296 := by
  obtain ⟨n, rfl⟩ := Int.eq_ofNat_of_zero_le h0
  have h := bits_and_u64_nat n 4294967295 (by omega) (by omega)
  have e : n &&& 4294967295 = n % 2 ^ 32 := Nat.and_two_pow_sub_one_eq_mod n 32
  rw [e] at h
  exact h

/-- a product of two numbers of 32 bits -/
theorem half_prod {a b : Int} (ha : 0 ≤ a) (ha' : a ≤ 4294967295) (hb : 0 ≤ b) (hb' : b ≤ 4294967295) : 0 ≤ a * b ∧ a * b ≤ 18446744065119617025 :=
  ⟨Int.mul_nonneg ha hb, Int.le_trans (Int.mul_le_mul ha' hb' hb (by omega)) (by omega)⟩

/-- a product out of the four products of its halves -/
theorem prod_split {x y a b c d : Int} (hx : x = a * 4294967296 + b) (hy : y = c * 4294967296 + d) :
    x * y = a * c * 18446744073709551616 + (a * d + b * c) * 4294967296 + b * d := by
  subst hx hy
  rw [Int.add_mul, Int.mul_add, Int.mul_add]
  have e1 : a * 4294967296 * (c * 4294967296) = a * c * 18446744073709551616 := by
    rw [Int.mul_assoc, Int.mul_left_comm 4294967296 c, ← Int.mul_assoc a c]; rfl
  have e2 : a * 4294967296 * d = a * d * 4294967296 := by rw [Int.mul_assoc, Int.mul_comm 4294967296 d, ← Int.mul_assoc]
  have e3 : b * (c * 4294967296) = b * c * 4294967296 := by rw [Int.mul_assoc]
  rw [e1, e2, e3]; omega

set_option maxHeartbeats 1000000 in
/-- the two halves of a product -/
theorem mul64_any (x y : Int) (w : World) (hx : 0 ≤ x) (hx' : x ≤ 18446744073709551615) (hy : 0 ≤ y) (hy' : y ≤ 18446744073709551615) :
    Calls Try.prog 20 #[.int .u64 x, .int .u64 y] w fun e w' => e = .returned (.tuple #[.int .u64 (hiW (x * y)), .int .u64 (loW (x * y))]) ∧ w = w' := by
  have ex := mask_eq x hx hx'
  have ey := mask_eq y hy hy'
  have hs := prod_split (x := x) (y := y) (a := x / 4294967296) (b := x % 4294967296) (c := y / 4294967296) (d := y % 4294967296) (by omega) (by omega)
  have ba : 0 ≤ x / 4294967296 ∧ x / 4294967296 ≤ 4294967295 := by omega
  have bb : 0 ≤ x % 4294967296 ∧ x % 4294967296 ≤ 4294967295 := by omega
  have bc : 0 ≤ y / 4294967296 ∧ y / 4294967296 ≤ 4294967295 := by omega
  have bd : 0 ≤ y % 4294967296 ∧ y % 4294967296 ≤ 4294967295 := by omega
  generalize ha : x / 4294967296 = a at *
  generalize x % 4294967296 = b at *
  generalize hc : y / 4294967296 = c at *
  generalize y % 4294967296 = d at *
  obtain ⟨u0, u1⟩ := half_prod ba.1 ba.2 bc.1 bc.2
  obtain ⟨v0, v1⟩ := half_prod ba.1 ba.2 bd.1 bd.2
  obtain ⟨r0, r1⟩ := half_prod bb.1 bb.2 bc.1 bc.2
  obtain ⟨z0, z1⟩ := half_prod bb.1 bb.2 bd.1 bd.2
  generalize hp11 : a * c = p11 at *
  generalize hp10 : a * d = p10 at *
  generalize hp01 : b * c = p01 at *
  generalize hp00 : b * d = p00 at *
  have et := mask_eq (p10 + p00 / 4294967296) (by omega) (by omega)
  have hh : Hid (hiW (x * y) = p11 + (p10 + p00 / 4294967296) / 4294967296 + ((p10 + p00 / 4294967296) % 4294967296 + p01) / 4294967296) := by
    unfold Hid hiW; rw [hs]; omega
  have el : IntKind.u64.wrap (x * y) = loW (x * y) := by rw [IntKind.wrap_u64]; rfl
  clear hs
  go_enter Try.func20, Try.ntmps20
  go_wp2
  go_ret2
  exact ⟨retII hh.out.symm rfl, rfl⟩

/-- the high half is nothing -/
theorem div64_low (x y : Int) (w : World) (hx : 0 ≤ x) (hx' : x ≤ 18446744073709551615) (hy : 1 ≤ y) (hy' : y ≤ 18446744073709551615) :
    Calls Try.prog 21 #[.int .u64 0, .int .u64 x, .int .u64 y] w fun e w' => e = .returned (.tuple #[.int .u64 (x / y), .int .u64 (x % y)]) ∧ Below w.heap.size w w' := by
  have h1 : (y == 0) = false := beq_eq_false_iff_ne.2 (by omega)
  have h2 : decide (y ≤ 0) = false := decide_eq_false (by omega)
  go_enter Try.func21, Try.ntmps21
  go_wp2
  go_quiet (fail)
  go_wp2
  go_ret2
  exact ⟨rfl, below_drewN (Below.refl _ _) _⟩

set_option maxRecDepth 100000 in
set_option maxHeartbeats 1000000 in
theorem len434 (w : World) :
    Calls Try.prog 33 #[.int .u64 434] w fun e w' => e = .returned (.int .i64 9) ∧ w = w' := by
  go_enter Try.func33, Try.ntmps33
  go_wp2
  go_ret
  exact ⟨retI (by decide +kernel), rfl⟩

set_option maxHeartbeats 400000 in
theorem lead434 (w : World) :
    Calls Try.prog 28 #[.int .u64 434] w fun e w' => e = .returned (.int .i64 55) ∧ w = w' := by
  go_enter Try.func28, Try.ntmps28
  go_wp2_with fail
  refine (len434 _).mono ?_
  rintro e w1 ⟨rfl, rfl⟩
  go_wp2_with fail
  go_ret
  exact ⟨rfl, rfl⟩

theorem or434 (h x : Int) (hh : 0 ≤ h) (hh' : h ≤ 433) (hx : 0 ≤ x) (hx' : x ≤ 18446744073709551615) :
    bits .or .u64 (h * 36028797018963968) (x / 512) = h * 36028797018963968 + x / 512 := by
  obtain ⟨n, rfl⟩ := Int.eq_ofNat_of_zero_le hh
  obtain ⟨m, rfl⟩ := Int.eq_ofNat_of_zero_le hx
  have e := bits_or_u64_nat (n * 36028797018963968) (m / 512) (by omega) (by omega)
  have e2 := Nat.shiftLeft_add_eq_or_of_lt (b := m / 512) (i := 55) (by omega) n
  rw [Nat.shiftLeft_eq, show (2 : Nat) ^ 55 = 36028797018963968 from rfl] at e2
  rw [← e2] at e
  have a1 : ((n * 36028797018963968 : Nat) : Int) = (n : Int) * 36028797018963968 := by omega
  have a2 : ((m / 512 : Nat) : Int) = (m : Int) / 512 := by omega
  rw [Int.natCast_add, a1, a2] at e
  exact e

theorem and0b (q : Int) (h : 0 ≤ q) (h' : q ≤ 511) : bits .and .u64 (q * 36028797018963968) 4294967295 = 0 := by
  rw [mask_eq (q * 36028797018963968) (by omega) (by omega)]; omega

theorem and0a : bits .and .u64 15636497906230362112 4294967295 = 0 := by
  have h := and0b 434 (by omega) (by omega)
  rw [show (434 : Int) * 36028797018963968 = 15636497906230362112 from by omega] at h
  exact h

theorem shl55 (x : Int) : IntKind.u64.wrap (x * 36028797018963968) = x % 512 * 36028797018963968 := by
  rw [IntKind.wrap_u64]; omega

/-- the second digit's dividend -/
theorem rest1 (U V : Int) (v0 : 0 ≤ V) (v1 : V ≤ 511) :
    IntKind.u64.wrap (IntKind.u64.wrap (IntKind.u64.wrap (U * 4294967296) + V * 36028797018963968 / 4294967296) - IntKind.u64.wrap (U / 3640655872 * 15636497906230362112))
      = U % 3640655872 * 4294967296 + V * 8388608 := by
  rw [IntKind.wrap_u64, IntKind.wrap_u64, IntKind.wrap_u64, IntKind.wrap_u64]; omega
theorem rest2 (R : Int) :
    IntKind.u64.wrap (IntKind.u64.wrap (IntKind.u64.wrap (R * 4294967296)) - IntKind.u64.wrap (R / 3640655872 * 15636497906230362112)) = R % 3640655872 * 4294967296 := by
  rw [IntKind.wrap_u64, IntKind.wrap_u64, IntKind.wrap_u64, IntKind.wrap_u64]; omega
theorem quo434 {h x U V R : Int} (hU : h * 36028797018963968 + x / 512 = U) (hV : x % 512 = V) (hR : U % 3640655872 * 4294967296 + V * 8388608 = R) :
    U / 3640655872 * 4294967296 + R / 3640655872 = (h * 18446744073709551616 + x) / 434 := by omega
theorem rem434 {h x U V R : Int} (hU : h * 36028797018963968 + x / 512 = U) (hV : x % 512 = V) (hR : U % 3640655872 * 4294967296 + V * 8388608 = R) :
    R % 3640655872 * 4294967296 / 36028797018963968 = (h * 18446744073709551616 + x) % 434 := by omega

set_option maxRecDepth 100000 in
set_option maxHeartbeats 1000000 in
theorem div434 (h x : Int) (w : World) (hh : 1 ≤ h) (hh' : h ≤ 433) (hx : 0 ≤ x) (hx' : x ≤ 18446744073709551615) :
    Calls Try.prog 21 #[.int .u64 h, .int .u64 x, .int .u64 434] w fun e w' => e = .returned (.tuple #[.int .u64 ((h * 18446744073709551616 + x) / 434), .int .u64 ((h * 18446744073709551616 + x) % 434)]) ∧ w = w' := by
  have h1 : decide (434 ≤ h) = false := decide_eq_false (by omega)
  have h2 : (h == 0) = false := beq_eq_false_iff_ne.2 (by omega)
  have eO := or434 h x (by omega) hh' hx hx'
  have eS := shl55 x
  have e0 := and0b (x % 512) (by omega) (by omega)
  have e00 := and0a
  have bU : 0 ≤ h * 36028797018963968 + x / 512 ∧ h * 36028797018963968 + x / 512 ≤ 15636497906230362111 := by omega
  have bV : 0 ≤ x % 512 ∧ x % 512 ≤ 511 := by omega
  have eR := rest1 (h * 36028797018963968 + x / 512) (x % 512) bV.1 bV.2
  have bR : 0 ≤ (h * 36028797018963968 + x / 512) % 3640655872 * 4294967296 + x % 512 * 8388608 ∧ (h * 36028797018963968 + x / 512) % 3640655872 * 4294967296 + x % 512 * 8388608 ≤ 15636497906230362111 := by omega
  have eT := rest2 ((h * 36028797018963968 + x / 512) % 3640655872 * 4294967296 + x % 512 * 8388608)
  have hQ := hidI (quo434 (h := h) (x := x) rfl rfl rfl)
  have hM := hidI (rem434 (h := h) (x := x) rfl rfl rfl)
  generalize h * 36028797018963968 + x / 512 = U at *
  generalize x % 512 = V at *
  generalize U % 3640655872 * 4294967296 + V * 8388608 = R at *
  obtain ⟨bU0, bU1⟩ := bU
  obtain ⟨bV0, bV1⟩ := bV
  obtain ⟨bR0, bR1⟩ := bR
  go_enter Try.func21, Try.ntmps21
  go_wp2_with fail
  refine (lead434 _).mono ?_
  rintro e w1 ⟨rfl, rfl⟩
  go_wp2_with fail
  refine wp_loop_rounds 1 ?_
  rw [rounds_succ]
  go_wp2_with fail
  refine wp_loop_rounds 1 ?_
  rw [rounds_succ]
  go_wp2_with fail
  go_ret2
  exact ⟨retII hQ.out hM.out, rfl⟩
end Go.Proofs.Ytbmbofccmmplkaa
