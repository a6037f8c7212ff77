/- The walk of bellwetherref09.MulDiv (times 434, of what a level wants). Conditions: the numbers' bounds. -/
import Derived.Test.YtbmbofccmmplkaaMul
import Derived.Deep.RegionHeld3
import Derived.Deep.QuietTactic
import Derived.BigQuiet
namespace Go.Proofs.Ytbmbofccmmplkaa
open Go.RowKit

/-- what the loop keeps: the quotient lies in n .. n + 2^k - 1 -/
def DivInv (p c n : Int) (k : Nat) : Prop := 0 ≤ n ∧ n ≤ 562949953421312 ∧ n * c ≤ p ∧ p < (n + 2 ^ k) * c ∧ n + 2 ^ k ≤ 9223372036854775808

theorem divInv_start {p c : Int} (hp : 0 ≤ p) (hc : 1 ≤ c) (hp1 : p ≤ 477188048781344) : DivInv p c 0 63 := by
  unfold DivInv
  have e : ((0 : Int) + 2 ^ 63) = 9223372036854775808 := rfl
  rw [e]
  refine ⟨by omega, by omega, by omega, by omega, by omega⟩

/-- a power of two below 2^63 -/
theorem pow_bd (j : Nat) (h : j ≤ 62) : ∃ P : Int, (2 : Int) ^ j = P ∧ 1 ≤ P ∧ (P = 4611686018427387904 ∨ P ≤ 2305843009213693952) := by
  refine ⟨(2 : Int) ^ j, rfl, ?_, ?_⟩
  · have : (0 : Int) < 2 ^ j := Int.pow_pos (by omega)
    omega
  · by_cases h2 : j = 62
    · subst h2; exact Or.inl rfl
    · have h3 : (2 : Nat) ^ j ≤ 2 ^ 61 := Nat.pow_le_pow_right (by omega) (by omega)
      have e : ((2 ^ j : Nat) : Int) = (2 : Int) ^ j := by rw [Int.natCast_pow]; rfl
      have e2 : (2 : Nat) ^ 61 = 2305843009213693952 := rfl
      rw [e2] at h3
      exact Or.inr (by omega)

theorem divInv_room {p c n P : Int} {j : Nat} (h : DivInv p c n (j + 1)) (hP : (2 : Int) ^ j = P) (h1 : 1 ≤ P) (h2 : P = 4611686018427387904 ∨ P ≤ 2305843009213693952) :
    0 ≤ n + P ∧ n + P ≤ 4611686018427387904 ∧ 0 ≤ n ∧ n ≤ 562949953421312 := by
  obtain ⟨a1, a2, -, -, a5⟩ := h
  rw [Int.pow_succ, hP] at a5
  omega
theorem divInv_stay {p c n P : Int} {j : Nat} (h : DivInv p c n (j + 1)) (hP : (2 : Int) ^ j = P) (hlt : p < c * (n + P)) : DivInv p c n j := by
  obtain ⟨a1, a2, a3, a4, a5⟩ := h
  rw [Int.pow_succ, hP] at a5
  unfold DivInv
  rw [hP]
  refine ⟨a1, a2, a3, by rw [Int.mul_comm]; exact hlt, by omega⟩
theorem divInv_go {p c n P : Int} {j : Nat} (h : DivInv p c n (j + 1)) (hc : 1 ≤ c) (hp1 : p ≤ 477188048781344) (hP : (2 : Int) ^ j = P) (h1 : 1 ≤ P) (hge : c * (n + P) ≤ p) : DivInv p c (n + P) j := by
  obtain ⟨a1, a2, a3, a4, a5⟩ := h
  rw [Int.pow_succ, hP] at a4 a5
  unfold DivInv
  rw [hP]
  have : n + P ≤ c * (n + P) := by
    have := Int.mul_le_mul_of_nonneg_right hc (show (0 : Int) ≤ n + P by omega)
    omega
  have e : n + P + P = n + P * 2 := by omega
  refine ⟨by omega, by omega, by rw [Int.mul_comm]; exact hge, by rw [e]; exact a4, by omega⟩
theorem divInv_end {p c n : Int} (h : DivInv p c n 0) (hc : 1 ≤ c) : p / c = n := by
  obtain ⟨-, -, a3, a4, -⟩ := h
  have e : ((n : Int) + 2 ^ 0) * c = n * c + c := by
    rw [show (2 : Int) ^ 0 = 1 from rfl, Int.add_mul, Int.one_mul]
  rw [e] at a4
  have h1 : n ≤ p / c := (Int.le_ediv_iff_mul_le (by omega)).2 a3
  have h2 : p / c < n + 1 := (Int.ediv_lt_iff_lt_mul (by omega)).2 (by rw [Int.add_mul, Int.one_mul]; exact a4)
  omega

set_option maxHeartbeats 400000 in
theorem refMulDiv_any (a c : Int) (w : World) (ha : 0 ≤ a) (ha' : a ≤ 1099511627776) (hc : 1 ≤ c) (hc' : c ≤ 9223372036854775807) :
    Calls Try.prog 17 #[.int .i64 a, .int .i64 434, .int .i64 c] w fun e w' => e = .returned (.tuple #[.int .i64 (a * 434 / c), .int .i64 0]) ∧ Below w.heap.size w w' := by
  have d1 : decide (a < 0) = false := decide_eq_false (by omega)
  have d2 : decide (c < 1) = false := decide_eq_false (by omega)
  go_enter Try.func17, Try.ntmps17
  go_wp2_with fail
  refine (mul_any a 434 _ ha (by omega) (by omega) (by omega)).mono ?_
  rintro e w1 ⟨rfl, hb⟩
  go_wp2_with fail
  have hB0 := Blk.new w1 #[.int .u64 (hiW (a * 434)), .int .u64 (loW (a * 434))] 42
  have hW0 := hb.alloc hb.size (.cells #[.int .u64 (hiW (a * 434)), .int .u64 (loW (a * 434))] 42)
  have hg := hb.size
  clear hb
  generalize w1.alloc (.cells #[.int .u64 (hiW (a * 434)), .int .u64 (loW (a * 434))] 42) = W0 at *
  generalize w1.heap.size = g at *
  clear w1
  generalize hp : a * 434 = p at *
  have HP := hidI hp
  have hp0 : 0 ≤ p := by omega
  have hp1 : p ≤ 477188048781344 := by omega
  clear hp
  have hlt : Hid (ltB p (c * 4611686018427387905) = true) := by
    unfold Hid ltB; exact decide_eq_true (by omega)
  go_region_held3 (fun w' => w'.cell? ⟨g, 0, none⟩ = some (.int .u64 (hiW p)) ∧ w'.cell? ⟨g, 1, none⟩ = some (.int .u64 (loW p)) ∧ Blk w' g #[.int .u64 (hiW p), .int .u64 (loW p)] 42 ∧ Below w.heap.size w w')
    (first
      | exact ⟨(((Blk.drew hB0).below hb2).below hb3).c0, (((Blk.drew hB0).below hb2).below hb3).c1, ((Blk.drew hB0).below hb2).below hb3, ((Below.drew hW0).trans (hb2.mono (Below.drew hW0).size)).trans (hb3.mono ((Below.drew hW0).trans (hb2.mono (Below.drew hW0).size)).size)⟩
      | exact ⟨((Blk.drew hB0).below hb2).c0, ((Blk.drew hB0).below hb2).c1, (Blk.drew hB0).below hb2, (Below.drew hW0).trans (hb2.mono (Below.drew hW0).size)⟩
      | exact ⟨(Blk.drew hB0).c0, (Blk.drew hB0).c1, Blk.drew hB0, Below.drew hW0⟩)
    (first
      | (go_at_call 22; refine (mul_any c 4611686018427387905 _ (by omega) hc' (by omega) (by omega)).mono ?_; rintro e w2 ⟨rfl, hb2⟩)
      | (go_at_call 23; refine (lower_any p (c * 4611686018427387905) _).mono ?_; rintro e w3 ⟨rfl, hb3⟩))
  rename_i hH
  obtain ⟨-, -, hB, hW⟩ := hH
  rw [hlt.out, Bool.not_true]
  clear hlt hb2 hb3 hB0 hW0 w2
  go_wp2_with fail
  go_loopw [9, 10, 11] (fun v9 v10 _ wr => ∃ (n : Int) (k : Nat), v9 = .int .i64 n ∧ v10 = .int .i64 ((k : Int) - 1) ∧ k ≤ 63 ∧ DivInv p c n k ∧ Blk wr g #[.int .u64 (hiW p), .int .u64 (loW p)] 42 ∧ Below w.heap.size w wr) (fun _ v10 _ _ => (intOf v10 + 1).toNat)
  case atStart => exact ⟨0, 63, rfl, rfl, by omega, divInv_start hp0 hc hp1, hB, hW⟩
  case round =>
    clear hB hW
    obtain ⟨n, k, rfl, rfl, hk, hI, hB, hW⟩ := hrel
    rcases k with _ | j
    · have hE := hidI (divInv_end hI hc)
      go_wp2_with fail
      go_ret2
      exact ⟨retII (by rw [HP.out, hE.out]) rfl, hW⟩
    · have e1 : ((j + 1 : Nat) : Int) - 1 = j := by omega
      rw [e1]
      clear e1
      obtain ⟨P, hP, hP1, hP2⟩ := pow_bd j (by omega)
      have hroom := divInv_room hI hP hP1 hP2
      have hstay := hidI (divInv_stay hI hP)
      have hgo := hidI (divInv_go hI hc hp1 hP hP1)
      obtain ⟨r1, r2, r3, r4⟩ := hroom
      have dG : decide (n + P ≤ 4611686018427387904) = true := decide_eq_true r2
      clear hP2 hI
      go_wp2_with fail
      go_region_held3 (fun w' => w'.cell? ⟨g, 0, none⟩ = some (.int .u64 (hiW p)) ∧ w'.cell? ⟨g, 1, none⟩ = some (.int .u64 (loW p)) ∧ Blk w' g #[.int .u64 (hiW p), .int .u64 (loW p)] 42 ∧ Below w.heap.size w w')
        (first
          | exact ⟨(((Blk.drew hB).below hb2).below hb3).c0, (((Blk.drew hB).below hb2).below hb3).c1, ((Blk.drew hB).below hb2).below hb3, ((Below.drew hW).trans (hb2.mono (Below.drew hW).size)).trans (hb3.mono ((Below.drew hW).trans (hb2.mono (Below.drew hW).size)).size)⟩
          | exact ⟨((Blk.drew hB).below hb2).c0, ((Blk.drew hB).below hb2).c1, (Blk.drew hB).below hb2, (Below.drew hW).trans (hb2.mono (Below.drew hW).size)⟩
          | exact ⟨(Blk.drew hB).c0, (Blk.drew hB).c1, Blk.drew hB, Below.drew hW⟩)
        (first
          | (go_at_call 22; refine (mul_any c (n + P) _ (by omega) hc' (by omega) (by omega)).mono ?_; rintro e w2 ⟨rfl, hb2⟩)
          | (go_at_call 23; refine (lower_any p (c * (n + P)) _).mono ?_; rintro e w3 ⟨rfl, hb3⟩))
      rename_i hH
      obtain ⟨-, -, hB', hW'⟩ := hH
      clear hb2 hb3 hB hW w2
      by_cases hlt : p < c * (n + P)
      · have hD := hstay.out hlt
        have e2 : ltB p (c * (n + P)) = true := by unfold ltB; exact decide_eq_true hlt
        rw [e2, Bool.not_true]
        clear e2 hlt
        go_wp2_with fail
        go_roundw
        case rel => exact ⟨n, j, rfl, rfl, by omega, hD, hB', hW'⟩
        case measure => simp [intOf]
      · have hD := hgo.out (by omega)
        have e2 : ltB p (c * (n + P)) = false := by unfold ltB; exact decide_eq_false hlt
        rw [e2, Bool.not_false]
        clear e2 hlt
        go_wp2_with fail
        go_roundw
        case rel => exact ⟨n + P, j, rfl, rfl, by omega, hD, hB', hW'⟩
        case measure => simp [intOf]
end Go.Proofs.Ytbmbofccmmplkaa
