/- The walk of the wide product (bellwetherref09.Mul): the product of its two numbers, from nothing on. -/
import Derived.Test.YtbmbofccmmplkaaWide
import Derived.Test.YtbmbofccmmplkaaBlocks
import Derived.LoopTactic
namespace Go.Proofs.Ytbmbofccmmplkaa
open Go.RowKit

/-- what the loop keeps: the sum S and the step T of what is left -/
def MulInv (a b : Int) (S T B : Int) : Prop := S + T * B = a * b ∧ Bd S ∧ Bd T

theorem mulInv_start (a b : Int) (ha : 0 ≤ a) (ha' : a ≤ 9223372036854775807) : MulInv a b 0 a b := by
  unfold MulInv Bd; refine ⟨by omega, ⟨by omega, by omega⟩, by omega, by omega⟩
theorem mul_small {a b : Int} (ha : 0 ≤ a) (ha' : a ≤ 9223372036854775807) (hb : 0 ≤ b) (hb' : b ≤ 9223372036854775807) : 0 ≤ a * b ∧ a * b ≤ 85070591730234615847396907784232501249 :=
  ⟨Int.mul_nonneg ha hb, Int.le_trans (Int.mul_le_mul ha' hb' hb (by omega)) (by omega)⟩
theorem mulInv_bd {a b S T B : Int} (h : MulInv a b S T B) (hm : 0 ≤ a * b ∧ a * b ≤ 85070591730234615847396907784232501249) (hB : 0 < B) : T ≤ 85070591730234615847396907784232501249 := by
  obtain ⟨h1, h2, h3⟩ := h
  have : T ≤ T * B := by
    have := Int.mul_le_mul_of_nonneg_left (show (1 : Int) ≤ B by omega) h3.1
    omega
  have := h2.1
  omega
theorem mulInv_odd {a b S T B : Int} (h : MulInv a b S T B) (hm : 0 ≤ a * b ∧ a * b ≤ 85070591730234615847396907784232501249) (hB : 0 < B) (ho : B % 2 = 1) : MulInv a b (S + T) (T + T) (B / 2) := by
  have hT := mulInv_bd h hm hB
  obtain ⟨h1, h2, h3⟩ := h
  have e : (T + T) * (B / 2) = T * B - T := by
    have : B = 2 * (B / 2) + 1 := by omega
    generalize B / 2 = q at *
    subst this
    rw [Int.mul_add, ← Int.mul_assoc, Int.mul_comm T 2, Int.two_mul]; omega
  have : 0 ≤ (T + T) * (B / 2) := Int.mul_nonneg (by have := h3.1; omega) (by omega)
  unfold Bd at *
  unfold MulInv Bd
  refine ⟨by omega, ⟨by omega, by omega⟩, by omega, by omega⟩
theorem mulInv_even {a b S T B : Int} (h : MulInv a b S T B) (hm : 0 ≤ a * b ∧ a * b ≤ 85070591730234615847396907784232501249) (hB : 0 < B) (ho : B % 2 = 0) : MulInv a b S (T + T) (B / 2) := by
  have hT := mulInv_bd h hm hB
  obtain ⟨h1, h2, h3⟩ := h
  have e : (T + T) * (B / 2) = T * B := by
    have : B = 2 * (B / 2) := by omega
    generalize B / 2 = q at *
    subst this
    rw [← Int.mul_assoc, Int.mul_comm T 2, Int.two_mul]
  unfold Bd at *
  unfold MulInv Bd
  refine ⟨by omega, ⟨by omega, by omega⟩, by omega, by omega⟩
theorem mulInv_end {a b S T : Int} (h : MulInv a b S T 0) : S = a * b := by
  have := h.1; omega

set_option maxHeartbeats 400000 in
theorem mul_any (a b : Int) (w : World) (ha : 0 ≤ a) (ha' : a ≤ 9223372036854775807) (hb : 0 ≤ b) (hb' : b ≤ 9223372036854775807) :
    Calls Try.prog 22 #[.int .i64 a, .int .i64 b] w fun e w' =>
      e = .returned (.agg #[.int .u64 (hiW (a * b)), .int .u64 (loW (a * b))]) ∧ Below w.heap.size w w' := by
  have hM := hidI (mul_small ha ha' hb hb')
  go_enter Try.func22, Try.ntmps22
  go_wp2_with fail
  go_loopw [1] (fun v wr => ∃ S T B : Int, v = .int .i64 B ∧ 0 ≤ B ∧ B ≤ 9223372036854775807 ∧ MulInv a b S T B ∧ Blk wr w.heap.size #[.int .u64 0, .int .u64 0] 42 ∧ Blk wr (w.heap.size + 1) #[.int .u64 (hiW S), .int .u64 (loW S)] 42 ∧ Blk wr (w.heap.size + 1 + 1) #[.int .u64 (hiW T), .int .u64 (loW T)] 42 ∧ Below w.heap.size w wr) (fun v _ => (intOf v).toNat)
  case atStart =>
    refine ⟨0, a, b, rfl, hb, hb', mulInv_start a b ha ha', ((Blk.new _ _ _).alloc _).alloc _, ?_, ?_, (((Below.refl _ _).alloc (Nat.le_refl _) _).alloc (by simp) _).alloc (by simp; omega) _⟩
    · have := (Blk.new (w.alloc (.cells #[.int .u64 0, .int .u64 0] 42)) #[.int .u64 0, .int .u64 0] 42).alloc (.cells #[.int .u64 0, .int .u64 a] 42)
      simpa [hiW, loW] using this
    · have := Blk.new ((w.alloc (.cells #[.int .u64 0, .int .u64 0] 42)).alloc (.cells #[.int .u64 0, .int .u64 0] 42)) #[.int .u64 0, .int .u64 a] 42
      rw [hi_small ha (by omega), lo_small ha (by omega)]
      simpa using this
  case round =>
    obtain ⟨S, T, B, rfl, hB0, hB1, hI, h4, h5, h6, hbel⟩ := hrel
    have c50 := h5.c0
    have c51 := h5.c1
    have c60 := h6.c0
    have c61 := h6.c1
    have f50 := h5.free 0
    have f51 := h5.free 1
    have f60 := h6.free 0
    have f61 := h6.free 1
    by_cases hB : 0 < B
    · by_cases ho : B % 2 = 1
      · have hI' := mulInv_odd hI hM.out hB ho
        go_wp2_with fail
        refine (add_any S T _ hI.2.1 hI.2.2).mono ?_
        rintro e w1 ⟨rfl, hb1⟩
        have k4 := h4.below hb1
        have k5 := h5.below hb1
        have k6 := h6.below hb1
        have hz := hbel.trans (hb1.mono hbel.size)
        clear c50 c51 c60 c61 f50 f51 f60 f61 h4 h5 h6 hbel hb1
        have c50 := k5.c0
        have c51 := k5.c1
        have c60 := k6.c0
        have c61 := k6.c1
        have f50 := k5.free 0
        have f51 := k5.free 1
        have f60 := k6.free 0
        have f61 := k6.free 1
        go_wp2_with fail
        refine (add_any T T _ hI.2.2 hI.2.2).mono ?_
        rintro e w2 ⟨rfl, hb2⟩
        have j4 := ((k4.other (a := ⟨w.heap.size + 1, 0, none⟩) (by simp) (.int .u64 (hiW (S + T)))).other (a := ⟨w.heap.size + 1, 1, none⟩) (by simp) (.int .u64 (loW (S + T)))).below hb2
        have j5 := (k5.put2 (.int .u64 (hiW (S + T))) (.int .u64 (loW (S + T)))).below hb2
        have j6 := ((k6.other (a := ⟨w.heap.size + 1, 0, none⟩) (by simp) (.int .u64 (hiW (S + T)))).other (a := ⟨w.heap.size + 1, 1, none⟩) (by simp) (.int .u64 (loW (S + T)))).below hb2
        have hz2 := ((hz.setCell (p := ⟨w.heap.size + 1, 0, none⟩) (by simp) (.int .u64 (hiW (S + T)))).setCell (p := ⟨w.heap.size + 1, 1, none⟩) (by simp) (.int .u64 (loW (S + T)))).trans (hb2.mono (by simp; exact hz.size))
        clear c50 c51 c60 c61 f50 f51 f60 f61 k4 k5 k6 hz hb2
        have c60 := j6.c0
        have c61 := j6.c1
        have f60 := j6.free 0
        have f61 := j6.free 1
        go_wp2_with fail
        go_roundw
        case rel => exact ⟨S + T, T + T, B / 2, rfl, by omega, by omega, hI', (j4.other (by simp; omega) _).other (by simp; omega) _, (j5.other (by simp) _).other (by simp) _, j6.put2 _ _, (hz2.setCell (by simp; omega) _).setCell (by simp; omega) _⟩
        case measure => simp [intOf]; omega
      · have ho' : B % 2 = 0 := by omega
        have hI' := mulInv_even hI hM.out hB ho'
        clear ho
        go_wp2_with fail
        refine (add_any T T _ hI.2.2 hI.2.2).mono ?_
        rintro e w2 ⟨rfl, hb2⟩
        have j4 := h4.below hb2
        have j5 := h5.below hb2
        have j6 := h6.below hb2
        have hz2 := hbel.trans (hb2.mono hbel.size)
        clear c50 c51 c60 c61 f50 f51 f60 f61 h4 h5 h6 hbel hb2
        have c60 := j6.c0
        have c61 := j6.c1
        have f60 := j6.free 0
        have f61 := j6.free 1
        go_wp2_with fail
        go_roundw
        case rel => exact ⟨S, T + T, B / 2, rfl, by omega, by omega, hI', (j4.other (by simp; omega) _).other (by simp; omega) _, (j5.other (by simp) _).other (by simp) _, j6.put2 _ _, (hz2.setCell (by simp; omega) _).setCell (by simp; omega) _⟩
        case measure => simp [intOf]; omega
    · obtain rfl : B = 0 := by omega
      have hE := hidI (mulInv_end hI)
      have c40 := h4.c0
      have c41 := h4.c1
      have f40 := h4.free 0
      have f41 := h4.free 1
      go_wp2_with fail
      have r4 := h4.put2 (.int .u64 (hiW S)) (.int .u64 (loW S))
      refine bodyPost_ret (v := .agg #[.int .u64 (hiW S), .int .u64 (loW S)]) (by simp [results, Try.results22, go_sem, r4.c0, r4.c1]) rfl ⟨by rw [hE.out], ?_⟩
      exact (hbel.setCell (by simp) _).setCell (by simp) _
end Go.Proofs.Ytbmbofccmmplkaa
