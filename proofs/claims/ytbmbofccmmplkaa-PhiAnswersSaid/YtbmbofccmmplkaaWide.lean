/- The walks of the wide sum (bellwetherref09.Add), of the order of wide numbers (Below): each answers as its numbers say and changes nothing that was there. Conditions: the numbers lie between 0 and 2^127. -/
import Derived.Test.YtbmbofccmmplkaaProg
import Derived.Test.YtbmbofccmmplkaaNums
import Derived.WalkKit
import Derived.WalkSpells
import Derived.WalkLawsBesides
import Derived.Below
namespace Go.Proofs.Ytbmbofccmmplkaa
open Go.RowKit
set_option maxHeartbeats 400000 in
theorem add_carry (xh xl yh yl : Int) (w : World) (hc : IntKind.u64.wrap (xl + yl) < xl) :
    Calls Try.prog 29 #[.agg #[.int .u64 xh, .int .u64 xl], .agg #[.int .u64 yh, .int .u64 yl]] w fun e w' =>
      e = .returned (.agg #[.int .u64 (IntKind.u64.wrap (IntKind.u64.wrap (xh + yh) + 1)), .int .u64 (IntKind.u64.wrap (xl + yl))]) ∧ Below w.heap.size w w' := by
  go_enter Try.func29, Try.ntmps29
  go_wp2
  refine bodyPost_ret (v := .agg #[.int .u64 (IntKind.u64.wrap (IntKind.u64.wrap (xh + yh) + 1)), .int .u64 (IntKind.u64.wrap (xl + yl))]) (by simp [results, Try.results29, go_sem]) rfl ⟨rfl, ?_⟩
  exact (((Below.refl _ _).alloc (Nat.le_refl _) _).alloc (by simp) _).alloc (by simp; omega) _

set_option maxHeartbeats 400000 in
theorem add_plain (xh xl yh yl : Int) (w : World) (hc : ¬ IntKind.u64.wrap (xl + yl) < xl) :
    Calls Try.prog 29 #[.agg #[.int .u64 xh, .int .u64 xl], .agg #[.int .u64 yh, .int .u64 yl]] w fun e w' =>
      e = .returned (.agg #[.int .u64 (IntKind.u64.wrap (xh + yh)), .int .u64 (IntKind.u64.wrap (xl + yl))]) ∧ Below w.heap.size w w' := by
  go_enter Try.func29, Try.ntmps29
  go_wp2
  refine bodyPost_ret (v := .agg #[.int .u64 (IntKind.u64.wrap (xh + yh)), .int .u64 (IntKind.u64.wrap (xl + yl))]) (by simp [results, Try.results29, go_sem]) rfl ⟨rfl, ?_⟩
  exact (((Below.refl _ _).alloc (Nat.le_refl _) _).alloc (by simp) _).alloc (by simp; omega) _

/-- the sum of two wide numbers -/
theorem add_any (x y : Int) (w : World) (hx : Bd x) (hy : Bd y) :
    Calls Try.prog 29 #[.agg #[.int .u64 (hiW x), .int .u64 (loW x)], .agg #[.int .u64 (hiW y), .int .u64 (loW y)]] w fun e w' =>
      e = .returned (.agg #[.int .u64 (hiW (x + y)), .int .u64 (loW (x + y))]) ∧ Below w.heap.size w w' := by
  by_cases hc : IntKind.u64.wrap (loW x + loW y) < loW x
  · have := add_carry (hiW x) (loW x) (hiW y) (loW y) w hc
    rw [hi_carry hx hy hc, wrap_lo] at this
    exact this
  · have := add_plain (hiW x) (loW x) (hiW y) (loW y) w hc
    rw [hi_plain hx hy hc, wrap_lo] at this
    exact this

set_option maxHeartbeats 400000 in
theorem lower_yes (xh xl yh yl : Int) (w : World) (hc : xh < yh ∨ xh = yh ∧ xl < yl) :
    Calls Try.prog 23 #[.agg #[.int .u64 xh, .int .u64 xl], .agg #[.int .u64 yh, .int .u64 yl]] w fun e w' =>
      e = .returned (.bool true) ∧ Below w.heap.size w w' := by
  rcases hc with h | ⟨rfl, h⟩
  · go_enter Try.func23, Try.ntmps23
    go_wp2
    go_ret
    exact ⟨rfl, ((Below.refl _ _).alloc (Nat.le_refl _) _).alloc (by simp) _⟩
  · go_enter Try.func23, Try.ntmps23
    go_wp2
    go_ret
    exact ⟨rfl, ((Below.refl _ _).alloc (Nat.le_refl _) _).alloc (by simp) _⟩

set_option maxHeartbeats 400000 in
theorem lower_no (xh xl yh yl : Int) (w : World) (hc : yh < xh ∨ xh = yh ∧ yl ≤ xl) :
    Calls Try.prog 23 #[.agg #[.int .u64 xh, .int .u64 xl], .agg #[.int .u64 yh, .int .u64 yl]] w fun e w' =>
      e = .returned (.bool false) ∧ Below w.heap.size w w' := by
  rcases hc with h | ⟨rfl, h⟩
  · have h1 : (xh == yh) = false := beq_eq_false_iff_ne.2 (by omega)
    have h2 : decide (xh < yh) = false := decide_eq_false (by omega)
    go_enter Try.func23, Try.ntmps23
    go_wp2
    go_ret
    exact ⟨rfl, ((Below.refl _ _).alloc (Nat.le_refl _) _).alloc (by simp) _⟩
  · have h2 : decide (xl < yl) = false := decide_eq_false (by omega)
    go_enter Try.func23, Try.ntmps23
    go_wp2
    go_ret
    exact ⟨rfl, ((Below.refl _ _).alloc (Nat.le_refl _) _).alloc (by simp) _⟩

/-- is a wide number below another one? as a Bool that the walk does not take apart -/
def ltB (x y : Int) : Bool := decide (x < y)

/-- the order of wide numbers -/
theorem lower_any (x y : Int) (w : World) :
    Calls Try.prog 23 #[.agg #[.int .u64 (hiW x), .int .u64 (loW x)], .agg #[.int .u64 (hiW y), .int .u64 (loW y)]] w fun e w' =>
      e = .returned (.bool (ltB x y)) ∧ Below w.heap.size w w' := by
  by_cases h : x < y
  · have e : ltB x y = true := by unfold ltB; exact decide_eq_true h
    rw [e]
    have := hi_le h
    refine lower_yes _ _ _ _ w ?_
    by_cases h2 : hiW x = hiW y
    · exact Or.inr ⟨h2, (lt_iff_lo h2).1 h⟩
    · exact Or.inl (by omega)
  · have e : ltB x y = false := by unfold ltB; exact decide_eq_false h
    rw [e]
    refine lower_no _ _ _ _ w ?_
    by_cases h2 : hiW x = hiW y
    · have := lt_iff_lo h2; exact Or.inr ⟨h2, by omega⟩
    · refine Or.inl ?_
      by_cases h3 : hiW x < hiW y
      · exact absurd (lt_of_hi h3) h
      · omega

end Go.Proofs.Ytbmbofccmmplkaa
