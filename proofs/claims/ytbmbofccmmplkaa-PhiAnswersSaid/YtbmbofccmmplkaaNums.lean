/- Plain lemmas on numbers: wide numbers of two halves, their sums and their order. No condition. -/
import Derived.WalkKit
namespace Go.Proofs.Ytbmbofccmmplkaa

/-- the high half of a wide number -/
def hiW (n : Int) : Int := n / 18446744073709551616
/-- the low half of a wide number -/
def loW (n : Int) : Int := n % 18446744073709551616
/-- a number from nothing to below 2^127 -/
def Bd (n : Int) : Prop := 0 ≤ n ∧ n < 170141183460469231731687303715884105728

theorem wrap_lo (x y : Int) : IntKind.u64.wrap (loW x + loW y) = loW (x + y) := by
  rw [IntKind.wrap_u64]; unfold loW; omega

theorem carry_iff {x y : Int} : IntKind.u64.wrap (loW x + loW y) < loW x ↔ 18446744073709551616 ≤ loW x + loW y := by
  rw [IntKind.wrap_u64]; unfold loW; omega

theorem hi_carry {x y : Int} (hx : Bd x) (hy : Bd y) (h : IntKind.u64.wrap (loW x + loW y) < loW x) :
    IntKind.u64.wrap (IntKind.u64.wrap (hiW x + hiW y) + 1) = hiW (x + y) := by
  rw [carry_iff] at h
  rw [IntKind.wrap_u64, IntKind.wrap_u64]; unfold Bd at hx hy; unfold loW at h; unfold hiW; omega

theorem hi_plain {x y : Int} (hx : Bd x) (hy : Bd y) (h : ¬ IntKind.u64.wrap (loW x + loW y) < loW x) :
    IntKind.u64.wrap (hiW x + hiW y) = hiW (x + y) := by
  rw [carry_iff] at h
  rw [IntKind.wrap_u64]; unfold Bd at hx hy; unfold loW at h; unfold hiW; omega

theorem lt_of_hi {x y : Int} (h : hiW x < hiW y) : x < y := by unfold hiW at h; omega
theorem lt_iff_lo {x y : Int} (h : hiW x = hiW y) : x < y ↔ loW x < loW y := by unfold hiW at h; unfold loW; omega
theorem hi_le {x y : Int} (h : x < y) : hiW x ≤ hiW y := by unfold hiW; omega

theorem lo_small {x : Int} (h0 : 0 ≤ x) (h : x ≤ 18446744073709551615) : loW x = x := by unfold loW; omega
theorem hi_small {x : Int} (h0 : 0 ≤ x) (h : x ≤ 18446744073709551615) : hiW x = 0 := by unfold hiW; omega

end Go.Proofs.Ytbmbofccmmplkaa
