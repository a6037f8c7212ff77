/- What the layer answers, as plain functions: which windows may be, the mean, the level, the bound, the first time, and whether it is suspect; and a list of numbers that lies in memory. No condition. -/
import Derived.Test.YtbmbofccmmplkaaBlocks
namespace Go.Proofs.Ytbmbofccmmplkaa
open Go.RowKit

/-- may a gap be? -/
def okG (n : Int) : Bool := decide (1 ≤ n ∧ n ≤ 1099511627776)
/-- may a window be? -/
def rightB (last : Int) (l : List Int) : Bool := decide (-1 ≤ last ∧ last ≤ 1099511627776 ∧ l.length ≤ 16) && l.all okG
/-- the mean: of no gaps it is 'boot'; at least 1 -/
def meanF (l : List Int) (boot : Int) : Int := max 1 (if l = [] then boot else l.sum / (l.length : Int))
/-- the bound -/
def boundF (threshold mean : Int) : Int :=
  if 0 ≤ threshold ∧ threshold ≤ 1099511627776 ∧ 1 ≤ mean ∧ mean ≤ 1099511627776 then min 4611686018427387904 (((threshold + 1) * mean + 433) / 434) else 0
/-- the level, and the error's number -/
def levelF (last : Int) (l : List Int) (now boot : Int) : Int × Int :=
  if now < 0 ∨ now < last ∨ 1099511627776 < now ∨ rightB last l = false then (0, 1)
  else if last < 0 then (0, 0) else ((now - last) * 434 / meanF l boot, 0)
/-- is it suspect? -/
def suspectF (last : Int) (l : List Int) (now boot threshold : Int) : Bool :=
  decide ((levelF last l now boot).2 = 0 ∧ threshold < (levelF last l now boot).1)
/-- the first time, and the error's number -/
def firstF (last : Int) (l : List Int) (boot threshold : Int) : Int × Int :=
  if rightB last l = false then (0, 1) else if last < 0 then (0, 7)
  else if threshold < 0 ∨ 1099511627776 < threshold then (0, 1)
  else if 1099511627776 < meanF l boot then (0, 8)
  else if 1099511627776 - last < boundF threshold (meanF l boot) then (0, 8)
  else (last + boundF threshold (meanF l boot), 0)

theorem rightB_bad {last : Int} {l : List Int} {i : Nat} (hi : i < l.length) (h : okG (l[i]?.getD 0) = false) : rightB last l = false := by
  unfold rightB
  have : l.all okG = false := by
    rw [List.all_eq_false]
    refine ⟨l[i], List.getElem_mem hi, ?_⟩
    rw [List.getElem?_eq_getElem hi] at h; simpa using h
  rw [this, Bool.and_false]

theorem rightB_long {last : Int} {l : List Int} (h : 16 < l.length) : rightB last l = false := by
  unfold rightB
  rw [decide_eq_false (by omega), Bool.false_and]

theorem rightB_all {last : Int} {l : List Int} (h : ∀ i, i < l.length → okG (l[i]?.getD 0) = true) : rightB last l = decide (-1 ≤ last ∧ last ≤ 1099511627776 ∧ l.length ≤ 16) := by
  unfold rightB
  have : l.all okG = true := by
    rw [List.all_eq_true]
    intro x hx
    obtain ⟨i, hi, rfl⟩ := List.getElem_of_mem hx
    have := h i hi
    rwa [List.getElem?_eq_getElem hi] at this
  rw [this, Bool.and_true]

/-- what a window that may be is -/
theorem rightB_true {last : Int} {l : List Int} (h : rightB last l = true) : -1 ≤ last ∧ last ≤ 1099511627776 ∧ l.length ≤ 16 ∧ ∀ i, i < l.length → 1 ≤ l[i]?.getD 0 ∧ l[i]?.getD 0 ≤ 1099511627776 := by
  unfold rightB at h
  rw [Bool.and_eq_true, decide_eq_true_eq, List.all_eq_true] at h
  refine ⟨h.1.1, h.1.2.1, h.1.2.2, fun i hi => ?_⟩
  have := h.2 l[i] (List.getElem_mem hi)
  rw [List.getElem?_eq_getElem hi]
  simpa [okG] using this

/-- the list lies in memory from A on -/
def Rd (w : World) (A : Option Addr) (l : List Int) : Prop :=
  l = [] ∨ ∃ b off, A = some ⟨b, off, none⟩ ∧ b < w.heap.size ∧ ∀ i, i < l.length → w.cell? ⟨b, off + i, none⟩ = some (.int .i64 (l[i]?.getD 0))

theorem Rd.below {w w' : World} {A : Option Addr} {l : List Int} (h : Rd w A l) (hb : Below w.heap.size w w') : Rd w' A l := by
  rcases h with h | ⟨b, off, h1, h2, h3⟩
  · exact Or.inl h
  · exact Or.inr ⟨b, off, h1, Nat.lt_of_lt_of_le h2 hb.size, fun i hi => by rw [hb.cell (p := ⟨b, off + i, none⟩) h2]; exact h3 i hi⟩

theorem Rd.alloc {w : World} {A : Option Addr} {l : List Int} (h : Rd w A l) (o : Obj) : Rd (w.alloc o) A l := h.below ((Below.refl _ _).alloc (Nat.le_refl _) o)

end Go.Proofs.Ytbmbofccmmplkaa
