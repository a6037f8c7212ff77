/- Blocks of memory that are known whole: what their cells hold, and what becomes of them behind a new block, a draw, a store and a call that leaves what was there. No condition. -/
import Derived.WalkKit
import Derived.Below
import Derived.Deep.QuietTactic
import Derived.Deep.Draws
namespace Go.Proofs.Ytbmbofccmmplkaa
open Go.RowKit

/-- a fact kept from the walk -/
theorem hidI {p : Prop} (h : p) : Hid p := h

/-- block g is these cells, none of them frozen -/
def Blk (w : World) (g : Nat) (cs : Array Value) (t : TypeId) : Prop := w.heap[g]? = some (.cells cs t (0, 0))

theorem Blk.lt {w : World} {g : Nat} {cs : Array Value} {t : TypeId} (h : Blk w g cs t) : g < w.heap.size := by
  unfold Blk at h
  by_cases hg : g < w.heap.size
  · exact hg
  · rw [Array.getElem?_eq_none (by omega)] at h; cases h

theorem Blk.cell {w : World} {g : Nat} {cs : Array Value} {t : TypeId} (h : Blk w g cs t) (i : Nat) : w.cell? ⟨g, i, none⟩ = cs[i]? := by
  unfold Blk at h; simp [World.cell?, h]

theorem Blk.free {w : World} {g : Nat} {cs : Array Value} {t : TypeId} (h : Blk w g cs t) (i : Nat) : w.frozen? ⟨g, i, none⟩ = false := by
  unfold Blk at h; simp [World.frozen?, h]

theorem Blk.c0 {w : World} {g : Nat} {x y : Value} {t : TypeId} (h : Blk w g #[x, y] t) : w.cell? ⟨g, 0, none⟩ = some x := h.cell 0
theorem Blk.c1 {w : World} {g : Nat} {x y : Value} {t : TypeId} (h : Blk w g #[x, y] t) : w.cell? ⟨g, 1, none⟩ = some y := h.cell 1

theorem Blk.alloc {w : World} {g : Nat} {cs : Array Value} {t : TypeId} (h : Blk w g cs t) (o : Obj) : Blk (w.alloc o) g cs t := by
  have hl := h.lt
  unfold Blk at h ⊢
  rw [Below.heap_alloc _ _ _ hl]; exact h

theorem Blk.new (w : World) (cs : Array Value) (t : TypeId) : Blk (w.alloc (.cells cs t)) w.heap.size cs t := by
  unfold Blk
  show (w.heap.push _)[w.heap.size]? = _
  rw [Array.getElem?_push, if_pos rfl]

theorem Blk.drew {w : World} {g : Nat} {cs : Array Value} {t : TypeId} (h : Blk w g cs t) : Blk w.drew g cs t := h
theorem Blk.drewN {w : World} {g : Nat} {cs : Array Value} {t : TypeId} (h : Blk w g cs t) (n : Nat) : Blk (w.drewN n) g cs t := h

theorem Blk.other {w : World} {g : Nat} {cs : Array Value} {t : TypeId} (h : Blk w g cs t) {a : Addr} (hne : g ≠ a.block) (v : Value) : Blk (w.setCell a v) g cs t := by
  unfold Blk at h ⊢
  rw [Below.heap_setCell _ _ _ _ hne]; exact h

theorem Blk.put {w : World} {g : Nat} {cs : Array Value} {t : TypeId} (h : Blk w g cs t) (i : Nat) (v : Value) : Blk (w.setCell ⟨g, i, none⟩ v) g (cs.setIfInBounds i v) t := by
  unfold Blk at h ⊢
  simp only [World.setCell, Array.getElem?_modify]
  rw [h]; simp

theorem Blk.put2 {w : World} {g : Nat} {x y : Value} {t : TypeId} (h : Blk w g #[x, y] t) (u v : Value) :
    Blk ((w.setCell ⟨g, 0, none⟩ u).setCell ⟨g, 1, none⟩ v) g #[u, v] t := (h.put 0 u).put 1 v

theorem Blk.below {w w' : World} {g : Nat} {cs : Array Value} {t : TypeId} (h : Blk w g cs t) (hb : Below w.heap.size w w') : Blk w' g cs t := by
  have hl := h.lt
  unfold Blk at h ⊢
  rw [hb.block _ hl]; exact h

theorem below_drewN {B : Nat} {a w : World} (h : Below B a w) (n : Nat) : Below B a (w.drewN n) := ⟨h.os, h.tape, h.output, h.size, h.block⟩

theorem retB {a b : Bool} (h : a = b) : Ending.returned (.bool a) = Ending.returned (.bool b) := by rw [h]
theorem retI {k : IntKind} {a b : Int} (h : a = b) : Ending.returned (.int k a) = Ending.returned (.int k b) := by rw [h]
theorem retII {k m : IntKind} {a b c d : Int} (h : a = b) (h' : c = d) : Ending.returned (.tuple #[.int k a, .int m c]) = Ending.returned (.tuple #[.int k b, .int m d]) := by rw [h, h']

end Go.Proofs.Ytbmbofccmmplkaa
