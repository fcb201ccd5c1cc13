/- A row of whole numbers in a block of its own, beside a plan. -/
import Derived.Test.YtigpcfokmbnlaaaPlan
namespace Go.Proofs.Ytigpcfokmbnlaaa.Sched
open Go.RowKit Go.Proofs.YtigpcfokmbnlaaaW.PrintWords

def IsRow (w : World) (g : Nat) (xs : List Int) : Prop := w.heap[g]? = some (.cells (nums .i64 xs).toArray 3 (0, 0))
section
variable {w w' : World} {g : Nat} {xs : List Int}
theorem IsRow.cell (h : IsRow w g xs) (j : Nat) (hj : j < xs.length) : w.cell? ⟨g, j, none⟩ = some (.int .i64 (xs.getD j 0)) := by
  rw [cell_of_row _ _ _ _ _ _ h]
  simp [nums, hj]
theorem IsRow.fr (h : IsRow w g xs) (j : Nat) : w.frozen? ⟨g, j, none⟩ = false := frozen_of_row _ _ _ _ _ h
theorem IsRow.lt (h : IsRow w g xs) : g < w.heap.size := (Array.getElem?_eq_some_iff.1 h).1
theorem IsRow.set (h : IsRow w g xs) (j : Nat) (u : Int) : IsRow (w.setCell ⟨g, j, none⟩ (.int .i64 u)) g (xs.set j u) := by
  unfold IsRow
  rw [heap_setCell_same _ _ _ _ _ _ h]
  simp [nums, List.map_set]
theorem IsRow.below (h : IsRow w g xs) {B : Nat} (hb : Below B w w') (hg : g < B) : IsRow w' g xs := by
  unfold IsRow; rw [hb.block _ hg]; exact h
theorem IsRow.keep (h : IsRow w g xs) (hb : Below w.heap.size w w') : IsRow w' g xs := h.below hb h.lt
theorem IsRow.stp (h : IsRow w g xs) {P : Pl} (hs : Stp w w' P) (h1 : g ≠ P.gp) (h2 : g ≠ P.gt) (h3 : g ≠ P.gh) : IsRow w' g xs := by
  unfold IsRow; rw [hs.block _ h.lt h1 h2 h3]; exact h
theorem IsRow.drewN (h : IsRow w g xs) (n : Nat) : IsRow (w.drewN n) g xs := h
end
/-- A store into a block that is none of those that a plan was made beside. -/
theorem Stp.setNew {w w1 : World} {P : Pl} (h : Stp w w1 P) {p : Addr} (hp : w.heap.size ≤ p.block) (u : Value) : Stp w (w1.setCell p u) P :=
  ⟨h.os, h.tape, h.output, by simpa using h.size, fun k hk h1 h2 h3 => (Below.heap_setCell _ _ _ _ (by omega)).trans (h.block k hk h1 h2 h3)⟩
theorem info3 : (Try.prog.info? 3).map (fun i => (i.zero, i.size, i.bytes)) = some (some (.int .i64 0), 1, 8) := by kernel_rfl
theorem make38 (n : Nat) (hn : n ≤ 1000000) (W : World) : (Instr.makeSlice 38 (.int .i64 (n : Int)) (.int .i64 (n : Int))).run Try.prog W = .ok (.slice (some ⟨W.heap.size, 0, none⟩) n n) (W.alloc (.cells (nums .i64 (List.replicate n 0)).toArray 3)) := by
  rw [print_make_of 38 3 (.int .i64 0) 8 Try.underlying38 info3 rfl (by decide) n (by omega) W]
  congr 4
  apply Array.ext'
  rw [toList_madeCells_one]
  simp [nums]
end Go.Proofs.Ytigpcfokmbnlaaa.Sched
