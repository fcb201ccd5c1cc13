/- Rows of numbers that a law turns behind the back of what told them. -/
import Derived.Test.YtnjpbfljecmoiaaAliveW
namespace Go.Proofs.Ytnjpbfljecmoiaa.Graph
open Go.RowKit Go.Proofs.YtnjpbfljecmoiaaW.PrintWords Go.Proofs.Ytnjpbfljecmoiaa.PGraphLeans

structure Rows (W : World) (ad : Addr) (B N n : Nat) (A : Nat → Option Addr) (l c : Nat → Nat) : Prop where
  out : ∀ i, i < n → W.cell? (ad.add i) = some (.slice (A i) (l i) (c i))
  ins : ∀ i, i < n → ∀ j, j < l i → ∃ g x, A i = some ⟨g, 0, none⟩ ∧ W.cell? ⟨g, j, none⟩ = some (.int .i64 x) ∧ W.frozen? ⟨g, j, none⟩ = false ∧ B ≤ g ∧ g < N
  small : ∀ i, i < n → l i ≤ 1000000
theorem rows_of_S {W : World} {B N cap : Nat} {ad : Addr} {xs : List (List Int)} (h : Kd.S (Kd.slice 3 (Kd.int .i64)) 32 W B (fun _ => True) (.slice (some ad) xs.length cap) xs) (hN : W.heap.size ≤ N) (hr : rowsAt xs 1000000) : ∃ A l c, Rows W ad B N xs.length A l c := by
  have hR := Kd.S_R h
  have key : ∀ i : Nat, ∃ (A : Option Addr) (l c : Nat), i < xs.length → (W.cell? (ad.add i) = some (.slice A l c) ∧ (∀ j, j < l → ∃ g x, A = some ⟨g, 0, none⟩ ∧ W.cell? ⟨g, j, none⟩ = some (.int .i64 x) ∧ W.frozen? ⟨g, j, none⟩ = false ∧ B ≤ g ∧ g < N) ∧ l ≤ 1000000) := by
    intro i
    by_cases hi : i < xs.length
    · obtain ⟨cs, -, ⟨v, rfl, hv⟩, hcell⟩ := Go.Proofs.YtnjpbfljecmoiaaW.PrintMore.Kd.R_get hR [] (i : Int) (by omega) (by omega)
      rw [Int.toNat_natCast] at hv hcell
      obtain ⟨A, c, rfl⟩ := Kd.R_slice hv
      have hsz : (Kd.slice 3 (Kd.int .i64)).sz = 1 := rfl
      have h0 := hcell 0 _ rfl
      rw [hsz, Nat.mul_one, Nat.add_zero] at h0
      refine ⟨A, (xs.getD i []).length, c, fun _ => ⟨h0, fun j hj => ?_, ?_⟩⟩
      · obtain ⟨g, cap', he, hB, hlt, -⟩ := Kd.R_form hv (by omega)
        injection he with e1 _ _
        subst e1
        obtain ⟨c1, c2⟩ := Kd.R_celln (0 : Int) hv (j : Int) (by omega) (by omega)
        rw [Int.toNat_natCast] at c1 c2
        exact ⟨g, _, rfl, c1, c2, hB, by omega⟩
      · have e : xs.getD i [] = xs[i] := by simp [List.getD_eq_getElem?_getD, hi]
        rw [e]; exact hr _ (List.getElem_mem hi)
    · exact ⟨none, 0, 0, fun hc => absurd hc hi⟩
  refine ⟨fun i => (key i).choose, fun i => (key i).choose_spec.choose, fun i => (key i).choose_spec.choose_spec.choose, fun i hi => ?_, fun i hi => ?_, fun i hi => ?_⟩
  · exact ((key i).choose_spec.choose_spec.choose_spec hi).1
  · exact ((key i).choose_spec.choose_spec.choose_spec hi).2.1
  · exact ((key i).choose_spec.choose_spec.choose_spec hi).2.2
theorem Rows.set {W : World} {ad : Addr} {B N n : Nat} {A : Nat → Option Addr} {l c : Nat → Nat} (h : Rows W ad B N n A l c) (p : Addr) (x y : Int) (hp : W.cell? p = some (.int .i64 x)) : Rows (W.setCell p (.int .i64 y)) ad B N n A l c := by
  refine ⟨fun i hi => ?_, fun i hi j hj => ?_, h.small⟩
  · have ho := h.out i hi
    have hne : p ≠ ad.add i := fun e => by rw [e, ho] at hp; cases hp
    rw [World.cell?_setCell_other _ _ _ _ hne]; exact ho
  · obtain ⟨g, x', hA, hc, hf, hb1, hb2⟩ := h.ins i hi j hj
    by_cases e : p = ⟨g, j, none⟩
    · subst e
      exact ⟨g, y, hA, World.cell?_setCell_same _ _ _ hp, by rw [World.frozen?_setCell]; exact hf, hb1, hb2⟩
    · exact ⟨g, x', hA, by rw [World.cell?_setCell_other _ _ _ _ e]; exact hc, by rw [World.frozen?_setCell]; exact hf, hb1, hb2⟩
theorem Rows.below {W W' : World} {ad : Addr} {B N n : Nat} {A : Nat → Option Addr} {l c : Nat → Nat} (h : Rows W ad B N n A l c) (hb : Below W.heap.size W W') : Rows W' ad B N n A l c :=
  ⟨fun i hi => (hb.cell (World.block_lt_of_cell? W _ (h.out i hi))).trans (h.out i hi), fun i hi j hj => by
    obtain ⟨g, x, hA, hc, hf, hb1, hb2⟩ := h.ins i hi j hj
    have hlt := World.block_lt_of_cell? W _ hc
    exact ⟨g, x, hA, (hb.cell hlt).trans hc, by rw [World.frozen?_of_block (hb.block _ hlt)]; exact hf, hb1, hb2⟩, h.small⟩
/-- Nothing has turned but blocks from B up to N. -/
structure Mut (B N : Nat) (W W' : World) : Prop where
  os : W'.os = W.os
  tape : W'.tape = W.tape
  output : W'.output = W.output
  size : W.heap.size ≤ W'.heap.size
  block : ∀ k, k < W.heap.size → (k < B ∨ N ≤ k) → W'.heap[k]? = W.heap[k]?
theorem Mut.refl (B N : Nat) (W : World) : Mut B N W W := ⟨rfl, rfl, rfl, Nat.le_refl _, fun _ _ _ => rfl⟩
theorem Mut.set {B N : Nat} {W W' : World} (h : Mut B N W W') (p : Addr) (u : Value) (hp : B ≤ p.block ∧ p.block < N) : Mut B N W (W'.setCell p u) :=
  ⟨h.os, h.tape, h.output, by simpa [World.setCell] using h.size, fun k hk hb => (Below.heap_setCell _ _ _ _ (by omega)).trans (h.block k hk hb)⟩
theorem Mut.below {B N : Nat} {W W' : World} (h : Mut B N W W') (hB : B ≤ W.heap.size) : Below B W W' := ⟨h.os, h.tape, h.output, h.size, fun k hk => h.block k (by omega) (.inl hk)⟩
/-- What was made behind N stands. -/
theorem Mut.keepS {α : Type} {d : Kd α} {e : Nat} {B N : Nat} {W W' : World} {v : Value} {xs : List α} (h : Mut B N W W') (hs : Kd.S d e W N (fun _ => True) v xs) : Kd.S d e W' N (fun _ => True) v xs :=
  Kd.S_mono (Kd.S_step (Kd.S_bound hs) (fun k hk hlt => h.block k hlt (.inr hk.2.1))) (fun _ _ => trivial)
end Go.Proofs.Ytnjpbfljecmoiaa.Graph
