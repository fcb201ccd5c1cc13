/- Plain law: on which others a place leans, through others, too; rows of bools in a block of their own. -/
import Derived.Test.YtnjpbfljecmoiaaGood
namespace Go.Proofs.Ytnjpbfljecmoiaa.Graph
open Go.RowKit Go.Proofs.YtnjpbfljecmoiaaW.PrintWords Go.Proofs.Ytnjpbfljecmoiaa.PGraphLeans

theorem any_congr {α : Type} {l : List α} {p q : α → Bool} (h : ∀ x ∈ l, p x = q x) : l.any p = l.any q := by
  induction l with
  | nil => rfl
  | cons x l ih => rw [List.any_cons, List.any_cons, h x List.mem_cons_self, ih (fun y hy => h y (List.mem_cons_of_mem _ hy))]
def reachF (L : List (List Int)) : Nat → Nat → Nat → Bool
  | 0, _, _ => false
  | f + 1, i, t => (L.getD i []).any fun k => k.toNat == t || reachF L f k.toNat t
def reachB (L : List (List Int)) (i t : Nat) : Bool := reachF L (i + 1) i t
section
variable {L : List (List Int)} (hL : goodB L = true)
include hL
theorem row_lt (i : Nat) : ∀ k ∈ L.getD i [], 0 ≤ k ∧ k.toNat < i ∧ k.toNat < L.length := by
  intro k hk
  by_cases hi : i < L.length
  · have := good_mem L hL i hi k hk; omega
  · rw [List.getD_eq_getElem?_getD, List.getElem?_eq_none (by omega)] at hk; cases hk
theorem reachF_irrel : ∀ (i : Nat) (f f' : Nat), i < f → i < f' → ∀ t, reachF L f i t = reachF L f' i t := by
  intro i
  induction i using Nat.strongRecOn with
  | ind i ih =>
    intro f f' h h' t
    obtain ⟨f, rfl⟩ : ∃ g, f = g + 1 := ⟨f - 1, by omega⟩
    obtain ⟨f', rfl⟩ : ∃ g, f' = g + 1 := ⟨f' - 1, by omega⟩
    simp only [reachF]
    refine any_congr fun k hk => ?_
    have := row_lt hL i k hk
    rw [ih k.toNat this.2.1 f f' (by omega) (by omega) t]
theorem reach_eq (i t : Nat) : reachB L i t = (L.getD i []).any fun k => k.toNat == t || reachB L k.toNat t := by
  unfold reachB
  conv => lhs; unfold reachF
  refine any_congr fun k hk => ?_
  have := row_lt hL i k hk
  rw [reachF_irrel hL k.toNat i (k.toNat + 1) (by omega) (by omega) t]
theorem reach_trans : ∀ (a b c : Nat), reachB L a b = true → reachB L b c = true → reachB L a c = true := by
  intro a
  induction a using Nat.strongRecOn with
  | ind a ih =>
    intro b c h1 h2
    rw [reach_eq hL, List.any_eq_true] at h1 ⊢
    obtain ⟨k, hk, h⟩ := h1
    have := row_lt hL a k hk
    refine ⟨k, hk, ?_⟩
    rw [Bool.or_eq_true] at h ⊢
    right
    rcases h with h | h
    · rw [beq_iff_eq] at h; rw [h]; exact h2
    · exact ih k.toNat this.2.1 b c h h2
theorem reach_lt : ∀ (i t : Nat), reachB L i t = true → t < i := by
  intro i
  induction i using Nat.strongRecOn with
  | ind i ih =>
    intro t h
    rw [reach_eq hL, List.any_eq_true] at h
    obtain ⟨k, hk, h⟩ := h
    have hl := row_lt hL i k hk
    rw [Bool.or_eq_true, beq_iff_eq] at h
    rcases h with h | h
    · omega
    · have := ih k.toNat hl.2.1 t h; omega
end

/-- A row of bools, with those besides of which something is so. -/
def orR (s : List Bool) (p : Nat → Bool) : List Bool := (List.range s.length).map fun t => s.getD t false || p t
theorem orR_len (s : List Bool) (p : Nat → Bool) : (orR s p).length = s.length := by simp [orR]
theorem orR_getD (s : List Bool) (p : Nat → Bool) (t : Nat) (h : t < s.length) : (orR s p).getD t false = (s.getD t false || p t) := by
  unfold orR
  rw [List.getD_eq_getElem?_getD, List.getElem?_map, List.getElem?_range h]; rfl
theorem bools_ext {s u : List Bool} (hl : s.length = u.length) (h : ∀ t, t < s.length → s.getD t false = u.getD t false) : s = u := by
  apply List.ext_getElem hl
  intro t h1 h2
  have := h t h1
  simpa [List.getD_eq_getElem?_getD, h1, h2] using this
theorem orR_false (s : List Bool) : orR s (fun _ => false) = s := bools_ext (orR_len _ _) fun t ht => by rw [orR_len] at ht; rw [orR_getD _ _ _ ht, Bool.or_false]
theorem orR_congr {s : List Bool} {p q : Nat → Bool} (h : ∀ t, t < s.length → (s.getD t false || p t) = (s.getD t false || q t)) : orR s p = orR s q :=
  bools_ext (by rw [orR_len, orR_len]) fun t ht => by rw [orR_len] at ht; rw [orR_getD _ _ _ ht, orR_getD _ _ _ ht, h t ht]
theorem orR_orR (s : List Bool) (p q : Nat → Bool) : orR (orR s p) q = orR s (fun t => p t || q t) :=
  bools_ext (by rw [orR_len, orR_len, orR_len]) fun t ht => by
    rw [orR_len, orR_len] at ht
    rw [orR_getD _ _ _ (by rw [orR_len]; exact ht), orR_getD _ _ _ ht, orR_getD _ _ _ ht, Bool.or_assoc]
theorem set_orR (s : List Bool) (k : Nat) : s.set k true = orR s (fun t => k == t) := by
  refine bools_ext (by rw [List.length_set, orR_len]) fun t ht => ?_
  rw [List.length_set] at ht
  rw [orR_getD _ _ _ ht]
  by_cases e : k = t
  · subst e; simp [List.getD_eq_getElem?_getD, ht]
  · simp [List.getD_eq_getElem?_getD, List.getElem?_set_ne e, e]
/-- What is seen is seen with all on which it leans. -/
def Closed (L : List (List Int)) (s : List Bool) (i : Nat) : Prop := ∀ j, j < i → s.getD j false = true → ∀ t, reachB L j t = true → s.getD t false = true

def bools (bs : List Bool) : List Value := bs.map Value.bool
def IsBools (w : World) (g : Nat) (bs : List Bool) : Prop := w.heap[g]? = some (.cells (bools bs).toArray 4 (0, 0))
section
variable {w w' : World} {g : Nat} {bs : List Bool}
theorem IsBools.cell (h : IsBools w g bs) (j : Nat) (hj : j < bs.length) : w.cell? ⟨g, j, none⟩ = some (.bool (bs.getD j false)) := by
  rw [cell_of_row _ _ _ _ _ _ h]
  simp [bools, hj]
theorem IsBools.fr (h : IsBools w g bs) (j : Nat) : w.frozen? ⟨g, j, none⟩ = false := frozen_of_row _ _ _ _ _ h
theorem IsBools.lt (h : IsBools w g bs) : g < w.heap.size := (Array.getElem?_eq_some_iff.1 h).1
theorem IsBools.set (h : IsBools w g bs) (j : Nat) (u : Bool) : IsBools (w.setCell ⟨g, j, none⟩ (.bool u)) g (bs.set j u) := by
  unfold IsBools
  rw [heap_setCell_same _ _ _ _ _ _ h]
  simp [bools, List.map_set]
theorem IsBools.keep (h : IsBools w g bs) (hb : Below w.heap.size w w') : IsBools w' g bs := by
  unfold IsBools; rw [hb.block _ h.lt]; exact h
end
theorem grown_setCell (w : World) (g j : Nat) (u : Value) : w.grownBy (w.setCell ⟨g, j, none⟩ u) (some g) :=
  ⟨rfl, rfl, rfl, by simp [World.setCell], fun k _ hr => Below.heap_setCell _ _ _ _ (fun e => hr (by rw [e]))⟩
theorem grown_refl (w : World) (row : Option Nat) : w.grownBy w row := World.grownBy.refl w row
/-- What lies below a block is as it was. -/
theorem grown_below {B g : Nat} {w w' : World} (h : w.grownBy w' (some g)) (hg : B ≤ g) (hB : B ≤ w.heap.size) : Below B w w' :=
  ⟨h.os, h.tape, h.output, h.size, fun k hk => h.block k (by omega) (fun e => by injection e with e; omega)⟩
theorem info4 : (Try.prog.info? 4).map (fun i => (i.zero, i.size, i.bytes)) = some (some (.bool false), 1, 1) := by kernel_rfl
theorem make48 (n : Nat) (hn : n ≤ 1000000) (W : World) : (Instr.makeSlice 48 (.int .i64 (n : Int)) (.int .i64 (n : Int))).run Try.prog W = .ok (.slice (some ⟨W.heap.size, 0, none⟩) n n) (W.alloc (.cells (bools (List.replicate n false)).toArray 4)) := by
  rw [print_make_of 48 4 (.bool false) 1 Try.underlying48 info4 rfl (by decide) n (by omega) W]
  congr 4
  apply Array.ext'
  rw [toList_madeCells_one]
  simp [bools]
end Go.Proofs.Ytnjpbfljecmoiaa.Graph
