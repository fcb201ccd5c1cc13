/- The contract of graph.Good, plain. -/
import Derived.Test.YtnjpbfljecmoiaaLeansTwo
import Derived.Test.YtnjpbfljecmoiaaDel
namespace Go.Proofs.Ytnjpbfljecmoiaa.Graph
open Go.RowKit Go.Proofs.YtnjpbfljecmoiaaW.PrintWords Go.Proofs.Ytnjpbfljecmoiaa.PGraphLeans

def okRow (i : Int) : Int → List Int → Bool
  | _, [] => true
  | b, k :: ks => decide (b < k) && (decide (k < i) && okRow i k ks)
def okFrom : Int → List (List Int) → Bool
  | _, [] => true
  | i, l :: ls => okRow i (-1) l && okFrom (i + 1) ls
def goodB (L : List (List Int)) : Bool := okFrom 0 L
def rowsAt (L : List (List Int)) (m : Nat) : Prop := ∀ l ∈ L, l.length ≤ m

theorem rd_L6_nat (L : List (List Int)) (i : Nat) : rd_L6 L (i : Int) = L.getD i [] := by simp [rd_L6]
theorem wrap_succ (n : Nat) (h : n < 1000000000) : wrap64 ((n : Int) + 1) = ((n + 1 : Nat) : Int) := by
  unfold wrap64; omega
theorem rd_get (l : List Int) (j : Nat) (h : j < l.length) : rd l (j : Int) = l[j] := by
  simp [rd, List.getD_eq_getElem?_getD, h]

theorem good_row (L : List (List Int)) (n : Int) (i : Nat) (row : List Int) (hrow : row.length ≤ 1000000) (hi : i < 1000000) (r : Bool) (hn : ∃ k, graph_Good.l0 k L n ((i + 1 : Nat) : Int) = some r) :
    ∀ (m j : Nat) (b : Int), j + m = row.length → ∃ k, graph_Good.l1 k i b L n i row row.length j = some (okRow i b (row.drop j) && r) := by
  intro m
  induction m with
  | zero =>
    intro j b hj
    obtain ⟨k, hk⟩ := hn
    refine ⟨k + 1, ?_⟩
    have e : ¬ ((j : Int) < (row.length : Int)) := by omega
    simp only [graph_Good.l1, e, if_false, wrap_succ i (by omega), hk]
    rw [List.drop_of_length_le (by omega)]
    simp [okRow]
  | succ m ih =>
    intro j b hj
    have hlt : j < row.length := by omega
    have e : ((j : Int) < (row.length : Int)) := by omega
    have e0 : (0 : Int) ≤ (j : Int) := by omega
    obtain ⟨k, hk⟩ := ih (j + 1) row[j] (by omega)
    refine ⟨k + 1, ?_⟩
    simp only [graph_Good.l1, e, e0, if_true, rd_get row j hlt, wrap_succ j (by omega), hk]
    rw [List.drop_eq_getElem_cons hlt]
    simp only [okRow]
    generalize row[j] = q
    by_cases h1 : q ≤ b
    · simp [h1, show ¬ b < q by omega]
    · by_cases h2 : q ≥ (i : Int)
      · simp [h1, h2, show ¬ q < (i : Int) by omega]
      · simp [h1, h2, show q < (i : Int) by omega, show b < q by omega]

theorem good_from (L : List (List Int)) (hL : L.length ≤ 1000000) (hr : rowsAt L 1000000) : ∀ (m i : Nat), i + m = L.length → ∃ k, graph_Good.l0 k L (L.length : Int) i = some (okFrom i (L.drop i)) := by
  intro m
  induction m with
  | zero =>
    intro i hi
    refine ⟨1, ?_⟩
    have e : ¬ ((i : Int) < (L.length : Int)) := by omega
    simp only [graph_Good.l0, e, if_false]
    rw [List.drop_of_length_le (by omega)]
    simp [okFrom]
  | succ m ih =>
    intro i hi
    have hlt : i < L.length := by omega
    have e : ((i : Int) < (L.length : Int)) := by omega
    have e0 : (0 : Int) ≤ (i : Int) := by omega
    have hg : L.getD i [] = L[i] := by simp [List.getD_eq_getElem?_getD, hlt]
    obtain ⟨k, hk⟩ := good_row L L.length i L[i] (hr _ (List.getElem_mem hlt)) (by omega) _ (ih (i + 1) (by omega)) L[i].length 0 (-1) (by omega)
    refine ⟨k + 1, ?_⟩
    simp only [graph_Good.l0, e, e0, if_true, rd_L6_nat, hg]
    rw [List.drop_eq_getElem_cons hlt]
    simpa [okFrom] using hk
theorem good_f (L : List (List Int)) (hL : L.length ≤ 1000000) (hr : rowsAt L 1000000) : ∃ k, graph_Good.f k L = some (goodB L) := by
  obtain ⟨k, hk⟩ := good_from L hL hr L.length 0 (by omega)
  exact ⟨k, by simpa [graph_Good.f, goodB] using hk⟩
theorem good_calls (A0 : Option Addr) (c0 : Nat) (L : List (List Int)) (w : World) (hL : L.length ≤ 1000000) (hr : rowsAt L 1000000) (hr0 : Kd.C (Kd.slice 3 (Kd.int .i64)) w A0 L.length L) (hc0 : L.length ≤ c0) :
    Calls Try.prog 11 #[.slice A0 L.length c0] w fun e w' => e = .returned (.bool (goodB L)) ∧ Drawn0 w w' := by
  obtain ⟨k, hk⟩ := good_f L hL hr
  exact graph_Good.calls k A0 c0 L _ w hr0 hc0 hk

theorem okRow_mem (i : Int) (l : List Int) : ∀ b, okRow i b l = true → ∀ k ∈ l, b < k ∧ k < i := by
  induction l with
  | nil => intro b _ k hk; cases hk
  | cons q l ih =>
    intro b h k hk
    simp only [okRow, Bool.and_eq_true, decide_eq_true_eq] at h
    rcases List.mem_cons.1 hk with rfl | hk
    · exact ⟨h.1, h.2.1⟩
    · have := ih q h.2.2 k hk
      omega
theorem okFrom_row (L : List (List Int)) : ∀ (s : Int) (i : Nat), okFrom s L = true → i < L.length → okRow (s + i) (-1) (L.getD i []) = true := by
  induction L with
  | nil => intro s i _ h; simp at h
  | cons l L ih =>
    intro s i h hi
    simp only [okFrom, Bool.and_eq_true] at h
    cases i with
    | zero => simpa using h.1
    | succ i =>
      have := ih (s + 1) i h.2 (by simpa using hi)
      rw [show s + ((i + 1 : Nat) : Int) = s + 1 + i by omega]
      simpa using this
theorem good_mem (L : List (List Int)) (h : goodB L = true) (i : Nat) (hi : i < L.length) : ∀ k ∈ L.getD i [], 0 ≤ k ∧ k < i := by
  intro k hk
  have := okRow_mem _ _ _ (okFrom_row L 0 i h hi) k hk
  omega
end Go.Proofs.Ytnjpbfljecmoiaa.Graph
