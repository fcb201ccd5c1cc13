/- sched.New, the part ahead of its loops; how graph.Good answers. -/
import Derived.Test.YtigpcfokmbnlaaaMk
import Derived.Test.YtigpcfokmbnlaaaPSchedPlaysx1
namespace Go.Proofs.Ytigpcfokmbnlaaa.Sched
open Go.RowKit Go.Proofs.YtigpcfokmbnlaaaW.PrintWords Go.Proofs.Ytigpcfokmbnlaaa.PSchedPlays

def okRow (i : Int) : Int → List Int → Bool
  | _, [] => true
  | b, k :: ks => decide (b < k) && (decide (k < i) && okRow i k ks)
def okFrom : Int → List (List Int) → Bool
  | _, [] => true
  | i, l :: ls => okRow i (-1) l && okFrom (i + 1) ls
def goodB (L : List (List Int)) : Bool := okFrom 0 L
def rowsAt (L : List (List Int)) (m : Nat) : Prop := ∀ l ∈ L, l.length ≤ m

theorem rd_L1_nat (L : List (List Int)) (i : Nat) : rd_L1 L (i : Int) = L.getD i [] := by simp [rd_L1]
theorem wrap_succ (n : Nat) (h : n < 1000000000) : wrap64 ((n : Int) + 1) = ((n + 1 : Nat) : Int) := by
  unfold wrap64; omega
theorem rd_get (l : List Int) (j : Nat) (h : j < l.length) : rd l (j : Int) = l[j] := by
  simp [rd, List.getD_eq_getElem?_getD, h]

theorem good_row (L : List (List Int)) (n : Int) (i : Nat) (row : List Int) (hrow : row.length ≤ 1000000) (hi : i < 1000000) (r : Bool) (hn : ∃ k, graph_Good.l0 k L n ((i + 1 : Nat) : Int) = some r) :
    ∀ (m j : Nat) (b : Int), j + m = row.length → ∃ k, graph_Good.l1 k i b L n i row row.length j = some (okRow i b (row.drop j) && r) := by
  intro m
  induction m with
  | zero =>
    intro j b hj
    obtain ⟨k, hk⟩ := hn
    refine ⟨k + 1, ?_⟩
    have e : ¬ ((j : Int) < (row.length : Int)) := by omega
    simp only [graph_Good.l1, e, if_false, wrap_succ i (by omega), hk]
    rw [List.drop_of_length_le (by omega)]
    simp [okRow]
  | succ m ih =>
    intro j b hj
    have hlt : j < row.length := by omega
    have e : ((j : Int) < (row.length : Int)) := by omega
    have e0 : (0 : Int) ≤ (j : Int) := by omega
    obtain ⟨k, hk⟩ := ih (j + 1) row[j] (by omega)
    refine ⟨k + 1, ?_⟩
    simp only [graph_Good.l1, e, e0, if_true, rd_get row j hlt, wrap_succ j (by omega), hk]
    rw [List.drop_eq_getElem_cons hlt]
    simp only [okRow]
    generalize row[j] = q
    by_cases h1 : q ≤ b
    · simp [h1, show ¬ b < q by omega]
    · by_cases h2 : q ≥ (i : Int)
      · simp [h1, h2, show ¬ q < (i : Int) by omega]
      · simp [h1, h2, show q < (i : Int) by omega, show b < q by omega]

theorem good_from (L : List (List Int)) (hL : L.length ≤ 1000000) (hr : rowsAt L 1000000) : ∀ (m i : Nat), i + m = L.length → ∃ k, graph_Good.l0 k L (L.length : Int) i = some (okFrom i (L.drop i)) := by
  intro m
  induction m with
  | zero =>
    intro i hi
    refine ⟨1, ?_⟩
    have e : ¬ ((i : Int) < (L.length : Int)) := by omega
    simp only [graph_Good.l0, e, if_false]
    rw [List.drop_of_length_le (by omega)]
    simp [okFrom]
  | succ m ih =>
    intro i hi
    have hlt : i < L.length := by omega
    have e : ((i : Int) < (L.length : Int)) := by omega
    have e0 : (0 : Int) ≤ (i : Int) := by omega
    have hg : L.getD i [] = L[i] := by simp [List.getD_eq_getElem?_getD, hlt]
    obtain ⟨k, hk⟩ := good_row L L.length i L[i] (hr _ (List.getElem_mem hlt)) (by omega) _ (ih (i + 1) (by omega)) L[i].length 0 (-1) (by omega)
    refine ⟨k + 1, ?_⟩
    simp only [graph_Good.l0, e, e0, if_true, rd_L1_nat, hg]
    rw [List.drop_eq_getElem_cons hlt]
    simpa [okFrom] using hk
theorem good_f (L : List (List Int)) (hL : L.length ≤ 1000000) (hr : rowsAt L 1000000) : ∃ k, graph_Good.f k L = some (goodB L) := by
  obtain ⟨k, hk⟩ := good_from L hL hr L.length 0 (by omega)
  exact ⟨k, by simpa [graph_Good.f, goodB] using hk⟩
theorem good_calls (A0 : Option Addr) (c0 : Nat) (L : List (List Int)) (w : World) (hL : L.length ≤ 1000000) (hr : rowsAt L 1000000) (hr0 : Kd.C (Kd.slice 3 (Kd.int .i64)) w A0 L.length L) (hc0 : L.length ≤ c0) :
    Calls Try.prog 22 #[.slice A0 L.length c0] w fun e w' => e = .returned (.bool (goodB L)) ∧ Drawn0 w w' := by
  obtain ⟨k, hk⟩ := good_f L hL hr
  exact graph_Good.calls k A0 c0 L _ w hr0 hc0 hk

theorem zeros_tcells (n : Nat) : (tcells (List.replicate n zT)).toArray = madeCells #[.int .i64 0, .slice none 0 0, .int .i64 0, .int .i64 0] (n * 4) := by
  apply Array.ext'
  apply List.ext_getElem
  · simp [tcells_len, madeCells]
  · intro i h1 h2
    simp only [tcells_len, List.length_replicate] at h1
    have ha := tcells_at (List.replicate n zT) (i / 4) (i % 4) (by simp; omega) (by omega)
    rw [show i / 4 * 4 + i % 4 = i by omega] at ha
    have hz : (List.replicate n zT).getD (i / 4) zT = zT := by simp [List.getD_eq_getElem?_getD, List.getElem?_replicate]; split <;> rfl
    rw [hz] at ha
    have hl : i < (tcells (List.replicate n zT)).length := by simp [tcells_len]; omega
    rw [List.getElem?_eq_getElem hl] at ha
    have hm : i % 4 = 0 ∨ i % 4 = 1 ∨ i % 4 = 2 ∨ i % 4 = 3 := by omega
    simp only [madeCells, Array.toList_map, Array.toList_range, List.getElem_map, List.getElem_range]
    injection ha.trans (List.getElem?_eq_getElem (by rw [T.cells_len]; omega)) with ha
    rw [ha]
    rcases hm with hm | hm | hm | hm <;> simp [T.cells, zT, hm]
theorem info61 : (Try.prog.info? 61).map (fun i => (i.zero, i.size, i.bytes)) = some (some (.agg #[.int .i64 0, .slice none 0 0, .int .i64 0, .int .i64 0]), 4, 48) := by kernel_rfl
theorem make57 (n : Nat) (hn : n ≤ 1000000) (W : World) : (Instr.makeSlice 57 (.int .i64 (n : Int)) (.int .i64 (n : Int))).run Try.prog W = .ok (.slice (some ⟨W.heap.size, 0, none⟩) n n) (W.alloc (.cells (tcells (List.replicate n zT)).toArray 61)) := by
  obtain ⟨i0, hi, hzz⟩ := Option.map_eq_some_iff.1 info61
  simp only [Prod.mk.injEq] at hzz
  obtain ⟨hz0, hz1, hz2⟩ := hzz
  have hr := run_make (P := Try.prog) W 57 61 i0 _ Try.underlying57 hi hz0 .i64 .i64 (n : Int) (n : Int) (by omega) (by omega) (by rw [hz2]; omega) (by omega)
  simp only [Int.toNat_natCast] at hr
  rw [hr, hz1, zeros_tcells]
  rfl
theorem z59 (w : World) : (zeroValue 59).run Try.prog w = .ok (.agg #[.slice none 0 0, .slice none 0 0, .int .i64 0, .int .i64 0]) w := by kernel_rfl
end Go.Proofs.Ytigpcfokmbnlaaa.Sched
