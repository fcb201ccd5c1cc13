/- Plain law: what graph.Levels and the document's Good, Levels and Keeps answer, and what is large. -/
import Derived.Test.YtnjpbfljecmoiaaKeeps
import Derived.Test.YtnjpbfljecmoiaaLevFour
namespace Go.Proofs.Ytnjpbfljecmoiaa.Graph.Lvl
open Go.RowKit Go.Proofs.YtnjpbfljecmoiaaW.PrintWords Go.Proofs.YtnjpbfljecmoiaaW.PrintMore Go.Proofs.Ytnjpbfljecmoiaa.PGraphLevels Go.Proofs.Ytnjpbfljecmoiaa.Graph

theorem rL1 (L : List (List Int)) (i : Nat) : Go.Proofs.Ytnjpbfljecmoiaa.PGraphLevels.rd_L6 L (i : Int) = L.getD i [] := by simp [Go.Proofs.Ytnjpbfljecmoiaa.PGraphLevels.rd_L6]
theorem wrap_pred (n : Nat) (h : n < 1000000000) : wrap64 (((n + 1 : Nat) : Int) - 1) = (n : Int) := by
  unfold wrap64; omega
theorem r19_row (L : List (List Int)) (i : Nat) (row : List Int) (hL : L.getD i [] = row) (hi : i < L.length) (hrow : row.length ≤ 1000000) (hi2 : i < 1000000) (r : Bool) (hn : ∃ k, sluicewayref19_Good.l0 k L ((i + 1 : Nat) : Int) = some r) :
    ∀ (m j : Nat) (b : Int), j + m = row.length → -1 ≤ b → (j = 0 → b = -1) → (∀ q, j = q + 1 → row[q]? = some b) → ∃ k, sluicewayref19_Good.l1 k L i j = some (okRow i b (row.drop j) && r) := by
  have e1 : (0 : Int) ≤ (i : Int) := by omega
  have e2 : (i : Int) < (L.length : Int) := by omega
  intro m
  induction m with
  | zero =>
    intro j b hj _ _ _
    obtain ⟨k, hk⟩ := hn
    refine ⟨k + 1, ?_⟩
    have e : ¬ ((j : Int) < (row.length : Int)) := by omega
    simp only [sluicewayref19_Good.l1, rL1, hL, e, e1, e2, if_true, if_false, wrap_succ i (by omega), hk]
    rw [List.drop_of_length_le (by omega)]
    simp [okRow]
  | succ m ih =>
    intro j b hj hb hb0 hb1
    have hlt : j < row.length := by omega
    have e : ((j : Int) < (row.length : Int)) := by omega
    have e0 : (0 : Int) ≤ (j : Int) := by omega
    have hg : row[j]? = some row[j] := by simp [hlt]
    rw [List.drop_eq_getElem_cons hlt]
    have hrj := rd_get row j hlt
    generalize row[j] = q at hg hrj
    by_cases h1 : q < 0
    · refine ⟨1, ?_⟩
      simp only [sluicewayref19_Good.l1, rL1, hL, e, e0, e1, e2, if_true, hrj, h1, okRow]
      have : ¬ b < q := by
        rcases Nat.eq_zero_or_pos j with hj0 | hj0
        · rw [hb0 hj0]; omega
        · omega
      simp [this]
    · by_cases h2 : q ≥ (i : Int)
      · refine ⟨1, ?_⟩
        simp only [sluicewayref19_Good.l1, rL1, hL, e, e0, e1, e2, if_true, hrj, h1, h2, if_false, okRow]
        simp [show ¬ q < (i : Int) by omega]
      · obtain ⟨k, hk⟩ := ih (j + 1) q (by omega) (by omega) (by omega) (fun p hp => by rw [show p = j by omega]; exact hg)
        rcases j with _ | j
        · refine ⟨k + 1, ?_⟩
          have e3 : ¬ ((0 : Nat) : Int) > 0 := by omega
          simp only [sluicewayref19_Good.l1, rL1, hL, e, e0, e1, e2, if_true, hrj, h1, h2, e3, if_false, wrap_succ 0 (by omega), hk, okRow]
          simp [hb0 rfl, show -1 < q by omega, show q < (i : Int) by omega]
        · have hp := hb1 j rfl
          have e3 : ((j + 1 : Nat) : Int) > 0 := by omega
          have e4 : (0 : Int) ≤ (j : Int) := by omega
          have e5 : (j : Int) < (row.length : Int) := by omega
          have hrp : rd row (j : Int) = b := by
            rw [rd_get row j (by omega)]
            rw [List.getElem?_eq_getElem (by omega)] at hp
            exact Option.some.inj hp
          refine ⟨k + 1, ?_⟩
          simp only [sluicewayref19_Good.l1, rL1, hL, e, e0, e1, e2, if_true, hrj, h1, h2, e3, if_false, wrap_pred j (by omega), e4, e5, hrp, wrap_succ (j + 1) (by omega), hk, okRow]
          by_cases h3 : b ≥ q
          · simp [h3, show ¬ b < q by omega]
          · simp [h3, show b < q by omega, show q < (i : Int) by omega]
theorem r19_from (L : List (List Int)) (hL : L.length ≤ 1000000) (hr : rowsAt L 1000000) : ∀ (m i : Nat), i + m = L.length → ∃ k, sluicewayref19_Good.l0 k L i = some (okFrom i (L.drop i)) := by
  intro m
  induction m with
  | zero =>
    intro i hi
    refine ⟨1, ?_⟩
    have e : ¬ ((i : Int) < (L.length : Int)) := by omega
    simp only [sluicewayref19_Good.l0, e, if_false]
    rw [List.drop_of_length_le (by omega)]
    simp [okFrom]
  | succ m ih =>
    intro i hi
    have hlt : i < L.length := by omega
    have e : ((i : Int) < (L.length : Int)) := by omega
    have hg : L.getD i [] = L[i] := by simp [List.getD_eq_getElem?_getD, hlt]
    obtain ⟨k, hk⟩ := r19_row L i L[i] hg hlt (hr _ (List.getElem_mem hlt)) (by omega) _ (ih (i + 1) (by omega)) L[i].length 0 (-1) (by omega) (by omega) (fun _ => rfl) (fun q hq => by omega)
    refine ⟨k + 1, ?_⟩
    simp only [sluicewayref19_Good.l0, e, if_true]
    rw [List.drop_eq_getElem_cons hlt]
    simpa [okFrom] using hk
theorem r19_calls (A0 : Option Addr) (c0 : Nat) (L : List (List Int)) (w : World) (hL : L.length ≤ 1000000) (hr : rowsAt L 1000000) (hr0 : Kd.C (Kd.slice 3 (Kd.int .i64)) w A0 L.length L) (hc0 : L.length ≤ c0) :
    Calls Try.prog 14 #[.slice A0 L.length c0] w fun e w' => e = .returned (.bool (goodB L)) ∧ Drawn0 w w' := by
  obtain ⟨k, hk⟩ := r19_from L hL hr L.length 0 (by omega)
  exact sluicewayref19_Good.calls k A0 c0 L _ w hr0 hc0 (by simpa [sluicewayref19_Good.f, goodB] using hk)
theorem good_row (L : List (List Int)) (n : Int) (i : Nat) (row : List Int) (hrow : row.length ≤ 1000000) (hi : i < 1000000) (r : Bool) (hn : ∃ k, graph_Good.l0 k L n ((i + 1 : Nat) : Int) = some r) :
    ∀ (m j : Nat) (b : Int), j + m = row.length → ∃ k, graph_Good.l1 k i b L n i row row.length j = some (okRow i b (row.drop j) && r) := by
  intro m
  induction m with
  | zero =>
    intro j b hj
    obtain ⟨k, hk⟩ := hn
    refine ⟨k + 1, ?_⟩
    have e : ¬ ((j : Int) < (row.length : Int)) := by omega
    simp only [graph_Good.l1, e, if_false, wrap_succ i (by omega), hk]
    rw [List.drop_of_length_le (by omega)]
    simp [okRow]
  | succ m ih =>
    intro j b hj
    have hlt : j < row.length := by omega
    have e : ((j : Int) < (row.length : Int)) := by omega
    have e0 : (0 : Int) ≤ (j : Int) := by omega
    obtain ⟨k, hk⟩ := ih (j + 1) row[j] (by omega)
    refine ⟨k + 1, ?_⟩
    simp only [graph_Good.l1, e, e0, if_true, rd_get row j hlt, wrap_succ j (by omega), hk]
    rw [List.drop_eq_getElem_cons hlt]
    simp only [okRow]
    generalize row[j] = q
    by_cases h1 : q ≤ b
    · simp [h1, show ¬ b < q by omega]
    · by_cases h2 : q ≥ (i : Int)
      · simp [h1, h2, show ¬ q < (i : Int) by omega]
      · simp [h1, h2, show q < (i : Int) by omega, show b < q by omega]

theorem good_from (L : List (List Int)) (hL : L.length ≤ 1000000) (hr : rowsAt L 1000000) : ∀ (m i : Nat), i + m = L.length → ∃ k, graph_Good.l0 k L (L.length : Int) i = some (okFrom i (L.drop i)) := by
  intro m
  induction m with
  | zero =>
    intro i hi
    refine ⟨1, ?_⟩
    have e : ¬ ((i : Int) < (L.length : Int)) := by omega
    simp only [graph_Good.l0, e, if_false]
    rw [List.drop_of_length_le (by omega)]
    simp [okFrom]
  | succ m ih =>
    intro i hi
    have hlt : i < L.length := by omega
    have e : ((i : Int) < (L.length : Int)) := by omega
    have e0 : (0 : Int) ≤ (i : Int) := by omega
    have hg : L.getD i [] = L[i] := by simp [List.getD_eq_getElem?_getD, hlt]
    obtain ⟨k, hk⟩ := good_row L L.length i L[i] (hr _ (List.getElem_mem hlt)) (by omega) _ (ih (i + 1) (by omega)) L[i].length 0 (-1) (by omega)
    refine ⟨k + 1, ?_⟩
    simp only [graph_Good.l0, e, e0, if_true, rL1, hg]
    rw [List.drop_eq_getElem_cons hlt]
    simpa [okFrom] using hk
theorem good_f (L : List (List Int)) (hL : L.length ≤ 1000000) (hr : rowsAt L 1000000) : ∃ k, graph_Good.f k L = some (goodB L) := by
  obtain ⟨k, hk⟩ := good_from L hL hr L.length 0 (by omega)
  exact ⟨k, by simpa [graph_Good.f, goodB] using hk⟩
theorem good_fK (L : List (List Int)) (hL : L.length ≤ 1000000) (hr : rowsAt L 1000000) : ∃ K, ∀ k, K ≤ k → graph_Good.f k L = some (goodB L) := by
  obtain ⟨K, hK⟩ := good_f L hL hr
  have mono : ∀ j, graph_Good.f (K + j) L = some (goodB L) := by
    intro j
    induction j with
    | zero => exact hK
    | succ j ih => exact graph_Good.mono L (K + j) _ ih
  exact ⟨K, fun k hk => by have := mono (k - K); rwa [show K + (k - K) = k by omega] at this⟩

/-- More than is looked at: more than forty-one rows, or a row of more than sixty. -/
def bigG : Nat → List (List Int) → Bool
  | _, [] => false
  | i, l :: ls => decide (40 < i) || (decide (60 < l.length) || bigG (i + 1) ls)
theorem large_from (L : List (List Int)) : ∀ (m i : Nat), i + m = 42 → i ≤ L.length → ∃ k, sluicewaylaw19_large.l0 k L L.length i = some (bigG i (L.drop i)) := by
  intro m
  induction m with
  | zero =>
    intro i hi hl
    refine ⟨1, ?_⟩
    by_cases hlt : i < L.length
    · have e : ((i : Int) < (L.length : Int)) := by omega
      have e0 : (0 : Int) ≤ (i : Int) := by omega
      have e1 : (i : Int) > 40 := by omega
      simp only [sluicewaylaw19_large.l0, e, e0, e1, if_true]
      rw [List.drop_eq_getElem_cons hlt]
      simp [bigG, show 40 < i by omega]
    · have e : ¬ ((i : Int) < (L.length : Int)) := by omega
      simp only [sluicewaylaw19_large.l0, e, if_false]
      rw [List.drop_of_length_le (by omega)]
      simp [bigG]
  | succ m ih =>
    intro i hi hl
    by_cases hlt : i < L.length
    · have e : ((i : Int) < (L.length : Int)) := by omega
      have e0 : (0 : Int) ≤ (i : Int) := by omega
      have hg : L.getD i [] = L[i] := by simp [List.getD_eq_getElem?_getD, hlt]
      rw [List.drop_eq_getElem_cons hlt]
      by_cases h1 : 40 < i
      · refine ⟨1, ?_⟩
        have e1 : (i : Int) > 40 := by omega
        simp only [sluicewaylaw19_large.l0, e, e0, e1, if_true]
        simp [bigG, h1]
      · have e1 : ¬ (i : Int) > 40 := by omega
        by_cases h2 : 60 < L[i].length
        · refine ⟨1, ?_⟩
          have e2 : ((L[i].length : Nat) : Int) > 60 := by omega
          simp only [sluicewaylaw19_large.l0, rL1, hg, e, e0, e1, e2, if_true, if_false]
          simp [bigG, h2]
        · obtain ⟨k, hk⟩ := ih (i + 1) (by omega) (by omega)
          refine ⟨k + 1, ?_⟩
          have e2 : ¬ ((L[i].length : Nat) : Int) > 60 := by omega
          simp only [sluicewaylaw19_large.l0, rL1, hg, e, e0, e1, e2, if_true, if_false, wrap_succ i (by omega), hk]
          simp [bigG, h1, h2]
    · refine ⟨1, ?_⟩
      have e : ¬ ((i : Int) < (L.length : Int)) := by omega
      simp only [sluicewaylaw19_large.l0, e, if_false]
      rw [List.drop_of_length_le (by omega)]
      simp [bigG]
theorem large_calls (A0 : Option Addr) (c0 : Nat) (L : List (List Int)) (w : World) (hr0 : Kd.C (Kd.slice 3 (Kd.int .i64)) w A0 L.length L) (hc0 : L.length ≤ c0) :
    Calls Try.prog 12 #[.slice A0 L.length c0] w fun e w' => e = .returned (.bool (bigG 0 L)) ∧ Drawn0 w w' := by
  obtain ⟨k, hk⟩ := large_from L 42 0 (by omega) (by omega)
  exact sluicewaylaw19_large.calls k A0 c0 L _ w hr0 hc0 (by simpa [sluicewaylaw19_large.f] using hk)
theorem big_len : ∀ (L : List (List Int)) (i : Nat), bigG i L = false → (L ≠ [] → i + L.length ≤ 41) ∧ ∀ l ∈ L, l.length ≤ 60 := by
  intro L
  induction L with
  | nil => intro i _; exact ⟨fun h => absurd rfl h, by simp⟩
  | cons l ls ih =>
    intro i h
    simp only [bigG, Bool.or_eq_false_iff, decide_eq_false_iff_not] at h
    obtain ⟨h1, h2, h3⟩ := h
    obtain ⟨a, b⟩ := ih (i + 1) h3
    refine ⟨fun _ => ?_, fun q hq => ?_⟩
    · cases ls with
      | nil => simp; omega
      | cons l' ls => have := a (by simp); simp at this ⊢; omega
    · rcases List.mem_cons.1 hq with rfl | hq
      · omega
      · exact b q hq
theorem large_false (L : List (List Int)) (h : bigG 0 L = false) : L.length ≤ 41 ∧ rowsAt L 60 := by
  obtain ⟨a, b⟩ := big_len L 0 h
  refine ⟨?_, b⟩
  cases L with
  | nil => simp
  | cons l ls => have := a (by simp); omega

theorem at_succ {K k : Nat} (h : K + 1 ≤ k) : ∃ j, k = j + 1 ∧ K ≤ j := ⟨k - 1, by omega, by omega⟩
def lvRow (out row : List Int) : Int := row.foldl (fun lv k => mx lv (out.getD k.toNat 0 + 1)) 0
def levelsK (L : List (List Int)) : Nat → List Int
  | 0 => []
  | n + 1 => levelsK L n ++ [lvRow (levelsK L n) (L.getD n [])]
theorem levelsK_len (L : List (List Int)) (n : Nat) : (levelsK L n).length = n := by
  induction n with
  | zero => rfl
  | succ n ih => simp [levelsK, ih]
theorem mx_le {a b c : Int} (h1 : a ≤ c) (h2 : b ≤ c) : mx a b ≤ c := by unfold mx; split <;> assumption
theorem le_mx (a b : Int) : a ≤ mx a b := by unfold mx; split <;> omega
theorem lv_take (out row : List Int) (u : Nat) (h : u < row.length) : lvRow out (row.take (u + 1)) = mx (lvRow out (row.take u)) (out.getD row[u].toNat 0 + 1) := by
  unfold lvRow
  rw [List.take_succ_eq_append_getElem h, List.foldl_append]; rfl
theorem lv_bound (out row : List Int) (n : Nat) (h : ∀ k ∈ row, 0 ≤ out.getD k.toNat 0 ∧ out.getD k.toNat 0 + 1 ≤ n) : ∀ u, u ≤ row.length → 0 ≤ lvRow out (row.take u) ∧ lvRow out (row.take u) ≤ n := by
  intro u
  induction u with
  | zero => intro _; rw [List.take_zero]; exact ⟨Int.le_refl _, by show (0 : Int) ≤ n; omega⟩
  | succ u ih =>
    intro hu
    obtain ⟨h1, h2⟩ := ih (by omega)
    rw [lv_take _ _ _ (by omega)]
    have := h row[u] (List.getElem_mem (by omega))
    exact ⟨Int.le_trans h1 (le_mx _ _), mx_le h2 this.2⟩
theorem row_len (L : List (List Int)) (hr : rowsAt L 1000) (i : Nat) (hi : i < L.length) : (L.getD i []).length ≤ 1000 := by
  have e : L.getD i [] = L[i] := by simp [List.getD_eq_getElem?_getD, hi]
  rw [e]; exact hr _ (List.getElem_mem hi)
section
variable (L : List (List Int)) (hL : goodB L = true)
include hL
theorem levels_bound : ∀ n, n ≤ L.length → ∀ i, i < n → 0 ≤ (levelsK L n).getD i 0 ∧ (levelsK L n).getD i 0 ≤ i := by
  intro n
  induction n with
  | zero => intro _ i hi; omega
  | succ n ih =>
    intro hn i hi
    have ihn := ih (by omega)
    simp only [levelsK]
    by_cases e : i < n
    · rw [List.getD_eq_getElem?_getD, List.getElem?_append_left (by rw [levelsK_len]; exact e), ← List.getD_eq_getElem?_getD]
      exact ihn i e
    · have e2 : i = n := by omega
      subst e2
      rw [List.getD_eq_getElem?_getD, List.getElem?_append_right (by rw [levelsK_len]; omega), levelsK_len, Nat.sub_self]
      have hb := lv_bound (levelsK L i) (L.getD i []) i (fun k hk => by
        have hkl := row_lt hL i k hk
        have := ihn k.toNat hkl.2.1
        omega) (L.getD i []).length (Nat.le_refl _)
      rw [List.take_length] at hb
      exact hb
variable (hN : L.length ≤ 1000)
include hN
/-- What one step of both comes to. -/
theorem lv_step (i u : Nat) (hi : i < L.length) (hu : u < (L.getD i []).length) : ∃ q : Nat, rd (L.getD i []) (u : Int) = q ∧ q < i ∧ rd (levelsK L i) (q : Int) = (levelsK L i).getD q 0 ∧ 0 ≤ (levelsK L i).getD q 0 ∧ (levelsK L i).getD q 0 ≤ 1000 ∧ lvRow (levelsK L i) ((L.getD i []).take (u + 1)) = mx (lvRow (levelsK L i) ((L.getD i []).take u)) ((levelsK L i).getD q 0 + 1) := by
  have hkl := row_lt hL i _ (List.getElem_mem hu)
  have hrd := rd_get (L.getD i []) u hu
  have ht := lv_take (levelsK L i) (L.getD i []) u hu
  generalize (L.getD i [])[u] = kk at hkl hrd ht
  obtain ⟨q, rfl⟩ := Int.eq_ofNat_of_zero_le hkl.1
  rw [Int.toNat_natCast] at hkl ht
  have hb := levels_bound L hL i (by omega) q hkl.2.1
  exact ⟨q, hrd, hkl.2.1, by unfold rd; rw [Int.toNat_natCast], hb.1, by omega, ht⟩
variable (hr : rowsAt L 1000)
include hr
theorem graph_l1 (i : Nat) (hi : i < L.length) (r : List Int × Option Int) (K0 : Nat) (hc : ∀ k, K0 ≤ k → graph_Levels.l0 k (levelsK L (i + 1)) L L.length ((i + 1 : Nat) : Int) = some r) :
    ∀ (m u : Nat), u + m = (L.getD i []).length → ∃ K, ∀ k, K ≤ k → graph_Levels.l1 k (levelsK L i) (lvRow (levelsK L i) ((L.getD i []).take u)) L L.length i (L.getD i []) (L.getD i []).length u = some r := by
  have hrl := row_len L hr i hi
  intro m
  induction m with
  | zero =>
    intro u hu
    refine ⟨K0 + 1, fun k hk => ?_⟩
    obtain ⟨k, rfl, hk2⟩ := at_succ hk
    have e : ¬ (u : Int) < ((L.getD i []).length : Int) := by omega
    have e2 : (levelsK L i).length < 17592186044416 := by rw [levelsK_len]; omega
    have := hc k hk2
    simp only [levelsK] at this
    rw [show u = (L.getD i []).length by omega, List.take_length]
    simp only [graph_Levels.l1, Int.lt_irrefl, if_false, e2, if_true, wrap_succ i (by omega), this]
  | succ m ih =>
    intro u hu
    obtain ⟨K, hK⟩ := ih (u + 1) (by omega)
    obtain ⟨q, h1, h2, h3, h4, h5, h6⟩ := lv_step L hL hN i u hi (by omega)
    refine ⟨K + 1, fun k hk => ?_⟩
    obtain ⟨k, rfl, hk2⟩ := at_succ hk
    have e : (u : Int) < ((L.getD i []).length : Int) := by omega
    have e0 : (0 : Int) ≤ (u : Int) := by omega
    have e1 : (0 : Int) ≤ (q : Int) := by omega
    have e2 : (q : Int) < ((levelsK L i).length : Int) := by rw [levelsK_len]; omega
    have e3 : wrap64 ((levelsK L i).getD q 0 + 1) = (levelsK L i).getD q 0 + 1 := by unfold wrap64; omega
    have h := hK k hk2
    rw [h6] at h
    simp only [graph_Levels.l1, e, e0, h1, e1, e2, h3, e3, if_true, wrap_succ u (by omega), h]
theorem graph_f : ∃ K, ∀ k, K ≤ k → graph_Levels.l0 k [] L L.length 0 = some (levelsK L L.length, none) := by
  have key : ∀ (m i : Nat), i + m = L.length → ∃ K, ∀ k, K ≤ k → graph_Levels.l0 k (levelsK L i) L L.length i = some (levelsK L L.length, none) := by
    intro m
    induction m with
    | zero =>
      intro i hi
      refine ⟨1, fun k hk => ?_⟩
      obtain ⟨k, rfl, _⟩ := at_succ hk
      have e : ¬ (i : Int) < (L.length : Int) := by omega
      simp only [graph_Levels.l0, e, if_false]
      rw [show i = L.length by omega]
    | succ m ih =>
      intro i hi
      obtain ⟨K0, h0⟩ := ih (i + 1) (by omega)
      obtain ⟨K, hK⟩ := graph_l1 L hL hN hr i (by omega) _ K0 h0 (L.getD i []).length 0 (by omega)
      refine ⟨K + 1, fun k hk => ?_⟩
      obtain ⟨k, rfl, hk2⟩ := at_succ hk
      have e : (i : Int) < (L.length : Int) := by omega
      have e0 : (0 : Int) ≤ (i : Int) := by omega
      have h1 := hK k hk2
      rw [List.take_zero, show lvRow (levelsK L i) [] = 0 from rfl, show ((0 : Nat) : Int) = 0 from rfl] at h1
      simp only [graph_Levels.l0, e, e0, if_true, rL1, h1]
  obtain ⟨K, hK⟩ := key L.length 0 (by omega)
  exact ⟨K, fun k hk => hK k hk⟩
theorem ref_l1 (i : Nat) (hi : i < L.length) (r : List Int) (K0 : Nat) (hc : ∀ k, K0 ≤ k → sluicewayref19_Levels.l0 k L (levelsK L (i + 1)) ((i + 1 : Nat) : Int) = some r) :
    ∀ (m u : Nat), u + m = (L.getD i []).length → ∃ K, ∀ k, K ≤ k → sluicewayref19_Levels.l1 k L (levelsK L i) i (lvRow (levelsK L i) ((L.getD i []).take u)) u = some r := by
  have hrl := row_len L hr i hi
  have c0 : (0 : Int) ≤ (i : Int) := by omega
  have c1 : (i : Int) < (L.length : Int) := by omega
  intro m
  induction m with
  | zero =>
    intro u hu
    refine ⟨K0 + 1, fun k hk => ?_⟩
    obtain ⟨k, rfl, hk2⟩ := at_succ hk
    have e : ¬ (u : Int) < ((L.getD i []).length : Int) := by omega
    have e2 : (levelsK L i).length < 17592186044416 := by rw [levelsK_len]; omega
    have := hc k hk2
    simp only [levelsK] at this
    rw [show u = (L.getD i []).length by omega, List.take_length]
    simp only [sluicewayref19_Levels.l1, rL1, c0, c1, Int.lt_irrefl, if_false, e2, if_true, wrap_succ i (by omega), this]
  | succ m ih =>
    intro u hu
    obtain ⟨K, hK⟩ := ih (u + 1) (by omega)
    obtain ⟨q, h1, h2, h3, h4, h5, h6⟩ := lv_step L hL hN i u hi (by omega)
    refine ⟨K + 1, fun k hk => ?_⟩
    obtain ⟨k, rfl, hk2⟩ := at_succ hk
    have e : (u : Int) < ((L.getD i []).length : Int) := by omega
    have e0 : (0 : Int) ≤ (u : Int) := by omega
    have e1 : (0 : Int) ≤ (q : Int) := by omega
    have e2 : (q : Int) < ((levelsK L i).length : Int) := by rw [levelsK_len]; omega
    have e3 : wrap64 ((levelsK L i).getD q 0 + 1) = (levelsK L i).getD q 0 + 1 := by unfold wrap64; omega
    have h := hK k hk2
    rw [h6] at h
    by_cases hge : (levelsK L i).getD q 0 ≥ lvRow (levelsK L i) ((L.getD i []).take u)
    · unfold mx at h
      rw [if_pos (by omega)] at h
      simp only [sluicewayref19_Levels.l1, rL1, c0, c1, e, e0, h1, e1, e2, h3, e3, hge, if_true, wrap_succ u (by omega), h]
    · unfold mx at h
      rw [if_neg (by omega)] at h
      simp only [sluicewayref19_Levels.l1, rL1, c0, c1, e, e0, h1, e1, e2, h3, hge, if_true, if_false, wrap_succ u (by omega), h]
theorem refLevels_f : ∃ K, ∀ k, K ≤ k → sluicewayref19_Levels.f k L = some (levelsK L L.length) := by
  have key : ∀ (m i : Nat), i + m = L.length → ∃ K, ∀ k, K ≤ k → sluicewayref19_Levels.l0 k L (levelsK L i) i = some (levelsK L L.length) := by
    intro m
    induction m with
    | zero =>
      intro i hi
      refine ⟨1, fun k hk => ?_⟩
      obtain ⟨k, rfl, _⟩ := at_succ hk
      have e : ¬ (i : Int) < (L.length : Int) := by omega
      simp only [sluicewayref19_Levels.l0, e, if_false]
      rw [show i = L.length by omega]
    | succ m ih =>
      intro i hi
      obtain ⟨K0, h0⟩ := ih (i + 1) (by omega)
      obtain ⟨K, hK⟩ := ref_l1 L hL hN hr i (by omega) _ K0 h0 (L.getD i []).length 0 (by omega)
      refine ⟨K + 1, fun k hk => ?_⟩
      obtain ⟨k, rfl, hk2⟩ := at_succ hk
      have e : (i : Int) < (L.length : Int) := by omega
      have h1 := hK k hk2
      rw [List.take_zero, show lvRow (levelsK L i) [] = 0 from rfl, show ((0 : Nat) : Int) = 0 from rfl] at h1
      simp only [sluicewayref19_Levels.l0, e, if_true, h1]
  obtain ⟨K, hK⟩ := key L.length 0 (by omega)
  exact ⟨K, fun k hk => hK k hk⟩
theorem levels_good (A0 : Option Addr) (c0 : Nat) (w : World) (hr0 : Kd.C (Kd.slice 3 (Kd.int .i64)) w A0 L.length L) (hc0 : L.length ≤ c0) :
    Calls Try.prog 16 #[.slice A0 L.length c0] w fun e w' => ∃ v, e = .returned (.tuple #[v, .nilIface]) ∧ Kd.R (Kd.int .i64) 3 w' w.heap.size (fun _ => True) v (levelsK L L.length) ∧ Below w.heap.size w w' := by
  obtain ⟨K, hK⟩ := graph_f L hL hN hr
  obtain ⟨K2, hK2⟩ := good_fK L (by omega) (fun l hl => Nat.le_trans (hr l hl) (by omega))
  refine graph_Levels.calls (K + K2) A0 c0 L (levelsK L L.length) none w hr0 hc0 ?_
  unfold graph_Levels.f
  rw [hK2 (K + K2) (by omega), Option.bind_some, hL, if_pos rfl]
  exact hK (K + K2) (by omega)
theorem refLevels_calls (A0 : Option Addr) (c0 : Nat) (w : World) (hr0 : Kd.C (Kd.slice 3 (Kd.int .i64)) w A0 L.length L) (hc0 : L.length ≤ c0) :
    Calls Try.prog 21 #[.slice A0 L.length c0] w fun e w' => ∃ v, e = .returned v ∧ Kd.R (Kd.int .i64) 3 w' w.heap.size (fun _ => True) v (levelsK L L.length) ∧ Below w.heap.size w w' := by
  obtain ⟨K, hK⟩ := refLevels_f L hL hN hr
  exact sluicewayref19_Levels.calls K A0 c0 L _ w hr0 hc0 (hK K (Nat.le_refl _))
end
theorem levels_bad (L : List (List Int)) (hL : goodB L = false) (hN : L.length ≤ 1000) (hr : rowsAt L 1000) (A0 : Option Addr) (c0 : Nat) (w : World) (hr0 : Kd.C (Kd.slice 3 (Kd.int .i64)) w A0 L.length L) (hc0 : L.length ≤ c0) :
    Calls Try.prog 16 #[.slice A0 L.length c0] w fun e w' => ∃ v, e = .returned (.tuple #[v, .iface 41 (.int .i64 2)]) ∧ Kd.R (Kd.int .i64) 3 w' w.heap.size (fun _ => True) v [] ∧ Below w.heap.size w w' := by
  obtain ⟨K2, hK2⟩ := good_fK L (by omega) (fun l hl => Nat.le_trans (hr l hl) (by omega))
  refine graph_Levels.calls K2 A0 c0 L [] (some 2) w hr0 hc0 ?_
  unfold graph_Levels.f
  rw [hK2 K2 (by omega), Option.bind_some, hL]; rfl
/-! ### Keeps -/
def atI (order : List Int) (x : Int) : Int := idxI (fun y => decide (y = x)) order
theorem at_from (order : List Int) (x : Int) (hs : order.length ≤ 1000) : ∀ (m i : Nat), i + m = order.length → (∀ j, j < i → ∀ (hl : j < order.length), order[j] ≠ x) → ∃ K, ∀ k, K ≤ k → sluicewayref19_at.l0 k order x i = some (atI order x) := by
  intro m
  induction m with
  | zero =>
    intro i hi hb
    refine ⟨1, fun k hk => ?_⟩
    obtain ⟨k, rfl, _⟩ := at_succ hk
    have e : ¬ (i : Int) < (order.length : Int) := by omega
    have : atI order x = -1 := idxI_none (fun j hj => decide_eq_false (hb j (by omega) hj))
    simp only [sluicewayref19_at.l0, e, if_false, this]
  | succ m ih =>
    intro i hi hb
    have hlt : i < order.length := by omega
    have e : (i : Int) < (order.length : Int) := by omega
    have e0 : (0 : Int) ≤ (i : Int) := by omega
    by_cases hx : order[i] = x
    · refine ⟨1, fun k hk => ?_⟩
      obtain ⟨k, rfl, _⟩ := at_succ hk
      have : atI order x = i := idxI_some hlt (decide_eq_true hx) (fun j hj => decide_eq_false (hb j hj (by omega)))
      simp only [sluicewayref19_at.l0, e, e0, rd_get order i hlt, hx, if_true, this]
    · obtain ⟨K, hK⟩ := ih (i + 1) (by omega) (fun j hj hl => by
        by_cases c : j = i
        · subst c; exact hx
        · exact hb j (by omega) hl)
      refine ⟨K + 1, fun k hk => ?_⟩
      obtain ⟨k, rfl, hk2⟩ := at_succ hk
      simp only [sluicewayref19_at.l0, e, e0, rd_get order i hlt, hx, if_true, if_false, wrap_succ i (by omega), hK k hk2]
theorem at_f (order : List Int) (x : Int) (hs : order.length ≤ 1000) : ∃ K, ∀ k, K ≤ k → sluicewayref19_at.f k order x = some (atI order x) := by
  obtain ⟨K, hK⟩ := at_from order x hs order.length 0 (by omega) (fun j hj => by omega)
  exact ⟨K, fun k hk => hK k hk⟩
def rk (L : List (List Int)) (order : List Int) (i : Nat) : Bool := decide (0 ≤ atI order i) && (L.getD i []).all (fun k => decide (atI order k ≤ atI order i))
theorem refKeeps_l1 (L : List (List Int)) (order : List Int) (hr : rowsAt L 1000) (hN : L.length ≤ 1000) (ho : order.length ≤ 1000) (i : Nat) (hi : i < L.length) (b : Bool) (K0 : Nat) (hc : ∀ k, K0 ≤ k → sluicewayref19_Keeps.l0 k L order ((i + 1 : Nat) : Int) = some b) :
    ∀ (m u : Nat), u + m = (L.getD i []).length → ∃ K, ∀ k, K ≤ k → sluicewayref19_Keeps.l1 k L order i (atI order i) u = some (((L.getD i []).drop u).all (fun k => decide (atI order k ≤ atI order i)) && b) := by
  have hrl := row_len L hr i hi
  have c0 : (0 : Int) ≤ (i : Int) := by omega
  have c1 : (i : Int) < (L.length : Int) := by omega
  intro m
  induction m with
  | zero =>
    intro u hu
    refine ⟨K0 + 1, fun k hk => ?_⟩
    obtain ⟨k, rfl, hk2⟩ := at_succ hk
    have e : ¬ (u : Int) < ((L.getD i []).length : Int) := by omega
    rw [List.drop_of_length_le (by omega)]
    simp only [sluicewayref19_Keeps.l1, rL1, c0, c1, e, if_true, if_false, wrap_succ i (by omega), hc k hk2]
    rfl
  | succ m ih =>
    intro u hu
    have hlt : u < (L.getD i []).length := by omega
    obtain ⟨K, hK⟩ := ih (u + 1) (by omega)
    have hrd := rd_get (L.getD i []) u hlt
    rw [List.drop_eq_getElem_cons hlt, List.all_cons]
    generalize (L.getD i [])[u] = kk at hrd
    obtain ⟨K2, hK2⟩ := at_f order kk ho
    refine ⟨K + K2 + 1, fun k hk => ?_⟩
    obtain ⟨k, rfl, hk2⟩ := at_succ hk
    have e : (u : Int) < ((L.getD i []).length : Int) := by omega
    have e0 : (0 : Int) ≤ (u : Int) := by omega
    have h2 := hK2 k (by omega)
    by_cases hgt : atI order kk > atI order i
    · simp only [sluicewayref19_Keeps.l1, rL1, c0, c1, e, e0, hrd, h2, Option.bind_some, hgt, if_true]
      rw [decide_eq_false (by omega : ¬ atI order kk ≤ atI order i)]; simp
    · simp only [sluicewayref19_Keeps.l1, rL1, c0, c1, e, e0, hrd, h2, Option.bind_some, hgt, if_true, if_false, wrap_succ u (by omega), hK k (by omega)]
      rw [decide_eq_true (by omega : atI order kk ≤ atI order i), Bool.true_and]
theorem refKeeps_l0 (L : List (List Int)) (order : List Int) (hr : rowsAt L 1000) (hN : L.length ≤ 1000) (ho : order.length ≤ 1000) : ∀ (m i : Nat), i + m = L.length → ∃ K, ∀ k, K ≤ k → sluicewayref19_Keeps.l0 k L order i = some (((List.range L.length).drop i).all (rk L order)) := by
  intro m
  induction m with
  | zero =>
    intro i hi
    refine ⟨1, fun k hk => ?_⟩
    obtain ⟨k, rfl, _⟩ := at_succ hk
    have e : ¬ (i : Int) < (L.length : Int) := by omega
    simp only [sluicewayref19_Keeps.l0, e, if_false]
    rw [List.drop_of_length_le (by simp; omega)]; rfl
  | succ m ih =>
    intro i hi
    have hil : i < L.length := by omega
    obtain ⟨K0, h0⟩ := ih (i + 1) (by omega)
    obtain ⟨K, hK⟩ := refKeeps_l1 L order hr hN ho i hil _ K0 h0 (L.getD i []).length 0 (by omega)
    obtain ⟨K2, hK2⟩ := at_f order i ho
    refine ⟨K + K2 + 1, fun k hk => ?_⟩
    obtain ⟨k, rfl, hk2⟩ := at_succ hk
    have e : (i : Int) < (L.length : Int) := by omega
    have h1 := hK k (by omega)
    rw [List.drop_zero, show ((0 : Nat) : Int) = 0 from rfl] at h1
    rw [List.drop_eq_getElem_cons (by simpa using hil), List.all_cons, List.getElem_range]
    have h2 := hK2 k (by omega)
    by_cases hneg : atI order i < 0
    · simp only [sluicewayref19_Keeps.l0, e, h2, Option.bind_some, hneg, if_true]
      unfold rk
      rw [decide_eq_false (by omega : ¬ 0 ≤ atI order i)]; simp
    · simp only [sluicewayref19_Keeps.l0, e, h2, Option.bind_some, hneg, if_true, if_false, h1]
      unfold rk
      rw [decide_eq_true (by omega : 0 ≤ atI order i), Bool.true_and]
theorem r19_fK (L : List (List Int)) (hL : L.length ≤ 1000000) (hr : rowsAt L 1000000) : ∃ K, ∀ k, K ≤ k → sluicewayref19_Good.f k L = some (goodB L) := by
  obtain ⟨K, hK⟩ := r19_from L hL hr L.length 0 (by omega)
  have hK' : sluicewayref19_Good.f K L = some (goodB L) := by simpa [sluicewayref19_Good.f, goodB] using hK
  have mono : ∀ j, sluicewayref19_Good.f (K + j) L = some (goodB L) := by
    intro j
    induction j with
    | zero => exact hK'
    | succ j ih => exact sluicewayref19_Good.mono L (K + j) _ ih
  exact ⟨K, fun k hk => by have := mono (k - K); rwa [show K + (k - K) = k by omega] at this⟩
def refKeepsB (L : List (List Int)) (order : List Int) : Bool := goodB L && (decide (order.length = L.length) && (List.range L.length).all (rk L order))
theorem refKeeps_f (L : List (List Int)) (order : List Int) (hr : rowsAt L 1000) (hN : L.length ≤ 1000) (ho : order.length ≤ 1000) : ∃ k, sluicewayref19_Keeps.f k L order = some (refKeepsB L order) := by
  obtain ⟨K, hK⟩ := refKeeps_l0 L order hr hN ho L.length 0 (by omega)
  obtain ⟨K2, hK2⟩ := r19_fK L (by omega) (fun l hl => Nat.le_trans (hr l hl) (by omega))
  refine ⟨K + K2 + 1, ?_⟩
  have h1 := hK (K + K2) (by omega)
  rw [List.drop_zero, show ((0 : Nat) : Int) = 0 from rfl] at h1
  unfold sluicewayref19_Keeps.f refKeepsB
  rw [hK2 (K + K2 + 1) (by omega), Option.bind_some]
  cases goodB L with
  | false => simp only [sluicewayref19_Keeps.j0]; rfl
  | true =>
    by_cases hlen : order.length = L.length
    · have e : (((order.length : Nat) : Int) != ((L.length : Nat) : Int)) = false := by simp [hlen]
      simp only [e, sluicewayref19_Keeps.j0, h1]
      rw [decide_eq_true hlen]; simp
    · have e : (((order.length : Nat) : Int) != ((L.length : Nat) : Int)) = true := by simp; omega
      simp only [e, sluicewayref19_Keeps.j0]
      rw [decide_eq_false hlen]; rfl

theorem perm_of_all : ∀ (n : Nat) (l : List Int), l.length = n → (∀ i : Nat, i < n → (i : Int) ∈ l) → l.Nodup ∧ ∀ x ∈ l, 0 ≤ x ∧ x < n := by
  intro n
  induction n with
  | zero =>
    intro l hl _
    have : l = [] := List.eq_nil_of_length_eq_zero hl
    subst this
    exact ⟨List.nodup_nil, by simp⟩
  | succ n ih =>
    intro l hl h
    have hn := h n (by omega)
    have hp := List.perm_cons_erase hn
    obtain ⟨h1, h2⟩ := ih (l.erase (n : Int)) (by rw [List.length_erase_of_mem hn]; omega) (fun i hi => (List.mem_erase_of_ne (by omega)).2 (h i (by omega)))
    refine ⟨hp.nodup_iff.2 (List.nodup_cons.2 ⟨fun hm => by have := h2 _ hm; omega, h1⟩), fun x hx => ?_⟩
    rcases List.mem_cons.1 (hp.mem_iff.1 hx) with rfl | hx
    · omega
    · have := h2 x hx; omega
theorem nodup_len : ∀ (n : Nat) (l : List Int), l.Nodup → (∀ x ∈ l, 0 ≤ x ∧ x < n) → l.length ≤ n := by
  intro n
  induction n with
  | zero =>
    intro l _ h
    cases l with
    | nil => simp
    | cons x l => have := h x List.mem_cons_self; omega
  | succ n ih =>
    intro l hl h
    by_cases hn : (n : Int) ∈ l
    · have hp := List.perm_cons_erase hn
      have hnd := hp.nodup_iff.1 hl
      rw [List.nodup_cons] at hnd
      have := ih (l.erase (n : Int)) hnd.2 (fun x hx => by
        have h1 := h x (List.mem_of_mem_erase hx)
        have : x ≠ n := fun e => hnd.1 (e ▸ hx)
        omega)
      rw [List.length_erase_of_mem hn] at this
      omega
    · have := ih l hl (fun x hx => by
        have h1 := h x hx
        have : x ≠ n := fun e => hn (e ▸ hx)
        omega)
      omega
theorem all_of_nodup : ∀ (n : Nat) (l : List Int), l.length = n → l.Nodup → (∀ x ∈ l, 0 ≤ x ∧ x < n) → ∀ i : Nat, i < n → (i : Int) ∈ l := by
  intro n
  induction n with
  | zero => intro l _ _ _ i hi; omega
  | succ n ih =>
    intro l hlen hl h i hi
    by_cases hn : (n : Int) ∈ l
    · by_cases e : i = n
      · subst e; exact hn
      · have hp := List.perm_cons_erase hn
        have hnd := hp.nodup_iff.1 hl
        rw [List.nodup_cons] at hnd
        exact List.mem_of_mem_erase (ih (l.erase (n : Int)) (by rw [List.length_erase_of_mem hn]; omega) hnd.2 (fun x hx => by
          have h1 := h x (List.mem_of_mem_erase hx)
          have : x ≠ n := fun e => hnd.1 (e ▸ hx)
          omega) i (by omega))
    · have := nodup_len n l hl (fun x hx => by
        have h1 := h x hx
        have : x ≠ n := fun e => hn (e ▸ hx)
        omega)
      omega
theorem keepRun_iff (L : List (List Int)) : ∀ (rest pre : List Int), keepRun L pre rest = true ↔ ∀ j (hj : j < rest.length), (0 ≤ rest[j] ∧ rest[j] < L.length) ∧ rest[j] ∉ pre ++ rest.take j ∧ ∀ k ∈ L.getD rest[j].toNat [], k ∈ pre ++ rest.take j := by
  intro rest
  induction rest with
  | nil => intro pre; exact ⟨fun _ j hj => by simp at hj, fun _ => rfl⟩
  | cons i rest ih =>
    intro pre
    simp only [keepRun, Bool.and_eq_true, decide_eq_true_eq, List.all_eq_true]
    rw [ih]
    constructor
    · rintro ⟨h1, h2, h3, h4, h5⟩ j hj
      cases j with
      | zero =>
        simp only [List.getElem_cons_zero, List.take_zero, List.append_nil]
        exact ⟨⟨h1, h2⟩, h3, h4⟩
      | succ j =>
        have := h5 j (by simpa using hj)
        simp only [List.getElem_cons_succ, List.take_succ_cons]
        rw [List.append_assoc, List.singleton_append] at this
        exact this
    · intro h
      have h0 := h 0 (by simp)
      simp only [List.getElem_cons_zero, List.take_zero, List.append_nil] at h0
      refine ⟨h0.1.1, h0.1.2, h0.2.1, h0.2.2, fun j hj => ?_⟩
      have := h (j + 1) (by simpa using hj)
      simp only [List.getElem_cons_succ, List.take_succ_cons] at this
      rw [List.append_assoc, List.singleton_append]
      exact this
theorem at_pos (order : List Int) (hnd : order.Nodup) (p : Nat) (hp : p < order.length) : atI order order[p] = p := by
  refine idxI_some hp (decide_eq_true rfl) (fun j hj => decide_eq_false fun e => ?_)
  have := (List.pairwise_iff_getElem.1 hnd) j p (by omega) hp hj
  exact this e
theorem at_mem (order : List Int) (x : Int) (h : 0 ≤ atI order x) : ∃ q : Nat, ∃ hq : q < order.length, atI order x = q ∧ order[q] = x := by
  rcases idxI_cases (fun y => decide (y = x)) order with ⟨e, _⟩ | ⟨q, hq, e, hp, _⟩
  · unfold atI at h; omega
  · exact ⟨q, hq, e, by simpa using hp⟩
theorem nodup_of_run (order : List Int) (h : ∀ j (hj : j < order.length), order[j] ∉ order.take j) : order.Nodup := by
  unfold List.Nodup
  rw [List.pairwise_iff_getElem]
  intro i j hi hj hij e
  exact h j hj (by rw [← e]; exact List.mem_take_iff_getElem.2 ⟨i, by omega, rfl⟩)
theorem keeps_eq (L : List (List Int)) (hL : goodB L = true) (order : List Int) (hlen : order.length = L.length) : keepRun L [] order = (List.range L.length).all (rk L order) := by
  rw [Bool.eq_iff_iff, keepRun_iff, List.all_eq_true]
  constructor
  · intro h i hi
    have hi := List.mem_range.1 hi
    have hnd := nodup_of_run order (fun j hj => by have := (h j hj).2.1; simpa using this)
    have hall := all_of_nodup L.length order hlen hnd (fun x hx => by
      obtain ⟨j, hj, rfl⟩ := List.mem_iff_getElem.1 hx
      exact (h j hj).1) i hi
    obtain ⟨p, hp, he⟩ := List.mem_iff_getElem.1 hall
    have hap := at_pos order hnd p hp
    rw [he] at hap
    unfold rk
    rw [Bool.and_eq_true, decide_eq_true_eq, List.all_eq_true]
    refine ⟨by omega, fun k hk => ?_⟩
    rw [decide_eq_true_eq]
    have h3 := (h p hp).2.2 k (by rw [he, Int.toNat_natCast]; exact hk)
    rw [List.nil_append] at h3
    obtain ⟨q, hq, hqe⟩ := List.mem_take_iff_getElem.1 h3
    have haq := at_pos order hnd q (by omega)
    rw [hqe] at haq
    omega
  · intro h
    have hmem : ∀ i : Nat, i < L.length → (i : Int) ∈ order := fun i hi => by
      have := h i (List.mem_range.2 hi)
      unfold rk at this
      rw [Bool.and_eq_true, decide_eq_true_eq] at this
      obtain ⟨q, hq, _, e⟩ := at_mem order i this.1
      rw [← e]; exact List.getElem_mem hq
    obtain ⟨hnd, hrg⟩ := perm_of_all L.length order hlen hmem
    intro j hj
    have hr := hrg order[j] (List.getElem_mem hj)
    refine ⟨hr, ?_, fun k hk => ?_⟩
    · rw [List.nil_append]
      intro hm
      obtain ⟨q, hq, e⟩ := List.mem_take_iff_getElem.1 hm
      exact (List.pairwise_iff_getElem.1 hnd) q j (by omega) hj (by omega) e
    · have hkl := row_lt hL order[j].toNat k hk
      have h1 := h order[j].toNat (List.mem_range.2 (by omega))
      unfold rk at h1
      rw [Bool.and_eq_true, List.all_eq_true] at h1
      have h2 := h1.2 k hk
      rw [decide_eq_true_eq, Int.toNat_of_nonneg hr.1, at_pos order hnd j hj] at h2
      have h3 := h k.toNat (List.mem_range.2 hkl.2.2)
      unfold rk at h3
      rw [Bool.and_eq_true, decide_eq_true_eq, Int.toNat_of_nonneg hkl.1] at h3
      obtain ⟨q, hq, e1, e2⟩ := at_mem order k h3.1
      have hne : q ≠ j := fun e => by subst e; rw [e2] at hkl; omega
      rw [List.nil_append]
      exact List.mem_take_iff_getElem.2 ⟨q, by omega, e2⟩
/-- The document's answer is the program's. -/
theorem keepsB_eq (L : List (List Int)) (order : List Int) : refKeepsB L order = keepsB L order := by
  unfold refKeepsB keepsB
  cases hL : goodB L with
  | false => rfl
  | true =>
    by_cases hlen : order.length = L.length
    · rw [keeps_eq L hL order hlen]
    · rw [decide_eq_false hlen, Bool.false_and, Bool.false_and]
theorem refKeeps_calls (L : List (List Int)) (order : List Int) (hr : rowsAt L 1000) (hN : L.length ≤ 1000) (ho : order.length ≤ 1000) (A0 : Option Addr) (c0 : Nat) (A1 : Option Addr) (c1 : Nat) (w : World) (hr0 : Kd.C (Kd.slice 3 (Kd.int .i64)) w A0 L.length L) (hc0 : L.length ≤ c0) (hr1 : Kd.C (Kd.int .i64) w A1 order.length order) (hc1 : order.length ≤ c1) :
    Calls Try.prog 18 #[.slice A0 L.length c0, .slice A1 order.length c1] w fun e w' => e = .returned (.bool (keepsB L order)) ∧ Drawn0 w w' := by
  obtain ⟨k, hk⟩ := refKeeps_f L order hr hN ho
  rw [keepsB_eq] at hk
  exact sluicewayref19_Keeps.calls k A0 c0 L A1 c1 order _ w hr0 hc0 hr1 hc1 hk
end Go.Proofs.Ytnjpbfljecmoiaa.Graph.Lvl
