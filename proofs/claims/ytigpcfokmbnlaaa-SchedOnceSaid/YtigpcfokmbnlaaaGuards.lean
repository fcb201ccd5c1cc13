/- What the laws' guards answer: the document's Good, large. -/
import Derived.Test.YtigpcfokmbnlaaaInv
import Derived.Test.YtigpcfokmbnlaaaPSchedOnex2
namespace Go.Proofs.Ytigpcfokmbnlaaa.Sched
open Go.RowKit Go.Proofs.YtigpcfokmbnlaaaW.PrintWords

section
open Go.Proofs.Ytigpcfokmbnlaaa.PSchedOne
theorem rL1 (L : List (List Int)) (i : Nat) : Go.Proofs.Ytigpcfokmbnlaaa.PSchedOne.rd_L1 L (i : Int) = L.getD i [] := by simp [Go.Proofs.Ytigpcfokmbnlaaa.PSchedOne.rd_L1]
theorem wrap_pred (n : Nat) (h : n < 1000000000) : wrap64 (((n + 1 : Nat) : Int) - 1) = (n : Int) := by
  unfold wrap64; omega
theorem r19_row (L : List (List Int)) (i : Nat) (row : List Int) (hL : L.getD i [] = row) (hi : i < L.length) (hrow : row.length ≤ 1000000) (hi2 : i < 1000000) (r : Bool) (hn : ∃ k, sluicewayref19_Good.l0 k L ((i + 1 : Nat) : Int) = some r) :
    ∀ (m j : Nat) (b : Int), j + m = row.length → -1 ≤ b → (j = 0 → b = -1) → (∀ q, j = q + 1 → row[q]? = some b) → ∃ k, sluicewayref19_Good.l1 k L i j = some (okRow i b (row.drop j) && r) := by
  have e1 : (0 : Int) ≤ (i : Int) := by omega
  have e2 : (i : Int) < (L.length : Int) := by omega
  intro m
  induction m with
  | zero =>
    intro j b hj _ _ _
    obtain ⟨k, hk⟩ := hn
    refine ⟨k + 1, ?_⟩
    have e : ¬ ((j : Int) < (row.length : Int)) := by omega
    simp only [sluicewayref19_Good.l1, rL1, hL, e, e1, e2, if_true, if_false, wrap_succ i (by omega), hk]
    rw [List.drop_of_length_le (by omega)]
    simp [okRow]
  | succ m ih =>
    intro j b hj hb hb0 hb1
    have hlt : j < row.length := by omega
    have e : ((j : Int) < (row.length : Int)) := by omega
    have e0 : (0 : Int) ≤ (j : Int) := by omega
    have hg : row[j]? = some row[j] := by simp [hlt]
    rw [List.drop_eq_getElem_cons hlt]
    have hrj := rd_get row j hlt
    generalize row[j] = q at hg hrj
    by_cases h1 : q < 0
    · refine ⟨1, ?_⟩
      simp only [sluicewayref19_Good.l1, rL1, hL, e, e0, e1, e2, if_true, hrj, h1, okRow]
      have : ¬ b < q := by
        rcases Nat.eq_zero_or_pos j with hj0 | hj0
        · rw [hb0 hj0]; omega
        · omega
      simp [this]
    · by_cases h2 : q ≥ (i : Int)
      · refine ⟨1, ?_⟩
        simp only [sluicewayref19_Good.l1, rL1, hL, e, e0, e1, e2, if_true, hrj, h1, h2, if_false, okRow]
        simp [show ¬ q < (i : Int) by omega]
      · obtain ⟨k, hk⟩ := ih (j + 1) q (by omega) (by omega) (by omega) (fun p hp => by rw [show p = j by omega]; exact hg)
        rcases j with _ | j
        · refine ⟨k + 1, ?_⟩
          have e3 : ¬ ((0 : Nat) : Int) > 0 := by omega
          simp only [sluicewayref19_Good.l1, rL1, hL, e, e0, e1, e2, if_true, hrj, h1, h2, e3, if_false, wrap_succ 0 (by omega), hk, okRow]
          simp [hb0 rfl, show -1 < q by omega, show q < (i : Int) by omega]
        · have hp := hb1 j rfl
          have e3 : ((j + 1 : Nat) : Int) > 0 := by omega
          have e4 : (0 : Int) ≤ (j : Int) := by omega
          have e5 : (j : Int) < (row.length : Int) := by omega
          have hrp : rd row (j : Int) = b := by
            rw [rd_get row j (by omega)]
            rw [List.getElem?_eq_getElem (by omega)] at hp
            exact Option.some.inj hp
          refine ⟨k + 1, ?_⟩
          simp only [sluicewayref19_Good.l1, rL1, hL, e, e0, e1, e2, if_true, hrj, h1, h2, e3, if_false, wrap_pred j (by omega), e4, e5, hrp, wrap_succ (j + 1) (by omega), hk, okRow]
          by_cases h3 : b ≥ q
          · simp [h3, show ¬ b < q by omega]
          · simp [h3, show b < q by omega, show q < (i : Int) by omega]
theorem r19_from (L : List (List Int)) (hL : L.length ≤ 1000000) (hr : rowsAt L 1000000) : ∀ (m i : Nat), i + m = L.length → ∃ k, sluicewayref19_Good.l0 k L i = some (okFrom i (L.drop i)) := by
  intro m
  induction m with
  | zero =>
    intro i hi
    refine ⟨1, ?_⟩
    have e : ¬ ((i : Int) < (L.length : Int)) := by omega
    simp only [sluicewayref19_Good.l0, e, if_false]
    rw [List.drop_of_length_le (by omega)]
    simp [okFrom]
  | succ m ih =>
    intro i hi
    have hlt : i < L.length := by omega
    have e : ((i : Int) < (L.length : Int)) := by omega
    have hg : L.getD i [] = L[i] := by simp [List.getD_eq_getElem?_getD, hlt]
    obtain ⟨k, hk⟩ := r19_row L i L[i] hg hlt (hr _ (List.getElem_mem hlt)) (by omega) _ (ih (i + 1) (by omega)) L[i].length 0 (-1) (by omega) (by omega) (fun _ => rfl) (fun q hq => by omega)
    refine ⟨k + 1, ?_⟩
    simp only [sluicewayref19_Good.l0, e, if_true]
    rw [List.drop_eq_getElem_cons hlt]
    simpa [okFrom] using hk
theorem r19_calls (A0 : Option Addr) (c0 : Nat) (L : List (List Int)) (w : World) (hL : L.length ≤ 1000000) (hr : rowsAt L 1000000) (hr0 : Kd.C (Kd.slice 3 (Kd.int .i64)) w A0 L.length L) (hc0 : L.length ≤ c0) :
    Calls Try.prog 9 #[.slice A0 L.length c0] w fun e w' => e = .returned (.bool (goodB L)) ∧ Drawn0 w w' := by
  obtain ⟨k, hk⟩ := r19_from L hL hr L.length 0 (by omega)
  exact sluicewayref19_Good.calls k A0 c0 L _ w hr0 hc0 (by simpa [sluicewayref19_Good.f, goodB] using hk)
end

section
open Go.Proofs.Ytigpcfokmbnlaaa.PSchedPlays
def bigFrom : Nat → List (List Int) → Bool
  | _, [] => false
  | i, l :: ls => decide (30 < i) || (decide (40 < l.length) || bigFrom (i + 1) ls)
def largeB (L : List (List Int)) (picks : List Int) : Bool := bigFrom 0 L || decide (200 < picks.length)
theorem large_from (L : List (List Int)) (picks : List Int) : ∀ (m i : Nat), i + m = 32 → i ≤ L.length → ∃ k, sluicewaylaw21_large.l0 k picks L L.length i = some (bigFrom i (L.drop i) || decide (200 < picks.length)) := by
  intro m
  induction m with
  | zero =>
    intro i hi hl
    refine ⟨1, ?_⟩
    by_cases hlt : i < L.length
    · have e : ((i : Int) < (L.length : Int)) := by omega
      have e0 : (0 : Int) ≤ (i : Int) := by omega
      have e1 : (i : Int) > 30 := by omega
      simp only [sluicewaylaw21_large.l0, e, e0, e1, if_true]
      rw [List.drop_eq_getElem_cons hlt]
      simp [bigFrom, show 30 < i by omega]
    · have e : ¬ ((i : Int) < (L.length : Int)) := by omega
      simp only [sluicewaylaw21_large.l0, e, if_false]
      rw [List.drop_of_length_le (by omega)]
      simp [bigFrom]
      omega
  | succ m ih =>
    intro i hi hl
    by_cases hlt : i < L.length
    · have e : ((i : Int) < (L.length : Int)) := by omega
      have e0 : (0 : Int) ≤ (i : Int) := by omega
      have hg : L.getD i [] = L[i] := by simp [List.getD_eq_getElem?_getD, hlt]
      rw [List.drop_eq_getElem_cons hlt]
      by_cases h1 : 30 < i
      · refine ⟨1, ?_⟩
        have e1 : (i : Int) > 30 := by omega
        simp only [sluicewaylaw21_large.l0, e, e0, e1, if_true]
        simp [bigFrom, h1]
      · have e1 : ¬ (i : Int) > 30 := by omega
        by_cases h2 : 40 < L[i].length
        · refine ⟨1, ?_⟩
          have e2 : ((L[i].length : Nat) : Int) > 40 := by omega
          simp only [sluicewaylaw21_large.l0, rd_L1_nat, hg, e, e0, e1, e2, if_true, if_false]
          simp [bigFrom, h2]
        · obtain ⟨k, hk⟩ := ih (i + 1) (by omega) (by omega)
          refine ⟨k + 1, ?_⟩
          have e2 : ¬ ((L[i].length : Nat) : Int) > 40 := by omega
          simp only [sluicewaylaw21_large.l0, rd_L1_nat, hg, e, e0, e1, e2, if_true, if_false, wrap_succ i (by omega), hk]
          simp [bigFrom, h1, h2]
    · refine ⟨1, ?_⟩
      have e : ¬ ((i : Int) < (L.length : Int)) := by omega
      simp only [sluicewaylaw21_large.l0, e, if_false]
      rw [List.drop_of_length_le (by omega)]
      simp [bigFrom]
      omega
theorem large_f (L : List (List Int)) (picks : List Int) : ∃ k, sluicewaylaw21_large.f k L picks = some (largeB L picks) := by
  obtain ⟨k, hk⟩ := large_from L picks 32 0 (by omega) (by omega)
  exact ⟨k, by simpa [sluicewaylaw21_large.f, largeB] using hk⟩
theorem large_calls (A0 : Option Addr) (c0 : Nat) (L : List (List Int)) (A1 : Option Addr) (c1 : Nat) (picks : List Int) (w : World) (hr0 : Kd.C (Kd.slice 3 (Kd.int .i64)) w A0 L.length L) (hc0 : L.length ≤ c0) (hr1 : Kd.C (Kd.int .i64) w A1 picks.length picks) (hc1 : picks.length ≤ c1) :
    Calls Try.prog 8 #[.slice A0 L.length c0, .slice A1 picks.length c1] w fun e w' => e = .returned (.bool (largeB L picks)) ∧ Drawn0 w w' := by
  obtain ⟨k, hk⟩ := large_f L picks
  exact sluicewaylaw21_large.calls k A0 c0 L A1 c1 picks _ w hr0 hc0 hr1 hc1 hk
theorem big_len : ∀ (L : List (List Int)) (i : Nat), bigFrom i L = false → (L ≠ [] → i + L.length ≤ 31) ∧ ∀ l ∈ L, l.length ≤ 40 := by
  intro L
  induction L with
  | nil => intro i _; exact ⟨fun h => absurd rfl h, by simp⟩
  | cons l ls ih =>
    intro i h
    simp only [bigFrom, Bool.or_eq_false_iff, decide_eq_false_iff_not] at h
    obtain ⟨h1, h2, h3⟩ := h
    obtain ⟨a, b⟩ := ih (i + 1) h3
    refine ⟨fun _ => ?_, fun q hq => ?_⟩
    · cases ls with
      | nil => simp; omega
      | cons l' ls => have := a (by simp); simp at this ⊢; omega
    · rcases List.mem_cons.1 hq with rfl | hq
      · omega
      · exact b q hq
theorem large_false (L : List (List Int)) (picks : List Int) (h : largeB L picks = false) : L.length ≤ 31 ∧ rowsAt L 40 ∧ picks.length ≤ 200 := by
  simp only [largeB, Bool.or_eq_false_iff, decide_eq_false_iff_not] at h
  obtain ⟨a, b⟩ := big_len L 0 h.1
  refine ⟨?_, b, by omega⟩
  cases L with
  | nil => simp
  | cons l ls => have := a (by simp); omega
end
end Go.Proofs.Ytigpcfokmbnlaaa.Sched
