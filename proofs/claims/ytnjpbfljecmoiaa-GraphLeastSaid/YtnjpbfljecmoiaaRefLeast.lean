/- Plain law: what the document's Good and Least answer, and what is large. -/
import Derived.Test.YtnjpbfljecmoiaaLeast
import Derived.Test.YtnjpbfljecmoiaaPGraphLeastx2
import Derived.Test.YtnjpbfljecmoiaaPGraphLeastx4
namespace Go.Proofs.Ytnjpbfljecmoiaa.Graph.Lst
open Go.RowKit Go.Proofs.YtnjpbfljecmoiaaW.PrintWords Go.Proofs.Ytnjpbfljecmoiaa.PGraphLeast Go.Proofs.Ytnjpbfljecmoiaa.Graph

theorem rL1 (L : List (List Int)) (i : Nat) : Go.Proofs.Ytnjpbfljecmoiaa.PGraphLeast.rd_L6 L (i : Int) = L.getD i [] := by simp [Go.Proofs.Ytnjpbfljecmoiaa.PGraphLeast.rd_L6]
theorem wrap_pred (n : Nat) (h : n < 1000000000) : wrap64 (((n + 1 : Nat) : Int) - 1) = (n : Int) := by
  unfold wrap64; omega
theorem r19_row (L : List (List Int)) (i : Nat) (row : List Int) (hL : L.getD i [] = row) (hi : i < L.length) (hrow : row.length ≤ 1000000) (hi2 : i < 1000000) (r : Bool) (hn : ∃ k, sluicewayref19_Good.l0 k L ((i + 1 : Nat) : Int) = some r) :
    ∀ (m j : Nat) (b : Int), j + m = row.length → -1 ≤ b → (j = 0 → b = -1) → (∀ q, j = q + 1 → row[q]? = some b) → ∃ k, sluicewayref19_Good.l1 k L i j = some (okRow i b (row.drop j) && r) := by
  have e1 : (0 : Int) ≤ (i : Int) := by omega
  have e2 : (i : Int) < (L.length : Int) := by omega
  intro m
  induction m with
  | zero =>
    intro j b hj _ _ _
    obtain ⟨k, hk⟩ := hn
    refine ⟨k + 1, ?_⟩
    have e : ¬ ((j : Int) < (row.length : Int)) := by omega
    simp only [sluicewayref19_Good.l1, rL1, hL, e, e1, e2, if_true, if_false, wrap_succ i (by omega), hk]
    rw [List.drop_of_length_le (by omega)]
    simp [okRow]
  | succ m ih =>
    intro j b hj hb hb0 hb1
    have hlt : j < row.length := by omega
    have e : ((j : Int) < (row.length : Int)) := by omega
    have e0 : (0 : Int) ≤ (j : Int) := by omega
    have hg : row[j]? = some row[j] := by simp [hlt]
    rw [List.drop_eq_getElem_cons hlt]
    have hrj := rd_get row j hlt
    generalize row[j] = q at hg hrj
    by_cases h1 : q < 0
    · refine ⟨1, ?_⟩
      simp only [sluicewayref19_Good.l1, rL1, hL, e, e0, e1, e2, if_true, hrj, h1, okRow]
      have : ¬ b < q := by
        rcases Nat.eq_zero_or_pos j with hj0 | hj0
        · rw [hb0 hj0]; omega
        · omega
      simp [this]
    · by_cases h2 : q ≥ (i : Int)
      · refine ⟨1, ?_⟩
        simp only [sluicewayref19_Good.l1, rL1, hL, e, e0, e1, e2, if_true, hrj, h1, h2, if_false, okRow]
        simp [show ¬ q < (i : Int) by omega]
      · obtain ⟨k, hk⟩ := ih (j + 1) q (by omega) (by omega) (by omega) (fun p hp => by rw [show p = j by omega]; exact hg)
        rcases j with _ | j
        · refine ⟨k + 1, ?_⟩
          have e3 : ¬ ((0 : Nat) : Int) > 0 := by omega
          simp only [sluicewayref19_Good.l1, rL1, hL, e, e0, e1, e2, if_true, hrj, h1, h2, e3, if_false, wrap_succ 0 (by omega), hk, okRow]
          simp [hb0 rfl, show -1 < q by omega, show q < (i : Int) by omega]
        · have hp := hb1 j rfl
          have e3 : ((j + 1 : Nat) : Int) > 0 := by omega
          have e4 : (0 : Int) ≤ (j : Int) := by omega
          have e5 : (j : Int) < (row.length : Int) := by omega
          have hrp : rd row (j : Int) = b := by
            rw [rd_get row j (by omega)]
            rw [List.getElem?_eq_getElem (by omega)] at hp
            exact Option.some.inj hp
          refine ⟨k + 1, ?_⟩
          simp only [sluicewayref19_Good.l1, rL1, hL, e, e0, e1, e2, if_true, hrj, h1, h2, e3, if_false, wrap_pred j (by omega), e4, e5, hrp, wrap_succ (j + 1) (by omega), hk, okRow]
          by_cases h3 : b ≥ q
          · simp [h3, show ¬ b < q by omega]
          · simp [h3, show b < q by omega, show q < (i : Int) by omega]
theorem r19_from (L : List (List Int)) (hL : L.length ≤ 1000000) (hr : rowsAt L 1000000) : ∀ (m i : Nat), i + m = L.length → ∃ k, sluicewayref19_Good.l0 k L i = some (okFrom i (L.drop i)) := by
  intro m
  induction m with
  | zero =>
    intro i hi
    refine ⟨1, ?_⟩
    have e : ¬ ((i : Int) < (L.length : Int)) := by omega
    simp only [sluicewayref19_Good.l0, e, if_false]
    rw [List.drop_of_length_le (by omega)]
    simp [okFrom]
  | succ m ih =>
    intro i hi
    have hlt : i < L.length := by omega
    have e : ((i : Int) < (L.length : Int)) := by omega
    have hg : L.getD i [] = L[i] := by simp [List.getD_eq_getElem?_getD, hlt]
    obtain ⟨k, hk⟩ := r19_row L i L[i] hg hlt (hr _ (List.getElem_mem hlt)) (by omega) _ (ih (i + 1) (by omega)) L[i].length 0 (-1) (by omega) (by omega) (fun _ => rfl) (fun q hq => by omega)
    refine ⟨k + 1, ?_⟩
    simp only [sluicewayref19_Good.l0, e, if_true]
    rw [List.drop_eq_getElem_cons hlt]
    simpa [okFrom] using hk
theorem r19_calls (A0 : Option Addr) (c0 : Nat) (L : List (List Int)) (w : World) (hL : L.length ≤ 1000000) (hr : rowsAt L 1000000) (hr0 : Kd.C (Kd.slice 3 (Kd.int .i64)) w A0 L.length L) (hc0 : L.length ≤ c0) :
    Calls Try.prog 14 #[.slice A0 L.length c0] w fun e w' => e = .returned (.bool (goodB L)) ∧ Drawn0 w w' := by
  obtain ⟨k, hk⟩ := r19_from L hL hr L.length 0 (by omega)
  exact sluicewayref19_Good.calls k A0 c0 L _ w hr0 hc0 (by simpa [sluicewayref19_Good.f, goodB] using hk)

/-- More than is looked at: more than forty-one rows, or a row of more than sixty. -/
def bigG : Nat → List (List Int) → Bool
  | _, [] => false
  | i, l :: ls => decide (40 < i) || (decide (60 < l.length) || bigG (i + 1) ls)
theorem large_from (L : List (List Int)) : ∀ (m i : Nat), i + m = 42 → i ≤ L.length → ∃ k, sluicewaylaw19_large.l0 k L L.length i = some (bigG i (L.drop i)) := by
  intro m
  induction m with
  | zero =>
    intro i hi hl
    refine ⟨1, ?_⟩
    by_cases hlt : i < L.length
    · have e : ((i : Int) < (L.length : Int)) := by omega
      have e0 : (0 : Int) ≤ (i : Int) := by omega
      have e1 : (i : Int) > 40 := by omega
      simp only [sluicewaylaw19_large.l0, e, e0, e1, if_true]
      rw [List.drop_eq_getElem_cons hlt]
      simp [bigG, show 40 < i by omega]
    · have e : ¬ ((i : Int) < (L.length : Int)) := by omega
      simp only [sluicewaylaw19_large.l0, e, if_false]
      rw [List.drop_of_length_le (by omega)]
      simp [bigG]
  | succ m ih =>
    intro i hi hl
    by_cases hlt : i < L.length
    · have e : ((i : Int) < (L.length : Int)) := by omega
      have e0 : (0 : Int) ≤ (i : Int) := by omega
      have hg : L.getD i [] = L[i] := by simp [List.getD_eq_getElem?_getD, hlt]
      rw [List.drop_eq_getElem_cons hlt]
      by_cases h1 : 40 < i
      · refine ⟨1, ?_⟩
        have e1 : (i : Int) > 40 := by omega
        simp only [sluicewaylaw19_large.l0, e, e0, e1, if_true]
        simp [bigG, h1]
      · have e1 : ¬ (i : Int) > 40 := by omega
        by_cases h2 : 60 < L[i].length
        · refine ⟨1, ?_⟩
          have e2 : ((L[i].length : Nat) : Int) > 60 := by omega
          simp only [sluicewaylaw19_large.l0, rL1, hg, e, e0, e1, e2, if_true, if_false]
          simp [bigG, h2]
        · obtain ⟨k, hk⟩ := ih (i + 1) (by omega) (by omega)
          refine ⟨k + 1, ?_⟩
          have e2 : ¬ ((L[i].length : Nat) : Int) > 60 := by omega
          simp only [sluicewaylaw19_large.l0, rL1, hg, e, e0, e1, e2, if_true, if_false, wrap_succ i (by omega), hk]
          simp [bigG, h1, h2]
    · refine ⟨1, ?_⟩
      have e : ¬ ((i : Int) < (L.length : Int)) := by omega
      simp only [sluicewaylaw19_large.l0, e, if_false]
      rw [List.drop_of_length_le (by omega)]
      simp [bigG]
theorem large_calls (A0 : Option Addr) (c0 : Nat) (L : List (List Int)) (w : World) (hr0 : Kd.C (Kd.slice 3 (Kd.int .i64)) w A0 L.length L) (hc0 : L.length ≤ c0) :
    Calls Try.prog 12 #[.slice A0 L.length c0] w fun e w' => e = .returned (.bool (bigG 0 L)) ∧ Drawn0 w w' := by
  obtain ⟨k, hk⟩ := large_from L 42 0 (by omega) (by omega)
  exact sluicewaylaw19_large.calls k A0 c0 L _ w hr0 hc0 (by simpa [sluicewaylaw19_large.f] using hk)
theorem big_len : ∀ (L : List (List Int)) (i : Nat), bigG i L = false → (L ≠ [] → i + L.length ≤ 41) ∧ ∀ l ∈ L, l.length ≤ 60 := by
  intro L
  induction L with
  | nil => intro i _; exact ⟨fun h => absurd rfl h, by simp⟩
  | cons l ls ih =>
    intro i h
    simp only [bigG, Bool.or_eq_false_iff, decide_eq_false_iff_not] at h
    obtain ⟨h1, h2, h3⟩ := h
    obtain ⟨a, b⟩ := ih (i + 1) h3
    refine ⟨fun _ => ?_, fun q hq => ?_⟩
    · cases ls with
      | nil => simp; omega
      | cons l' ls => have := a (by simp); simp at this ⊢; omega
    · rcases List.mem_cons.1 hq with rfl | hq
      · omega
      · exact b q hq
theorem large_false (L : List (List Int)) (h : bigG 0 L = false) : L.length ≤ 41 ∧ rowsAt L 60 := by
  obtain ⟨a, b⟩ := big_len L 0 h
  refine ⟨?_, b⟩
  cases L with
  | nil => simp
  | cons l ls => have := a (by simp); omega

theorem rL8 (M : List (List Bool)) (i : Nat) : rd_L8 M (i : Int) = M.getD i [] := by simp [rd_L8]
theorem at_succ {K k : Nat} (h : K + 1 ≤ k) : ∃ j, k = j + 1 ∧ K ≤ j := ⟨k - 1, by omega, by omega⟩
def allB (L : List (List Int)) (i : Nat) : List Bool := (List.range L.length).map (reachB L i)
def allK (L : List (List Int)) (n : Nat) : List (List Bool) := (List.range n).map (allB L)
theorem allB_len (L : List (List Int)) (i : Nat) : (allB L i).length = L.length := by simp [allB]
theorem allB_get (L : List (List Int)) (i t : Nat) (h : t < L.length) : (allB L i).getD t false = reachB L i t := by
  unfold allB
  rw [List.getD_eq_getElem?_getD, List.getElem?_map, List.getElem?_range h]; rfl
theorem allK_len (L : List (List Int)) (n : Nat) : (allK L n).length = n := by simp [allK]
theorem allK_get (L : List (List Int)) (n i : Nat) (h : i < n) : (allK L n).getD i [] = allB L i := by
  unfold allK
  rw [List.getD_eq_getElem?_getD, List.getElem?_map, List.getElem?_range h]; rfl
theorem allK_succ (L : List (List Int)) (n : Nat) : allK L (n + 1) = allK L n ++ [allB L n] := by
  unfold allK; rw [List.range_succ, List.map_append]; rfl
theorem rdOf_nat (s : List Bool) (j : Nat) : rdOf false s (j : Int) = s.getD j false := by unfold rdOf; rw [Int.toNat_natCast]
theorem or_set (s : List Bool) (r : Nat → Bool) (j : Nat) (hj : j < s.length) : (orR s (fun t => decide (t < j) && r t)).set j (s.getD j false || r j) = orR s (fun t => decide (t < j + 1) && r t) := by
  refine bools_ext (by rw [List.length_set, orR_len, orR_len]) fun t ht => ?_
  rw [List.length_set, orR_len] at ht
  rw [orR_getD _ _ _ ht]
  by_cases e : j = t
  · subst e
    have : ((orR s (fun t => decide (t < j) && r t)).set j (s.getD j false || r j)).getD j false = (s.getD j false || r j) := by
      rw [List.getD_eq_getElem?_getD, List.getElem?_set_self (by rw [orR_len]; exact hj)]; rfl
    rw [this]; simp
  · have : ((orR s (fun t => decide (t < j) && r t)).set j (s.getD j false || r j)).getD t false = (orR s (fun t => decide (t < j) && r t)).getD t false := by
      rw [List.getD_eq_getElem?_getD, List.getElem?_set_ne e, ← List.getD_eq_getElem?_getD]
    rw [this, orR_getD _ _ _ ht]
    have h2 : (decide (t < j + 1)) = decide (t < j) := by rw [decide_eq_decide]; omega
    rw [h2]
section
variable (L : List (List Int)) (hL : goodB L = true) (hN : L.length ≤ 1000) (hr : rowsAt L 1000)
include hN
/-- One row joined into another one. -/
theorem all_l2 (i n u : Nat) (hn : n < i) (hi : i < L.length) (s : List Bool) (hs : s.length = L.length) (r : List (List Bool)) (K0 : Nat) (hc : ∀ k, K0 ≤ k → sluicewayref19_all.l1 k L (allK L i) i (orR s (reachB L n)) ((u + 1 : Nat) : Int) = some r) (hu : u < 1000000) :
    ∀ (m j : Nat), j + m = L.length → ∃ K, ∀ k, K ≤ k → sluicewayref19_all.l2 k L (allK L i) i (orR s (fun t => decide (t < j) && reachB L n t)) u n j = some r := by
  intro m
  induction m with
  | zero =>
    intro j hj
    refine ⟨K0 + 1, fun k hk => ?_⟩
    obtain ⟨k, rfl, hk2⟩ := at_succ hk
    have e : ¬ (j : Int) < (L.length : Int) := by omega
    have hq : orR s (fun t => decide (t < j) && reachB L n t) = orR s (reachB L n) := orR_congr fun t ht => by
      rw [decide_eq_true (show t < j by omega), Bool.true_and]
    simp only [sluicewayref19_all.l2, e, if_false, wrap_succ u (by omega), hq, hc k hk2]
  | succ m ih =>
    intro j hj
    obtain ⟨K, hK⟩ := ih (j + 1) (by omega)
    refine ⟨K + 1, fun k hk => ?_⟩
    obtain ⟨k, rfl, hk2⟩ := at_succ hk
    have hjl : j < s.length := by omega
    have e : (j : Int) < (L.length : Int) := by omega
    have e0 : (0 : Int) ≤ (j : Int) := by omega
    have e1 : (j : Int) < ((orR s (fun t => decide (t < j) && reachB L n t)).length : Int) := by rw [orR_len]; omega
    have e2 : (0 : Int) ≤ (n : Int) := by omega
    have e3 : (n : Int) < ((allK L i).length : Int) := by rw [allK_len]; omega
    have e4 : (j : Int) < ((allB L n).length : Int) := by rw [allB_len]; omega
    have hrow : rd_L8 (allK L i) (n : Int) = allB L n := by rw [rL8, allK_get L i n hn]
    have hcur : (orR s (fun t => decide (t < j) && reachB L n t)).getD j false = s.getD j false := by
      rw [orR_getD _ _ _ hjl]; simp
    have hst := or_set s (reachB L n) j hjl
    have hk3 := hK k hk2
    cases hb : s.getD j false with
    | true =>
      rw [hb, Bool.true_or] at hst
      rw [hb] at hcur
      simp only [sluicewayref19_all.l2, e, e0, e1, rdOf_nat, hcur, if_true, Int.toNat_natCast, hst, wrap_succ j (by omega), hk3]
    | false =>
      rw [hb, Bool.false_or] at hst
      rw [hb] at hcur
      simp only [sluicewayref19_all.l2, e, e0, e1, e2, e3, hrow, e4, rdOf_nat, hcur, allB_get L n j (by omega), if_true, Int.toNat_natCast, hst, wrap_succ j (by omega), hk3]
      rfl
include hL hr
theorem all_l1 (i : Nat) (hi : i < L.length) (r : List (List Bool)) (K0 : Nat) (hc : ∀ k, K0 ≤ k → sluicewayref19_all.l0 k L (allK L (i + 1)) ((i + 1 : Nat) : Int) = some r) :
    ∀ (m u : Nat), u + m = (L.getD i []).length → ∃ K, ∀ k, K ≤ k → sluicewayref19_all.l1 k L (allK L i) i (orR (List.replicate L.length false) (fun t => ((L.getD i []).take u).any fun k => k.toNat == t || reachB L k.toNat t)) u = some r := by
  have hrl : (L.getD i []).length ≤ 1000 := by
    have e : L.getD i [] = L[i] := by simp [List.getD_eq_getElem?_getD, hi]
    rw [e]; exact hr _ (List.getElem_mem hi)
  have e0 : (0 : Int) ≤ (i : Int) := by omega
  have e1 : (i : Int) < (L.length : Int) := by omega
  intro m
  induction m with
  | zero =>
    intro u hu
    refine ⟨K0 + 1, fun k hk => ?_⟩
    obtain ⟨k, rfl, hk2⟩ := at_succ hk
    have e : ¬ (u : Int) < ((L.getD i []).length : Int) := by omega
    have e2 : (allK L i).length < 5864062014805 := by rw [allK_len]; omega
    have hq : orR (List.replicate L.length false) (fun t => ((L.getD i []).take u).any fun k => k.toNat == t || reachB L k.toNat t) = allB L i := by
      refine bools_ext (by rw [orR_len, List.length_replicate, allB_len]) fun t ht => ?_
      rw [orR_len] at ht
      rw [List.length_replicate] at ht
      rw [orR_getD _ _ _ (by rw [List.length_replicate]; exact ht), allB_get L i t ht, reach_eq hL, show u = (L.getD i []).length by omega, List.take_length]
      have hz : (List.replicate L.length false).getD t false = false := by simp [List.getD_eq_getElem?_getD, List.getElem?_replicate]; split <;> rfl
      rw [hz, Bool.false_or]
    have := hc k hk2
    rw [allK_succ] at this
    simp only [sluicewayref19_all.l1, rL1, e, e0, e1, e2, if_true, if_false, hq, wrap_succ i (by omega), this]
  | succ m ih =>
    intro u hu
    have hlt : u < (L.getD i []).length := by omega
    obtain ⟨K, hK⟩ := ih (u + 1) (by omega)
    have hkl := row_lt hL i _ (List.getElem_mem hlt)
    have hany : (fun t => ((L.getD i []).take (u + 1)).any fun k => k.toNat == t || reachB L k.toNat t) = fun t => ((L.getD i []).take u).any (fun k => k.toNat == t || reachB L k.toNat t) || ((L.getD i [])[u].toNat == t || reachB L (L.getD i [])[u].toNat t) := funext fun t => any_takeR _ _ u hlt
    have hrd := rd_get (L.getD i []) u hlt
    rw [hany] at hK
    generalize (L.getD i [])[u] = kk at hkl hany hrd hK
    obtain ⟨n, rfl⟩ := Int.eq_ofNat_of_zero_le hkl.1
    rw [Int.toNat_natCast] at hkl hK
    have hq : orR (List.replicate L.length false) (fun t => ((L.getD i []).take u).any (fun k => k.toNat == t || reachB L k.toNat t) || (n == t || reachB L n t)) = orR ((orR (List.replicate L.length false) (fun t => ((L.getD i []).take u).any fun k => k.toNat == t || reachB L k.toNat t)).set n true) (reachB L n) := by
      rw [set_orR, orR_orR, orR_orR]
    rw [hq] at hK
    obtain ⟨K2, hK2⟩ := all_l2 L hN i n u hkl.2.1 hi ((orR (List.replicate L.length false) (fun t => ((L.getD i []).take u).any fun k => k.toNat == t || reachB L k.toNat t)).set n true) (by rw [List.length_set, orR_len, List.length_replicate]) r K (fun k hk => hK k hk) (by omega) L.length 0 (by omega)
    refine ⟨K2 + 1, fun k hk => ?_⟩
    obtain ⟨k, rfl, hk2⟩ := at_succ hk
    have e : (u : Int) < ((L.getD i []).length : Int) := by omega
    have e2 : (0 : Int) ≤ (u : Int) := by omega
    have e3 : (0 : Int) ≤ (n : Int) := by omega
    have e4 : (n : Int) < ((orR (List.replicate L.length false) (fun t => ((L.getD i []).take u).any fun k => k.toNat == t || reachB L k.toNat t)).length : Int) := by rw [orR_len, List.length_replicate]; omega
    have h2 := hK2 k hk2
    rw [show (fun t => decide (t < 0) && reachB L n t) = (fun _ => false) from funext fun t => by simp, orR_false, show ((0 : Nat) : Int) = 0 from rfl] at h2
    simp only [sluicewayref19_all.l1, rL1, e, e0, e1, e2, hrd, e3, e4, if_true, Int.toNat_natCast, h2]
theorem all_f : ∃ K, ∀ k, K ≤ k → sluicewayref19_all.f k L = some (allK L L.length) := by
  have key : ∀ (m i : Nat), i + m = L.length → ∃ K, ∀ k, K ≤ k → sluicewayref19_all.l0 k L (allK L i) i = some (allK L L.length) := by
    intro m
    induction m with
    | zero =>
      intro i hi
      refine ⟨1, fun k hk => ?_⟩
      obtain ⟨k, rfl, _⟩ := at_succ hk
      have e : ¬ (i : Int) < (L.length : Int) := by omega
      simp only [sluicewayref19_all.l0, e, if_false]
      rw [show i = L.length by omega]
    | succ m ih =>
      intro i hi
      obtain ⟨K0, h0⟩ := ih (i + 1) (by omega)
      obtain ⟨K, hK⟩ := all_l1 L hL hN hr i (by omega) _ K0 h0 (L.getD i []).length 0 (by omega)
      refine ⟨K + 1, fun k hk => ?_⟩
      obtain ⟨k, rfl, hk2⟩ := at_succ hk
      have e : (i : Int) < (L.length : Int) := by omega
      have e0 : (0 : Int) ≤ (L.length : Int) := by omega
      have e1 : L.length ≤ 281474976710656 := by omega
      have h1 := hK k hk2
      rw [show (fun t => ((L.getD i []).take 0).any fun k => k.toNat == t || reachB L k.toNat t) = (fun _ => false) from rfl, orR_false, show ((0 : Nat) : Int) = 0 from rfl] at h1
      simp only [sluicewayref19_all.l0, e, e0, if_true, Int.toNat_natCast, e1, h1]
  obtain ⟨K, hK⟩ := key L.length 0 (by omega)
  exact ⟨K, fun k hk => hK k hk⟩
theorem least_l1 (i : Nat) (hi : i < L.length) (out : List (List Int)) (ho : out.length ≤ 1000) (r : List (List Int)) (K0 : Nat) (hc : ∀ k, K0 ≤ k → sluicewayref19_Least.l0 k L (allK L L.length) (out ++ [leastRow L i]) ((i + 1 : Nat) : Int) = some r) :
    ∀ (m u : Nat), u + m = (L.getD i []).length → ∃ K, ∀ k, K ≤ k → sluicewayref19_Least.l1 k L (allK L L.length) out i (((L.getD i []).take u).filter fun n => !((L.getD i []).any fun k => reachB L k.toNat n.toNat)) u = some r := by
  have hrl : (L.getD i []).length ≤ 1000 := by
    have e : L.getD i [] = L[i] := by simp [List.getD_eq_getElem?_getD, hi]
    rw [e]; exact hr _ (List.getElem_mem hi)
  have e0 : (0 : Int) ≤ (i : Int) := by omega
  have e1 : (i : Int) < (L.length : Int) := by omega
  intro m
  induction m with
  | zero =>
    intro u hu
    refine ⟨K0 + 1, fun k hk => ?_⟩
    obtain ⟨k, rfl, hk2⟩ := at_succ hk
    have e : ¬ (u : Int) < ((L.getD i []).length : Int) := by omega
    have e2 : out.length < 5864062014805 := by omega
    have hq : (((L.getD i []).take u).filter fun n => !((L.getD i []).any fun k => reachB L k.toNat n.toNat)) = leastRow L i := by
      unfold leastRow; rw [show u = (L.getD i []).length by omega, List.take_length]
    simp only [sluicewayref19_Least.l1, rL1, e, e0, e1, e2, if_true, if_false, hq, wrap_succ i (by omega), hc k hk2]
  | succ m ih =>
    intro u hu
    have hlt : u < (L.getD i []).length := by omega
    obtain ⟨K, hK⟩ := ih (u + 1) (by omega)
    rw [List.take_succ_eq_append_getElem hlt, List.filter_append] at hK
    have hkl := row_lt hL i _ (List.getElem_mem hlt)
    have hrd := rd_get (L.getD i []) u hlt
    have hal : (((L.getD i []).take u).filter fun n => !((L.getD i []).any fun k => reachB L k.toNat n.toNat)).length ≤ 1000 := by
      refine Nat.le_trans (List.length_filter_le _ _) ?_
      rw [List.length_take]; omega
    generalize hk0 : (L.getD i [])[u] = kk at hkl hrd hK
    obtain ⟨n, rfl⟩ := Int.eq_ofNat_of_zero_le hkl.1
    clear hk0
    rw [Int.toNat_natCast] at hkl
    generalize (((L.getD i []).take u).filter fun n => !((L.getD i []).any fun k => reachB L k.toNat n.toNat)) = acc at hK hal
    have e : (u : Int) < ((L.getD i []).length : Int) := by omega
    have e2 : (0 : Int) ≤ (u : Int) := by omega
    cases hb : (L.getD i []).any (fun k => reachB L k.toNat n) with
    | true =>
      rw [show List.filter (fun n : Int => !((L.getD i []).any fun k => reachB L k.toNat n.toNat)) [(n : Int)] = [] from List.filter_cons_of_neg (p := fun n : Int => !((L.getD i []).any fun k => reachB L k.toNat n.toNat)) (by show ¬ (!((L.getD i []).any fun k => reachB L k.toNat ((n : Int)).toNat)) = true; rw [Int.toNat_natCast, hb]; decide), List.append_nil] at hK
      obtain ⟨K3, hK3⟩ : ∃ K3, ∀ k, K3 ≤ k → sluicewayref19_Least.l2 k L (allK L L.length) out i acc u n false 0 = some r := by
        -- only the way through is taken
        have key : ∀ (m j : Nat) (b : Bool), j + m = (L.getD i []).length → (b || ((L.getD i []).drop j).any fun k => reachB L k.toNat n) = true → ∃ K, ∀ k, K ≤ k → sluicewayref19_Least.l2 k L (allK L L.length) out i acc u n b j = some r := by
          intro m
          induction m with
          | zero =>
            intro j b hj hbt
            rw [List.drop_of_length_le (by omega)] at hbt
            have hbt2 : b = true := by simpa using hbt
            subst hbt2
            refine ⟨K + 1, fun k hk => ?_⟩
            obtain ⟨k, rfl, hk2⟩ := at_succ hk
            have e : ¬ (j : Int) < ((L.getD i []).length : Int) := by omega
            simp only [sluicewayref19_Least.l2, rL1, e, e0, e1, if_true, if_false, wrap_succ u (by omega), hK k hk2]
          | succ m ih2 =>
            intro j b hj hbt
            have hlt2 : j < (L.getD i []).length := by omega
            have e : (j : Int) < ((L.getD i []).length : Int) := by omega
            have e2 : (0 : Int) ≤ (j : Int) := by omega
            have hkl2 := row_lt hL i _ (List.getElem_mem hlt2)
            have hrd2 := rd_get (L.getD i []) j hlt2
            rw [List.drop_eq_getElem_cons hlt2, List.any_cons] at hbt
            generalize (L.getD i [])[j] = kk at hkl2 hrd2 hbt
            obtain ⟨q, rfl⟩ := Int.eq_ofNat_of_zero_le hkl2.1
            rw [Int.toNat_natCast] at hkl2 hbt
            cases b with
            | true =>
              obtain ⟨K4, hK4⟩ := ih2 (j + 1) true (by omega) (by rw [Bool.true_or])
              refine ⟨K4 + 1, fun k hk => ?_⟩
              obtain ⟨k, rfl, hk2⟩ := at_succ hk
              simp only [sluicewayref19_Least.l2, rL1, e, e0, e1, if_true, wrap_succ j (by omega), hK4 k hk2]
            | false =>
              rw [Bool.false_or] at hbt
              obtain ⟨K4, hK4⟩ := ih2 (j + 1) (reachB L q n) (by omega) hbt
              refine ⟨K4 + 1, fun k hk => ?_⟩
              obtain ⟨k, rfl, hk2⟩ := at_succ hk
              have e3 : (0 : Int) ≤ (q : Int) := by omega
              have e4 : (q : Int) < ((allK L L.length).length : Int) := by rw [allK_len]; omega
              have e5 : (0 : Int) ≤ (n : Int) := by omega
              have hrow : rd_L8 (allK L L.length) (q : Int) = allB L q := by rw [rL8, allK_get L L.length q hkl2.2.2]
              have e6 : (n : Int) < ((allB L q).length : Int) := by rw [allB_len]; omega
              simp only [sluicewayref19_Least.l2, rL1, e, e0, e1, e2, hrd2, e3, e4, e5, hrow, e6, rdOf_nat, allB_get L q n hkl.2.2, if_true, wrap_succ j (by omega), hK4 k hk2]
              rfl
        exact key (L.getD i []).length 0 false (by omega) (by rw [Bool.false_or, List.drop_zero, hb])
      refine ⟨K3 + 1, fun k hk => ?_⟩
      obtain ⟨k, rfl, hk2⟩ := at_succ hk
      simp only [sluicewayref19_Least.l1, rL1, e, e0, e1, e2, hrd, if_true, hK3 k hk2]
    | false =>
      rw [show List.filter (fun n : Int => !((L.getD i []).any fun k => reachB L k.toNat n.toNat)) [(n : Int)] = [(n : Int)] from List.filter_cons_of_pos (p := fun n : Int => !((L.getD i []).any fun k => reachB L k.toNat n.toNat)) (by show (!((L.getD i []).any fun k => reachB L k.toNat ((n : Int)).toNat)) = true; rw [Int.toNat_natCast, hb]; rfl)] at hK
      obtain ⟨K3, hK3⟩ : ∃ K3, ∀ k, K3 ≤ k → sluicewayref19_Least.l2 k L (allK L L.length) out i acc u n false 0 = some r := by
        have key : ∀ (m j : Nat), j + m = (L.getD i []).length → (((L.getD i []).drop j).any fun k => reachB L k.toNat n) = false → ∃ K, ∀ k, K ≤ k → sluicewayref19_Least.l2 k L (allK L L.length) out i acc u n false j = some r := by
          intro m
          induction m with
          | zero =>
            intro j hj hbt
            refine ⟨K + 1, fun k hk => ?_⟩
            obtain ⟨k, rfl, hk2⟩ := at_succ hk
            have e : ¬ (j : Int) < ((L.getD i []).length : Int) := by omega
            have e7 : acc.length < 17592186044416 := by omega
            simp only [sluicewayref19_Least.l2, rL1, e, e0, e1, e7, if_true, if_false, wrap_succ u (by omega), hK k hk2]
            rfl
          | succ m ih2 =>
            intro j hj hbt
            have hlt2 : j < (L.getD i []).length := by omega
            have e : (j : Int) < ((L.getD i []).length : Int) := by omega
            have e2 : (0 : Int) ≤ (j : Int) := by omega
            have hkl2 := row_lt hL i _ (List.getElem_mem hlt2)
            have hrd2 := rd_get (L.getD i []) j hlt2
            rw [List.drop_eq_getElem_cons hlt2, List.any_cons] at hbt
            generalize (L.getD i [])[j] = kk at hkl2 hrd2 hbt
            obtain ⟨q, rfl⟩ := Int.eq_ofNat_of_zero_le hkl2.1
            rw [Int.toNat_natCast] at hkl2 hbt
            rw [Bool.or_eq_false_iff] at hbt
            obtain ⟨K4, hK4⟩ := ih2 (j + 1) (by omega) hbt.2
            refine ⟨K4 + 1, fun k hk => ?_⟩
            obtain ⟨k, rfl, hk2⟩ := at_succ hk
            have e3 : (0 : Int) ≤ (q : Int) := by omega
            have e4 : (q : Int) < ((allK L L.length).length : Int) := by rw [allK_len]; omega
            have e5 : (0 : Int) ≤ (n : Int) := by omega
            have hrow : rd_L8 (allK L L.length) (q : Int) = allB L q := by rw [rL8, allK_get L L.length q hkl2.2.2]
            have e6 : (n : Int) < ((allB L q).length : Int) := by rw [allB_len]; omega
            simp only [sluicewayref19_Least.l2, rL1, e, e0, e1, e2, hrd2, e3, e4, e5, hrow, e6, rdOf_nat, allB_get L q n hkl.2.2, hbt.1, if_true, wrap_succ j (by omega), hK4 k hk2]
            rfl
        exact key (L.getD i []).length 0 (by omega) (by rw [List.drop_zero, hb])
      refine ⟨K3 + 1, fun k hk => ?_⟩
      obtain ⟨k, rfl, hk2⟩ := at_succ hk
      simp only [sluicewayref19_Least.l1, rL1, e, e0, e1, e2, hrd, if_true, hK3 k hk2]
theorem least_f : ∃ K, ∀ k, K ≤ k → sluicewayref19_Least.f k L = some (leastK L L.length) := by
  have key : ∀ (m i : Nat), i + m = L.length → ∃ K, ∀ k, K ≤ k → sluicewayref19_Least.l0 k L (allK L L.length) (leastK L i) i = some (leastK L L.length) := by
    intro m
    induction m with
    | zero =>
      intro i hi
      refine ⟨1, fun k hk => ?_⟩
      obtain ⟨k, rfl, _⟩ := at_succ hk
      have e : ¬ (i : Int) < (L.length : Int) := by omega
      simp only [sluicewayref19_Least.l0, e, if_false]
      rw [show i = L.length by omega]
    | succ m ih =>
      intro i hi
      obtain ⟨K0, h0⟩ := ih (i + 1) (by omega)
      rw [leastK_succ] at h0
      obtain ⟨K, hK⟩ := least_l1 L hL hN hr i (by omega) (leastK L i) (by rw [leastK_len]; omega) _ K0 h0 (L.getD i []).length 0 (by omega)
      refine ⟨K + 1, fun k hk => ?_⟩
      obtain ⟨k, rfl, hk2⟩ := at_succ hk
      have e : (i : Int) < (L.length : Int) := by omega
      have h1 := hK k hk2
      rw [List.take_zero, List.filter_nil, show ((0 : Nat) : Int) = 0 from rfl] at h1
      simp only [sluicewayref19_Least.l0, e, if_true, h1]
  obtain ⟨K, hK⟩ := key L.length 0 (by omega)
  obtain ⟨K2, hK2⟩ := all_f L hL hN hr
  refine ⟨K + K2, fun k hk => ?_⟩
  unfold sluicewayref19_Least.f
  rw [hK2 k (by omega), Option.bind_some]
  exact hK k (by omega)
theorem refLeast_calls (A0 : Option Addr) (c0 : Nat) (w : World) (hr0 : Kd.C (Kd.slice 3 (Kd.int .i64)) w A0 L.length L) (hc0 : L.length ≤ c0) :
    Calls Try.prog 15 #[.slice A0 L.length c0] w fun e w' => ∃ v, e = .returned v ∧ Kd.S (Kd.slice 3 (Kd.int .i64)) 32 w' w.heap.size (fun _ => True) v (leastK L L.length) ∧ Below w.heap.size w w' := by
  obtain ⟨K, hK⟩ := least_f L hL hN hr
  exact sluicewayref19_Least.calls K A0 c0 L _ w hr0 hc0 (hK K (Nat.le_refl _))
end
end Go.Proofs.Ytnjpbfljecmoiaa.Graph.Lst
