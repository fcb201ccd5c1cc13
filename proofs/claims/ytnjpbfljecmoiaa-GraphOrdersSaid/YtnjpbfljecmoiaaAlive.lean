/- The contract of the fixed fact 'alive': the chapter's example. -/
import Derived.Test.YtnjpbfljecmoiaaLeast
namespace Go.Proofs.Ytnjpbfljecmoiaa.Graph
open Go.RowKit Go.Proofs.YtnjpbfljecmoiaaW.PrintWords Go.Proofs.Ytnjpbfljecmoiaa.PGraphLeans

def exF : S27 := ⟨[], [], [⟨1, 2⟩]⟩
theorem C_nil46 (w : World) : k46.C w none ([] : List S46).length [] := Kd.C_nil k46 w
theorem C_nil68 (w : World) : k68.C w none ([] : List S68).length [] := Kd.C_nil k68 w
theorem C_key (w : World) (g : Nat) (a b : Int) (h : w.heap[g]? = some (.cells #[.int .i64 a, .int .i64 b] 46 (0, 0))) : k46.C w (some ⟨g, 0, none⟩) ([⟨a, b⟩] : List S46).length [⟨a, b⟩] := by
  refine ⟨rfl, by simp, fun _ => ⟨_, rfl, fun j p hp => ?_⟩⟩
  match j with
  | 0 =>
    simp at hp; subst hp
    refine ⟨[.int .i64 a, .int .i64 b], rfl, k46_mk w ⟨a, b⟩, fun i u hu => ?_⟩
    rw [add_plain, cell_of_row _ _ _ _ _ _ h]
    have hsz : k46.sz = 2 := rfl
    rw [hsz, Nat.zero_mul, Nat.zero_add]
    simpa using hu
  | j + 1 => simp at hp
theorem C_feet (w : World) (g g0 : Nat) (hk : w.heap[g0]? = some (.cells #[.int .i64 1, .int .i64 2] 46 (0, 0)))
    (h : w.heap[g]? = some (.cells #[.slice none 0 0, .slice none 0 0, .slice (some ⟨g0, 0, none⟩) 1 1, .slice none 0 0, .slice none 0 0, .slice (some ⟨g0, 0, none⟩) 1 1, .slice none 0 0, .slice none 0 0, .slice (some ⟨g0, 0, none⟩) 1 1] 27 (0, 0))) :
    Kd.C k27 w (some ⟨g, 0, none⟩) [exF, exF, exF].length [exF, exF, exF] := by
  have hK : k27.K w exF [.slice none 0 0, .slice none 0 0, .slice (some ⟨g0, 0, none⟩) 1 1] := k27_mk w exF (Nat.le_refl _) (C_nil46 w) (Nat.le_refl _) (C_nil68 w) (Nat.le_refl _) (C_key w g0 1 2 hk)
  have hsz : k27.sz = 3 := rfl
  refine ⟨rfl, by simp, fun _ => ⟨_, rfl, fun j p hp => ?_⟩⟩
  have hj : j < 3 ∧ p = exF := by
    match j with
    | 0 => simp at hp; exact ⟨by omega, hp.symm⟩
    | 1 => simp at hp; exact ⟨by omega, hp.symm⟩
    | 2 => simp at hp; exact ⟨by omega, hp.symm⟩
    | j + 3 => simp at hp
  obtain ⟨hj, rfl⟩ := hj
  refine ⟨_, rfl, hK, fun i u hu => ?_⟩
  rw [add_plain, cell_of_row _ _ _ _ _ _ h, hsz]
  have hi : i < 3 := by have := (List.getElem?_eq_some_iff.1 hu).1; simpa using this
  have hcase : (j = 0 ∨ j = 1 ∨ j = 2) ∧ (i = 0 ∨ i = 1 ∨ i = 2) := by omega
  obtain ⟨rfl | rfl | rfl, rfl | rfl | rfl⟩ := hcase <;> simpa using hu
theorem exLeans : leansK [exF, exF, exF] 3 = [[], [0], [0, 1]] := by rfl
theorem exLeast : leastK [[], [0], [0, 1]] 3 = [[], [0], [1]] := by rfl
theorem exGood : goodB [[], [0], [0, 1]] = true := by rfl
theorem ints_from (l0 l1 : List Int) (hl : l0.length = l1.length) (hs : l0.length ≤ 1000000) : ∀ (m i : Nat), i + m = l0.length → ∃ K, ∀ k, K ≤ k → sluicewaynum_Ints.l0 k l0 l1 l0.length i = some (decide (l0.drop i = l1.drop i)) := by
  intro m
  induction m with
  | zero =>
    intro i hi
    refine ⟨1, fun k hk => ?_⟩
    obtain ⟨k, rfl⟩ : ∃ j, k = j + 1 := ⟨k - 1, by omega⟩
    have e : ¬ (i : Int) < (l0.length : Int) := by omega
    simp only [sluicewaynum_Ints.l0, e, if_false]
    rw [List.drop_of_length_le (by omega), List.drop_of_length_le (by omega)]; simp
  | succ m ih =>
    intro i hi
    have hlt : i < l0.length := by omega
    have hlt1 : i < l1.length := by omega
    have e : (i : Int) < (l0.length : Int) := by omega
    have e1 : (i : Int) < (l1.length : Int) := by omega
    have e0 : (0 : Int) ≤ (i : Int) := by omega
    obtain ⟨K, hK⟩ := ih (i + 1) (by omega)
    refine ⟨K + 1, fun k hk => ?_⟩
    obtain ⟨k, rfl⟩ : ∃ j, k = j + 1 := ⟨k - 1, by omega⟩
    have d0 := List.drop_eq_getElem_cons hlt
    have d1 := List.drop_eq_getElem_cons hlt1
    by_cases h : l0[i] = l1[i]
    · have hd : (l0.drop i = l1.drop i) ↔ (l0.drop (i + 1) = l1.drop (i + 1)) := by
        rw [d0, d1, h]
        exact ⟨fun c => (List.cons.inj c).2, fun c => by rw [c]⟩
      simp only [sluicewaynum_Ints.l0, e, e0, e1, rd_get l0 i hlt, rd_get l1 i hlt1, h, if_true, wrap_succ i (by omega), hK k (by omega)]
      congr 1
      exact (decide_eq_decide.2 hd).symm
    · have hd : ¬ (l0.drop i = l1.drop i) := fun c => h (by rw [d0, d1] at c; exact (List.cons.inj c).1)
      simp only [sluicewaynum_Ints.l0, e, e0, e1, rd_get l0 i hlt, rd_get l1 i hlt1, h, if_true, if_false]
      rw [decide_eq_false hd]
theorem ints_f (l0 l1 : List Int) (hs : l0.length ≤ 1000000) : ∃ K, ∀ k, K ≤ k → sluicewaynum_Ints.f k l0 l1 = some (decide (l0 = l1)) := by
  by_cases hl : l0.length = l1.length
  · obtain ⟨K, hK⟩ := ints_from l0 l1 hl hs l0.length 0 (by omega)
    refine ⟨K, fun k hk => ?_⟩
    have e : (l0.length : Int) = (l1.length : Int) := by omega
    have := hK k hk
    unfold sluicewaynum_Ints.f
    rw [if_pos e]
    simpa using this
  · refine ⟨0, fun k _ => ?_⟩
    have e : ¬ (l0.length : Int) = (l1.length : Int) := by omega
    have hne : l0 ≠ l1 := fun h => hl (by rw [h])
    unfold sluicewaynum_Ints.f
    rw [if_neg e]; simp [hne]
theorem ints_calls (A0 : Option Addr) (c0 : Nat) (l0 : List Int) (A1 : Option Addr) (c1 : Nat) (l1 : List Int) (w : World) (hs : l0.length ≤ 1000000) (hr0 : Kd.C (Kd.int .i64) w A0 l0.length l0) (hc0 : l0.length ≤ c0) (hr1 : Kd.C (Kd.int .i64) w A1 l1.length l1) (hc1 : l1.length ≤ c1) :
    Calls Try.prog 20 #[.slice A0 l0.length c0, .slice A1 l1.length c1] w fun e w' => e = .returned (.bool (decide (l0 = l1))) ∧ Drawn0 w w' := by
  obtain ⟨K, hK⟩ := ints_f l0 l1 hs
  exact sluicewaynum_Ints.calls K A0 c0 l0 A1 c1 l1 _ w hr0 hc0 hr1 hc1 (hK K (Nat.le_refl _))

theorem rows_from (L M : List (List Int)) (hl : L.length = M.length) (hs : L.length ≤ 1000000) (hr : rowsAt L 1000000) : ∀ (m i : Nat), i + m = L.length → ∃ K, ∀ k, K ≤ k → sluicewaylaw19_rows.l0 k L M L.length i = some (decide (L.drop i = M.drop i)) := by
  intro m
  induction m with
  | zero =>
    intro i hi
    refine ⟨1, fun k hk => ?_⟩
    obtain ⟨k, rfl⟩ : ∃ j, k = j + 1 := ⟨k - 1, by omega⟩
    have e : ¬ (i : Int) < (L.length : Int) := by omega
    simp only [sluicewaylaw19_rows.l0, e, if_false]
    rw [List.drop_of_length_le (by omega), List.drop_of_length_le (by omega)]; simp
  | succ m ih =>
    intro i hi
    have hlt : i < L.length := by omega
    have hlt1 : i < M.length := by omega
    have e : (i : Int) < (L.length : Int) := by omega
    have e1 : (i : Int) < (M.length : Int) := by omega
    have e0 : (0 : Int) ≤ (i : Int) := by omega
    have g0 : rd_L6 L (i : Int) = L[i] := by rw [rd_L6_nat]; simp [List.getD_eq_getElem?_getD, hlt]
    have g1 : rd_L6 M (i : Int) = M[i] := by rw [rd_L6_nat]; simp [List.getD_eq_getElem?_getD, hlt1]
    obtain ⟨K, hK⟩ := ih (i + 1) (by omega)
    obtain ⟨K2, hK2⟩ := ints_f L[i] M[i] (hr _ (List.getElem_mem hlt))
    refine ⟨K + K2 + 1, fun k hk => ?_⟩
    obtain ⟨k, rfl⟩ : ∃ j, k = j + 1 := ⟨k - 1, by omega⟩
    have d0 := List.drop_eq_getElem_cons hlt
    have d1 := List.drop_eq_getElem_cons hlt1
    have i2 := hK2 k (by omega)
    by_cases h : L[i] = M[i]
    · have hd : (L.drop i = M.drop i) ↔ (L.drop (i + 1) = M.drop (i + 1)) := by
        rw [d0, d1, h]
        exact ⟨fun c => (List.cons.inj c).2, fun c => by rw [c]⟩
      rw [decide_eq_true h] at i2
      simp only [sluicewaylaw19_rows.l0, e, e0, e1, g0, g1, i2, Option.bind_some, if_true, wrap_succ i (by omega), hK k (by omega)]
      congr 1
      exact (decide_eq_decide.2 hd).symm
    · have hd : ¬ (L.drop i = M.drop i) := fun c => h (by rw [d0, d1] at c; exact (List.cons.inj c).1)
      rw [decide_eq_false h] at i2
      simp only [sluicewaylaw19_rows.l0, e, e0, e1, g0, g1, i2, Option.bind_some, if_true]
      rw [decide_eq_false hd]; rfl
theorem rows_calls (A0 : Option Addr) (c0 : Nat) (L : List (List Int)) (A1 : Option Addr) (c1 : Nat) (M : List (List Int)) (w : World) (hs : L.length ≤ 1000000) (hr : rowsAt L 1000000) (hr0 : Kd.C (Kd.slice 3 (Kd.int .i64)) w A0 L.length L) (hc0 : L.length ≤ c0) (hr1 : Kd.C (Kd.slice 3 (Kd.int .i64)) w A1 M.length M) (hc1 : M.length ≤ c1) :
    Calls Try.prog 9 #[.slice A0 L.length c0, .slice A1 M.length c1] w fun e w' => e = .returned (.bool (decide (L = M))) ∧ Drawn0 w w' := by
  have : ∃ k, sluicewaylaw19_rows.f k L M = some (decide (L = M)) := by
    by_cases hl : L.length = M.length
    · obtain ⟨K, hK⟩ := rows_from L M hl hs hr L.length 0 (by omega)
      refine ⟨K, ?_⟩
      have e : (L.length : Int) = (M.length : Int) := by omega
      have := hK K (Nat.le_refl _)
      unfold sluicewaylaw19_rows.f
      rw [if_pos e]
      simpa using this
    · have e : ¬ (L.length : Int) = (M.length : Int) := by omega
      have hne : L ≠ M := fun h => hl (by rw [h])
      refine ⟨0, ?_⟩
      unfold sluicewaylaw19_rows.f
      rw [if_neg e]; simp [hne]
  obtain ⟨k, hk⟩ := this
  exact sluicewaylaw19_rows.calls k A0 c0 L A1 c1 M _ w hr0 hc0 hr1 hc1 hk
end Go.Proofs.Ytnjpbfljecmoiaa.Graph
