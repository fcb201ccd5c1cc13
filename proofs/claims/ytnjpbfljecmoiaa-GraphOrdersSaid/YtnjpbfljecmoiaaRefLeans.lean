/- Plain law: what the document's Leans answers. -/
import Derived.Test.YtnjpbfljecmoiaaGood
import Derived.Test.YtnjpbfljecmoiaaPGraphLeansx5
namespace Go.Proofs.Ytnjpbfljecmoiaa.Graph
open Go.RowKit Go.Proofs.YtnjpbfljecmoiaaW.PrintWords Go.Proofs.Ytnjpbfljecmoiaa.PGraphLeans

theorem at_succ {K k : Nat} (h : K + 1 ≤ k) : ∃ j, k = j + 1 ∧ K ≤ j := ⟨k - 1, by omega, by omega⟩
theorem eqB_comm (a b : S46) : eqB a b = (b.f0 == a.f0 && b.f1 == a.f1) := by
  unfold eqB; rw [Bool.beq_comm (a := a.f0), Bool.beq_comm (a := a.f1)]
theorem has_from (l : List S46) (a b : Int) (hs : l.length ≤ 1000) : ∀ (m i : Nat), i + m = l.length → ∃ K, ∀ k, K ≤ k → sluicewayref10_has.l0 k l i a b = some ((l.drop i).any (eqB ⟨a, b⟩)) := by
  intro m
  induction m with
  | zero =>
    intro i hi
    refine ⟨1, fun k hk => ?_⟩
    obtain ⟨k, rfl, _⟩ := at_succ hk
    have e : ¬ (i : Int) < (l.length : Int) := by omega
    simp only [sluicewayref10_has.l0, e, if_false]
    rw [List.drop_of_length_le (by omega)]; rfl
  | succ m ih =>
    intro i hi
    have hlt : i < l.length := by omega
    have e : (i : Int) < (l.length : Int) := by omega
    have e0 : (0 : Int) ≤ (i : Int) := by omega
    obtain ⟨K, hK⟩ := ih (i + 1) (by omega)
    refine ⟨K + 1, fun k hk => ?_⟩
    obtain ⟨k, rfl, hk2⟩ := at_succ hk
    have hq : (l[i].f0 == a && l[i].f1 == b) = eqB ⟨a, b⟩ l[i] := (eqB_comm ⟨a, b⟩ l[i]).symm
    rw [List.drop_eq_getElem_cons hlt, List.any_cons]
    simp only [sluicewayref10_has.l0, e, e0, rd_T46_nat l i hlt, hq, if_true, wrap_succ i (by omega), hK k hk2]
    cases eqB ⟨a, b⟩ l[i] <;> simp
theorem has_f (l : List S46) (k : S46) (hs : l.length ≤ 1000) : ∃ K, ∀ n, K ≤ n → sluicewayref10_has.f n l k.f0 k.f1 = some (l.any (eqB k)) := by
  obtain ⟨K, hK⟩ := has_from l k.f0 k.f1 hs l.length 0 (by omega)
  exact ⟨K, fun n hn => by have := hK n hn; unfold sluicewayref10_has.f; simpa using this⟩
structure Short (f : S27) : Prop where
  r : f.f0.length ≤ 1000
  s : f.f1.length ≤ 1000
  w : f.f2.length ≤ 1000
theorem reads_from (f : S27) (k : S46) (hs : Short f) : ∀ (m i : Nat), i + m = f.f1.length → ∃ K, ∀ n, K ≤ n → sluicewayref10_Reads.l0 n i f.f0 f.f1 f.f2 k.f0 k.f1 = some ((f.f1.drop i).any (withinB k) || f.f0.any (eqB k)) := by
  intro m
  induction m with
  | zero =>
    intro i hi
    obtain ⟨K, hK⟩ := has_f f.f0 k hs.r
    refine ⟨K + 1, fun n hn => ?_⟩
    obtain ⟨n, rfl, hn2⟩ := at_succ hn
    have e : ¬ (i : Int) < (f.f1.length : Int) := by omega
    simp only [sluicewayref10_Reads.l0, e, if_false, hK n hn2, Option.bind_some]
    rw [List.drop_of_length_le (by omega)]; rfl
  | succ m ih =>
    intro i hi
    have hlt : i < f.f1.length := by omega
    have hls := hs.s
    have e : (i : Int) < (f.f1.length : Int) := by omega
    have e0 : (0 : Int) ≤ (i : Int) := by omega
    obtain ⟨K, hK⟩ := ih (i + 1) (by omega)
    refine ⟨K + 1, fun n hn => ?_⟩
    obtain ⟨n, rfl, hn2⟩ := at_succ hn
    rw [List.drop_eq_getElem_cons hlt, List.any_cons]
    have hk := hK n hn2
    by_cases h0 : f.f1[i].f0 = k.f0
    · by_cases h1 : f.f1[i].f1 ≤ k.f1
      · by_cases h2 : k.f1 ≤ f.f1[i].f2
        · have hw : withinB k f.f1[i] = true := by simp [withinB, h0, h1, h2]
          simp only [sluicewayref10_Reads.l0, e, e0, rd_T68_nat f.f1 i hlt, h0, h1, h2, if_true, hw]; rfl
        · have hw : withinB k f.f1[i] = false := by simp [withinB, h2]
          simp only [sluicewayref10_Reads.l0, e, e0, rd_T68_nat f.f1 i hlt, h0, h1, h2, if_true, if_false, hw, wrap_succ i (by omega), hk, Bool.false_or]
      · have hw : withinB k f.f1[i] = false := by simp [withinB, h1]
        simp only [sluicewayref10_Reads.l0, e, e0, rd_T68_nat f.f1 i hlt, h0, h1, if_true, if_false, hw, wrap_succ i (by omega), hk, Bool.false_or]
    · have hw : withinB k f.f1[i] = false := by simp [withinB, Ne.symm h0]
      simp only [sluicewayref10_Reads.l0, e, e0, rd_T68_nat f.f1 i hlt, h0, if_true, if_false, hw, wrap_succ i (by omega), hk, Bool.false_or]
theorem reads_f (f : S27) (k : S46) (hs : Short f) : ∃ K, ∀ n, K ≤ n → sluicewayref10_Reads.f n f.f0 f.f1 f.f2 k.f0 k.f1 = some (readsB f k) := by
  obtain ⟨K, hK⟩ := reads_from f k hs f.f1.length 0 (by omega)
  refine ⟨K, fun n hn => ?_⟩
  have := hK n hn
  unfold sluicewayref10_Reads.f readsB
  rw [Bool.or_comm]
  simpa using this
theorem writes_f (f : S27) (k : S46) (hs : Short f) : ∃ K, ∀ n, K ≤ n → sluicewayref10_Writes.f n f.f0 f.f1 f.f2 k.f0 k.f1 = some (writesB f k) := by
  obtain ⟨K, hK⟩ := has_f f.f2 k hs.w
  refine ⟨K, fun n hn => ?_⟩
  unfold sluicewayref10_Writes.f writesB
  rw [hK n hn]; rfl
theorem meet_l1 (a b : S27) (ha : Short a) (hb : Short b) : ∀ (m i : Nat), i + m = b.f2.length → ∃ K, ∀ n, K ≤ n → sluicewayref10_Meet.l1 n i a.f0 a.f1 a.f2 b.f0 b.f1 b.f2 = some ((b.f2.drop i).any (readsB a)) := by
  intro m
  induction m with
  | zero =>
    intro i hi
    refine ⟨1, fun n hn => ?_⟩
    obtain ⟨n, rfl, _⟩ := at_succ hn
    have e : ¬ (i : Int) < (b.f2.length : Int) := by omega
    simp only [sluicewayref10_Meet.l1, e, if_false]
    rw [List.drop_of_length_le (by omega)]; rfl
  | succ m ih =>
    intro i hi
    have hlt : i < b.f2.length := by omega
    have hls := hb.w
    have e : (i : Int) < (b.f2.length : Int) := by omega
    have e0 : (0 : Int) ≤ (i : Int) := by omega
    obtain ⟨K, hK⟩ := ih (i + 1) (by omega)
    obtain ⟨K2, hK2⟩ := reads_f a b.f2[i] ha
    refine ⟨K + K2 + 1, fun n hn => ?_⟩
    obtain ⟨n, rfl, hn2⟩ := at_succ hn
    rw [List.drop_eq_getElem_cons hlt, List.any_cons]
    have h2 := hK2 n (by omega)
    cases hr : readsB a b.f2[i] with
    | true =>
      rw [hr] at h2
      simp only [sluicewayref10_Meet.l1, e, e0, rd_T46_nat b.f2 i hlt, if_true, h2, Option.bind_some]; rfl
    | false =>
      rw [hr] at h2
      simp only [sluicewayref10_Meet.l1, e, e0, rd_T46_nat b.f2 i hlt, if_true, h2, Option.bind_some, wrap_succ i (by omega), hK n (by omega)]; rfl
theorem meet_l0 (a b : S27) (ha : Short a) (hb : Short b) : ∀ (m i : Nat), i + m = a.f2.length → ∃ K, ∀ n, K ≤ n → sluicewayref10_Meet.l0 n i a.f0 a.f1 a.f2 b.f0 b.f1 b.f2 = some ((a.f2.drop i).any (fun k => readsB b k || writesB b k) || b.f2.any (readsB a)) := by
  intro m
  induction m with
  | zero =>
    intro i hi
    obtain ⟨K, hK⟩ := meet_l1 a b ha hb b.f2.length 0 (by omega)
    refine ⟨K + 1, fun n hn => ?_⟩
    obtain ⟨n, rfl, hn2⟩ := at_succ hn
    have e : ¬ (i : Int) < (a.f2.length : Int) := by omega
    have := hK n hn2
    rw [show ((0 : Nat) : Int) = 0 from rfl, List.drop_zero] at this
    simp only [sluicewayref10_Meet.l0, e, if_false, this]
    rw [List.drop_of_length_le (by omega)]; rfl
  | succ m ih =>
    intro i hi
    have hlt : i < a.f2.length := by omega
    have hls := ha.w
    have e : (i : Int) < (a.f2.length : Int) := by omega
    have e0 : (0 : Int) ≤ (i : Int) := by omega
    obtain ⟨K, hK⟩ := ih (i + 1) (by omega)
    obtain ⟨K2, hK2⟩ := reads_f b a.f2[i] hb
    obtain ⟨K3, hK3⟩ := writes_f b a.f2[i] hb
    refine ⟨K + K2 + K3 + 1, fun n hn => ?_⟩
    obtain ⟨n, rfl, hn2⟩ := at_succ hn
    rw [List.drop_eq_getElem_cons hlt, List.any_cons]
    have h2 := hK2 n (by omega)
    have h3 := hK3 n (by omega)
    cases hr : readsB b a.f2[i] with
    | true =>
      rw [hr] at h2
      simp only [sluicewayref10_Meet.l0, e, e0, rd_T46_nat a.f2 i hlt, if_true, h2, Option.bind_some]; rfl
    | false =>
      rw [hr] at h2
      cases hw : writesB b a.f2[i] with
      | true =>
        rw [hw] at h3
        simp only [sluicewayref10_Meet.l0, e, e0, rd_T46_nat a.f2 i hlt, if_true, h2, h3, Option.bind_some]; rfl
      | false =>
        rw [hw] at h3
        simp only [sluicewayref10_Meet.l0, e, e0, rd_T46_nat a.f2 i hlt, if_true, h2, h3, Option.bind_some, wrap_succ i (by omega), hK n (by omega)]; rfl
/-- Who writes what another one writes is written by it. -/
theorem meet_eq (a b : S27) : (a.f2.any (fun k => readsB b k || writesB b k) || b.f2.any (readsB a)) = meetB b a := by
  unfold meetB ontoB
  rw [Bool.eq_iff_iff]
  simp only [Bool.or_eq_true, List.any_eq_true]
  constructor
  · rintro (⟨k, hk, h⟩ | ⟨k, hk, h⟩)
    · exact .inr ⟨k, hk, h⟩
    · exact .inl ⟨k, hk, .inl h⟩
  · rintro (⟨k, hk, h | h⟩ | ⟨k, hk, h⟩)
    · exact .inr ⟨k, hk, h⟩
    · unfold writesB at h
      rw [List.any_eq_true] at h
      obtain ⟨q, hq, he⟩ := h
      refine .inl ⟨q, hq, .inr ?_⟩
      unfold writesB
      rw [List.any_eq_true]
      exact ⟨k, hk, by rw [eqB_comm]; exact he⟩
    · exact .inl ⟨k, hk, h⟩
theorem meet_f (a b : S27) (ha : Short a) (hb : Short b) : ∃ K, ∀ n, K ≤ n → sluicewayref10_Meet.f n a.f0 a.f1 a.f2 b.f0 b.f1 b.f2 = some (meetB b a) := by
  obtain ⟨K, hK⟩ := meet_l0 a b ha hb a.f2.length 0 (by omega)
  refine ⟨K, fun n hn => ?_⟩
  have := hK n hn
  rw [show ((0 : Nat) : Int) = 0 from rfl, List.drop_zero, meet_eq] at this
  exact this
theorem rd_T27_nat (xs : List S27) (i : Nat) : rd_T27 xs (i : Int) = xs.getD i z27 := by simp [rd_T27]
theorem leans_l1 (feet : List S27) (hs : ∀ f ∈ feet, Short f) (hN : feet.length ≤ 1000) (i : Nat) (hi : i < feet.length) (out : List (List Int)) (ho : out.length ≤ 1000) (r : List (List Int)) (K0 : Nat) (hc : ∀ n, K0 ≤ n → sluicewayref19_Leans.l0 n feet (out ++ [rowK feet i i]) ((i + 1 : Nat) : Int) = some r) :
    ∀ (m k : Nat), k + m = i → ∃ K, ∀ n, K ≤ n → sluicewayref19_Leans.l1 n feet out i (rowK feet i k) k = some r := by
  have hsh : ∀ j, j < feet.length → Short (feet.getD j z27) := fun j hj => by
    have e : feet.getD j z27 = feet[j] := by simp [List.getD_eq_getElem?_getD, hj]
    rw [e]; exact hs _ (List.getElem_mem hj)
  intro m
  induction m with
  | zero =>
    intro k hk
    have : k = i := by omega
    subst this
    refine ⟨K0 + 1, fun n hn => ?_⟩
    obtain ⟨n, rfl, hn2⟩ := at_succ hn
    have e : ¬ (k : Int) < (k : Int) := by omega
    have e1 : out.length < 5864062014805 := by omega
    simp only [sluicewayref19_Leans.l1, e, e1, if_true, if_false, wrap_succ k (by omega), hc n hn2]
  | succ m ih =>
    intro k hk
    have hkl : k < feet.length := by omega
    have e : (k : Int) < (i : Int) := by omega
    have e0 : (0 : Int) ≤ (i : Int) := by omega
    have e1 : (i : Int) < (feet.length : Int) := by omega
    have e2 : (0 : Int) ≤ (k : Int) := by omega
    have e3 : (k : Int) < (feet.length : Int) := by omega
    have hrl := rowK_len feet i k
    have e4 : (rowK feet i k).length < 17592186044416 := by omega
    obtain ⟨K, hK⟩ := ih (k + 1) (by omega)
    obtain ⟨K2, hK2⟩ := meet_f (feet.getD i z27) (feet.getD k z27) (hsh i hi) (hsh k hkl)
    refine ⟨K + K2 + 1, fun n hn => ?_⟩
    obtain ⟨n, rfl, hn2⟩ := at_succ hn
    have h2 := hK2 n (by omega)
    have h3 := hK n (by omega)
    rw [rowK_succ] at h3
    cases hm : meetB (feet.getD k z27) (feet.getD i z27) with
    | true =>
      rw [hm] at h2 h3
      rw [if_pos rfl] at h3
      simp only [sluicewayref19_Leans.l1, e, e0, e1, e2, e3, e4, rd_T27_nat, if_true, h2, Option.bind_some, wrap_succ k (by omega), h3]
    | false =>
      rw [hm] at h2 h3
      rw [if_neg (by decide)] at h3
      simp only [sluicewayref19_Leans.l1, e, e0, e1, e2, e3, rd_T27_nat, if_true, h2, Option.bind_some, wrap_succ k (by omega), h3]
      rfl
theorem leans_f (feet : List S27) (hs : ∀ f ∈ feet, Short f) (hN : feet.length ≤ 1000) : ∃ K, ∀ n, K ≤ n → sluicewayref19_Leans.f n feet = some (leansK feet feet.length) := by
  have key : ∀ (m i : Nat), i + m = feet.length → ∃ K, ∀ n, K ≤ n → sluicewayref19_Leans.l0 n feet (leansK feet i) i = some (leansK feet feet.length) := by
    intro m
    induction m with
    | zero =>
      intro i hi
      refine ⟨1, fun n hn => ?_⟩
      obtain ⟨n, rfl, _⟩ := at_succ hn
      have e : ¬ (i : Int) < (feet.length : Int) := by omega
      simp only [sluicewayref19_Leans.l0, e, if_false]
      rw [show i = feet.length by omega]
    | succ m ih =>
      intro i hi
      have e : (i : Int) < (feet.length : Int) := by omega
      obtain ⟨K0, h0⟩ := ih (i + 1) (by omega)
      rw [leansK_succ] at h0
      obtain ⟨K, hK⟩ := leans_l1 feet hs hN i (by omega) (leansK feet i) (by rw [leansK_len]; omega) _ K0 h0 i 0 (by omega)
      refine ⟨K + 1, fun n hn => ?_⟩
      obtain ⟨n, rfl, hn2⟩ := at_succ hn
      have := hK n hn2
      rw [show rowK feet i 0 = [] from rfl, show ((0 : Nat) : Int) = 0 from rfl] at this
      simp only [sluicewayref19_Leans.l0, e, if_true, this]
  obtain ⟨K, hK⟩ := key feet.length 0 (by omega)
  exact ⟨K, fun n hn => by have := hK n hn; exact this⟩
theorem refLeans_calls (A : Option Addr) (c : Nat) (feet : List S27) (w : World) (hx : Kd.C k27 w A feet.length feet) (hc : feet.length ≤ c) (hs : ∀ f ∈ feet, Short f) (hN : feet.length ≤ 1000) :
    Calls Try.prog 10 #[.slice A feet.length c] w fun e w' => ∃ v, e = .returned v ∧ Kd.S (Kd.slice 3 (Kd.int .i64)) 32 w' w.heap.size (fun _ => True) v (leansK feet feet.length) ∧ Below w.heap.size w w' := by
  obtain ⟨K, hK⟩ := leans_f feet hs hN
  exact sluicewayref19_Leans.calls K A c feet _ w hx hc (hK K (Nat.le_refl _))
/-- What leans on those ahead is good. -/
theorem good_leans (feet : List S27) : goodB (leansK feet feet.length) = true := by
  have hrow : ∀ (i : Int) (l : List Int), (∀ k ∈ l, k < i) → l.Pairwise (· < ·) → ∀ b, (∀ k ∈ l, b < k) → okRow i b l = true := by
    intro i l
    induction l with
    | nil => intro _ _ _ _; rfl
    | cons x l ih =>
      intro h1 h2 b h3
      rw [List.pairwise_cons] at h2
      simp only [okRow, Bool.and_eq_true, decide_eq_true_eq]
      exact ⟨h3 x List.mem_cons_self, h1 x List.mem_cons_self, ih (fun k hk => h1 k (List.mem_cons_of_mem _ hk)) h2.2 x (fun k hk => h2.1 k hk)⟩
  have hk : ∀ i k, okRow (i : Nat) (-1) (rowK feet k i) = true := by
    intro i k
    refine hrow _ _ (fun q hq => ?_) ?_ _ (fun q hq => ?_)
    · obtain ⟨j, hj, rfl⟩ := List.mem_map.1 hq
      have := List.mem_range.1 (List.mem_filter.1 hj).1
      omega
    · unfold rowK
      rw [List.pairwise_map]
      exact (List.Pairwise.filter _ (List.pairwise_lt_range)).imp (fun h => by omega)
    · obtain ⟨j, _, rfl⟩ := List.mem_map.1 hq
      omega
  have hfrom : ∀ (n s : Nat), okFrom (s : Int) ((List.range' s n).map fun i => rowK feet i i) = true := by
    intro n
    induction n with
    | zero => intro s; rfl
    | succ n ih =>
      intro s
      rw [List.range'_succ, List.map_cons]
      simp only [okFrom, Bool.and_eq_true]
      exact ⟨hk s s, by have := ih (s + 1); simpa using this⟩
  unfold goodB leansK
  have := hfrom feet.length 0
  rw [List.range_eq_range']
  simpa using this
end Go.Proofs.Ytnjpbfljecmoiaa.Graph
