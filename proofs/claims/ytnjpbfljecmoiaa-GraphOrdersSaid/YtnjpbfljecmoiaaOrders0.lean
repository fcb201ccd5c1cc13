/- Plain law: an order keeps what is told but for those through others just if it keeps all; the order by levels, and the straight one, do. -/
import Derived.Test.YtnjpbfljecmoiaaRefLevels
import Derived.Test.YtnjpbfljecmoiaaLeast
namespace Go.Proofs.Ytnjpbfljecmoiaa.Graph
open Go.RowKit Go.Proofs.YtnjpbfljecmoiaaW.PrintWords Go.Proofs.YtnjpbfljecmoiaaW.PrintMore Lvl

theorem okRow_of (i : Int) : ∀ (l : List Int) (b : Int), (∀ k ∈ l, k < i) → l.Pairwise (· < ·) → (∀ k ∈ l, b < k) → okRow i b l = true := by
  intro l
  induction l with
  | nil => intro _ _ _ _; rfl
  | cons x l ih =>
    intro b h1 h2 h3
    rw [List.pairwise_cons] at h2
    simp only [okRow, Bool.and_eq_true, decide_eq_true_eq]
    exact ⟨h3 x List.mem_cons_self, h1 x List.mem_cons_self, ih x (fun k hk => h1 k (List.mem_cons_of_mem _ hk)) h2.2 (fun k hk => h2.1 k hk)⟩
theorem okRow_pw (i : Int) : ∀ (l : List Int) (b : Int), okRow i b l = true → l.Pairwise (· < ·) ∧ ∀ k ∈ l, b < k ∧ k < i := by
  intro l
  induction l with
  | nil => intro _ _; exact ⟨List.Pairwise.nil, by simp⟩
  | cons x l ih =>
    intro b h
    simp only [okRow, Bool.and_eq_true, decide_eq_true_eq] at h
    obtain ⟨h1, h2⟩ := ih x h.2.2
    refine ⟨List.pairwise_cons.2 ⟨fun k hk => (h2 k hk).1, h1⟩, fun k hk => ?_⟩
    rcases List.mem_cons.1 hk with rfl | hk
    · exact ⟨h.1, h.2.1⟩
    · have := h2 k hk
      have := h.1
      omega
/-- What tells fewer of good rows is good. -/
theorem good_sub (L : List (List Int)) (hL : goodB L = true) (p : Nat → Int → Bool) : ∀ (n s : Nat), s + n ≤ L.length → okFrom (s : Int) ((List.range' s n).map fun i => (L.getD i []).filter (p i)) = true := by
  intro n
  induction n with
  | zero => intro s _; rfl
  | succ n ih =>
    intro s hs
    rw [List.range'_succ, List.map_cons]
    simp only [okFrom, Bool.and_eq_true]
    refine ⟨?_, by have := ih (s + 1) (by omega); simpa using this⟩
    have h0 := okFrom_row L 0 s hL (by omega)
    obtain ⟨h1, h2⟩ := okRow_pw _ _ _ h0
    exact okRow_of _ _ _ (fun k hk => by have := (h2 k (List.mem_filter.1 hk).1).2; omega) (h1.filter _) (fun k hk => (h2 k (List.mem_filter.1 hk).1).1)
theorem good_least (L : List (List Int)) (hL : goodB L = true) : goodB (leastK L L.length) = true := by
  have := good_sub L hL (fun i n => !((L.getD i []).any fun k => reachB L k.toNat n.toNat)) L.length 0 (by omega)
  unfold goodB leastK leastRow
  rw [List.range_eq_range']
  simpa using this
theorem leastK_getD (L : List (List Int)) (i : Nat) (hi : i < L.length) : (leastK L L.length).getD i [] = leastRow L i := by
  unfold leastK
  rw [List.getD_eq_getElem?_getD, List.getElem?_map, List.getElem?_range hi]; rfl
/-- All on which a place leans, through others, too, have come before it. -/
theorem come_before (L : List (List Int)) (hL : goodB L = true) (order : List Int) (h : ∀ j (hj : j < order.length), (0 ≤ order[j] ∧ order[j] < L.length) ∧ ∀ k ∈ leastRow L order[j].toNat, k ∈ order.take j) :
    ∀ (i : Nat), ∀ p (hp : p < order.length), order[p] = (i : Int) → ∀ t, reachB L i t = true → (t : Int) ∈ order.take p := by
  intro i
  induction i using Nat.strongRecOn with
  | ind i ih =>
    intro p hp he
    have hp2 := h p hp
    rw [he, Int.toNat_natCast] at hp2
    have sub : ∀ q, q < p → ∀ x, x ∈ order.take q → x ∈ order.take p := fun q hq x hx => by
      obtain ⟨r, hr, e⟩ := List.mem_take_iff_getElem.1 hx
      exact List.mem_take_iff_getElem.2 ⟨r, by omega, e⟩
    -- those on which it leans itself, the greatest first
    have direct : ∀ (d : Nat) (k : Nat), i - k ≤ d → (k : Int) ∈ L.getD i [] → (k : Int) ∈ order.take p := by
      intro d
      induction d with
      | zero =>
        intro k hd hk
        have := (row_lt hL i k hk).2.1
        omega
      | succ d ihd =>
        intro k hd hk
        have hki := (row_lt hL i k hk).2.1
        rw [Int.toNat_natCast] at hki
        cases hth : (L.getD i []).any (fun q => reachB L q.toNat k) with
        | false =>
          refine hp2.2 k (List.mem_filter.2 ⟨hk, ?_⟩)
          rw [Int.toNat_natCast, hth]; rfl
        | true =>
          obtain ⟨q, hq, hr⟩ := List.any_eq_true.1 hth
          have hql := row_lt hL i q hq
          have hlt := reach_lt hL _ _ hr
          obtain ⟨q, rfl⟩ := Int.eq_ofNat_of_zero_le hql.1
          rw [Int.toNat_natCast] at hql hlt hr
          have hq2 := ihd q (by omega) hq
          obtain ⟨r, hr2, e⟩ := List.mem_take_iff_getElem.1 hq2
          exact sub r (by omega) _ (ih q hql.2.1 r (by omega) e k hr)
    intro t ht
    rw [reach_eq hL, List.any_eq_true] at ht
    obtain ⟨k, hk, hkt⟩ := ht
    have hkl := row_lt hL i k hk
    obtain ⟨k, rfl⟩ := Int.eq_ofNat_of_zero_le hkl.1
    rw [Int.toNat_natCast] at hkl hkt
    have hkp := direct i k (by omega) hk
    rw [Bool.or_eq_true, beq_iff_eq] at hkt
    rcases hkt with rfl | hkt
    · exact hkp
    · obtain ⟨r, hr2, e⟩ := List.mem_take_iff_getElem.1 hkp
      exact sub r (by omega) _ (ih k hkl.2.1 r (by omega) e t hkt)
theorem keeps_least (L : List (List Int)) (hL : goodB L = true) (order : List Int) : keepsB (leastK L L.length) order = keepsB L order := by
  unfold keepsB
  rw [good_least L hL, hL, leastK_len]
  congr 2
  rw [Bool.eq_iff_iff, keepRun_iff, keepRun_iff]
  have hlen := leastK_len L L.length
  constructor
  · intro h j hj
    have hj2 := h j hj
    rw [hlen] at hj2
    obtain ⟨i, hi⟩ := Int.eq_ofNat_of_zero_le hj2.1.1
    refine ⟨hj2.1, hj2.2.1, fun k hk => ?_⟩
    rw [List.nil_append]
    have hcb := come_before L hL order (fun q hq => by
      have hq2 := h q hq
      rw [hlen] at hq2
      refine ⟨hq2.1, fun k hk => ?_⟩
      have := hq2.2.2 k (by rw [leastK_getD L _ (by omega)]; exact hk)
      simpa using this) i j hj hi
    rw [hi, Int.toNat_natCast] at hk
    have hkl := row_lt hL i k hk
    have := hcb k.toNat (by
      rw [reach_eq hL, List.any_eq_true]
      exact ⟨k, hk, by rw [Bool.or_eq_true, beq_iff_eq]; exact .inl rfl⟩)
    rwa [Int.toNat_of_nonneg hkl.1] at this
  · intro h j hj
    have hj2 := h j hj
    rw [hlen]
    refine ⟨hj2.1, hj2.2.1, fun k hk => hj2.2.2 k ?_⟩
    rw [leastK_getD L _ (by omega)] at hk
    exact (List.mem_filter.1 hk).1
theorem keepRun_append (L : List (List Int)) : ∀ (xs ys pre : List Int), keepRun L pre (xs ++ ys) = (keepRun L pre xs && keepRun L (pre ++ xs) ys) := by
  intro xs
  induction xs with
  | nil => intro ys pre; simp [keepRun]
  | cons x xs ih =>
    intro ys pre
    simp only [List.cons_append, keepRun, ih]
    rw [List.append_assoc, List.singleton_append]
    simp only [Bool.and_assoc]
theorem keepRun_block (L : List (List Int)) : ∀ (xs pre : List Int), xs.Nodup → (∀ x ∈ xs, (0 ≤ x ∧ x < L.length) ∧ x ∉ pre ∧ ∀ k ∈ L.getD x.toNat [], k ∈ pre) → keepRun L pre xs = true := by
  intro xs
  induction xs with
  | nil => intro _ _ _; rfl
  | cons x xs ih =>
    intro pre hnd h
    rw [List.nodup_cons] at hnd
    have hx := h x List.mem_cons_self
    simp only [keepRun, Bool.and_eq_true, decide_eq_true_eq, List.all_eq_true]
    refine ⟨hx.1.1, hx.1.2, hx.2.1, hx.2.2, ih (pre ++ [x]) hnd.2 fun y hy => ?_⟩
    have hy2 := h y (List.mem_cons_of_mem _ hy)
    refine ⟨hy2.1, ?_, fun k hk => List.mem_append.2 (.inl (hy2.2.2 k hk))⟩
    rw [List.mem_append, List.mem_singleton]
    rintro (hm | rfl)
    · exact hy2.2.1 hm
    · exact hnd.1 hy
theorem len_ge : ∀ (n : Nat) (l : List Int), (∀ i : Nat, i < n → (i : Int) ∈ l) → n ≤ l.length := by
  intro n
  induction n with
  | zero => intro l _; omega
  | succ n ih =>
    intro l h
    have hn := h n (by omega)
    have := ih (l.erase (n : Int)) (fun i hi => (List.mem_erase_of_ne (by omega)).2 (h i (by omega)))
    rw [List.length_erase_of_mem hn] at this
    have : 0 < l.length := List.length_pos_of_mem hn
    omega
/-- Those of one level; the order by levels, so far. -/
def blockK (lv : List Int) (n l : Nat) : List Int := ((List.range n).filter fun i => decide (lv.getD i 0 = (l : Int))).map fun i : Nat => (i : Int)
def byK (lv : List Int) (n : Nat) : Nat → List Int
  | 0 => []
  | l + 1 => byK lv n l ++ blockK lv n l
theorem blockK_succ (lv : List Int) (i l : Nat) : blockK lv (i + 1) l = if lv.getD i 0 = (l : Int) then blockK lv i l ++ [(i : Int)] else blockK lv i l := by
  unfold blockK
  rw [List.range_succ, List.filter_append, List.map_append]
  by_cases h : lv.getD i 0 = (l : Int)
  · rw [if_pos h, List.filter_cons_of_pos (p := fun i => decide (lv.getD i 0 = (l : Int))) (decide_eq_true h)]; rfl
  · rw [if_neg h, List.filter_cons_of_neg (p := fun i => decide (lv.getD i 0 = (l : Int))) (by rw [decide_eq_false h]; decide)]; simp
theorem blockK_len (lv : List Int) (n l : Nat) : (blockK lv n l).length ≤ n := by
  unfold blockK
  rw [List.length_map]
  exact Nat.le_trans (List.length_filter_le _ _) (by simp)
theorem byK_len (lv : List Int) (n l : Nat) : (byK lv n l).length ≤ l * n := by
  induction l with
  | zero => simp [byK]
  | succ l ih =>
    have := blockK_len lv n l
    simp only [byK, List.length_append, Nat.succ_mul]
    omega
theorem mem_block (lv : List Int) (n l : Nat) (x : Int) : x ∈ blockK lv n l ↔ ∃ i : Nat, i < n ∧ lv.getD i 0 = (l : Int) ∧ x = i := by
  unfold blockK
  simp only [List.mem_map, List.mem_filter, List.mem_range, decide_eq_true_eq]
  exact ⟨fun ⟨i, ⟨h1, h2⟩, h3⟩ => ⟨i, h1, h2, h3.symm⟩, fun ⟨i, h1, h2, h3⟩ => ⟨i, ⟨h1, h2⟩, h3.symm⟩⟩
theorem mem_by (lv : List Int) (n l : Nat) (x : Int) : x ∈ byK lv n l ↔ ∃ i : Nat, i < n ∧ (∃ q, q < l ∧ lv.getD i 0 = (q : Int)) ∧ x = i := by
  induction l with
  | zero => simp [byK]
  | succ l ih =>
    simp only [byK, List.mem_append, ih, mem_block]
    constructor
    · rintro (⟨i, h1, ⟨q, h2, h3⟩, h4⟩ | ⟨i, h1, h2, h3⟩)
      · exact ⟨i, h1, ⟨q, by omega, h3⟩, h4⟩
      · exact ⟨i, h1, ⟨l, by omega, h2⟩, h3⟩
    · rintro ⟨i, h1, ⟨q, h2, h3⟩, h4⟩
      by_cases e : q = l
      · subst e; exact .inr ⟨i, h1, h3, h4⟩
      · exact .inl ⟨i, h1, ⟨q, by omega, h3⟩, h4⟩
theorem levels_prefix (L : List (List Int)) (n m i : Nat) (hnm : n ≤ m) (hi : i < n) : (levelsK L m).getD i 0 = (levelsK L n).getD i 0 := by
  induction m with
  | zero => omega
  | succ m ih =>
    by_cases e : n = m + 1
    · subst e; rfl
    · have := ih (by omega)
      rw [← this]
      simp only [levelsK]
      rw [List.getD_eq_getElem?_getD, List.getElem?_append_left (by rw [levelsK_len]; omega), ← List.getD_eq_getElem?_getD]
theorem lv_ge (out row : List Int) : ∀ u, u ≤ row.length → ∀ k ∈ row.take u, out.getD k.toNat 0 + 1 ≤ lvRow out (row.take u) := by
  intro u
  induction u with
  | zero => intro _ k hk; rw [List.take_zero] at hk; cases hk
  | succ u ih =>
    intro hu k hk
    rw [lv_take _ _ _ (by omega)]
    rw [List.take_succ_eq_append_getElem (by omega), List.mem_append, List.mem_singleton] at hk
    rcases hk with hk | rfl
    · exact Int.le_trans (ih (by omega) k hk) (le_mx _ _)
    · unfold mx; split <;> omega
/-- Whom a place leans on is of a lower level. -/
theorem level_lt (L : List (List Int)) (hL : goodB L = true) (i : Nat) (hi : i < L.length) (k : Int) (hk : k ∈ L.getD i []) : (levelsK L L.length).getD k.toNat 0 < (levelsK L L.length).getD i 0 := by
  have hkl := row_lt hL i k hk
  rw [levels_prefix L (i + 1) L.length i (by omega) (by omega), levels_prefix L i L.length k.toNat (by omega) hkl.2.1]
  simp only [levelsK]
  rw [List.getD_eq_getElem?_getD (l := _ ++ _), List.getElem?_append_right (by rw [levelsK_len]; omega), levelsK_len, Nat.sub_self]
  have := lv_ge (levelsK L i) (L.getD i []) (L.getD i []).length (Nat.le_refl _) k (by rw [List.take_length]; exact hk)
  rw [List.take_length] at this
  show _ < lvRow (levelsK L i) (L.getD i [])
  omega
theorem by_run (L : List (List Int)) (hL : goodB L = true) : ∀ l, keepRun L [] (byK (levelsK L L.length) L.length l) = true := by
  intro l
  induction l with
  | zero => rfl
  | succ l ih =>
    simp only [byK]
    rw [keepRun_append, ih, Bool.true_and, List.nil_append]
    refine keepRun_block L _ _ ?_ fun x hx => ?_
    · unfold blockK
      unfold List.Nodup
      rw [List.pairwise_map]
      exact ((List.pairwise_lt_range).filter _).imp (fun h => by omega)
    · obtain ⟨i, hi, hl, rfl⟩ := (mem_block _ _ _ _).1 hx
      refine ⟨by omega, fun hm => ?_, fun k hk => ?_⟩
      · obtain ⟨j, _, ⟨q, hq, hq2⟩, he⟩ := (mem_by _ _ _ _).1 hm
        have : j = i := by omega
        subst this
        omega
      · rw [Int.toNat_natCast] at hk
        have hlt := level_lt L hL i hi k hk
        have hkl := row_lt hL i k hk
        have hb := levels_bound L hL L.length (Nat.le_refl _) k.toNat hkl.2.2
        obtain ⟨q, hq⟩ := Int.eq_ofNat_of_zero_le hb.1
        exact (mem_by _ _ _ _).2 ⟨k.toNat, hkl.2.2, ⟨q, by omega, hq⟩, by omega⟩
theorem keeps_by (L : List (List Int)) (hL : goodB L = true) : keepsB L (byK (levelsK L L.length) L.length L.length) = true := by
  have hrun := by_run L hL L.length
  have hiff := (keepRun_iff L _ _).1 hrun
  have hnd := nodup_of_run _ (fun j hj => by have := (hiff j hj).2.1; simpa using this)
  have h1 := nodup_len L.length _ hnd (fun x hx => by
    obtain ⟨j, hj, rfl⟩ := List.mem_iff_getElem.1 hx
    exact (hiff j hj).1)
  have h2 := len_ge L.length (byK (levelsK L L.length) L.length L.length) (fun i hi => (mem_by _ _ _ _).2 ⟨i, hi, by
    have hb := levels_bound L hL L.length (Nat.le_refl _) i hi
    obtain ⟨q, hq⟩ := Int.eq_ofNat_of_zero_le hb.1
    exact ⟨q, by omega, hq⟩, rfl⟩)
  unfold keepsB
  rw [hL, hrun, decide_eq_true (by omega)]; rfl
def straightK (n : Nat) : List Int := (List.range n).map fun i : Nat => (i : Int)
theorem straightK_succ (n : Nat) : straightK (n + 1) = straightK n ++ [(n : Int)] := by
  unfold straightK; rw [List.range_succ, List.map_append]; rfl
theorem straightK_len (n : Nat) : (straightK n).length = n := by simp [straightK]
theorem keeps_straight (L : List (List Int)) (hL : goodB L = true) : keepsB L (straightK L.length) = true := by
  unfold keepsB
  rw [hL, decide_eq_true (straightK_len _), Bool.true_and, Bool.true_and, keepRun_iff]
  intro j hj
  have hjl : j < L.length := by rw [straightK_len] at hj; exact hj
  have he : (straightK L.length)[j] = (j : Int) := by simp [straightK]
  have hmem : ∀ k : Nat, (k : Int) ∈ (straightK L.length).take j ↔ k < j := fun k => by
    rw [List.mem_take_iff_getElem]
    constructor
    · rintro ⟨q, hq, e⟩
      have : (straightK L.length)[q]'(by omega) = (q : Int) := by simp [straightK]
      rw [this] at e
      omega
    · intro hk
      exact ⟨k, by rw [straightK_len]; omega, by simp [straightK]⟩
  rw [he, List.nil_append, Int.toNat_natCast]
  refine ⟨by omega, fun hm => by have := (hmem j).1 hm; omega, fun k hk => ?_⟩
  have hkl := row_lt hL j k hk
  have := (hmem k.toNat).2 hkl.2.1
  rwa [Int.toNat_of_nonneg hkl.1] at this
end Go.Proofs.Ytnjpbfljecmoiaa.Graph
