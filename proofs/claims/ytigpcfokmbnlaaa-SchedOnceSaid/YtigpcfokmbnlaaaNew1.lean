/- sched.New: what its loops come to. -/
import Derived.Test.YtigpcfokmbnlaaaNew0
namespace Go.Proofs.Ytigpcfokmbnlaaa.Sched
open Go.RowKit Go.Proofs.YtigpcfokmbnlaaaW.PrintWords Go.Proofs.Ytigpcfokmbnlaaa.PSchedPlays

def bare (t : T) : T := { t with A := none, cap := 0 }
def addB (i : Int) (ts : List T) (k : Nat) : List T := ts.set k { ts.getD k zT with behind := (ts.getD k zT).behind ++ [i] }
def headB (ts : List T) (i n : Nat) : List T := ts.set i { ts.getD i zT with worker := -1, waits := n }
def rowB (ts : List T) (i : Nat) (l : List Int) : List T := l.foldl (fun ts k => addB i ts k.toNat) (headB ts i l.length)
def upB (L : List (List Int)) : Nat → List T
  | 0 => List.replicate L.length zT
  | i + 1 => rowB (upB L i) i (L.getD i [])

theorem bare_getD (ts : List T) (k : Nat) : (ts.map bare).getD k zT = bare (ts.getD k zT) := by
  simp only [List.getD_eq_getElem?_getD, List.getElem?_map]
  cases ts[k]? <;> rfl
theorem addB_bare (i : Int) (ts : List T) (k : Nat) (A1 : Option Addr) (c1 : Nat) : (ts.set k { ts.getD k zT with A := A1, cap := c1, behind := (ts.getD k zT).behind ++ [i] }).map bare = addB i (ts.map bare) k := by
  rw [List.map_set, addB, bare_getD]; rfl
theorem headB_bare (ts : List T) (i n : Nat) : (headB ts i n).map bare = headB (ts.map bare) i n := by
  rw [headB, List.map_set, headB, bare_getD]; rfl
theorem headB_len (ts : List T) (i n : Nat) : (headB ts i n).length = ts.length := by simp [headB]
theorem addB_len (i : Int) (ts : List T) (k : Nat) : (addB i ts k).length = ts.length := by simp [addB]
theorem addB_foldlen (i : Int) (l : List Int) (ts : List T) : (l.foldl (fun ts k => addB i ts k.toNat) ts).length = ts.length := by
  induction l generalizing ts with
  | nil => rfl
  | cons k l ih => rw [List.foldl_cons, ih, addB_len]
theorem upB_len (L : List (List Int)) (i : Nat) : (upB L i).length = L.length := by
  induction i with
  | zero => simp [upB]
  | succ i ih => rw [upB, rowB, addB_foldlen, headB_len, ih]
theorem add_take (i : Int) (l : List Int) (ts : List T) (k : Nat) (h : k < l.length) : (l.take (k + 1)).foldl (fun ts k => addB i ts k.toNat) ts = addB i ((l.take k).foldl (fun ts k => addB i ts k.toNat) ts) (rd l k).toNat := by
  rw [List.take_succ_eq_append_getElem h, List.foldl_append]
  simp [rd, h]
theorem okRow_mem (i : Int) (l : List Int) : ∀ b, okRow i b l = true → ∀ k ∈ l, b < k ∧ k < i := by
  induction l with
  | nil => intro b _ k hk; cases hk
  | cons q l ih =>
    intro b h k hk
    simp only [okRow, Bool.and_eq_true, decide_eq_true_eq] at h
    rcases List.mem_cons.1 hk with rfl | hk
    · exact ⟨h.1, h.2.1⟩
    · have := ih q h.2.2 k hk
      omega
theorem okFrom_row (L : List (List Int)) : ∀ (s : Int) (i : Nat), okFrom s L = true → i < L.length → okRow (s + i) (-1) (L.getD i []) = true := by
  induction L with
  | nil => intro s i _ h; simp at h
  | cons l L ih =>
    intro s i h hi
    simp only [okFrom, Bool.and_eq_true] at h
    cases i with
    | zero => simpa using h.1
    | succ i =>
      have := ih (s + 1) i h.2 (by simpa using hi)
      rw [show s + ((i + 1 : Nat) : Int) = s + 1 + i by omega]
      simpa using this
theorem good_mem (L : List (List Int)) (h : goodB L = true) (i : Nat) (hi : i < L.length) : ∀ k ∈ L.getD i [], 0 ≤ k ∧ k < i := by
  intro k hk
  have := okRow_mem _ _ _ (okFrom_row L 0 i h hi) k hk
  omega
/-- All rows behind tell numbers below n, and are no longer than m. -/
def Small (ts : List T) (n : Int) : Prop := ∀ t ∈ ts, ∀ k ∈ t.behind, 0 ≤ k ∧ k < n
theorem small_bare {ts : List T} {n : Int} : Small (ts.map bare) n ↔ Small ts n := by
  unfold Small
  constructor
  · intro h t ht; exact h (bare t) (List.mem_map_of_mem ht)
  · intro h t ht
    obtain ⟨u, hu, rfl⟩ := List.mem_map.1 ht
    exact h u hu
theorem getD_mem_or (ts : List T) (k : Nat) : ts.getD k zT ∈ ts ∨ ts.getD k zT = zT := by
  by_cases h : k < ts.length
  · left; simp [List.getD_eq_getElem?_getD, h]
  · right; simp [List.getD_eq_getElem?_getD, List.getElem?_eq_none (Nat.le_of_not_lt h)]
theorem small_getD {ts : List T} {n : Int} (h : Small ts n) (k : Nat) : ∀ q ∈ (ts.getD k zT).behind, 0 ≤ q ∧ q < n := by
  rcases getD_mem_or ts k with hm | hm
  · exact h _ hm
  · rw [hm]; intro q hq; cases hq
theorem small_set {ts : List T} {n : Int} (h : Small ts n) (k : Nat) (t : T) (ht : ∀ q ∈ t.behind, 0 ≤ q ∧ q < n) : Small (ts.set k t) n := by
  intro u hu
  rcases List.mem_or_eq_of_mem_set hu with hu | rfl
  · exact h u hu
  · exact ht
theorem small_addB {ts : List T} {n : Int} (h : Small ts n) (i : Int) (hi : 0 ≤ i ∧ i < n) (k : Nat) : Small (addB i ts k) n := by
  refine small_set h k _ fun q hq => ?_
  rcases List.mem_append.1 hq with hq | hq
  · exact small_getD h k q hq
  · rw [List.mem_singleton.1 hq]; exact hi
theorem small_fold {n : Int} (i : Int) (hi : 0 ≤ i ∧ i < n) (l : List Int) : ∀ ts, Small ts n → Small (l.foldl (fun ts k => addB i ts k.toNat) ts) n := by
  induction l with
  | nil => intro ts h; exact h
  | cons k l ih => intro ts h; exact ih _ (small_addB h i hi _)
theorem small_upB (L : List (List Int)) (i : Nat) (hi : i ≤ L.length) : Small (upB L i) L.length := by
  induction i with
  | zero =>
    intro t ht
    rw [(List.mem_replicate.1 ht).2]
    intro k hk; cases hk
  | succ i ih =>
    refine small_fold _ ⟨by omega, by omega⟩ _ _ (small_set (ih (by omega)) i _ (small_getD (ih (by omega)) i))
/-- How long rows behind may grow. -/
def LenLe (ts : List T) (m : Nat) : Prop := ∀ t ∈ ts, t.behind.length ≤ m
theorem lenLe_getD {ts : List T} {m : Nat} (h : LenLe ts m) (k : Nat) : (ts.getD k zT).behind.length ≤ m := by
  rcases getD_mem_or ts k with hm | hm
  · exact h _ hm
  · rw [hm]; exact Nat.zero_le _
theorem lenLe_set {ts : List T} {m : Nat} (h : LenLe ts m) (k : Nat) (t : T) (ht : t.behind.length ≤ m) : LenLe (ts.set k t) m := by
  intro u hu
  rcases List.mem_or_eq_of_mem_set hu with hu | rfl
  · exact h u hu
  · exact ht
theorem lenLe_mono {ts : List T} {m m' : Nat} (h : LenLe ts m) (hm : m ≤ m') : LenLe ts m' := fun t ht => Nat.le_trans (h t ht) hm
theorem lenLe_addB {ts : List T} {m : Nat} (h : LenLe ts m) (i : Int) (k : Nat) : LenLe (addB i ts k) (m + 1) :=
  lenLe_set (lenLe_mono h (Nat.le_succ _)) k _ (by simpa using lenLe_getD h k)
theorem lenLe_fold (i : Int) (l : List Int) : ∀ ts m, LenLe ts m → LenLe (l.foldl (fun ts k => addB i ts k.toNat) ts) (m + l.length) := by
  induction l with
  | nil => intro ts m h; exact h
  | cons k l ih =>
    intro ts m h
    have := ih _ _ (lenLe_addB h i k.toNat)
    rw [List.foldl_cons, List.length_cons]
    exact lenLe_mono this (by omega)
theorem lenLe_headB {ts : List T} {m : Nat} (h : LenLe ts m) (i n : Nat) : LenLe (headB ts i n) m := lenLe_set h i _ (lenLe_getD h i)
theorem lenLe_upB (L : List (List Int)) (r : Nat) (hr : rowsAt L r) (i : Nat) : LenLe (upB L i) (i * r) := by
  induction i with
  | zero =>
    intro t ht
    rw [(List.mem_replicate.1 ht).2]
    exact Nat.zero_le _
  | succ i ih =>
    have := lenLe_fold i (L.getD i []) _ _ (lenLe_headB ih i (L.getD i []).length)
    refine lenLe_mono this ?_
    have hl : (L.getD i []).length ≤ r := by
      by_cases h : i < L.length
      · have e : L.getD i [] = L[i] := by simp [List.getD_eq_getElem?_getD, h]
        rw [e]; exact hr _ (List.getElem_mem h)
      · simp [List.getD_eq_getElem?_getD, List.getElem?_eq_none (Nat.le_of_not_lt h)]
    rw [Nat.succ_mul]; omega
def idleUp (ts : List T) (idle : List Bool) : Nat → List T
  | 0 => ts
  | i + 1 => if idle.getD i false then endTs (idleUp ts idle i) i else idleUp ts idle i
def leftUp (left : Int) (idle : List Bool) : Nat → Int
  | 0 => left
  | i + 1 => if idle.getD i false then wrap64 (leftUp left idle i - 1) else leftUp left idle i
theorem idleUp_len (ts : List T) (idle : List Bool) (i : Nat) : (idleUp ts idle i).length = ts.length := by
  induction i with
  | zero => rfl
  | succ i ih => simp only [idleUp]; split <;> simp [endTs_len, ih]
theorem same_idle (ts : List T) (idle : List Bool) (i : Nat) : SameRows ts (idleUp ts idle i) := by
  induction i with
  | zero => exact SameRows.refl _
  | succ i ih => simp only [idleUp]; split <;> first | exact ih.trans (same_end _ _) | exact ih
end Go.Proofs.Ytigpcfokmbnlaaa.Sched
