/- Plain law: what holds of a plan's tasks from the first to the last: whom each waits for. -/
import Derived.Test.YtigpcfokmbnlaaaNew1
import Derived.Test.YtigpcfokmbnlaaaTake
namespace Go.Proofs.Ytigpcfokmbnlaaa.Sched
open Go.RowKit Go.Proofs.YtigpcfokmbnlaaaW.PrintWords

theorem getD_set_if (ts : List T) (i m : Nat) (t : T) (hi : i < ts.length) : (ts.set i t).getD m zT = if m = i then t else ts.getD m zT := by
  by_cases h : m = i
  · subst h; rw [if_pos rfl]; exact getD_set ts m t hi
  · rw [if_neg h]; exact getD_set_ne ts i m t h
/-- One more row appended, told of one number. -/
theorem add_fold (i : Int) (l : List Int) : ∀ (ts : List T) (m : Nat), (∀ k ∈ l, 0 ≤ k ∧ k < ts.length) →
    ((l.foldl (fun ts k => addB i ts k.toNat) ts).getD m zT) = { ts.getD m zT with behind := (ts.getD m zT).behind ++ List.replicate (l.count (m : Int)) i } := by
  induction l with
  | nil => intro ts m _; simp
  | cons k l ih =>
    intro ts m h
    have hk := h k (List.mem_cons_self)
    obtain ⟨k, rfl⟩ := Int.eq_ofNat_of_zero_le hk.1
    rw [List.foldl_cons, ih _ m (fun q hq => by rw [addB_len]; exact h q (List.mem_cons_of_mem _ hq))]
    rw [Int.toNat_natCast, addB, getD_set_if _ _ _ _ (by omega)]
    by_cases hm : m = k
    · subst hm
      rw [if_pos rfl, List.count_cons_self, List.replicate_succ, List.append_assoc, List.singleton_append]
    · rw [if_neg hm, List.count_cons_of_ne (by omega)]
structure Up (L : List (List Int)) (ts : List T) (i : Nat) : Prop where
  len : ts.length = L.length
  state : ∀ m, m < L.length → (ts.getD m zT).state = 0
  worker : ∀ m, m < i → (ts.getD m zT).worker = -1
  waits : ∀ m, m < i → (ts.getD m zT).waits = (L.getD m []).length
  beh : ∀ q m, q < L.length → m < L.length → ((ts.getD q zT).behind).count (m : Int) = if m < i then (L.getD m []).count (q : Int) else 0
theorem up_upB (L : List (List Int)) (hL : goodB L = true) (i : Nat) (hi : i ≤ L.length) : Up L (upB L i) i := by
  induction i with
  | zero =>
    have hz : ∀ m, (List.replicate L.length zT).getD m zT = zT := by
      intro j; simp [List.getD_eq_getElem?_getD, List.getElem?_replicate]; split <;> rfl
    exact ⟨by simp [upB], fun m _ => by rw [upB, hz]; rfl, fun m h => absurd h (by omega), fun m h => absurd h (by omega), fun q m _ _ => by rw [upB, hz, if_neg (by omega)]; rfl⟩
  | succ i ih =>
    have u := ih (by omega)
    have hrow := good_mem L hL i (by omega)
    have key : ∀ m, (upB L (i + 1)).getD m zT = { (headB (upB L i) i (L.getD i []).length).getD m zT with behind := ((headB (upB L i) i (L.getD i []).length).getD m zT).behind ++ List.replicate ((L.getD i []).count (m : Int)) (i : Int) } := by
      intro m
      rw [upB, rowB, add_fold _ _ _ m (fun k hk => by rw [headB_len, u.len]; have := hrow k hk; omega)]
    have hd : ∀ m, (headB (upB L i) i (L.getD i []).length).getD m zT = if m = i then { (upB L i).getD i zT with worker := -1, waits := (L.getD i []).length } else (upB L i).getD m zT := by
      intro m
      exact getD_set_if _ _ _ _ (by rw [u.len]; omega)
    refine ⟨upB_len L (i + 1), fun m hm => ?_, fun m hm => ?_, fun m hm => ?_, fun q m hq hm => ?_⟩
    · rw [key, hd]
      by_cases h : m = i
      · simp only [if_pos h]; exact u.state i (by omega)
      · simp only [if_neg h]; exact u.state m hm
    · rw [key, hd]
      by_cases h : m = i
      · simp only [if_pos h]
      · simp only [if_neg h]; exact u.worker m (by omega)
    · rw [key, hd]
      by_cases h : m = i
      · subst h; simp only [if_true]
      · simp only [if_neg h]; exact u.waits m (by omega)
    · rw [key, hd]
      have hb : (if q = i then { (upB L i).getD i zT with worker := -1, waits := (L.getD i []).length } else (upB L i).getD q zT).behind = ((upB L i).getD q zT).behind := by
        by_cases h : q = i
        · subst h; simp only [if_true]
        · simp only [if_neg h]
      simp only [hb]
      rw [List.count_append, u.beh q m hq hm, List.count_replicate]
      by_cases h : m = i
      · subst h; simp
      · have h2 : ¬ ((i : Int) == (m : Int)) = true := by simp; omega
        rw [if_neg h2]
        by_cases h3 : m < i
        · rw [if_pos h3, if_pos (by omega)]; omega
        · rw [if_neg h3, if_neg (by omega)]

/-- The state of the task with this number. -/
def st (ts : List T) (k : Int) : Int := (ts.getD k.toNat zT).state
/-- Whom it waits for. -/
def wt (L : List (List Int)) (s : Int → Int) (m : Nat) : Nat := (L.getD m []).countP (fun k => s k != 3)
structure Inv (L : List (List Int)) (ts : List T) : Prop where
  len : ts.length = L.length
  small : Small ts L.length
  short : LenLe ts 1000000
  beh : ∀ q m, q < L.length → m < L.length → ((ts.getD q zT).behind).count (m : Int) = (L.getD m []).count (q : Int)
  waits : ∀ m, m < L.length → (ts.getD m zT).waits = wt L (st ts) m
theorem bare_eq {ts us : List T} (h : ts.map bare = us.map bare) (m : Nat) : (ts.getD m zT).waits = (us.getD m zT).waits ∧ (ts.getD m zT).behind = (us.getD m zT).behind ∧ (ts.getD m zT).worker = (us.getD m zT).worker ∧ (ts.getD m zT).state = (us.getD m zT).state := by
  have h1 := bare_getD ts m
  rw [h, bare_getD us m] at h1
  unfold bare at h1
  injection h1 with a1 _ _ a4 a5 a6
  exact ⟨a1.symm, a4.symm, a5.symm, a6.symm⟩
theorem bare_bare (ts : List T) : (ts.map bare).map bare = ts.map bare := by
  rw [List.map_map]; rfl
/-- A new plan. -/
theorem inv_new (L : List (List Int)) (hL : goodB L = true) (hl : L.length ≤ 1000) (hr : rowsAt L 1000) (ts : List T) (h : ts.map bare = upB L L.length) : Inv L ts ∧ (∀ m, m < L.length → (ts.getD m zT).state = 0 ∧ (ts.getD m zT).worker = -1) := by
  have u := up_upB L hL L.length (Nat.le_refl _)
  have hb : ts.map bare = (upB L L.length).map bare := by rw [← h, bare_bare]
  have e := bare_eq hb
  have hlen : ts.length = L.length := by have := congrArg List.length h; rwa [List.length_map, upB_len] at this
  have hst : ∀ m, m < L.length → (ts.getD m zT).state = 0 := fun m hm => by rw [(e m).2.2.2]; exact u.state m hm
  refine ⟨⟨hlen, ?_, ?_, fun q m hq hm => ?_, fun m hm => ?_⟩, fun m hm => ⟨hst m hm, by rw [(e m).2.2.1]; exact u.worker m hm⟩⟩
  · rw [← small_bare, h]; exact small_upB L _ (Nat.le_refl _)
  · have h3 := lenLe_mono (lenLe_upB L 1000 hr L.length) (show L.length * 1000 ≤ 1000000 by omega)
    rw [← h] at h3
    intro t ht
    exact h3 (bare t) (List.mem_map_of_mem ht)
  · rw [(e q).2.1, u.beh q m hq hm, if_pos hm]
  · rw [(e m).1, u.waits m hm, wt]
    congr 1
    symm
    rw [List.countP_eq_length]
    intro k hk
    have := good_mem L hL m hm k hk
    simp only [st, hst k.toNat (by omega)]
    decide
end Go.Proofs.Ytigpcfokmbnlaaa.Sched
