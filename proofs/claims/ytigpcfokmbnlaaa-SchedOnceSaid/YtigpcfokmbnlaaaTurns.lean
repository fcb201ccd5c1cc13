/- Plain law: how a plan's tasks turn when one of them is ended. -/
import Derived.Test.YtigpcfokmbnlaaaInv
namespace Go.Proofs.Ytigpcfokmbnlaaa.Sched
open Go.RowKit Go.Proofs.YtigpcfokmbnlaaaW.PrintWords

theorem wrap_pred_nat (a : Nat) (h : 1 ≤ a) (h2 : a ≤ 1000000) : wrap64 ((a : Int) - 1) = ((a - 1 : Nat) : Int) := by
  unfold wrap64; omega
/-- All that waited wait for so many fewer. -/
theorem dec_fold (l : List Int) : ∀ (ts : List T) (m a : Nat), (∀ k ∈ l, 0 ≤ k ∧ k < ts.length) → (ts.getD m zT).waits = a → l.count (m : Int) ≤ a → a ≤ 1000000 →
    (l.foldl (fun ts k => decW ts k.toNat) ts).getD m zT = { ts.getD m zT with waits := ((a - l.count (m : Int) : Nat) : Int) } := by
  induction l with
  | nil => intro ts m a _ ha _ _; simp only [List.foldl_nil, List.count_nil, Nat.sub_zero]; rw [← ha]
  | cons k l ih =>
    intro ts m a hl ha hc h6
    have hk := hl k List.mem_cons_self
    obtain ⟨k, rfl⟩ := Int.eq_ofNat_of_zero_le hk.1
    have hg : (decW ts k).getD m zT = if m = k then { ts.getD k zT with waits := wrap64 ((ts.getD k zT).waits - 1) } else ts.getD m zT := getD_set_if _ _ _ _ (by omega)
    rw [List.foldl_cons, Int.toNat_natCast]
    by_cases hm : m = k
    · subst hm
      rw [List.count_cons_self] at hc ⊢
      rw [if_pos rfl, ha, wrap_pred_nat a (by omega) h6] at hg
      rw [ih _ m (a - 1) (fun q hq => by rw [decW_len]; exact hl q (List.mem_cons_of_mem _ hq)) (by rw [hg]) (by omega) (by omega), hg, show a - 1 - l.count (m : Int) = a - (l.count (m : Int) + 1) by omega]
    · rw [List.count_cons_of_ne (by omega)] at hc ⊢
      rw [if_neg hm] at hg
      rw [ih _ m a (fun q hq => by rw [decW_len]; exact hl q (List.mem_cons_of_mem _ hq)) (by rw [hg]; exact ha) hc h6, hg]
/-- One fewer that has not ended. -/
theorem count_end (s s' : Int → Int) (i : Nat) (h1 : s i ≠ 3) (h2 : s' i = 3) (l : List Int) (h : ∀ k ∈ l, k ≠ (i : Int) → s' k = s k) :
    l.countP (fun k => s k != 3) = l.countP (fun k => s' k != 3) + l.count (i : Int) := by
  induction l with
  | nil => rfl
  | cons k l ih =>
    have hi := ih (fun q hq => h q (List.mem_cons_of_mem _ hq))
    rw [List.countP_cons, List.countP_cons, hi]
    by_cases hk : k = (i : Int)
    · subst hk
      rw [List.count_cons_self]
      simp [h1, h2]
      omega
    · rw [List.count_cons_of_ne (by omega), h k List.mem_cons_self hk]
      omega
theorem wt_le (L : List (List Int)) (s : Int → Int) (m : Nat) (hr : rowsAt L 1000) : wt L s m ≤ 1000 := by
  refine Nat.le_trans List.countP_le_length ?_
  by_cases h : m < L.length
  · have e : L.getD m [] = L[m] := by simp [List.getD_eq_getElem?_getD, h]
    rw [e]; exact hr _ (List.getElem_mem h)
  · simp [List.getD_eq_getElem?_getD, List.getElem?_eq_none (Nat.le_of_not_lt h)]
theorem setState_getD (ts : List T) (i m : Nat) (s : Int) (hi : i < ts.length) : (setState ts i s).getD m zT = if m = i then { ts.getD i zT with state := s } else ts.getD m zT := getD_set_if _ _ _ _ hi
theorem setWorker_getD (ts : List T) (i m : Nat) (s : Int) (hi : i < ts.length) : (setWorker ts i s).getD m zT = if m = i then { ts.getD i zT with worker := s } else ts.getD m zT := getD_set_if _ _ _ _ hi
/-- Kept where neither rows nor numbers turn, and none ends. -/
theorem Inv.keep {L : List (List Int)} {ts us : List T} (h : Inv L ts) (hl : us.length = ts.length) (hb : ∀ m, (us.getD m zT).behind = (ts.getD m zT).behind ∧ (us.getD m zT).waits = (ts.getD m zT).waits)
    (hs : ∀ k, (st us k = 3 ↔ st ts k = 3)) : Inv L us := by
  have mem : ∀ t ∈ us, ∃ u ∈ ts, t.behind = u.behind := by
    intro t ht
    obtain ⟨j, hj, rfl⟩ := List.mem_iff_getElem.1 ht
    have e : us.getD j zT = us[j] := by simp [List.getD_eq_getElem?_getD, hj]
    refine ⟨ts[j]'(by omega), List.getElem_mem _, ?_⟩
    have e2 : ts.getD j zT = ts[j]'(by omega) := by simp [List.getD_eq_getElem?_getD, show j < ts.length by omega]
    rw [← e, ← e2]; exact (hb j).1
  refine ⟨hl.trans h.len, fun t ht => ?_, fun t ht => ?_, fun q m hq hm => ?_, fun m hm => ?_⟩
  · obtain ⟨u, hu, e⟩ := mem t ht; rw [e]; exact h.small u hu
  · obtain ⟨u, hu, e⟩ := mem t ht; rw [e]; exact h.short u hu
  · rw [(hb q).1]; exact h.beh q m hq hm
  · rw [(hb m).2, h.waits m hm]
    unfold wt
    congr 2
    funext k
    have := hs k
    by_cases hk : st ts k = 3
    · rw [hk, this.2 hk]
    · have h2 : st us k ≠ 3 := fun c => hk (this.1 c)
      rw [bne_iff_ne.2 hk, bne_iff_ne.2 h2]
theorem Inv.end_getD {L : List (List Int)} {ts : List T} (h : Inv L ts) (hr : rowsAt L 1000) (i : Nat) (hi : i < L.length) (hs : st ts i ≠ 3) (m : Nat) (hm : m < L.length) :
    (endTs ts i).getD m zT = { (setState ts i 3).getD m zT with waits := ((wt L (st ts) m - (L.getD m []).count (i : Int) : Nat) : Int) } := by
  have hlen := h.len
  have hc := count_end (st ts) (fun k => if k = (i : Int) then 3 else st ts k) i hs (by simp) (L.getD m []) (fun k _ hk => by simp [hk])
  have hw : ((setState ts i 3).getD m zT).waits = wt L (st ts) m := by
    rw [setState_getD _ _ _ _ (by omega)]
    by_cases e : m = i
    · subst e; rw [if_pos rfl]; exact h.waits m hm
    · rw [if_neg e]; exact h.waits m hm
  have h6 := wt_le L (st ts) m hr
  unfold endTs
  rw [dec_fold _ _ m (wt L (st ts) m) (fun k hk => by rw [setState_len, hlen]; exact small_getD h.small i k hk) hw (by rw [h.beh i m hi hm]; unfold wt; omega) (by omega), h.beh i m hi hm]
theorem Inv.ended {L : List (List Int)} {ts : List T} (h : Inv L ts) (hL : goodB L = true) (hr : rowsAt L 1000) (i : Nat) (hi : i < L.length) (hs : st ts i ≠ 3) :
    Inv L (endTs ts i) ∧ (∀ m, m < L.length → ((endTs ts i).getD m zT).state = (if m = i then 3 else (ts.getD m zT).state) ∧ ((endTs ts i).getD m zT).worker = (ts.getD m zT).worker) := by
  have hlen := h.len
  have hg := fun m hm => h.end_getD hr i hi hs m hm
  have hst : ∀ m, m < L.length → ((endTs ts i).getD m zT).state = (if m = i then 3 else (ts.getD m zT).state) ∧ ((endTs ts i).getD m zT).worker = (ts.getD m zT).worker ∧ ((endTs ts i).getD m zT).behind = (ts.getD m zT).behind := by
    intro m hm
    rw [hg m hm, setState_getD _ _ _ _ (by omega)]
    by_cases e : m = i
    · subst e; simp
    · simp [e]
  have mem : ∀ t ∈ endTs ts i, ∃ u ∈ ts, t.behind = u.behind := by
    intro t ht
    obtain ⟨j, hj, rfl⟩ := List.mem_iff_getElem.1 ht
    rw [endTs_len] at hj
    have e : (endTs ts i).getD j zT = (endTs ts i)[j]'(by rw [endTs_len]; exact hj) := by simp [List.getD_eq_getElem?_getD, hj, endTs_len]
    refine ⟨ts[j], List.getElem_mem _, ?_⟩
    have e2 : ts.getD j zT = ts[j] := by simp [List.getD_eq_getElem?_getD, hj]
    rw [← e, ← e2]; exact (hst j (by omega)).2.2
  refine ⟨⟨(endTs_len _ _).trans h.len, fun t ht => ?_, fun t ht => ?_, fun q m hq hm => ?_, fun m hm => ?_⟩, fun m hm => ⟨(hst m hm).1, (hst m hm).2.1⟩⟩
  · obtain ⟨u, hu, e⟩ := mem t ht; rw [e]; exact h.small u hu
  · obtain ⟨u, hu, e⟩ := mem t ht; rw [e]; exact h.short u hu
  · rw [(hst q hq).2.2]; exact h.beh q m hq hm
  · rw [hg m hm]
    have hi' : st (endTs ts i) i = 3 := by
      unfold st; rw [Int.toNat_natCast, (hst i hi).1, if_pos rfl]
    have hc := count_end (st ts) (st (endTs ts i)) i hs hi' (L.getD m []) (fun k hk hne => by
      have := good_mem L hL m hm k hk
      unfold st
      rw [(hst k.toNat (by omega)).1, if_neg (by omega)])
    show ((wt L (st ts) m - (L.getD m []).count (i : Int) : Nat) : Int) = _
    unfold wt
    congr 1
    omega
/-- The states, one turned. -/
theorem states_set (ts us : List T) (i : Nat) (k : Int) (hl : us.length = ts.length) (h : ∀ m, m < ts.length → (us.getD m zT).state = if m = i then k else (ts.getD m zT).state) : us.map T.state = (ts.map T.state).set i k := by
  apply List.ext_getElem
  · simp [hl]
  · intro m h1 h2
    have hm : m < ts.length := by simpa using h2
    have := h m hm
    rw [show us.getD m zT = us[m]'(by omega) by simp [List.getD_eq_getElem?_getD, show m < us.length by omega], show ts.getD m zT = ts[m] by simp [List.getD_eq_getElem?_getD, hm]] at this
    simp only [List.getElem_map, List.getElem_set, this]
    by_cases e : m = i
    · simp [e]
    · simp [e, Ne.symm e]
end Go.Proofs.Ytigpcfokmbnlaaa.Sched
