/- The contract of (*Plan).Pick where a task is taken. -/
import Derived.Test.YtigpcfokmbnlaaaPlaysA
import Derived.Test.YtigpcfokmbnlaaaPlaysB
namespace Go.Proofs.Ytigpcfokmbnlaaa.Sched
open Go.RowKit Go.Proofs.YtigpcfokmbnlaaaW.PrintWords

def takeTs (ts : List T) (i : Nat) (n : Int) : List T := setWorker (setState ts i 1) i n
theorem same_take (ts : List T) (i : Nat) (n : Int) : SameRows ts (takeTs ts i n) := (same_setState ts i 1).trans (same_setWorker _ _ _)

set_option maxHeartbeats 4000000 in
set_option maxRecDepth 100000 in
theorem pick_take (P : Pl) (ts : List T) (has : List Int) (picks left : Int) (w : World) (n i : Nat) (h : IsPlan w P ts has picks left) (hn : n < has.length) (hl : left ≠ 0) (hh : has.getD n 0 = -1) (hrd : firstI readyB ts = (i : Int)) (hi : i < ts.length) :
    Calls Try.prog 11 #[.pointer (some ⟨P.gp, 0, none⟩), .int .i64 n] w fun e w' => e = .returned (pickV 1 i n 0) ∧ IsPlan w' P (takeTs ts i n) (has.set n i) (wrap64 (picks + 1)) left ∧ Stp w w' P := by
  have z33 := z33
  have H2 := Aside0.mk (ev3_one 1 i n)
  have h2 := h.keep (below_alloc (Below.refl _ _) (.cells #[.int .i64 0, .int .i64 0, .int .i64 0] 33))
  obtain ⟨c0, c1, c2, c3⟩ := h2.cellP
  obtain ⟨d0, d1, d2, d3⟩ := h.cellP
  have fp := h2.frP
  have fp0 := h.frP
  have ch := h2.cellH n hn
  have ch0 := h.cellH n hn
  rw [hh] at ch ch0
  have b2 : decide (has.length ≤ n) = false := by simp; omega
  have b3 : (left == 0) = false := by rw [beq_eq_false_iff_ne]; exact hl
  have b4 : ((i : Int) != -1) = true := by rw [bne_iff_ne]; omega
  have n1 := h.ph
  have n2 := h.ph.symm
  obtain ⟨l1, l2, l3⟩ := h.lts
  have hq := h.setPicks (wrap64 (picks + 1))
  have HQ := Aside0.mk hq
  have HI := Aside0.mk h
  have HR := Aside0.mk hrd
  clear h h2 hh hq hrd
  go_enter Try.func11, Try.ntmps11
  go_wp2_with fail
  have hq2 := HQ.out.keep (below_alloc (Below.refl _ _) (.cells #[.int .i64 0, .int .i64 0, .int .i64 0] 33))
  refine (first_ready P ts has _ left _ hq2).mono ?_
  rintro e w3 ⟨rfl, ⟨nd3, rfl⟩⟩
  rw [HR.out]
  have hq3 := hq2.drewN nd3
  have hblk3 : (((w.setCell ⟨P.gp, 2, none⟩ (.int .i64 (wrap64 (picks + 1)))).alloc (.cells #[.int .i64 0, .int .i64 0, .int .i64 0] 33)).drewN nd3).heap[w.heap.size]? = some (.cells #[.int .i64 0, .int .i64 0, .int .i64 0] 33 (0, 0)) := by
    have := heap_alloc_new (w.setCell ⟨P.gp, 2, none⟩ (.int .i64 (wrap64 (picks + 1)))) (.cells #[.int .i64 0, .int .i64 0, .int .i64 0] 33)
    have this2 : ((w.setCell ⟨P.gp, 2, none⟩ (.int .i64 (wrap64 (picks + 1)))).alloc (.cells #[.int .i64 0, .int .i64 0, .int .i64 0] 33)).heap[w.heap.size]? = some (.cells #[.int .i64 0, .int .i64 0, .int .i64 0] 33 (0, 0)) := by simpa using this
    exact this2
  have hS3 : Stp w (((w.setCell ⟨P.gp, 2, none⟩ (.int .i64 (wrap64 (picks + 1)))).alloc (.cells #[.int .i64 0, .int .i64 0, .int .i64 0] 33)).drewN nd3) P := (((Stp.refl w P).setCell (p := ⟨P.gp, 2, none⟩) (.inl rfl) (.int .i64 (wrap64 (picks + 1)))).alloc _).drewN _
  generalize ((w.setCell ⟨P.gp, 2, none⟩ (.int .i64 (wrap64 (picks + 1)))).alloc (.cells #[.int .i64 0, .int .i64 0, .int .i64 0] 33)).drewN nd3 = w4 at hq3 hblk3 hS3 ⊢
  clear c0 c1 c2 c3 d0 d1 d2 d3 fp fp0 ch ch0 hq2
  obtain ⟨c0, c1, c2, c3⟩ := hq3.cellP
  have ft := hq3.frT
  have fh := hq3.frH
  have t2 := hq3.cellT i 2 hi (by omega)
  have t3 := hq3.cellT i 3 hi (by omega)
  have th := hq3.cellH n hn
  simp only [T.cells, List.getElem?_cons_zero, List.getElem?_cons_succ] at t2 t3
  have m1 := hq3.pt
  have m2 := hq3.pt.symm
  have m3 := hq3.th
  have m4 := hq3.th.symm
  have HQ3 := Aside0.mk hq3
  have HB3 := Aside0.mk hblk3
  have HS3 := Aside0.mk hS3
  have hn2 : (n : Int) < (has.length : Int) := by omega
  have hi2 : (i : Int) < (ts.length : Int) := by omega
  clear hq3 hblk3 hS3
  go_wp2
  go_region_held3 (fun w' => w'.cell? ⟨P.gp, 0, none⟩ = some (.slice (some ⟨P.gt, 0, none⟩) ts.length ts.length) ∧ w'.cell? ⟨P.gp, 1, none⟩ = some (.slice (some ⟨P.gh, 0, none⟩) has.length P.hcap)) (go_keep) (fail)
  have ha := HQ3.out.setT i 3 hi (by omega) (.int .i64 1) { ts.getD i zT with state := 1 } rfl ⟨rfl, rfl, rfl⟩
  have hb := ha.setT i 2 (by rw [List.length_set]; exact hi) (by omega) (.int .i64 n) { (setState ts i 1).getD i zT with worker := n } rfl ⟨rfl, rfl, rfl⟩
  have hc := hb.setH n hn i
  have hs5 := ((HS3.out.setCell (p := ⟨P.gt, i * 4 + 3, none⟩) (.inr (.inl rfl)) (.int .i64 1)).setCell (p := ⟨P.gt, i * 4 + 2, none⟩) (.inr (.inl rfl)) (.int .i64 n)).setCell (p := ⟨P.gh, n, none⟩) (.inr (.inr rfl)) (.int .i64 i)
  have hk5 : (((w4.setCell ⟨P.gt, i * 4 + 3, none⟩ (.int .i64 1)).setCell ⟨P.gt, i * 4 + 2, none⟩ (.int .i64 n)).setCell ⟨P.gh, n, none⟩ (.int .i64 i)).heap[w.heap.size]? = some (.cells #[.int .i64 0, .int .i64 0, .int .i64 0] 33 (0, 0)) := by
    rw [heap_setCell_other _ _ _ _ (by show w.heap.size ≠ P.gh; omega), heap_setCell_other _ _ _ _ (by show w.heap.size ≠ P.gt; omega), heap_setCell_other _ _ _ _ (by show w.heap.size ≠ P.gt; omega)]
    exact HB3.out
  have HC := Aside0.mk (show IsPlan _ P (takeTs ts i n) (has.set n i) (wrap64 (picks + 1)) left from hc.drewN 1)
  have HS5 := Aside0.mk (hs5.drewN 1)
  have HK5 := Aside0.mk (show ((((w4.setCell ⟨P.gt, i * 4 + 3, none⟩ (.int .i64 1)).setCell ⟨P.gt, i * 4 + 2, none⟩ (.int .i64 n)).setCell ⟨P.gh, n, none⟩ (.int .i64 i)).drewN 1).heap[w.heap.size]? = _ from hk5)
  clear ha hb hc hs5 hk5 c0 c1 c2 c3 ft fh t2 t3 th
  go_wp2_with (refine wpList_store_row rfl 33 _ _ rfl w.heap.size (ev3 1 i n) rfl rfl 33 #[.int .i64 0, .int .i64 0, .int .i64 0] HK5.out (by kernel_rfl) rfl H2.out ?_)
  have HGr := setRow_heap _ w.heap.size #[.int .i64 0, .int .i64 0, .int .i64 0] (ev3 1 i n) 33 (0, 0) HK5.out
  refine bodyPost_ret (v := pickV 1 i n 0) (results11 _ _ w.heap.size 1 i n 0 rfl rfl HGr) rfl ⟨rfl, ?_, HS5.out.setRow _ (Nat.le_refl _)⟩
  exact HI.out.rebuild (HS5.out.setRow _ (Nat.le_refl _)) HC.out (same_take ts i n) (fun k hk => setRow_other _ _ _ _ (by rcases hk with hk | hk | hk <;> omega))
end Go.Proofs.Ytigpcfokmbnlaaa.Sched

/- Plain law: what holds of a plan's tasks from the first to the last: whom each waits for. -/
namespace Go.Proofs.Ytigpcfokmbnlaaa.Sched
open Go.RowKit Go.Proofs.YtigpcfokmbnlaaaW.PrintWords

theorem getD_set_if (ts : List T) (i m : Nat) (t : T) (hi : i < ts.length) : (ts.set i t).getD m zT = if m = i then t else ts.getD m zT := by
  by_cases h : m = i
  · subst h; rw [if_pos rfl]; exact getD_set ts m t hi
  · rw [if_neg h]; exact getD_set_ne ts i m t h
/-- One more row appended, told of one number. -/
theorem add_fold (i : Int) (l : List Int) : ∀ (ts : List T) (m : Nat), (∀ k ∈ l, 0 ≤ k ∧ k < ts.length) →
    ((l.foldl (fun ts k => addB i ts k.toNat) ts).getD m zT) = { ts.getD m zT with behind := (ts.getD m zT).behind ++ List.replicate (l.count (m : Int)) i } := by
  induction l with
  | nil => intro ts m _; simp
  | cons k l ih =>
    intro ts m h
    have hk := h k (List.mem_cons_self)
    obtain ⟨k, rfl⟩ := Int.eq_ofNat_of_zero_le hk.1
    rw [List.foldl_cons, ih _ m (fun q hq => by rw [addB_len]; exact h q (List.mem_cons_of_mem _ hq))]
    rw [Int.toNat_natCast, addB, getD_set_if _ _ _ _ (by omega)]
    by_cases hm : m = k
    · subst hm
      rw [if_pos rfl, List.count_cons_self, List.replicate_succ, List.append_assoc, List.singleton_append]
    · rw [if_neg hm, List.count_cons_of_ne (by omega)]
structure Up (L : List (List Int)) (ts : List T) (i : Nat) : Prop where
  len : ts.length = L.length
  state : ∀ m, m < L.length → (ts.getD m zT).state = 0
  worker : ∀ m, m < i → (ts.getD m zT).worker = -1
  waits : ∀ m, m < i → (ts.getD m zT).waits = (L.getD m []).length
  beh : ∀ q m, q < L.length → m < L.length → ((ts.getD q zT).behind).count (m : Int) = if m < i then (L.getD m []).count (q : Int) else 0
theorem up_upB (L : List (List Int)) (hL : goodB L = true) (i : Nat) (hi : i ≤ L.length) : Up L (upB L i) i := by
  induction i with
  | zero =>
    have hz : ∀ m, (List.replicate L.length zT).getD m zT = zT := by
      intro j; simp [List.getD_eq_getElem?_getD, List.getElem?_replicate]; split <;> rfl
    exact ⟨by simp [upB], fun m _ => by rw [upB, hz]; rfl, fun m h => absurd h (by omega), fun m h => absurd h (by omega), fun q m _ _ => by rw [upB, hz, if_neg (by omega)]; rfl⟩
  | succ i ih =>
    have u := ih (by omega)
    have hrow := good_mem L hL i (by omega)
    have key : ∀ m, (upB L (i + 1)).getD m zT = { (headB (upB L i) i (L.getD i []).length).getD m zT with behind := ((headB (upB L i) i (L.getD i []).length).getD m zT).behind ++ List.replicate ((L.getD i []).count (m : Int)) (i : Int) } := by
      intro m
      rw [upB, rowB, add_fold _ _ _ m (fun k hk => by rw [headB_len, u.len]; have := hrow k hk; omega)]
    have hd : ∀ m, (headB (upB L i) i (L.getD i []).length).getD m zT = if m = i then { (upB L i).getD i zT with worker := -1, waits := (L.getD i []).length } else (upB L i).getD m zT := by
      intro m
      exact getD_set_if _ _ _ _ (by rw [u.len]; omega)
    refine ⟨upB_len L (i + 1), fun m hm => ?_, fun m hm => ?_, fun m hm => ?_, fun q m hq hm => ?_⟩
    · rw [key, hd]
      by_cases h : m = i
      · simp only [if_pos h]; exact u.state i (by omega)
      · simp only [if_neg h]; exact u.state m hm
    · rw [key, hd]
      by_cases h : m = i
      · simp only [if_pos h]
      · simp only [if_neg h]; exact u.worker m (by omega)
    · rw [key, hd]
      by_cases h : m = i
      · subst h; simp only [if_true]
      · simp only [if_neg h]; exact u.waits m (by omega)
    · rw [key, hd]
      have hb : (if q = i then { (upB L i).getD i zT with worker := -1, waits := (L.getD i []).length } else (upB L i).getD q zT).behind = ((upB L i).getD q zT).behind := by
        by_cases h : q = i
        · subst h; simp only [if_true]
        · simp only [if_neg h]
      simp only [hb]
      rw [List.count_append, u.beh q m hq hm, List.count_replicate]
      by_cases h : m = i
      · subst h; simp
      · have h2 : ¬ ((i : Int) == (m : Int)) = true := by simp; omega
        rw [if_neg h2]
        by_cases h3 : m < i
        · rw [if_pos h3, if_pos (by omega)]; omega
        · rw [if_neg h3, if_neg (by omega)]

/-- The state of the task with this number. -/
def st (ts : List T) (k : Int) : Int := (ts.getD k.toNat zT).state
/-- Whom it waits for. -/
def wt (L : List (List Int)) (s : Int → Int) (m : Nat) : Nat := (L.getD m []).countP (fun k => s k != 3)
structure Inv (L : List (List Int)) (ts : List T) : Prop where
  len : ts.length = L.length
  small : Small ts L.length
  short : LenLe ts 1000000
  beh : ∀ q m, q < L.length → m < L.length → ((ts.getD q zT).behind).count (m : Int) = (L.getD m []).count (q : Int)
  waits : ∀ m, m < L.length → (ts.getD m zT).waits = wt L (st ts) m
theorem bare_eq {ts us : List T} (h : ts.map bare = us.map bare) (m : Nat) : (ts.getD m zT).waits = (us.getD m zT).waits ∧ (ts.getD m zT).behind = (us.getD m zT).behind ∧ (ts.getD m zT).worker = (us.getD m zT).worker ∧ (ts.getD m zT).state = (us.getD m zT).state := by
  have h1 := bare_getD ts m
  rw [h, bare_getD us m] at h1
  unfold bare at h1
  injection h1 with a1 _ _ a4 a5 a6
  exact ⟨a1.symm, a4.symm, a5.symm, a6.symm⟩
theorem bare_bare (ts : List T) : (ts.map bare).map bare = ts.map bare := by
  rw [List.map_map]; rfl
/-- A new plan. -/
theorem inv_new (L : List (List Int)) (hL : goodB L = true) (hl : L.length ≤ 1000) (hr : rowsAt L 1000) (ts : List T) (h : ts.map bare = upB L L.length) : Inv L ts ∧ (∀ m, m < L.length → (ts.getD m zT).state = 0 ∧ (ts.getD m zT).worker = -1) := by
  have u := up_upB L hL L.length (Nat.le_refl _)
  have hb : ts.map bare = (upB L L.length).map bare := by rw [← h, bare_bare]
  have e := bare_eq hb
  have hlen : ts.length = L.length := by have := congrArg List.length h; rwa [List.length_map, upB_len] at this
  have hst : ∀ m, m < L.length → (ts.getD m zT).state = 0 := fun m hm => by rw [(e m).2.2.2]; exact u.state m hm
  refine ⟨⟨hlen, ?_, ?_, fun q m hq hm => ?_, fun m hm => ?_⟩, fun m hm => ⟨hst m hm, by rw [(e m).2.2.1]; exact u.worker m hm⟩⟩
  · rw [← small_bare, h]; exact small_upB L _ (Nat.le_refl _)
  · have h3 := lenLe_mono (lenLe_upB L 1000 hr L.length) (show L.length * 1000 ≤ 1000000 by omega)
    rw [← h] at h3
    intro t ht
    exact h3 (bare t) (List.mem_map_of_mem ht)
  · rw [(e q).2.1, u.beh q m hq hm, if_pos hm]
  · rw [(e m).1, u.waits m hm, wt]
    congr 1
    symm
    rw [List.countP_eq_length]
    intro k hk
    have := good_mem L hL m hm k hk
    simp only [st, hst k.toNat (by omega)]
    decide
end Go.Proofs.Ytigpcfokmbnlaaa.Sched

/- Plain law: how a plan's tasks turn when one of them is ended. -/
namespace Go.Proofs.Ytigpcfokmbnlaaa.Sched
open Go.RowKit Go.Proofs.YtigpcfokmbnlaaaW.PrintWords

theorem wrap_pred_nat (a : Nat) (h : 1 ≤ a) (h2 : a ≤ 1000000) : wrap64 ((a : Int) - 1) = ((a - 1 : Nat) : Int) := by
  unfold wrap64; omega
/-- All that waited wait for so many fewer. -/
theorem dec_fold (l : List Int) : ∀ (ts : List T) (m a : Nat), (∀ k ∈ l, 0 ≤ k ∧ k < ts.length) → (ts.getD m zT).waits = a → l.count (m : Int) ≤ a → a ≤ 1000000 →
    (l.foldl (fun ts k => decW ts k.toNat) ts).getD m zT = { ts.getD m zT with waits := ((a - l.count (m : Int) : Nat) : Int) } := by
  induction l with
  | nil => intro ts m a _ ha _ _; simp only [List.foldl_nil, List.count_nil, Nat.sub_zero]; rw [← ha]
  | cons k l ih =>
    intro ts m a hl ha hc h6
    have hk := hl k List.mem_cons_self
    obtain ⟨k, rfl⟩ := Int.eq_ofNat_of_zero_le hk.1
    have hg : (decW ts k).getD m zT = if m = k then { ts.getD k zT with waits := wrap64 ((ts.getD k zT).waits - 1) } else ts.getD m zT := getD_set_if _ _ _ _ (by omega)
    rw [List.foldl_cons, Int.toNat_natCast]
    by_cases hm : m = k
    · subst hm
      rw [List.count_cons_self] at hc ⊢
      rw [if_pos rfl, ha, wrap_pred_nat a (by omega) h6] at hg
      rw [ih _ m (a - 1) (fun q hq => by rw [decW_len]; exact hl q (List.mem_cons_of_mem _ hq)) (by rw [hg]) (by omega) (by omega), hg, show a - 1 - l.count (m : Int) = a - (l.count (m : Int) + 1) by omega]
    · rw [List.count_cons_of_ne (by omega)] at hc ⊢
      rw [if_neg hm] at hg
      rw [ih _ m a (fun q hq => by rw [decW_len]; exact hl q (List.mem_cons_of_mem _ hq)) (by rw [hg]; exact ha) hc h6, hg]
/-- One fewer that has not ended. -/
theorem count_end (s s' : Int → Int) (i : Nat) (h1 : s i ≠ 3) (h2 : s' i = 3) (l : List Int) (h : ∀ k ∈ l, k ≠ (i : Int) → s' k = s k) :
    l.countP (fun k => s k != 3) = l.countP (fun k => s' k != 3) + l.count (i : Int) := by
  induction l with
  | nil => rfl
  | cons k l ih =>
    have hi := ih (fun q hq => h q (List.mem_cons_of_mem _ hq))
    rw [List.countP_cons, List.countP_cons, hi]
    by_cases hk : k = (i : Int)
    · subst hk
      rw [List.count_cons_self]
      simp [h1, h2]
      omega
    · rw [List.count_cons_of_ne (by omega), h k List.mem_cons_self hk]
      omega
theorem wt_le (L : List (List Int)) (s : Int → Int) (m : Nat) (hr : rowsAt L 1000) : wt L s m ≤ 1000 := by
  refine Nat.le_trans List.countP_le_length ?_
  by_cases h : m < L.length
  · have e : L.getD m [] = L[m] := by simp [List.getD_eq_getElem?_getD, h]
    rw [e]; exact hr _ (List.getElem_mem h)
  · simp [List.getD_eq_getElem?_getD, List.getElem?_eq_none (Nat.le_of_not_lt h)]
theorem setState_getD (ts : List T) (i m : Nat) (s : Int) (hi : i < ts.length) : (setState ts i s).getD m zT = if m = i then { ts.getD i zT with state := s } else ts.getD m zT := getD_set_if _ _ _ _ hi
theorem setWorker_getD (ts : List T) (i m : Nat) (s : Int) (hi : i < ts.length) : (setWorker ts i s).getD m zT = if m = i then { ts.getD i zT with worker := s } else ts.getD m zT := getD_set_if _ _ _ _ hi
/-- Kept where neither rows nor numbers turn, and none ends. -/
theorem Inv.keep {L : List (List Int)} {ts us : List T} (h : Inv L ts) (hl : us.length = ts.length) (hb : ∀ m, (us.getD m zT).behind = (ts.getD m zT).behind ∧ (us.getD m zT).waits = (ts.getD m zT).waits)
    (hs : ∀ k, (st us k = 3 ↔ st ts k = 3)) : Inv L us := by
  have mem : ∀ t ∈ us, ∃ u ∈ ts, t.behind = u.behind := by
    intro t ht
    obtain ⟨j, hj, rfl⟩ := List.mem_iff_getElem.1 ht
    have e : us.getD j zT = us[j] := by simp [List.getD_eq_getElem?_getD, hj]
    refine ⟨ts[j]'(by omega), List.getElem_mem _, ?_⟩
    have e2 : ts.getD j zT = ts[j]'(by omega) := by simp [List.getD_eq_getElem?_getD, show j < ts.length by omega]
    rw [← e, ← e2]; exact (hb j).1
  refine ⟨hl.trans h.len, fun t ht => ?_, fun t ht => ?_, fun q m hq hm => ?_, fun m hm => ?_⟩
  · obtain ⟨u, hu, e⟩ := mem t ht; rw [e]; exact h.small u hu
  · obtain ⟨u, hu, e⟩ := mem t ht; rw [e]; exact h.short u hu
  · rw [(hb q).1]; exact h.beh q m hq hm
  · rw [(hb m).2, h.waits m hm]
    unfold wt
    congr 2
    funext k
    have := hs k
    by_cases hk : st ts k = 3
    · rw [hk, this.2 hk]
    · have h2 : st us k ≠ 3 := fun c => hk (this.1 c)
      rw [bne_iff_ne.2 hk, bne_iff_ne.2 h2]
theorem Inv.end_getD {L : List (List Int)} {ts : List T} (h : Inv L ts) (hr : rowsAt L 1000) (i : Nat) (hi : i < L.length) (hs : st ts i ≠ 3) (m : Nat) (hm : m < L.length) :
    (endTs ts i).getD m zT = { (setState ts i 3).getD m zT with waits := ((wt L (st ts) m - (L.getD m []).count (i : Int) : Nat) : Int) } := by
  have hlen := h.len
  have hc := count_end (st ts) (fun k => if k = (i : Int) then 3 else st ts k) i hs (by simp) (L.getD m []) (fun k _ hk => by simp [hk])
  have hw : ((setState ts i 3).getD m zT).waits = wt L (st ts) m := by
    rw [setState_getD _ _ _ _ (by omega)]
    by_cases e : m = i
    · subst e; rw [if_pos rfl]; exact h.waits m hm
    · rw [if_neg e]; exact h.waits m hm
  have h6 := wt_le L (st ts) m hr
  unfold endTs
  rw [dec_fold _ _ m (wt L (st ts) m) (fun k hk => by rw [setState_len, hlen]; exact small_getD h.small i k hk) hw (by rw [h.beh i m hi hm]; unfold wt; omega) (by omega), h.beh i m hi hm]
theorem Inv.ended {L : List (List Int)} {ts : List T} (h : Inv L ts) (hL : goodB L = true) (hr : rowsAt L 1000) (i : Nat) (hi : i < L.length) (hs : st ts i ≠ 3) :
    Inv L (endTs ts i) ∧ (∀ m, m < L.length → ((endTs ts i).getD m zT).state = (if m = i then 3 else (ts.getD m zT).state) ∧ ((endTs ts i).getD m zT).worker = (ts.getD m zT).worker) := by
  have hlen := h.len
  have hg := fun m hm => h.end_getD hr i hi hs m hm
  have hst : ∀ m, m < L.length → ((endTs ts i).getD m zT).state = (if m = i then 3 else (ts.getD m zT).state) ∧ ((endTs ts i).getD m zT).worker = (ts.getD m zT).worker ∧ ((endTs ts i).getD m zT).behind = (ts.getD m zT).behind := by
    intro m hm
    rw [hg m hm, setState_getD _ _ _ _ (by omega)]
    by_cases e : m = i
    · subst e; simp
    · simp [e]
  have mem : ∀ t ∈ endTs ts i, ∃ u ∈ ts, t.behind = u.behind := by
    intro t ht
    obtain ⟨j, hj, rfl⟩ := List.mem_iff_getElem.1 ht
    rw [endTs_len] at hj
    have e : (endTs ts i).getD j zT = (endTs ts i)[j]'(by rw [endTs_len]; exact hj) := by simp [List.getD_eq_getElem?_getD, hj, endTs_len]
    refine ⟨ts[j], List.getElem_mem _, ?_⟩
    have e2 : ts.getD j zT = ts[j] := by simp [List.getD_eq_getElem?_getD, hj]
    rw [← e, ← e2]; exact (hst j (by omega)).2.2
  refine ⟨⟨(endTs_len _ _).trans h.len, fun t ht => ?_, fun t ht => ?_, fun q m hq hm => ?_, fun m hm => ?_⟩, fun m hm => ⟨(hst m hm).1, (hst m hm).2.1⟩⟩
  · obtain ⟨u, hu, e⟩ := mem t ht; rw [e]; exact h.small u hu
  · obtain ⟨u, hu, e⟩ := mem t ht; rw [e]; exact h.short u hu
  · rw [(hst q hq).2.2]; exact h.beh q m hq hm
  · rw [hg m hm]
    have hi' : st (endTs ts i) i = 3 := by
      unfold st; rw [Int.toNat_natCast, (hst i hi).1, if_pos rfl]
    have hc := count_end (st ts) (st (endTs ts i)) i hs hi' (L.getD m []) (fun k hk hne => by
      have := good_mem L hL m hm k hk
      unfold st
      rw [(hst k.toNat (by omega)).1, if_neg (by omega)])
    show ((wt L (st ts) m - (L.getD m []).count (i : Int) : Nat) : Int) = _
    unfold wt
    congr 1
    omega
/-- The states, one turned. -/
theorem states_set (ts us : List T) (i : Nat) (k : Int) (hl : us.length = ts.length) (h : ∀ m, m < ts.length → (us.getD m zT).state = if m = i then k else (ts.getD m zT).state) : us.map T.state = (ts.map T.state).set i k := by
  apply List.ext_getElem
  · simp [hl]
  · intro m h1 h2
    have hm : m < ts.length := by simpa using h2
    have := h m hm
    rw [show us.getD m zT = us[m]'(by omega) by simp [List.getD_eq_getElem?_getD, show m < us.length by omega], show ts.getD m zT = ts[m] by simp [List.getD_eq_getElem?_getD, hm]] at this
    simp only [List.getElem_map, List.getElem_set, this]
    by_cases e : m = i
    · simp [e]
    · simp [e, Ne.symm e]
end Go.Proofs.Ytigpcfokmbnlaaa.Sched

/- Plain law and contract: what one pick comes to in any plan that stands as it should. -/
namespace Go.Proofs.Ytigpcfokmbnlaaa.Sched
open Go.RowKit Go.Proofs.YtigpcfokmbnlaaaW.PrintWords

/-- How many have not ended. -/
def nLeft (σ : List Int) : Nat := σ.countP (fun s => s != 3)
/-- A plan that stands as it should. -/
structure Pinv (L : List (List Int)) (ts : List T) (has : List Int) (left : Int) : Prop where
  inv : Inv L ts
  hasOk : ∀ w, w < has.length → has.getD w 0 = -1 ∨ ∃ i : Nat, i < L.length ∧ has.getD w 0 = i ∧ (ts.getD i zT).worker = w ∧ ((ts.getD i zT).state = 1 ∨ (ts.getD i zT).state = 2)
  tsOk : ∀ i, i < L.length → ((ts.getD i zT).worker = -1 ∧ ((ts.getD i zT).state = 0 ∨ (ts.getD i zT).state = 3)) ∨ ∃ w : Nat, w < has.length ∧ (ts.getD i zT).worker = w ∧ has.getD w 0 = i ∧ ((ts.getD i zT).state = 1 ∨ (ts.getD i zT).state = 2)
  left : left = nLeft (ts.map T.state)
theorem st_nat (ts : List T) (i : Nat) : st ts i = (ts.getD i zT).state := by unfold st; rw [Int.toNat_natCast]
theorem map_getD (ts : List T) (i : Nat) : (ts.map T.state).getD i 0 = (ts.getD i zT).state := by
  simp only [List.getD_eq_getElem?_getD, List.getElem?_map]
  cases ts[i]? <;> rfl
theorem nLeft_le (σ : List Int) : nLeft σ ≤ σ.length := List.countP_le_length
theorem nLeft_set (σ : List Int) (i : Nat) (k : Int) (hi : i < σ.length) (h : σ.getD i 0 ≠ 3) : nLeft (σ.set i k) = if k = 3 then nLeft σ - 1 else nLeft σ := by
  have hp : 0 < nLeft σ := List.countP_pos_iff.2 ⟨σ.getD i 0, by simp [List.getD_eq_getElem?_getD, hi], by simpa using h⟩
  have e : σ.getD i 0 = σ[i] := by simp [List.getD_eq_getElem?_getD, hi]
  rw [e] at h
  unfold nLeft at *
  rw [List.countP_set hi]
  by_cases hk : k = 3
  · simp [hk, h]
  · simp [hk, h]; omega
theorem nLeft_pos (σ : List Int) (h : nLeft σ ≠ 0) : ∃ i, i < σ.length ∧ σ.getD i 0 ≠ 3 := by
  obtain ⟨x, hx, h3⟩ := List.countP_pos_iff.1 (Nat.pos_of_ne_zero h)
  obtain ⟨i, hi, rfl⟩ := List.mem_iff_getElem.1 hx
  exact ⟨i, hi, by rw [show σ.getD i 0 = σ[i] by simp [List.getD_eq_getElem?_getD, hi]]; simpa using h3⟩
theorem nLeft_zero (σ : List Int) (h : nLeft σ = 0) (i : Nat) (hi : i < σ.length) : σ.getD i 0 = 3 := by
  have := (List.countP_eq_zero.1 h) σ[i] (List.getElem_mem hi)
  rw [show σ.getD i 0 = σ[i] by simp [List.getD_eq_getElem?_getD, hi]]
  simpa using this
theorem firstI_cases (so : T → Bool) (ts : List T) : (firstI so ts = -1 ∧ ∀ j, j < ts.length → so (ts.getD j zT) = false) ∨ ∃ i : Nat, firstI so ts = i ∧ i < ts.length ∧ so (ts.getD i zT) = true ∧ ∀ j, j < i → so (ts.getD j zT) = false := by
  unfold firstI
  cases h : ts.findIdx? so with
  | none =>
    left
    refine ⟨rfl, fun j hj => ?_⟩
    have := List.findIdx?_eq_none_iff.1 h ts[j] (List.getElem_mem hj)
    rw [show ts.getD j zT = ts[j] by simp [List.getD_eq_getElem?_getD, hj]]
    simpa using this
  | some i =>
    right
    obtain ⟨hi, h1, h2⟩ := List.findIdx?_eq_some_iff_getElem.1 h
    refine ⟨i, rfl, hi, ?_, fun j hj => ?_⟩
    · rw [show ts.getD i zT = ts[i] by simp [List.getD_eq_getElem?_getD, hi]]; exact h1
    · rw [show ts.getD j zT = ts[j]'(by omega) by simp [List.getD_eq_getElem?_getD, show j < ts.length by omega]]; simpa using h2 j hj

/-- What one pick comes to: the event's kind, its task, its worker; what stands then. -/
structure Went (L : List (List Int)) (ts : List T) (has : List Int) (left : Int) (n : Nat) (k : Int) (i wk : Nat) (us : List T) (has' : List Int) (left' : Int) : Prop where
  pinv : Pinv L us has' left'
  same : SameRows ts us
  lt : i < L.length
  wlt : wk < has.length
  kind : k = (ts.getD i zT).state + 1
  low : 1 ≤ k
  high : k ≤ 3
  states : us.map T.state = (ts.map T.state).set i k
  leans : k = 1 → ∀ q ∈ L.getD i [], (ts.getD q.toNat zT).state = 3
  who : k ≠ 1 → has.getD wk 0 = i
  has_ : has' = if k = 1 then has.set n i else if k = 3 then has.set wk (-1) else has
  how : (has.getD n 0 = i ∧ wk = n) ∨ (has.getD n 0 = -1 ∧ k = 1 ∧ wk = n ∧ firstI readyB ts = i) ∨ (has.getD n 0 = -1 ∧ k ≠ 1 ∧ firstI readyB ts = -1 ∧ firstI heldB ts = i)
/-- The least that has not ended is ready, or is some worker's. -/
theorem Pinv.least {L : List (List Int)} {ts : List T} {has : List Int} {left : Int} (h : Pinv L ts has left) (hL : goodB L = true) (m : Nat) (hm : m < L.length) (h3 : (ts.getD m zT).state ≠ 3) (hb : ∀ j, j < m → (ts.getD j zT).state = 3) :
    readyB (ts.getD m zT) = true ∨ heldB (ts.getD m zT) = true := by
  rcases h.tsOk m hm with ⟨hw, h0 | h0⟩ | ⟨w, _, hw, _, _⟩
  · left
    have : (ts.getD m zT).waits = 0 := by
      rw [h.inv.waits m hm]
      unfold wt
      rw [List.countP_eq_zero.2]
      · rfl
      intro k hk
      have := good_mem L hL m hm k hk
      unfold st
      rw [hb k.toNat (by omega)]
      simp
    unfold readyB; rw [h0, this]; rfl
  · exact absurd h0 h3
  · right
    simp only [heldB, hw]
    rw [bne_iff_ne]; omega
theorem waits_zero {L : List (List Int)} {ts : List T} (h : Inv L ts) (m : Nat) (hm : m < L.length) (h0 : (ts.getD m zT).waits = 0) : ∀ q ∈ L.getD m [], (ts.getD q.toNat zT).state = 3 := by
  intro q hq
  have := h.waits m hm
  rw [h0] at this
  have h2 : wt L (st ts) m = 0 := by omega
  have := List.countP_eq_zero.1 h2 q hq
  simpa [st] using this
theorem getD_set_int (l : List Int) (i m : Nat) (t : Int) (hi : i < l.length) : (l.set i t).getD m 0 = if m = i then t else l.getD m 0 := by
  simp only [List.getD_eq_getElem?_getD, List.getElem?_set]
  by_cases h : m = i
  · subst h; simp [hi]
  · simp [h, Ne.symm h]
section
variable {L : List (List Int)} {ts : List T} {has : List Int} {left : Int} (h : Pinv L ts has left) (hL : goodB L = true) (hr : rowsAt L 1000)
include h
theorem Pinv.lens : ts.length = L.length := h.inv.len
/-- A task is taken. -/
theorem Pinv.take (n i : Nat) (hn : n < has.length) (hh : has.getD n 0 = -1) (hi : i < L.length) (hrd : readyB (ts.getD i zT) = true) : Pinv L (takeTs ts i n) (has.set n i) left ∧ (takeTs ts i n).map T.state = (ts.map T.state).set i 1 := by
  have hl := h.inv.len
  have g : ∀ m, (takeTs ts i n).getD m zT = if m = i then { ts.getD i zT with state := 1, worker := n } else ts.getD m zT := by
    intro m
    unfold takeTs
    rw [setWorker_getD _ _ _ _ (by rw [setState_len]; omega), setState_getD _ _ _ _ (by omega), setState_getD _ _ _ _ (by omega)]
    by_cases e : m = i
    · simp [e]
    · simp [e]
  have hs : (ts.getD i zT).state = 0 := by unfold readyB at hrd; rw [Bool.and_eq_true, beq_iff_eq] at hrd; exact hrd.1
  have hlen : (takeTs ts i n).length = ts.length := by simp [takeTs, setWorker_len, setState_len]
  have hmap : (takeTs ts i n).map T.state = (ts.map T.state).set i 1 := states_set _ _ _ _ hlen (fun m _ => by rw [g]; by_cases e : m = i <;> simp [e])
  refine ⟨⟨h.inv.keep hlen (fun m => by rw [g]; by_cases e : m = i <;> simp [e]) (fun k => ?_), fun w hw => ?_, fun m hm => ?_, ?_⟩, hmap⟩
  · unfold st
    rw [g]
    by_cases e : k.toNat = i
    · rw [if_pos e, e, hs]; simp
    · simp [e]
  · rw [List.length_set] at hw
    rw [getD_set_int _ _ _ _ hn]
    by_cases e : w = n
    · rw [if_pos e]
      exact .inr ⟨i, hi, rfl, by rw [g, if_pos rfl, e], .inl (by rw [g, if_pos rfl])⟩
    · rw [if_neg e]
      rcases h.hasOk w hw with q | ⟨j, hj, q1, q2, q3⟩
      · exact .inl q
      · refine .inr ⟨j, hj, q1, ?_⟩
        have : j ≠ i := by rintro rfl; omega
        rw [g, if_neg this]; exact ⟨q2, q3⟩
  · rw [g, List.length_set]
    by_cases e : m = i
    · subst e; rw [if_pos rfl]
      exact .inr ⟨n, hn, rfl, by rw [getD_set_int _ _ _ _ hn, if_pos rfl], .inl rfl⟩
    · rw [if_neg e]
      rcases h.tsOk m hm with q | ⟨w, q0, q1, q2, q3⟩
      · exact .inl q
      · refine .inr ⟨w, q0, q1, ?_, q3⟩
        rw [getD_set_int _ _ _ _ hn, if_neg (by rintro rfl; rw [hh] at q2; omega)]
        exact q2
  · rw [hmap, nLeft_set _ _ _ (by simp; omega) (by rw [map_getD, hs]; decide), if_neg (by decide)]; exact h.left
/-- A task is run. -/
theorem Pinv.run (i wk : Nat) (hi : i < L.length) (hs : (ts.getD i zT).state = 1) (hw : (ts.getD i zT).worker = wk) (hwk : wk < has.length) (hh : has.getD wk 0 = i) : Pinv L (setState ts i 2) has left ∧ (setState ts i 2).map T.state = (ts.map T.state).set i 2 := by
  have hl := h.inv.len
  have g : ∀ m, (setState ts i 2).getD m zT = if m = i then { ts.getD i zT with state := 2 } else ts.getD m zT := fun m => setState_getD _ _ _ _ (by omega)
  have hmap : (setState ts i 2).map T.state = (ts.map T.state).set i 2 := states_set _ _ _ _ (setState_len _ _ _) (fun m _ => by rw [g]; by_cases e : m = i <;> simp [e])
  refine ⟨⟨h.inv.keep (setState_len _ _ _) (fun m => by rw [g]; by_cases e : m = i <;> simp [e]) (fun k => ?_), fun w hw' => ?_, fun m hm => ?_, ?_⟩, hmap⟩
  · unfold st
    rw [g]
    by_cases e : k.toNat = i
    · rw [if_pos e, e, hs]; simp
    · simp [e]
  · rcases h.hasOk w hw' with q | ⟨j, hj, q1, q2, q3⟩
    · exact .inl q
    · refine .inr ⟨j, hj, q1, ?_⟩
      rw [g]
      by_cases e : j = i
      · subst e; rw [if_pos rfl]; exact ⟨q2, .inr rfl⟩
      · rw [if_neg e]; exact ⟨q2, q3⟩
  · rw [g]
    by_cases e : m = i
    · subst e; rw [if_pos rfl]
      exact .inr ⟨wk, hwk, hw, hh, .inr rfl⟩
    · rw [if_neg e]; exact h.tsOk m hm
  · rw [hmap, nLeft_set _ _ _ (by simp; omega) (by rw [map_getD, hs]; decide), if_neg (by decide)]; exact h.left
include hL hr in
/-- A task is ended. -/
theorem Pinv.stop (hsz : L.length ≤ 1000) (i wk : Nat) (hi : i < L.length) (hs : (ts.getD i zT).state = 2) (hw : (ts.getD i zT).worker = wk) (hwk : wk < has.length) (hh : has.getD wk 0 = i) :
    Pinv L (ranTs ts i) (has.set wk (-1)) (wrap64 (left - 1)) ∧ (ranTs ts i).map T.state = (ts.map T.state).set i 3 ∧ wrap64 (left - 1) = left - 1 := by
  have hl := h.inv.len
  have gA : ∀ m, (setWorker ts i (-1)).getD m zT = if m = i then { ts.getD i zT with worker := -1 } else ts.getD m zT := fun m => setWorker_getD _ _ _ _ (by omega)
  have hA : Inv L (setWorker ts i (-1)) := h.inv.keep (setWorker_len _ _ _) (fun m => by rw [gA]; by_cases e : m = i <;> simp [e]) (fun k => by
    unfold st
    rw [gA]
    by_cases e : k.toNat = i <;> simp [e])
  obtain ⟨hE, gE⟩ := hA.ended hL hr i hi (by rw [st_nat, gA, if_pos rfl]; show (ts.getD i zT).state ≠ 3; rw [hs]; decide)
  have hlE : (endTs (setWorker ts i (-1)) i).length = ts.length := by rw [endTs_len, setWorker_len]
  have gR : ∀ m, (ranTs ts i).getD m zT = if m = i then { (endTs (setWorker ts i (-1)) i).getD i zT with state := 3 } else (endTs (setWorker ts i (-1)) i).getD m zT := fun m => setState_getD _ _ _ _ (by omega)
  have hlR : (ranTs ts i).length = ts.length := by unfold ranTs; rw [setState_len, hlE]
  have ei : ((endTs (setWorker ts i (-1)) i).getD i zT).state = 3 := by rw [(gE i hi).1, if_pos rfl]
  have hR : Inv L (ranTs ts i) := hE.keep (by rw [hlR, hlE]) (fun m => by rw [gR]; by_cases e : m = i <;> simp [e]) (fun k => by
    unfold st
    rw [gR]
    by_cases e : k.toNat = i
    · rw [if_pos e, e, ei]
    · simp [e])
  have f : ∀ m, m < L.length → ((ranTs ts i).getD m zT).state = (if m = i then 3 else (ts.getD m zT).state) ∧ ((ranTs ts i).getD m zT).worker = (if m = i then -1 else (ts.getD m zT).worker) := by
    intro m hm
    rw [gR]
    by_cases e : m = i
    · subst e
      simp only [if_true]
      refine ⟨trivial, ?_⟩
      rw [(gE m hm).2, gA, if_pos rfl]
    · simp only [if_neg e]
      rw [(gE m hm).1, (gE m hm).2, gA, if_neg e, if_neg e]
      exact ⟨rfl, rfl⟩
  have hmap : (ranTs ts i).map T.state = (ts.map T.state).set i 3 := states_set _ _ _ _ hlR (fun m hm => (f m (by omega)).1)
  have hne : (ts.map T.state).getD i 0 ≠ 3 := by rw [map_getD, hs]; decide
  have hns := nLeft_set (ts.map T.state) i 3 (by simp; omega) hne
  rw [if_pos rfl] at hns
  have hpos : 0 < nLeft (ts.map T.state) := List.countP_pos_iff.2 ⟨(ts.map T.state).getD i 0, by rw [map_getD]; simp [List.getD_eq_getElem?_getD, show i < ts.length by omega]; exact ⟨_, List.getElem_mem _, rfl⟩, by simpa using hne⟩
  have hle := nLeft_le (ts.map T.state)
  rw [List.length_map] at hle
  have hleft := h.left
  have hwr : wrap64 (left - 1) = left - 1 := by unfold wrap64; omega
  refine ⟨⟨hR, fun w hw' => ?_, fun m hm => ?_, ?_⟩, hmap, hwr⟩
  · rw [List.length_set] at hw'
    rw [getD_set_int _ _ _ _ hwk]
    by_cases e : w = wk
    · rw [if_pos e]; exact .inl rfl
    · rw [if_neg e]
      rcases h.hasOk w hw' with q | ⟨j, hj, q1, q2, q3⟩
      · exact .inl q
      · refine .inr ⟨j, hj, q1, ?_⟩
        have : j ≠ i := by rintro rfl; omega
        rw [(f j hj).1, (f j hj).2, if_neg this, if_neg this]
        exact ⟨q2, q3⟩
  · rw [(f m hm).1, (f m hm).2, List.length_set]
    by_cases e : m = i
    · rw [if_pos e, if_pos e]; exact .inl ⟨rfl, .inr rfl⟩
    · rw [if_neg e, if_neg e]
      rcases h.tsOk m hm with q | ⟨w, q0, q1, q2, q3⟩
      · exact .inl q
      · refine .inr ⟨w, q0, q1, ?_, q3⟩
        rw [getD_set_int _ _ _ _ hwk, if_neg (by rintro rfl; omega)]
        exact q2
  · rw [hmap, hns, hwr]; omega
end

/-- Some worker's task goes on. -/
theorem goOn_any {L : List (List Int)} {ts : List T} {has : List Int} {left : Int} (h : Pinv L ts has left) (hL : goodB L = true) (hr : rowsAt L 1000) (hsz : L.length ≤ 1000) (P : Pl) (i wk : Nat) (hi : i < L.length) (hs : (ts.getD i zT).state = 1 ∨ (ts.getD i zT).state = 2) (hw : (ts.getD i zT).worker = wk) (hwk : wk < has.length) (hh : has.getD wk 0 = i) :
    ∃ (k : Int) (us : List T) (has' : List Int) (left' : Int), k = (ts.getD i zT).state + 1 ∧ 2 ≤ k ∧ k ≤ 3 ∧ Pinv L us has' left' ∧ us.map T.state = (ts.map T.state).set i k ∧ SameRows ts us ∧ has' = (if k = 3 then has.set wk (-1) else has) ∧
      ∀ p W, IsPlan W P ts has p left → Calls Try.prog 24 #[.pointer (some ⟨P.gp, 0, none⟩), .int .i64 i] W fun e w' => e = .returned (evV k i wk) ∧ IsPlan w' P us has' p left' ∧ Stp W w' P := by
  have hl := h.inv.len
  rcases hs with hs | hs
  · obtain ⟨h1, h2⟩ := h.run i wk hi hs hw hwk hh
    exact ⟨2, setState ts i 2, has, left, by rw [hs]; rfl, by decide, by decide, h1, h2, same_setState _ _ _, rfl, fun p W hP => goOn_took P ts has p left i wk W hP (by omega) hs hw⟩
  · obtain ⟨h1, h2, h3⟩ := h.stop hL hr hsz i wk hi hs hw hwk hh
    exact ⟨3, ranTs ts i, has.set wk (-1), wrap64 (left - 1), by rw [hs]; rfl, by decide, by decide, h1, h2, same_ran _ _, rfl, fun p W hP => goOn_ran P ts has p left i wk W hP (by omega) hs hw hwk (by rw [hl]; exact small_getD h.inv.small i)⟩
theorem ready_not_held {L : List (List Int)} {ts : List T} {has : List Int} {left : Int} (h : Pinv L ts has left) (i : Nat) (hi : i < L.length) (hh : heldB (ts.getD i zT) = true) : ∃ w : Nat, w < has.length ∧ (ts.getD i zT).worker = w ∧ has.getD w 0 = i ∧ ((ts.getD i zT).state = 1 ∨ (ts.getD i zT).state = 2) := by
  rcases h.tsOk i hi with ⟨hw, _⟩ | q
  · unfold heldB at hh
    rw [hw] at hh
    simp at hh
  · exact q
/-- One pick of a worker that there is, while something is left. -/
theorem pick_step {L : List (List Int)} {ts : List T} {has : List Int} {picks left : Int} {w : World} {P : Pl} (h : IsPlan w P ts has picks left) (hp : Pinv L ts has left) (hL : goodB L = true) (hr : rowsAt L 1000) (hsz : L.length ≤ 1000) (n : Nat) (hn : n < has.length) (hl : left ≠ 0) :
    ∃ (k : Int) (i wk : Nat) (us : List T) (has' : List Int) (left' : Int), Went L ts has left n k i wk us has' left' ∧
      Calls Try.prog 11 #[.pointer (some ⟨P.gp, 0, none⟩), .int .i64 n] w fun e w' => e = .returned (pickV k i wk 0) ∧ IsPlan w' P us has' (wrap64 (picks + 1)) left' ∧ Stp w w' P := by
  have hlen := hp.inv.len
  rcases hp.hasOk n hn with hh | ⟨i, hi, hh, hw, hs⟩
  · rcases firstI_cases readyB ts with ⟨hrd, hnr⟩ | ⟨i, hrd, hi, hri, _⟩
    · rcases firstI_cases heldB ts with ⟨_, hnh⟩ | ⟨i, hhd, hi, hhi, _⟩
      · exfalso
        have hne : nLeft (ts.map T.state) ≠ 0 := by have := hp.left; omega
        have key : ∀ m, m ≤ L.length → ∀ j, j < m → (ts.getD j zT).state = 3 := by
          intro m
          induction m with
          | zero => intro _ j hj; omega
          | succ m ih =>
            intro hm j hj
            by_cases e : j < m
            · exact ih (by omega) j e
            · have e2 : j = m := by omega
              subst e2
              by_cases h3 : (ts.getD j zT).state = 3
              · exact h3
              · rcases hp.least hL j (by omega) h3 (ih (by omega)) with q | q
                · rw [hnr j (by omega)] at q; cases q
                · rw [hnh j (by omega)] at q; cases q
        obtain ⟨j, hj, h3⟩ := nLeft_pos _ hne
        rw [map_getD] at h3
        exact h3 (key L.length (Nat.le_refl _) j (by simpa [hlen] using hj))
      · obtain ⟨wk, hwk, hw, hhw, hs⟩ := ready_not_held hp i (by omega) hhi
        obtain ⟨k, us, has', left', hk, hk2, hk3, hpi, hst, hsr, hhas, hg⟩ := goOn_any hp hL hr hsz P i wk (by omega) hs hw hwk hhw
        refine ⟨k, i, wk, us, has', left', ⟨hpi, hsr, by omega, hwk, hk, by omega, hk3, hst, fun e => by omega, fun _ => hhw, ?_, .inr (.inr ⟨hh, by omega, hrd, hhd⟩)⟩, ?_⟩
        · rw [hhas, if_neg (show ¬ k = 1 by omega)]
        · exact pick_help P ts has picks left w n i k wk us has' left' h hn hl hh hrd hhd hsr (fun W hW => hg _ W hW)
    · have hz : (ts.getD i zT).state = 0 ∧ (ts.getD i zT).waits = 0 := by unfold readyB at hri; rw [Bool.and_eq_true, beq_iff_eq, beq_iff_eq] at hri; exact hri
      obtain ⟨h1, h2⟩ := hp.take n i hn hh (by omega) hri
      refine ⟨1, i, n, takeTs ts i n, has.set n i, left, ⟨h1, same_take _ _ _, by omega, hn, by rw [hz.1]; rfl, by decide, by decide, h2, fun _ => waits_zero hp.inv i (by omega) hz.2, fun c => absurd rfl c, by rw [if_pos rfl], .inr (.inl ⟨hh, rfl, rfl, hrd⟩)⟩, ?_⟩
      exact pick_take P ts has picks left w n i h hn hl hh hrd hi
  · obtain ⟨k, us, has', left', hk, hk2, hk3, hpi, hst, hsr, hhas, hg⟩ := goOn_any hp hL hr hsz P i n hi hs hw hn hh
    refine ⟨k, i, n, us, has', left', ⟨hpi, hsr, hi, hn, hk, by omega, hk3, hst, fun e => by omega, fun _ => hh, ?_, .inl ⟨hh, rfl⟩⟩, ?_⟩
    · rw [hhas, if_neg (show ¬ k = 1 by omega)]
    · exact pick_goOn P ts has picks left w n i k n us has' left' h hn hl hh hsr (fun W hW => hg _ W hW)
end Go.Proofs.Ytigpcfokmbnlaaa.Sched

/- Plain law: a new plan stands as it should. -/
namespace Go.Proofs.Ytigpcfokmbnlaaa.Sched
open Go.RowKit Go.Proofs.YtigpcfokmbnlaaaW.PrintWords

def idleS (b : Bool) : Int := if b then 3 else 0
theorem nLeft_zeros (n : Nat) : nLeft (List.replicate n 0) = n := by
  unfold nLeft; rw [List.countP_replicate]; rfl

theorem begin_up (L : List (List Int)) (hL : goodB L = true) (hr : rowsAt L 1000) (hsz : L.length ≤ 1000) (ts : List T) (h : Inv L ts) (h0 : ∀ m, m < L.length → (ts.getD m zT).state = 0 ∧ (ts.getD m zT).worker = -1) (idle : List Bool) (hid : idle.length = L.length) (i : Nat) (hi : i ≤ L.length) :
    Inv L (idleUp ts idle i) ∧ (∀ m, m < L.length → ((idleUp ts idle i).getD m zT).state = (if m < i then idleS (idle.getD m false) else 0) ∧ ((idleUp ts idle i).getD m zT).worker = -1) ∧
      leftUp L.length idle i = nLeft ((idleUp ts idle i).map T.state) := by
  induction i with
  | zero =>
    refine ⟨h, fun m hm => by rw [if_neg (by omega)]; exact h0 m hm, ?_⟩
    have : (idleUp ts idle 0).map T.state = List.replicate L.length 0 := by
      rw [List.eq_replicate_iff]
      refine ⟨by simp [idleUp, h.len], fun x hx => ?_⟩
      obtain ⟨t, ht, rfl⟩ := List.mem_map.1 hx
      obtain ⟨j, hj, rfl⟩ := List.mem_iff_getElem.1 ht
      have hj' : j < ts.length := hj
      have := (h0 j (by rw [← h.len]; exact hj')).1
      rw [show ts.getD j zT = ts[j] by simp [List.getD_eq_getElem?_getD, hj']] at this
      exact this
    rw [this, nLeft_zeros]; rfl
  | succ i ih =>
    obtain ⟨ihI, ihS, ihL⟩ := ih (by omega)
    simp only [idleUp, leftUp]
    by_cases hb : idle.getD i false = true
    · rw [if_pos hb, if_pos hb]
      have hs0 : ((idleUp ts idle i).getD i zT).state = 0 := by rw [(ihS i (by omega)).1, if_neg (by omega)]
      obtain ⟨hE, gE⟩ := ihI.ended hL hr i (by omega) (by rw [st_nat, hs0]; decide)
      have hmap : (endTs (idleUp ts idle i) i).map T.state = ((idleUp ts idle i).map T.state).set i 3 := states_set _ _ _ _ (endTs_len _ _) (fun m hm => (gE m (by rw [← ihI.len]; exact hm)).1)
      refine ⟨hE, fun m hm => ?_, ?_⟩
      · rw [(gE m hm).1, (gE m hm).2, (ihS m hm).1, (ihS m hm).2]
        refine ⟨?_, rfl⟩
        by_cases e : m = i
        · subst e; rw [if_pos rfl, if_pos (by omega), hb]; rfl
        · rw [if_neg e]
          by_cases e2 : m < i
          · rw [if_pos e2, if_pos (by omega)]
          · rw [if_neg e2, if_neg (by omega)]
      · have hil : i < ((idleUp ts idle i).map T.state).length := by rw [List.length_map, ihI.len]; omega
        have hne : ((idleUp ts idle i).map T.state).getD i 0 ≠ 3 := by rw [map_getD, hs0]; decide
        have hns := nLeft_set _ i 3 hil hne
        rw [if_pos rfl] at hns
        have hpos : 0 < nLeft ((idleUp ts idle i).map T.state) := List.countP_pos_iff.2 ⟨((idleUp ts idle i).map T.state).getD i 0, by rw [List.getD_eq_getElem?_getD, List.getElem?_eq_getElem hil]; exact List.getElem_mem hil, by simpa using hne⟩
        have hle := nLeft_le ((idleUp ts idle i).map T.state)
        rw [List.length_map, ihI.len] at hle
        rw [hmap, hns, ihL]
        unfold wrap64
        omega
    · rw [if_neg hb, if_neg hb]
      have hb' : idle.getD i false = false := by simpa using hb
      refine ⟨ihI, fun m hm => ?_, ihL⟩
      rw [(ihS m hm).1, (ihS m hm).2]
      refine ⟨?_, rfl⟩
      by_cases e : m = i
      · subst e; rw [if_neg (by omega), if_pos (by omega), hb']; rfl
      · by_cases e2 : m < i
        · rw [if_pos e2, if_pos (by omega)]
        · rw [if_neg e2, if_neg (by omega)]
/-- A new plan's states: what is idle has ended. -/
theorem begin_plan (L : List (List Int)) (hL : goodB L = true) (hr : rowsAt L 1000) (hsz : L.length ≤ 1000) (ts : List T) (h : ts.map bare = upB L L.length) (idle : List Bool) (hid : idle.length = L.length) (n : Nat) :
    Pinv L (idleUp ts idle L.length) (List.replicate n (-1)) (leftUp L.length idle L.length) ∧ (idleUp ts idle L.length).map T.state = idle.map idleS := by
  obtain ⟨h1, h2⟩ := inv_new L hL hsz hr ts h
  obtain ⟨a, b, c⟩ := begin_up L hL hr hsz ts h1 h2 idle hid L.length (Nat.le_refl _)
  have gr : ∀ w, w < n → (List.replicate n (-1 : Int)).getD w 0 = -1 := fun w hw => by simp [List.getD_eq_getElem?_getD, hw]
  refine ⟨⟨a, fun w hw => ?_, fun i hi => ?_, c⟩, ?_⟩
  · exact .inl (gr w (by simpa using hw))
  · left
    refine ⟨(b i hi).2, ?_⟩
    rw [(b i hi).1, if_pos hi]
    cases idle.getD i false
    · exact .inl rfl
    · exact .inr rfl
  · apply List.ext_getElem
    · simp [a.len, hid]
    · intro m h1 h2
      have hm : m < L.length := by rw [List.length_map, a.len] at h1; exact h1
      have := (b m hm).1
      rw [if_pos hm, show (idleUp ts idle L.length).getD m zT = (idleUp ts idle L.length)[m]'(by rw [a.len]; exact hm) by simp [List.getD_eq_getElem?_getD, show m < (idleUp ts idle L.length).length by rw [a.len]; exact hm], show idle.getD m false = idle[m]'(by omega) by simp [List.getD_eq_getElem?_getD, show m < idle.length by omega]] at this
      simp only [List.getElem_map, this]
end Go.Proofs.Ytigpcfokmbnlaaa.Sched

/- Plain law: three picks for each task that is not idle, and all has ended. -/
namespace Go.Proofs.Ytigpcfokmbnlaaa.Sched
open Go.RowKit Go.Proofs.YtigpcfokmbnlaaaW.PrintWords

theorem getD_get (l : List Int) (j : Nat) (hj : j < l.length) : l.getD j 0 = l[j] := by simp [List.getD_eq_getElem?_getD, hj]
def sumS : List Int → Int
  | [] => 0
  | x :: l => x + sumS l
theorem sumS_set : ∀ (l : List Int) (i : Nat) (k : Int), i < l.length → sumS (l.set i k) = sumS l - l.getD i 0 + k
  | [], _, _, h => absurd h (by simp)
  | x :: l, 0, k, _ => by simp [sumS]; omega
  | x :: l, i + 1, k, h => by
    have := sumS_set l i k (by simpa using h)
    simp only [List.set_cons_succ, sumS, this]
    rw [List.getD_cons_succ]
    omega
theorem sumS_le : ∀ (l : List Int), (∀ x ∈ l, x ≤ 3) → sumS l ≤ 3 * l.length
  | [], _ => by simp [sumS]
  | x :: l, h => by
    have := sumS_le l (fun y hy => h y (List.mem_cons_of_mem _ hy))
    have := h x List.mem_cons_self
    simp only [sumS, List.length_cons]
    omega
theorem sumS_all : ∀ (l : List Int), (∀ x ∈ l, x ≤ 3) → sumS l = 3 * l.length → ∀ x ∈ l, x = 3
  | [], _, _ => by simp
  | x :: l, h, he => by
    have h1 := sumS_le l (fun y hy => h y (List.mem_cons_of_mem _ hy))
    have h2 := h x List.mem_cons_self
    simp only [sumS, List.length_cons] at he
    have h3 : sumS l = 3 * l.length := by omega
    intro y hy
    rcases List.mem_cons.1 hy with rfl | hy
    · omega
    · exact sumS_all l (fun y hy => h y (List.mem_cons_of_mem _ hy)) h3 y hy
theorem sumS_three : ∀ (l : List Int), (∀ x ∈ l, x = 3) → sumS l = 3 * l.length
  | [], _ => by simp [sumS]
  | x :: l, h => by
    have := sumS_three l (fun y hy => h y (List.mem_cons_of_mem _ hy))
    have := h x List.mem_cons_self
    simp only [sumS, List.length_cons]
    omega
/-- How many are not idle. -/
def busyN (idle : List Bool) : Nat := idle.countP (fun b => !b)
theorem sumS_idle : ∀ (l : List Bool), sumS (l.map idleS) = 3 * l.length - 3 * busyN l
  | [] => rfl
  | b :: l => by
    have := sumS_idle l
    have hle : busyN l ≤ l.length := List.countP_le_length
    cases b
    · have e : busyN (false :: l) = busyN l + 1 := by simp [busyN]
      simp only [List.map_cons, sumS, this, e, List.length_cons]
      simp [idleS]; omega
    · have e : busyN (true :: l) = busyN l := by simp [busyN]
      simp only [List.map_cons, sumS, this, e, List.length_cons]
      simp [idleS]; omega
theorem busy_take (idle : List Bool) (i : Nat) (h : i < idle.length) : busyN (idle.take (i + 1)) = busyN (idle.take i) + if idle.getD i false then 0 else 1 := by
  unfold busyN
  rw [List.take_succ_eq_append_getElem h, List.countP_append]
  have e : idle.getD i false = idle[i] := by simp [List.getD_eq_getElem?_getD, h]
  rw [e]
  cases idle[i] <;> simp

structure OnceS (L : List (List Int)) (idle : List Bool) (nw : Nat) (ts : List T) (has : List Int) (left : Int) (i : Nat) : Prop where
  pinv : Pinv L ts has left
  workers : has.length = nw
  sum : sumS (ts.map T.state) = 3 * L.length - 3 * busyN idle + i
theorem Pinv.le3 {L : List (List Int)} {ts : List T} {has : List Int} {left : Int} (h : Pinv L ts has left) : ∀ x ∈ ts.map T.state, 0 ≤ x ∧ x ≤ 3 := by
  intro x hx
  obtain ⟨t, ht, rfl⟩ := List.mem_map.1 hx
  obtain ⟨j, hj, rfl⟩ := List.mem_iff_getElem.1 ht
  have e : ts.getD j zT = ts[j] := by simp [List.getD_eq_getElem?_getD, hj]
  have := h.tsOk j (by rw [← h.inv.len]; exact hj)
  rw [e] at this
  rcases this with ⟨_, q | q⟩ | ⟨_, _, _, _, q | q⟩ <;> (rw [q]; decide)
theorem once_new (L : List (List Int)) (hL : goodB L = true) (hr : rowsAt L 1000) (hsz : L.length ≤ 1000) (ts : List T) (h : ts.map bare = upB L L.length) (idle : List Bool) (hid : idle.length = L.length) (n : Nat) :
    OnceS L idle n (idleUp ts idle L.length) (List.replicate n (-1)) (leftUp L.length idle L.length) 0 ∧ (idleUp ts idle L.length).map T.state = idle.map idleS := by
  obtain ⟨a, b⟩ := begin_plan L hL hr hsz ts h idle hid n
  refine ⟨⟨a, by simp, ?_⟩, b⟩
  rw [b, sumS_idle, hid]; omega
theorem OnceS.left {L : List (List Int)} {idle : List Bool} {nw : Nat} {ts : List T} {has : List Int} {left : Int} {i : Nat} (h : OnceS L idle nw ts has left i) (hi : i < 3 * busyN idle) : left ≠ 0 := by
  intro h0
  have h1 := h.pinv.left
  have h2 : nLeft (ts.map T.state) = 0 := by omega
  have h3 : sumS (ts.map T.state) = 3 * (ts.map T.state).length := sumS_three _ fun x hx => by
    obtain ⟨j, hj, rfl⟩ := List.mem_iff_getElem.1 hx
    have := nLeft_zero _ h2 j hj
    rwa [getD_get _ _ hj] at this
  rw [h.sum, List.length_map, h.pinv.inv.len] at h3
  omega
theorem OnceS.step {L : List (List Int)} {idle : List Bool} {nw : Nat} {ts : List T} {has : List Int} {left : Int} {i : Nat} (h : OnceS L idle nw ts has left i) {n : Nat} {k : Int} {j wk : Nat} {us : List T} {has' : List Int} {left' : Int} (hw : Went L ts has left n k j wk us has' left') :
    OnceS L idle nw us has' left' (i + 1) := by
  refine ⟨hw.pinv, ?_, ?_⟩
  · rw [hw.has_, ← h.workers]
    split
    · rw [List.length_set]
    · split
      · rw [List.length_set]
      · rfl
  · have hj := hw.lt
    rw [hw.states, sumS_set _ _ _ (by rw [List.length_map, h.pinv.inv.len]; exact hj), h.sum, map_getD, hw.kind]
    omega
/-- All has ended. -/
theorem OnceS.done {L : List (List Int)} {idle : List Bool} {nw : Nat} {ts : List T} {has : List Int} {left : Int} (h : OnceS L idle nw ts has left (3 * busyN idle)) : left = 0 ∧ (∀ x ∈ ts.map T.state, x = 3) ∧ readyL ts ts.length = [] := by
  have hall : ∀ x ∈ ts.map T.state, x = 3 := sumS_all _ (fun x hx => (h.pinv.le3 x hx).2) (by rw [h.sum, List.length_map, h.pinv.inv.len]; omega)
  refine ⟨?_, hall, ?_⟩
  · rw [h.pinv.left]
    have : nLeft (ts.map T.state) = 0 := List.countP_eq_zero.2 fun x hx => by rw [hall x hx]; decide
    rw [this]; rfl
  · unfold readyL
    rw [List.filter_eq_nil_iff.2]
    · rfl
    · intro j hj
      have hj := List.mem_range.1 hj
      have := hall (ts.getD j zT).state (List.mem_map.2 ⟨_, by rw [List.getD_eq_getElem?_getD, List.getElem?_eq_getElem hj]; exact List.getElem_mem hj, rfl⟩)
      unfold readyB
      rw [this]; simp
end Go.Proofs.Ytigpcfokmbnlaaa.Sched

/- sched.New: the walk. -/
namespace Go.Proofs.Ytigpcfokmbnlaaa.Sched
open Go.RowKit Go.Proofs.YtigpcfokmbnlaaaW.PrintWords Go.Proofs.Ytigpcfokmbnlaaa.PSchedPlays

/-- What New answers with an error. -/
def newV (n : Int) : Value := .tuple #[.pointer none, errV n]
def newBad (L : List (List Int)) (idle : List Bool) (n : Int) : Int := if (!goodB L || decide (idle.length ≠ L.length)) = true then 2 else if n < 1 ∨ 64 < n then 1 else 0

set_option maxHeartbeats 2000000 in
theorem new_bad (A0 : Option Addr) (c0 : Nat) (L : List (List Int)) (A1 : Option Addr) (c1 : Nat) (idle : List Bool) (n : Int) (w : World) (hL : L.length ≤ 1000000) (hr : rowsAt L 1000000) (hr0 : Kd.C (Kd.slice 3 (Kd.int .i64)) w A0 L.length L) (hc0 : L.length ≤ c0)
    (hbad : newBad L idle n ≠ 0) :
    Calls Try.prog 10 #[.slice A0 L.length c0, .slice A1 idle.length c1, .int .i64 n] w fun e w' => e = .returned (newV (newBad L idle n)) ∧ Drawn0 w w' := by
  have HG := Aside0.mk (good_calls A0 c0 L w hL hr hr0 hc0)
  unfold newBad at hbad ⊢
  cases hg : goodB L
  · have HH := Aside0.mk hg
    clear hg
    go_enter Try.func10, Try.ntmps10
    go_wp2_with (go_at_call 22; refine HG.out.mono ?_; rintro e w1 ⟨rfl, hd⟩; rw [HH.out])
    go_ret2
    exact ⟨rfl, hd⟩
  · have HH := Aside0.mk hg
    by_cases hi : idle.length = L.length
    · simp only [hg, hi] at hbad
      have bi : decide (((idle.length : Nat) : Int) = ((L.length : Nat) : Int)) = true := by simp [hi]
      by_cases h1 : n < 1
      · have b1 : decide (n < 1) = true := by simp; omega
        have e : (if (!true || decide (idle.length ≠ L.length)) = true then (2 : Int) else if n < 1 ∨ 64 < n then 1 else 0) = 1 := by simp [hi, h1]
        rw [e]
        clear hg hbad e h1
        go_enter Try.func10, Try.ntmps10
        go_wp2_with (go_at_call 22; refine HG.out.mono ?_; rintro e w1 ⟨rfl, hd⟩; rw [HH.out])
        try (go_quiet (fail); go_wp2)
        go_ret2
        exact ⟨rfl, by repeat (first | exact hd | apply Drawn0.step)⟩
      · have h2 : 64 < n := by
          refine Classical.byContradiction fun h2 => hbad ?_
          simp [h1, h2]
        have b1 : decide (n < 1) = false := by simp; omega
        have b2 : decide (64 < n) = true := by simp; omega
        have e : (if (!true || decide (idle.length ≠ L.length)) = true then (2 : Int) else if n < 1 ∨ 64 < n then 1 else 0) = 1 := by simp [hi, h2]
        rw [e]
        clear hg hbad e h1 h2
        go_enter Try.func10, Try.ntmps10
        go_wp2_with (go_at_call 22; refine HG.out.mono ?_; rintro e w1 ⟨rfl, hd⟩; rw [HH.out])
        try (go_quiet (fail); go_wp2)
        go_ret2
        exact ⟨rfl, by repeat (first | exact hd | apply Drawn0.step)⟩
    · have bi : decide (((idle.length : Nat) : Int) = ((L.length : Nat) : Int)) = false := by simp; omega
      have e : (if (!true || decide (idle.length ≠ L.length)) = true then (2 : Int) else if n < 1 ∨ 64 < n then 1 else 0) = 2 := by simp [hi]
      rw [e]
      clear hg hbad e
      go_enter Try.func10, Try.ntmps10
      go_wp2_with (go_at_call 22; refine HG.out.mono ?_; rintro e w1 ⟨rfl, hd⟩; rw [HH.out])
      try (go_quiet (fail); go_wp2)
      go_ret2
      exact ⟨rfl, by repeat (first | exact hd | apply Drawn0.step)⟩
end Go.Proofs.Ytigpcfokmbnlaaa.Sched
