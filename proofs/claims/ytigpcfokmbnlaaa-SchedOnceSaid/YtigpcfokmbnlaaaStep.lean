/- Plain law and contract: what one pick comes to in any plan that stands as it should. -/
import Derived.Test.YtigpcfokmbnlaaaTurns
namespace Go.Proofs.Ytigpcfokmbnlaaa.Sched
open Go.RowKit Go.Proofs.YtigpcfokmbnlaaaW.PrintWords

/-- How many have not ended. -/
def nLeft (σ : List Int) : Nat := σ.countP (fun s => s != 3)
/-- A plan that stands as it should. -/
structure Pinv (L : List (List Int)) (ts : List T) (has : List Int) (left : Int) : Prop where
  inv : Inv L ts
  hasOk : ∀ w, w < has.length → has.getD w 0 = -1 ∨ ∃ i : Nat, i < L.length ∧ has.getD w 0 = i ∧ (ts.getD i zT).worker = w ∧ ((ts.getD i zT).state = 1 ∨ (ts.getD i zT).state = 2)
  tsOk : ∀ i, i < L.length → ((ts.getD i zT).worker = -1 ∧ ((ts.getD i zT).state = 0 ∨ (ts.getD i zT).state = 3)) ∨ ∃ w : Nat, w < has.length ∧ (ts.getD i zT).worker = w ∧ has.getD w 0 = i ∧ ((ts.getD i zT).state = 1 ∨ (ts.getD i zT).state = 2)
  left : left = nLeft (ts.map T.state)
theorem st_nat (ts : List T) (i : Nat) : st ts i = (ts.getD i zT).state := by unfold st; rw [Int.toNat_natCast]
theorem map_getD (ts : List T) (i : Nat) : (ts.map T.state).getD i 0 = (ts.getD i zT).state := by
  simp only [List.getD_eq_getElem?_getD, List.getElem?_map]
  cases ts[i]? <;> rfl
theorem nLeft_le (σ : List Int) : nLeft σ ≤ σ.length := List.countP_le_length
theorem nLeft_set (σ : List Int) (i : Nat) (k : Int) (hi : i < σ.length) (h : σ.getD i 0 ≠ 3) : nLeft (σ.set i k) = if k = 3 then nLeft σ - 1 else nLeft σ := by
  have hp : 0 < nLeft σ := List.countP_pos_iff.2 ⟨σ.getD i 0, by simp [List.getD_eq_getElem?_getD, hi], by simpa using h⟩
  have e : σ.getD i 0 = σ[i] := by simp [List.getD_eq_getElem?_getD, hi]
  rw [e] at h
  unfold nLeft at *
  rw [List.countP_set hi]
  by_cases hk : k = 3
  · simp [hk, h]
  · simp [hk, h]; omega
theorem nLeft_pos (σ : List Int) (h : nLeft σ ≠ 0) : ∃ i, i < σ.length ∧ σ.getD i 0 ≠ 3 := by
  obtain ⟨x, hx, h3⟩ := List.countP_pos_iff.1 (Nat.pos_of_ne_zero h)
  obtain ⟨i, hi, rfl⟩ := List.mem_iff_getElem.1 hx
  exact ⟨i, hi, by rw [show σ.getD i 0 = σ[i] by simp [List.getD_eq_getElem?_getD, hi]]; simpa using h3⟩
theorem nLeft_zero (σ : List Int) (h : nLeft σ = 0) (i : Nat) (hi : i < σ.length) : σ.getD i 0 = 3 := by
  have := (List.countP_eq_zero.1 h) σ[i] (List.getElem_mem hi)
  rw [show σ.getD i 0 = σ[i] by simp [List.getD_eq_getElem?_getD, hi]]
  simpa using this
theorem firstI_cases (so : T → Bool) (ts : List T) : (firstI so ts = -1 ∧ ∀ j, j < ts.length → so (ts.getD j zT) = false) ∨ ∃ i : Nat, firstI so ts = i ∧ i < ts.length ∧ so (ts.getD i zT) = true ∧ ∀ j, j < i → so (ts.getD j zT) = false := by
  unfold firstI
  cases h : ts.findIdx? so with
  | none =>
    left
    refine ⟨rfl, fun j hj => ?_⟩
    have := List.findIdx?_eq_none_iff.1 h ts[j] (List.getElem_mem hj)
    rw [show ts.getD j zT = ts[j] by simp [List.getD_eq_getElem?_getD, hj]]
    simpa using this
  | some i =>
    right
    obtain ⟨hi, h1, h2⟩ := List.findIdx?_eq_some_iff_getElem.1 h
    refine ⟨i, rfl, hi, ?_, fun j hj => ?_⟩
    · rw [show ts.getD i zT = ts[i] by simp [List.getD_eq_getElem?_getD, hi]]; exact h1
    · rw [show ts.getD j zT = ts[j]'(by omega) by simp [List.getD_eq_getElem?_getD, show j < ts.length by omega]]; simpa using h2 j hj

/-- What one pick comes to: the event's kind, its task, its worker; what stands then. -/
structure Went (L : List (List Int)) (ts : List T) (has : List Int) (left : Int) (n : Nat) (k : Int) (i wk : Nat) (us : List T) (has' : List Int) (left' : Int) : Prop where
  pinv : Pinv L us has' left'
  same : SameRows ts us
  lt : i < L.length
  wlt : wk < has.length
  kind : k = (ts.getD i zT).state + 1
  low : 1 ≤ k
  high : k ≤ 3
  states : us.map T.state = (ts.map T.state).set i k
  leans : k = 1 → ∀ q ∈ L.getD i [], (ts.getD q.toNat zT).state = 3
  who : k ≠ 1 → has.getD wk 0 = i
  has_ : has' = if k = 1 then has.set n i else if k = 3 then has.set wk (-1) else has
  how : (has.getD n 0 = i ∧ wk = n) ∨ (has.getD n 0 = -1 ∧ k = 1 ∧ wk = n ∧ firstI readyB ts = i) ∨ (has.getD n 0 = -1 ∧ k ≠ 1 ∧ firstI readyB ts = -1 ∧ firstI heldB ts = i)
/-- The least that has not ended is ready, or is some worker's. -/
theorem Pinv.least {L : List (List Int)} {ts : List T} {has : List Int} {left : Int} (h : Pinv L ts has left) (hL : goodB L = true) (m : Nat) (hm : m < L.length) (h3 : (ts.getD m zT).state ≠ 3) (hb : ∀ j, j < m → (ts.getD j zT).state = 3) :
    readyB (ts.getD m zT) = true ∨ heldB (ts.getD m zT) = true := by
  rcases h.tsOk m hm with ⟨hw, h0 | h0⟩ | ⟨w, _, hw, _, _⟩
  · left
    have : (ts.getD m zT).waits = 0 := by
      rw [h.inv.waits m hm]
      unfold wt
      rw [List.countP_eq_zero.2]
      · rfl
      intro k hk
      have := good_mem L hL m hm k hk
      unfold st
      rw [hb k.toNat (by omega)]
      simp
    unfold readyB; rw [h0, this]; rfl
  · exact absurd h0 h3
  · right
    simp only [heldB, hw]
    rw [bne_iff_ne]; omega
theorem waits_zero {L : List (List Int)} {ts : List T} (h : Inv L ts) (m : Nat) (hm : m < L.length) (h0 : (ts.getD m zT).waits = 0) : ∀ q ∈ L.getD m [], (ts.getD q.toNat zT).state = 3 := by
  intro q hq
  have := h.waits m hm
  rw [h0] at this
  have h2 : wt L (st ts) m = 0 := by omega
  have := List.countP_eq_zero.1 h2 q hq
  simpa [st] using this
theorem getD_set_int (l : List Int) (i m : Nat) (t : Int) (hi : i < l.length) : (l.set i t).getD m 0 = if m = i then t else l.getD m 0 := by
  simp only [List.getD_eq_getElem?_getD, List.getElem?_set]
  by_cases h : m = i
  · subst h; simp [hi]
  · simp [h, Ne.symm h]
section
variable {L : List (List Int)} {ts : List T} {has : List Int} {left : Int} (h : Pinv L ts has left) (hL : goodB L = true) (hr : rowsAt L 1000)
include h
theorem Pinv.lens : ts.length = L.length := h.inv.len
/-- A task is taken. -/
theorem Pinv.take (n i : Nat) (hn : n < has.length) (hh : has.getD n 0 = -1) (hi : i < L.length) (hrd : readyB (ts.getD i zT) = true) : Pinv L (takeTs ts i n) (has.set n i) left ∧ (takeTs ts i n).map T.state = (ts.map T.state).set i 1 := by
  have hl := h.inv.len
  have g : ∀ m, (takeTs ts i n).getD m zT = if m = i then { ts.getD i zT with state := 1, worker := n } else ts.getD m zT := by
    intro m
    unfold takeTs
    rw [setWorker_getD _ _ _ _ (by rw [setState_len]; omega), setState_getD _ _ _ _ (by omega), setState_getD _ _ _ _ (by omega)]
    by_cases e : m = i
    · simp [e]
    · simp [e]
  have hs : (ts.getD i zT).state = 0 := by unfold readyB at hrd; rw [Bool.and_eq_true, beq_iff_eq] at hrd; exact hrd.1
  have hlen : (takeTs ts i n).length = ts.length := by simp [takeTs, setWorker_len, setState_len]
  have hmap : (takeTs ts i n).map T.state = (ts.map T.state).set i 1 := states_set _ _ _ _ hlen (fun m _ => by rw [g]; by_cases e : m = i <;> simp [e])
  refine ⟨⟨h.inv.keep hlen (fun m => by rw [g]; by_cases e : m = i <;> simp [e]) (fun k => ?_), fun w hw => ?_, fun m hm => ?_, ?_⟩, hmap⟩
  · unfold st
    rw [g]
    by_cases e : k.toNat = i
    · rw [if_pos e, e, hs]; simp
    · simp [e]
  · rw [List.length_set] at hw
    rw [getD_set_int _ _ _ _ hn]
    by_cases e : w = n
    · rw [if_pos e]
      exact .inr ⟨i, hi, rfl, by rw [g, if_pos rfl, e], .inl (by rw [g, if_pos rfl])⟩
    · rw [if_neg e]
      rcases h.hasOk w hw with q | ⟨j, hj, q1, q2, q3⟩
      · exact .inl q
      · refine .inr ⟨j, hj, q1, ?_⟩
        have : j ≠ i := by rintro rfl; omega
        rw [g, if_neg this]; exact ⟨q2, q3⟩
  · rw [g, List.length_set]
    by_cases e : m = i
    · subst e; rw [if_pos rfl]
      exact .inr ⟨n, hn, rfl, by rw [getD_set_int _ _ _ _ hn, if_pos rfl], .inl rfl⟩
    · rw [if_neg e]
      rcases h.tsOk m hm with q | ⟨w, q0, q1, q2, q3⟩
      · exact .inl q
      · refine .inr ⟨w, q0, q1, ?_, q3⟩
        rw [getD_set_int _ _ _ _ hn, if_neg (by rintro rfl; rw [hh] at q2; omega)]
        exact q2
  · rw [hmap, nLeft_set _ _ _ (by simp; omega) (by rw [map_getD, hs]; decide), if_neg (by decide)]; exact h.left
/-- A task is run. -/
theorem Pinv.run (i wk : Nat) (hi : i < L.length) (hs : (ts.getD i zT).state = 1) (hw : (ts.getD i zT).worker = wk) (hwk : wk < has.length) (hh : has.getD wk 0 = i) : Pinv L (setState ts i 2) has left ∧ (setState ts i 2).map T.state = (ts.map T.state).set i 2 := by
  have hl := h.inv.len
  have g : ∀ m, (setState ts i 2).getD m zT = if m = i then { ts.getD i zT with state := 2 } else ts.getD m zT := fun m => setState_getD _ _ _ _ (by omega)
  have hmap : (setState ts i 2).map T.state = (ts.map T.state).set i 2 := states_set _ _ _ _ (setState_len _ _ _) (fun m _ => by rw [g]; by_cases e : m = i <;> simp [e])
  refine ⟨⟨h.inv.keep (setState_len _ _ _) (fun m => by rw [g]; by_cases e : m = i <;> simp [e]) (fun k => ?_), fun w hw' => ?_, fun m hm => ?_, ?_⟩, hmap⟩
  · unfold st
    rw [g]
    by_cases e : k.toNat = i
    · rw [if_pos e, e, hs]; simp
    · simp [e]
  · rcases h.hasOk w hw' with q | ⟨j, hj, q1, q2, q3⟩
    · exact .inl q
    · refine .inr ⟨j, hj, q1, ?_⟩
      rw [g]
      by_cases e : j = i
      · subst e; rw [if_pos rfl]; exact ⟨q2, .inr rfl⟩
      · rw [if_neg e]; exact ⟨q2, q3⟩
  · rw [g]
    by_cases e : m = i
    · subst e; rw [if_pos rfl]
      exact .inr ⟨wk, hwk, hw, hh, .inr rfl⟩
    · rw [if_neg e]; exact h.tsOk m hm
  · rw [hmap, nLeft_set _ _ _ (by simp; omega) (by rw [map_getD, hs]; decide), if_neg (by decide)]; exact h.left
include hL hr in
/-- A task is ended. -/
theorem Pinv.stop (hsz : L.length ≤ 1000) (i wk : Nat) (hi : i < L.length) (hs : (ts.getD i zT).state = 2) (hw : (ts.getD i zT).worker = wk) (hwk : wk < has.length) (hh : has.getD wk 0 = i) :
    Pinv L (ranTs ts i) (has.set wk (-1)) (wrap64 (left - 1)) ∧ (ranTs ts i).map T.state = (ts.map T.state).set i 3 ∧ wrap64 (left - 1) = left - 1 := by
  have hl := h.inv.len
  have gA : ∀ m, (setWorker ts i (-1)).getD m zT = if m = i then { ts.getD i zT with worker := -1 } else ts.getD m zT := fun m => setWorker_getD _ _ _ _ (by omega)
  have hA : Inv L (setWorker ts i (-1)) := h.inv.keep (setWorker_len _ _ _) (fun m => by rw [gA]; by_cases e : m = i <;> simp [e]) (fun k => by
    unfold st
    rw [gA]
    by_cases e : k.toNat = i <;> simp [e])
  obtain ⟨hE, gE⟩ := hA.ended hL hr i hi (by rw [st_nat, gA, if_pos rfl]; show (ts.getD i zT).state ≠ 3; rw [hs]; decide)
  have hlE : (endTs (setWorker ts i (-1)) i).length = ts.length := by rw [endTs_len, setWorker_len]
  have gR : ∀ m, (ranTs ts i).getD m zT = if m = i then { (endTs (setWorker ts i (-1)) i).getD i zT with state := 3 } else (endTs (setWorker ts i (-1)) i).getD m zT := fun m => setState_getD _ _ _ _ (by omega)
  have hlR : (ranTs ts i).length = ts.length := by unfold ranTs; rw [setState_len, hlE]
  have ei : ((endTs (setWorker ts i (-1)) i).getD i zT).state = 3 := by rw [(gE i hi).1, if_pos rfl]
  have hR : Inv L (ranTs ts i) := hE.keep (by rw [hlR, hlE]) (fun m => by rw [gR]; by_cases e : m = i <;> simp [e]) (fun k => by
    unfold st
    rw [gR]
    by_cases e : k.toNat = i
    · rw [if_pos e, e, ei]
    · simp [e])
  have f : ∀ m, m < L.length → ((ranTs ts i).getD m zT).state = (if m = i then 3 else (ts.getD m zT).state) ∧ ((ranTs ts i).getD m zT).worker = (if m = i then -1 else (ts.getD m zT).worker) := by
    intro m hm
    rw [gR]
    by_cases e : m = i
    · subst e
      simp only [if_true]
      refine ⟨trivial, ?_⟩
      rw [(gE m hm).2, gA, if_pos rfl]
    · simp only [if_neg e]
      rw [(gE m hm).1, (gE m hm).2, gA, if_neg e, if_neg e]
      exact ⟨rfl, rfl⟩
  have hmap : (ranTs ts i).map T.state = (ts.map T.state).set i 3 := states_set _ _ _ _ hlR (fun m hm => (f m (by omega)).1)
  have hne : (ts.map T.state).getD i 0 ≠ 3 := by rw [map_getD, hs]; decide
  have hns := nLeft_set (ts.map T.state) i 3 (by simp; omega) hne
  rw [if_pos rfl] at hns
  have hpos : 0 < nLeft (ts.map T.state) := List.countP_pos_iff.2 ⟨(ts.map T.state).getD i 0, by rw [map_getD]; simp [List.getD_eq_getElem?_getD, show i < ts.length by omega]; exact ⟨_, List.getElem_mem _, rfl⟩, by simpa using hne⟩
  have hle := nLeft_le (ts.map T.state)
  rw [List.length_map] at hle
  have hleft := h.left
  have hwr : wrap64 (left - 1) = left - 1 := by unfold wrap64; omega
  refine ⟨⟨hR, fun w hw' => ?_, fun m hm => ?_, ?_⟩, hmap, hwr⟩
  · rw [List.length_set] at hw'
    rw [getD_set_int _ _ _ _ hwk]
    by_cases e : w = wk
    · rw [if_pos e]; exact .inl rfl
    · rw [if_neg e]
      rcases h.hasOk w hw' with q | ⟨j, hj, q1, q2, q3⟩
      · exact .inl q
      · refine .inr ⟨j, hj, q1, ?_⟩
        have : j ≠ i := by rintro rfl; omega
        rw [(f j hj).1, (f j hj).2, if_neg this, if_neg this]
        exact ⟨q2, q3⟩
  · rw [(f m hm).1, (f m hm).2, List.length_set]
    by_cases e : m = i
    · rw [if_pos e, if_pos e]; exact .inl ⟨rfl, .inr rfl⟩
    · rw [if_neg e, if_neg e]
      rcases h.tsOk m hm with q | ⟨w, q0, q1, q2, q3⟩
      · exact .inl q
      · refine .inr ⟨w, q0, q1, ?_, q3⟩
        rw [getD_set_int _ _ _ _ hwk, if_neg (by rintro rfl; omega)]
        exact q2
  · rw [hmap, hns, hwr]; omega
end

/-- Some worker's task goes on. -/
theorem goOn_any {L : List (List Int)} {ts : List T} {has : List Int} {left : Int} (h : Pinv L ts has left) (hL : goodB L = true) (hr : rowsAt L 1000) (hsz : L.length ≤ 1000) (P : Pl) (i wk : Nat) (hi : i < L.length) (hs : (ts.getD i zT).state = 1 ∨ (ts.getD i zT).state = 2) (hw : (ts.getD i zT).worker = wk) (hwk : wk < has.length) (hh : has.getD wk 0 = i) :
    ∃ (k : Int) (us : List T) (has' : List Int) (left' : Int), k = (ts.getD i zT).state + 1 ∧ 2 ≤ k ∧ k ≤ 3 ∧ Pinv L us has' left' ∧ us.map T.state = (ts.map T.state).set i k ∧ SameRows ts us ∧ has' = (if k = 3 then has.set wk (-1) else has) ∧
      ∀ p W, IsPlan W P ts has p left → Calls Try.prog 24 #[.pointer (some ⟨P.gp, 0, none⟩), .int .i64 i] W fun e w' => e = .returned (evV k i wk) ∧ IsPlan w' P us has' p left' ∧ Stp W w' P := by
  have hl := h.inv.len
  rcases hs with hs | hs
  · obtain ⟨h1, h2⟩ := h.run i wk hi hs hw hwk hh
    exact ⟨2, setState ts i 2, has, left, by rw [hs]; rfl, by decide, by decide, h1, h2, same_setState _ _ _, rfl, fun p W hP => goOn_took P ts has p left i wk W hP (by omega) hs hw⟩
  · obtain ⟨h1, h2, h3⟩ := h.stop hL hr hsz i wk hi hs hw hwk hh
    exact ⟨3, ranTs ts i, has.set wk (-1), wrap64 (left - 1), by rw [hs]; rfl, by decide, by decide, h1, h2, same_ran _ _, rfl, fun p W hP => goOn_ran P ts has p left i wk W hP (by omega) hs hw hwk (by rw [hl]; exact small_getD h.inv.small i)⟩
theorem ready_not_held {L : List (List Int)} {ts : List T} {has : List Int} {left : Int} (h : Pinv L ts has left) (i : Nat) (hi : i < L.length) (hh : heldB (ts.getD i zT) = true) : ∃ w : Nat, w < has.length ∧ (ts.getD i zT).worker = w ∧ has.getD w 0 = i ∧ ((ts.getD i zT).state = 1 ∨ (ts.getD i zT).state = 2) := by
  rcases h.tsOk i hi with ⟨hw, _⟩ | q
  · unfold heldB at hh
    rw [hw] at hh
    simp at hh
  · exact q
/-- One pick of a worker that there is, while something is left. -/
theorem pick_step {L : List (List Int)} {ts : List T} {has : List Int} {picks left : Int} {w : World} {P : Pl} (h : IsPlan w P ts has picks left) (hp : Pinv L ts has left) (hL : goodB L = true) (hr : rowsAt L 1000) (hsz : L.length ≤ 1000) (n : Nat) (hn : n < has.length) (hl : left ≠ 0) :
    ∃ (k : Int) (i wk : Nat) (us : List T) (has' : List Int) (left' : Int), Went L ts has left n k i wk us has' left' ∧
      Calls Try.prog 11 #[.pointer (some ⟨P.gp, 0, none⟩), .int .i64 n] w fun e w' => e = .returned (pickV k i wk 0) ∧ IsPlan w' P us has' (wrap64 (picks + 1)) left' ∧ Stp w w' P := by
  have hlen := hp.inv.len
  rcases hp.hasOk n hn with hh | ⟨i, hi, hh, hw, hs⟩
  · rcases firstI_cases readyB ts with ⟨hrd, hnr⟩ | ⟨i, hrd, hi, hri, _⟩
    · rcases firstI_cases heldB ts with ⟨_, hnh⟩ | ⟨i, hhd, hi, hhi, _⟩
      · exfalso
        have hne : nLeft (ts.map T.state) ≠ 0 := by have := hp.left; omega
        have key : ∀ m, m ≤ L.length → ∀ j, j < m → (ts.getD j zT).state = 3 := by
          intro m
          induction m with
          | zero => intro _ j hj; omega
          | succ m ih =>
            intro hm j hj
            by_cases e : j < m
            · exact ih (by omega) j e
            · have e2 : j = m := by omega
              subst e2
              by_cases h3 : (ts.getD j zT).state = 3
              · exact h3
              · rcases hp.least hL j (by omega) h3 (ih (by omega)) with q | q
                · rw [hnr j (by omega)] at q; cases q
                · rw [hnh j (by omega)] at q; cases q
        obtain ⟨j, hj, h3⟩ := nLeft_pos _ hne
        rw [map_getD] at h3
        exact h3 (key L.length (Nat.le_refl _) j (by simpa [hlen] using hj))
      · obtain ⟨wk, hwk, hw, hhw, hs⟩ := ready_not_held hp i (by omega) hhi
        obtain ⟨k, us, has', left', hk, hk2, hk3, hpi, hst, hsr, hhas, hg⟩ := goOn_any hp hL hr hsz P i wk (by omega) hs hw hwk hhw
        refine ⟨k, i, wk, us, has', left', ⟨hpi, hsr, by omega, hwk, hk, by omega, hk3, hst, fun e => by omega, fun _ => hhw, ?_, .inr (.inr ⟨hh, by omega, hrd, hhd⟩)⟩, ?_⟩
        · rw [hhas, if_neg (show ¬ k = 1 by omega)]
        · exact pick_help P ts has picks left w n i k wk us has' left' h hn hl hh hrd hhd hsr (fun W hW => hg _ W hW)
    · have hz : (ts.getD i zT).state = 0 ∧ (ts.getD i zT).waits = 0 := by unfold readyB at hri; rw [Bool.and_eq_true, beq_iff_eq, beq_iff_eq] at hri; exact hri
      obtain ⟨h1, h2⟩ := hp.take n i hn hh (by omega) hri
      refine ⟨1, i, n, takeTs ts i n, has.set n i, left, ⟨h1, same_take _ _ _, by omega, hn, by rw [hz.1]; rfl, by decide, by decide, h2, fun _ => waits_zero hp.inv i (by omega) hz.2, fun c => absurd rfl c, by rw [if_pos rfl], .inr (.inl ⟨hh, rfl, rfl, hrd⟩)⟩, ?_⟩
      exact pick_take P ts has picks left w n i h hn hl hh hrd hi
  · obtain ⟨k, us, has', left', hk, hk2, hk3, hpi, hst, hsr, hhas, hg⟩ := goOn_any hp hL hr hsz P i n hi hs hw hn hh
    refine ⟨k, i, n, us, has', left', ⟨hpi, hsr, hi, hn, hk, by omega, hk3, hst, fun e => by omega, fun _ => hh, ?_, .inl ⟨hh, rfl⟩⟩, ?_⟩
    · rw [hhas, if_neg (show ¬ k = 1 by omega)]
    · exact pick_goOn P ts has picks left w n i k n us has' left' h hn hl hh hsr (fun W hW => hg _ W hW)
end Go.Proofs.Ytigpcfokmbnlaaa.Sched
