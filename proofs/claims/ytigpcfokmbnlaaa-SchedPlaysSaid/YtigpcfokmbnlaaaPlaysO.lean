/- Plain law and contract: one worker takes the tasks in their order. -/
import Derived.Test.YtigpcfokmbnlaaaPlaysC
import Derived.Test.YtigpcfokmbnlaaaPlaysJ
import Derived.Test.YtigpcfokmbnlaaaPlaysK
import Derived.Test.YtigpcfokmbnlaaaPlaysL
import Derived.Test.YtigpcfokmbnlaaaPlaysM
import Derived.Test.YtigpcfokmbnlaaaPlaysN
import Derived.Test.YtigpcfokmbnlaaaPlaysH
import Derived.Test.YtigpcfokmbnlaaaPlaysB
namespace Go.Proofs.Ytigpcfokmbnlaaa.Sched
open Go.RowKit Go.Proofs.YtigpcfokmbnlaaaW.PrintWords

structure OneS (L : List (List Int)) (ts : List T) (has : List Int) (left : Int) (i s : Nat) : Prop where
  pinv : Pinv L ts has left
  one : has.length = 1
  states : ∀ m, m < L.length → (ts.getD m zT).state = if m < i then 3 else if m = i then (s : Int) else 0
theorem OneS.next {L : List (List Int)} {ts : List T} {has : List Int} {left : Int} {i : Nat} (h : OneS L ts has left i 3) : OneS L ts has left (i + 1) 0 := by
  refine ⟨h.pinv, h.one, fun m hm => ?_⟩
  rw [h.states m hm]
  by_cases h1 : m < i
  · rw [if_pos h1, if_pos (by omega)]
  · by_cases h2 : m = i
    · rw [if_neg h1, if_pos h2, if_pos (by omega)]; rfl
    · rw [if_neg h1, if_neg h2, if_neg (by omega)]; split <;> rfl
theorem OneS.done {L : List (List Int)} {ts : List T} {has : List Int} {left : Int} {s : Nat} (h : OneS L ts has left L.length s) : left = 0 := by
  rw [h.pinv.left]
  have : nLeft (ts.map T.state) = 0 := by
    refine Nat.eq_zero_of_not_pos fun hp => ?_
    obtain ⟨j, hj, h3⟩ := nLeft_pos (ts.map T.state) (by omega)
    rw [List.length_map, h.pinv.inv.len] at hj
    rw [map_getD, h.states j hj, if_pos hj] at h3
    exact h3 rfl
  rw [this]; rfl
theorem state_set {ts us : List T} {i : Nat} {k : Int} (hi : i < ts.length) (h : us.map T.state = (ts.map T.state).set i k) (m : Nat) : (us.getD m zT).state = if m = i then k else (ts.getD m zT).state := by
  rw [← map_getD us m, h, getD_set_int _ _ _ _ (by simpa using hi), map_getD]
theorem one_pick {L : List (List Int)} {ts : List T} {has : List Int} {picks left : Int} {w : World} {P : Pl} {i s : Nat} (h : IsPlan w P ts has picks left) (ho : OneS L ts has left i s) (hL : goodB L = true) (hr : rowsAt L 1000) (hsz : L.length ≤ 1000) (hi : i < L.length) (hs : s < 3) :
    ∃ (us : List T) (has' : List Int) (left' : Int), OneS L us has' left' i (s + 1) ∧
      Calls Try.prog 11 #[.pointer (some ⟨P.gp, 0, none⟩), .int .i64 0] w fun e w' => e = .returned (pickV ((s : Int) + 1) i 0 0) ∧ IsPlan w' P us has' (wrap64 (picks + 1)) left' ∧ Stp w w' P := by
  have hp := ho.pinv
  have hlen := hp.inv.len
  have hsi : (ts.getD i zT).state = s := by rw [ho.states i hi, if_neg (by omega), if_pos rfl]
  have hl : left ≠ 0 := by
    intro h0
    have := hp.left
    have h2 := nLeft_zero (ts.map T.state) (by omega) i (by rw [List.length_map, hlen]; exact hi)
    rw [map_getD, hsi] at h2
    omega
  obtain ⟨k, j, wk, us, has', left', hw, hc⟩ := pick_step h hp hL hr hsz 0 (by rw [ho.one]; omega) hl
  have hwk : wk = 0 := by have := hw.wlt; rw [ho.one] at this; omega
  subst hwk
  have hone : has'.length = 1 := by
    rw [hw.has_]
    split
    · rw [List.length_set]; exact ho.one
    · split
      · rw [List.length_set]; exact ho.one
      · exact ho.one
  -- which task it is
  have hji : j = i := by
    by_cases e : j = i
    · exact e
    · exfalso
      have hkj := hw.kind
      have hsj := ho.states j hw.lt
      rw [if_neg e] at hsj
      have hk3 := hw.high
      have hjgt : i < j := by
        by_cases c : j < i
        · rw [if_pos c] at hsj; omega
        · omega
      rw [if_neg (by omega)] at hsj
      have hk1 : k = 1 := by omega
      have hleast := hp.least hL i hi (by rw [hsi]; omega) (fun q hq => by rw [ho.states q (by omega), if_pos hq])
      have h0j : has.getD 0 0 = -1 := by
        rcases hp.hasOk 0 (by rw [ho.one]; omega) with q | ⟨q, hq, q1, q2, q3⟩
        · exact q
        · rcases hw.how with ⟨a, _⟩ | ⟨a, _⟩ | ⟨a, _⟩
          · rw [q1] at a; have : q = j := by omega
            subst this; omega
          · exact a
          · exact a
      have hnh : heldB (ts.getD i zT) = false := by
        by_cases c : heldB (ts.getD i zT) = true
        · obtain ⟨w', hw', _, hw2, _⟩ := ready_not_held hp i hi c
          rw [ho.one] at hw'
          have : w' = 0 := by omega
          subst this
          omega
        · simpa using c
      have hri : readyB (ts.getD i zT) = true := by
        rcases hleast with q | q
        · exact q
        · rw [hnh] at q; cases q
      rcases hw.how with ⟨a, _⟩ | ⟨_, _, _, a⟩ | ⟨_, a, _⟩
      · omega
      · rcases firstI_cases readyB ts with ⟨b, _⟩ | ⟨q, b, _, _, b2⟩
        · omega
        · have hqj : q = j := by omega
          subst hqj
          rw [b2 i hjgt] at hri; cases hri
      · exact a hk1
  subst hji
  have hk : k = (s : Int) + 1 := by rw [hw.kind, hsi]
  subst hk
  refine ⟨us, has', left', ⟨hw.pinv, hone, fun m hm => ?_⟩, hc⟩
  rw [state_set (by omega) hw.states m]
  by_cases e : m = j
  · subst e; rw [if_pos rfl, if_neg (by omega), if_pos rfl]; rfl
  · rw [if_neg e, ho.states m hm, if_neg e, if_neg e]
theorem one_new (L : List (List Int)) (hL : goodB L = true) (hr : rowsAt L 1000) (hsz : L.length ≤ 1000) (ts : List T) (h : ts.map bare = upB L L.length) :
    OneS L (idleUp ts (List.replicate L.length false) L.length) (List.replicate 1 (-1)) (leftUp L.length (List.replicate L.length false) L.length) 0 0 := by
  obtain ⟨a, b⟩ := begin_plan L hL hr hsz ts h (List.replicate L.length false) (by simp) 1
  refine ⟨a, by simp, fun m hm => ?_⟩
  rw [← map_getD, b]
  rw [if_neg (by omega)]
  simp [List.getD_eq_getElem?_getD, hm, idleS]
end Go.Proofs.Ytigpcfokmbnlaaa.Sched

/- The document's Pick: what it comes to, beside what the program's comes to. -/
namespace Go.Proofs.Ytigpcfokmbnlaaa.Sched
open Go.RowKit Go.Proofs.YtigpcfokmbnlaaaW.PrintWords

theorem filter_first (p : Nat → Bool) (N i : Nat) (hi : i < N) (hp : p i = true) (hb : ∀ j, j < i → p j = false) : ∃ r, (List.range N).filter p = i :: r := by
  refine ⟨((List.range N).drop (i + 1)).filter p, ?_⟩
  have h1 : (List.range N).filter p = ((List.range N).take i ++ (List.range N).drop i).filter p := by rw [List.take_append_drop]
  have h2 : ((List.range N).take i).filter p = [] := by
    rw [List.filter_eq_nil_iff]
    intro j hj
    obtain ⟨m, hm, rfl⟩ := List.mem_iff_getElem.1 hj
    have : m < i := by simp at hm; omega
    simp [hb m this]
  rw [h1, List.filter_append, h2, List.nil_append, List.drop_eq_getElem_cons (by simpa using hi), List.filter_cons]
  simp [hp]
theorem readyL_first (ts : List T) (i : Nat) (h : firstI readyB ts = (i : Int)) : ∃ r, readyL ts ts.length = (i : Int) :: r := by
  rcases firstI_cases readyB ts with ⟨h1, _⟩ | ⟨j, h1, hj, hr, hb⟩
  · omega
  · have : j = i := by omega
    subst this
    obtain ⟨r, hr⟩ := filter_first (fun i => readyB (ts.getD i zT)) ts.length j hj hr hb
    exact ⟨r.map fun i : Nat => (i : Int), by unfold readyL; rw [hr]; rfl⟩
theorem readyL_none (ts : List T) (h : firstI readyB ts = -1) : readyL ts ts.length = [] := by
  rcases firstI_cases readyB ts with ⟨_, hb⟩ | ⟨j, h1, _⟩
  · unfold readyL
    rw [List.map_eq_nil_iff, List.filter_eq_nil_iff]
    intro j hj
    rw [hb j (by simpa using hj)]
    decide
  · omega
theorem held_first (ts : List T) (i : Nat) (h : firstI heldB ts = (i : Int)) : ∀ j, j < i → (ts.getD j zT).worker = -1 := by
  rcases firstI_cases heldB ts with ⟨h1, _⟩ | ⟨j, h1, hj, hr, hb⟩
  · omega
  · have : j = i := by omega
    subst this
    intro m hm
    have := hb m hm
    unfold heldB at this
    simpa using this
theorem getD_setB (l : List Bool) (i m : Nat) (t : Bool) (hi : i < l.length) : (l.set i t).getD m false = if m = i then t else l.getD m false := by
  simp only [List.getD_eq_getElem?_getD, List.getElem?_set]
  by_cases e : m = i
  · subst e; simp [hi]
  · rw [if_neg (Ne.symm e), if_neg e]
section
variable {L : List (List Int)} {ts us : List T} {has has' : List Int} {left left' : Int} {E R : List Bool} {n i wk : Nat} {k : Int}
/-- The document's plan behind it. -/
theorem Mod.went (h : Mod L ts has left E R) (hW : Went L ts has left n k i wk us has' left') :
    Mod L us has' left' (if k = 3 then E.set i true else E) (if k = 1 then R.set n false else if k = 2 then R.set wk true else R.set wk false) := by
  have hlen := h.pinv.inv.len
  have hlen' := hW.pinv.inv.len
  have hi : i < ts.length := by rw [hlen]; exact hW.lt
  have hst : ∀ m, (us.getD m zT).state = if m = i then k else (ts.getD m zT).state := state_set hi hW.states
  have hRl := h.ranLen
  have hwl := hW.wlt
  have hkind := hW.kind
  have hlow := hW.low
  have hhigh := hW.high
  have hn1 : k = 1 → wk = n := fun e => by
    rcases hW.how with ⟨_, q⟩ | ⟨_, _, q, _⟩ | ⟨_, q, _⟩
    · exact q
    · exact q
    · exact absurd e q
  -- of whom a task is
  have uniq : ∀ w, w < has.length → ∀ j : Nat, has.getD w 0 = j → (ts.getD j zT).worker = w ∧ ((ts.getD j zT).state = 1 ∨ (ts.getD j zT).state = 2) := by
    intro w hw j hj
    rcases h.pinv.hasOk w hw with q | ⟨j', _, q1, q2, q3⟩
    · omega
    · have : j' = j := by omega
      subst this
      exact ⟨q2, q3⟩
  have far : ∀ w, w < has.length → w ≠ wk → ∀ j : Nat, has.getD w 0 = j → j ≠ i := by
    rintro w hw hne j hj rfl
    obtain ⟨q1, q2⟩ := uniq w hw j hj
    by_cases h1 : k = 1
    · omega
    · have := (uniq wk hwl j (hW.who h1)).1
      omega
  refine ⟨hW.pinv, ?_, ?_, ?_⟩
  · have e1 : us.map (fun t => t.state == 3) = (us.map T.state).map (fun s => s == 3) := by rw [List.map_map]; rfl
    have e2 : ts.map (fun t => t.state == 3) = (ts.map T.state).map (fun s => s == 3) := by rw [List.map_map]; rfl
    rw [e1, hW.states, List.map_set, ← e2, ← h.ended]
    by_cases h3 : k = 3
    · rw [if_pos h3]; simp [h3]
    · rw [if_neg h3]
      have hE : i < E.length := by rw [h.ended, List.length_map]; exact hi
      have : E[i] = (k == 3) := by
        have e3 : E.getD i false = ((ts.getD i zT).state == 3) := by rw [h.ended, getD_mapB ts i hi]
        have e4 : E.getD i false = E[i] := by simp [List.getD_eq_getElem?_getD, hE]
        rw [← e4, e3]
        have : ((ts.getD i zT).state == 3) = false := by rw [beq_eq_false_iff_ne]; omega
        rw [this, eq_comm, beq_eq_false_iff_ne]; exact h3
      rw [← this, List.set_getElem_self]
  · rw [hW.has_]
    split <;> (try split) <;> simp [*] <;> (try split) <;> simp [*]
  · intro w hw j hj
    have hl' : has'.length = has.length := by rw [hW.has_]; split <;> (try split) <;> simp
    rw [hl'] at hw
    rw [hst]
    by_cases h1 : k = 1
    · have hwn := hn1 h1
      subst hwn
      rw [if_pos h1]
      rw [hW.has_, if_pos h1, getD_set_int _ _ _ _ hwl] at hj
      rw [getD_setB _ _ _ _ (by omega)]
      by_cases e : w = wk
      · rw [if_pos e] at hj ⊢
        have : j = i := by omega
        rw [if_pos this, h1]; rfl
      · rw [if_neg e] at hj ⊢
        rw [if_neg (far w hw e j hj)]
        exact h.ran w hw j hj
    · rw [if_neg h1]
      rw [hW.has_, if_neg h1] at hj
      by_cases h3 : k = 3
      · rw [if_pos h3, getD_set_int _ _ _ _ hwl] at hj
        rw [if_neg (show ¬ k = 2 by omega), getD_setB _ _ _ _ (by omega)]
        by_cases e : w = wk
        · rw [if_pos e] at hj; omega
        · rw [if_neg e] at hj ⊢
          rw [if_neg (far w hw e j hj)]
          exact h.ran w hw j hj
      · rw [if_neg h3] at hj
        rw [if_pos (show k = 2 by omega), getD_setB _ _ _ _ (by omega)]
        by_cases e : w = wk
        · subst e
          have := hW.who h1
          have : j = i := by omega
          rw [if_pos rfl, if_pos this, show k = 2 by omega]; rfl
        · rw [if_neg e, if_neg (far w hw e j hj)]
          exact h.ran w hw j hj
theorem refPick_went (p : Int) {W : World} {v : MV} (h : Mod L ts has left E R) (hW : Went L ts has left n k i wk us has' left') (hn : n < has.length) (hL : goodB L = true) (hrow : rowsAt L 1000) (hsz : L.length ≤ 1000) (hwn : has.length ≤ 1000) (hm : MC W v L E has R) (hl : left ≠ 0) :
    Calls Try.prog 19 #[.agg (v.cells L E has R p), .int .i64 n] W fun e w' => ∃ (v' : MV) (E' R' : List Bool), e = .returned (.tuple #[.agg (v'.cells L E' has' R' (wrap64 (p + 1))), .agg #[.int .i64 k, .int .i64 i, .int .i64 wk], .int .i64 0]) ∧ MCnew W.heap.size v' ∧ v'.A = v.A ∧ MC w' v' L E' has' R' ∧ Mod L us has' left' E' R' ∧ Below W.heap.size W w' := by
  have hmod := h.went hW
  have hlow := hW.low
  have hhigh := hW.high
  have hkind := hW.kind
  have hhas := hW.has_
  -- a worker's task has been run, or has not
  have hrun : ∀ w, w < has.length → has.getD w 0 = (i : Int) → R.getD w false = (k == 3) := by
    intro w hw hi
    rw [h.ran w hw i hi, hkind, Bool.eq_iff_iff, beq_iff_eq, beq_iff_eq]
    omega
  rcases hW.how with ⟨hh, rfl⟩ | ⟨hh, hk1, rfl, hf⟩ | ⟨hh, hk1, hf, hf2⟩
  · have hs : k = 2 ∨ k = 3 := by
      rcases h.pinv.hasOk wk hn with q | ⟨j, _, q1, _, q3⟩
      · omega
      · have : j = i := by omega
        subst this
        omega
    have hr := hrun wk hn hh
    rcases hs with rfl | rfl
    · simp only [show ¬ ((2 : Int) = 1) by decide, show ¬ ((2 : Int) = 3) by decide, if_false, if_true] at hmod hhas
      subst hhas
      refine (refPick_same2 p wk hn h hsz hwn hm hl i hW.lt hh hr).mono ?_
      rintro e w' ⟨v', rfl, h0, ha, h1, h2⟩
      exact ⟨v', _, _, rfl, h0, ha, h1, hmod, h2⟩
    · simp only [show ¬ ((3 : Int) = 1) by decide, show ¬ ((3 : Int) = 2) by decide, if_false, if_true] at hmod hhas
      subst hhas
      refine (refPick_same3 p wk hn h hsz hwn hm hl i hW.lt hh hr).mono ?_
      rintro e w' ⟨v', rfl, h0, ha, h1, h2⟩
      exact ⟨v', _, _, rfl, h0, ha, h1, hmod, h2⟩
  · subst hk1
    simp only [show ¬ ((1 : Int) = 3) by decide, if_false, if_true] at hmod hhas
    subst hhas
    obtain ⟨r, hr⟩ := readyL_first ts i hf
    refine (refPick_take p wk hn h hsz hwn hm hl hL hrow i r hh hr).mono ?_
    rintro e w' ⟨v', rfl, h0, ha, h1, h2⟩
    exact ⟨v', _, _, rfl, h0, ha, h1, hmod, h2⟩
  · have hs : k = 2 ∨ k = 3 := by omega
    have hwho := hW.who hk1
    have hr := hrun wk hW.wlt hwho
    have hwork : (ts.getD i zT).worker = wk := by
      rcases h.pinv.hasOk wk hW.wlt with q | ⟨j, _, q1, q2, _⟩
      · omega
      · have : j = i := by omega
        subst this
        exact q2
    rcases hs with rfl | rfl
    · simp only [show ¬ ((2 : Int) = 1) by decide, show ¬ ((2 : Int) = 3) by decide, if_false, if_true] at hmod hhas
      subst hhas
      refine (refPick_other2 p n hn h hsz hwn hm hl hL hrow i wk hW.lt hW.wlt hh (readyL_none ts hf) hwho hr hwork (held_first ts i hf2)).mono ?_
      rintro e w' ⟨v', rfl, h0, ha, h1, h2⟩
      exact ⟨v', _, _, rfl, h0, ha, h1, hmod, h2⟩
    · simp only [show ¬ ((3 : Int) = 1) by decide, show ¬ ((3 : Int) = 2) by decide, if_false, if_true] at hmod hhas
      subst hhas
      refine (refPick_other3 p n hn h hsz hwn hm hl hL hrow i wk hW.lt hW.wlt hh (readyL_none ts hf) hwho hr hwork (held_first ts i hf2)).mono ?_
      rintro e w' ⟨v', rfl, h0, ha, h1, h2⟩
      exact ⟨v', _, _, rfl, h0, ha, h1, hmod, h2⟩
end
end Go.Proofs.Ytigpcfokmbnlaaa.Sched

/- A plan stands as the document says: the walk of the statement's own question. -/
namespace Go.Proofs.Ytigpcfokmbnlaaa.Sched
open Go.RowKit Go.Proofs.YtigpcfokmbnlaaaW.PrintWords Go.Proofs.Ytigpcfokmbnlaaa.PSchedPlays

theorem ints_from (xs : List Int) (hx : xs.length ≤ 1000) : ∀ (m i : Nat), i + m = xs.length → ∃ k, sluicewaynum_Ints.l0 k xs xs (xs.length : Int) (i : Int) = some true := by
  intro m
  induction m with
  | zero =>
    intro i hi
    have e : ¬ (i : Int) < (xs.length : Int) := by omega
    exact ⟨1, by simp only [sluicewaynum_Ints.l0, e, if_false]⟩
  | succ m ih =>
    intro i hi
    obtain ⟨k, hk⟩ := ih (i + 1) (by omega)
    have e : (i : Int) < (xs.length : Int) := by omega
    have e0 : (0 : Int) ≤ (i : Int) := by omega
    exact ⟨k + 1, by simp only [sluicewaynum_Ints.l0, e, e0, if_true, wrap_succ i (by omega), hk]⟩
theorem ints_same (xs : List Int) (hx : xs.length ≤ 1000) (A0 A1 : Option Addr) (c0 c1 : Nat) (w : World) (h0 : Kd.C (Kd.int .i64) w A0 xs.length xs) (hc0 : xs.length ≤ c0) (h1 : Kd.C (Kd.int .i64) w A1 xs.length xs) (hc1 : xs.length ≤ c1) :
    Calls Try.prog 31 #[.slice A0 xs.length c0, .slice A1 xs.length c1] w fun e w' => e = .returned (.bool true) ∧ Drawn0 w w' := by
  obtain ⟨k, hk⟩ := ints_from xs hx xs.length 0 (by omega)
  exact sluicewaynum_Ints.calls k A0 c0 xs A1 c1 xs true w h0 hc0 h1 hc1 (by unfold sluicewaynum_Ints.f; rw [if_pos rfl]; exact hk)
theorem hasOf_out (has : List Int) (x : Int) (h : x < 0 ∨ (has.length : Int) ≤ x) : hasOf has x = -1 := by unfold hasOf; rw [if_pos h]
theorem hasOf_in (has : List Int) (j : Nat) (h : j < has.length) : hasOf has (j : Int) = has.getD j 0 := by
  unfold hasOf; rw [if_neg (by omega), Int.toNat_natCast]
set_option maxHeartbeats 4000000 in
set_option maxRecDepth 100000 in
theorem stands_calls (P : Pl) (ts : List T) (has : List Int) (picks left : Int) (w : World) (A : Option Addr) (c : Nat) (AE : Option Addr) (cE : Nat) (AH : Option Addr) (cH : Nat) (AR : Option Addr) (cR : Nat) (L : List (List Int)) (E R : List Bool) (h : IsPlan w P ts has picks left) (hm : MC w ⟨A, c, AE, cE, AH, cH, AR, cR⟩ L E has R) (hmod : Mod L ts has left E R)
    (hL : goodB L = true) (hr : rowsAt L 1000) (hsz : L.length ≤ 1000) (hwn : has.length ≤ 1000) (hpos : 0 < has.length) :
    Calls Try.prog 20 #[.pointer (some ⟨P.gp, 0, none⟩), .agg #[.slice A L.length c, .slice AE E.length cE, .slice AH has.length cH, .slice AR R.length cR, .int .i64 picks]] w fun e w' => e = .returned (.bool true) ∧ Below w.heap.size w w' := by
  have hu46 := Try.underlying46
  have hmh : has.length ≤ 9223372036854775807 := by omega
  have HB0 : Aside0 (Below w.heap.size w (w.alloc (.cells #[.slice A L.length c, .slice AE E.length cE, .slice AH has.length cH, .slice AR R.length cR, .int .i64 picks] 46))) := ⟨below_alloc (Below.refl _ _) _⟩
  have HH : Aside0 (∀ w', Below w.heap.size w w' → ∀ n : Int, Calls Try.prog 21 #[.pointer (some ⟨P.gp, 0, none⟩), .int .i64 n] w' fun e w'' => e = .returned (.int .i64 (hasOf has n)) ∧ w'' = w') := ⟨fun w' hb n => has_calls P ts has picks left w' (h.keep hb) n⟩
  have HRD : Aside0 (∀ w', Below w.heap.size w w' → Calls Try.prog 15 #[.pointer (some ⟨P.gp, 0, none⟩)] w' fun e w'' => ∃ v, e = .returned v ∧ (Kd.int .i64).R 3 w'' w'.heap.size (fun _ => True) v (readyL ts ts.length) ∧ Below w'.heap.size w' w'') := ⟨fun w' hb => readyAll_calls P ts has picks left w' (h.keep hb)⟩
  have HRR : Aside0 (∀ w', Below w.heap.size w w' → Calls Try.prog 29 #[.agg #[.slice A L.length c, .slice AE E.length cE, .slice AH has.length cH, .slice AR R.length cR, .int .i64 picks]] w' fun e w'' => ∃ v0 : Value, e = .returned v0 ∧ Kd.R (Kd.int .i64) 3 w'' w'.heap.size (fun _ => True) v0 (readyL ts ts.length) ∧ Below w'.heap.size w' w'') := ⟨fun w' hb => refReady_calls (v := ⟨A, c, AE, cE, AH, cH, AR, cR⟩) picks hmod hL hr hsz hwn (hm.below hb)⟩
  have HRL : Aside0 (∀ w', Below w.heap.size w w' → Calls Try.prog 28 #[.agg #[.slice A L.length c, .slice AE E.length cE, .slice AH has.length cH, .slice AR R.length cR, .int .i64 picks]] w' fun e w'' => e = .returned (.int .i64 left) ∧ Below w'.heap.size w' w'') := ⟨fun w' hb => refLeft_calls (v := ⟨A, c, AE, cE, AH, cH, AR, cR⟩) picks hmod hsz (hm.below hb)⟩
  have HPL : Aside0 (∀ w', Below w.heap.size w w' → IsPlan w' P ts has picks left) := ⟨fun w' hb => h.keep hb⟩
  have HRS : Aside0 ((readyL ts ts.length).length ≤ 1000) := ⟨by have := readyL_len ts ts.length; have := hmod.pinv.inv.len; omega⟩
  have HAH : Aside0 (∀ j : Nat, j < has.length → ∃ ad, AH = some ad ∧ (w.alloc (.cells #[.slice A L.length c, .slice AE E.length cE, .slice AH has.length cH, .slice AR R.length cR, .int .i64 picks] 46)).cell? (ad.add j) = some (.int .i64 (has.getD j 0))) := ⟨fun j hj => by
    obtain ⟨ad, h1, h2⟩ := Kd.at_int (hm.below (below_alloc (Below.refl _ _) (.cells #[.slice A L.length c, .slice AE E.length cE, .slice AH has.length cH, .slice AR R.length cR, .int .i64 picks] 46))).h (j : Int) (by omega) (by show (j : Int) < _; omega)
    rw [Int.toNat_natCast] at h2
    unfold rd at h2
    rw [Int.toNat_natCast] at h2
    exact ⟨ad, h1, h2⟩⟩
  have H3 : Aside0 ((w.alloc (.cells #[.slice A L.length c, .slice AE E.length cE, .slice AH has.length cH, .slice AR R.length cR, .int .i64 picks] 46)).heap[w.heap.size]? = some (.cells #[.slice A L.length c, .slice AE E.length cE, .slice AH has.length cH, .slice AR R.length cR, .int .i64 picks] 46 (0, 0))) := ⟨heap_alloc_new _ _⟩
  obtain ⟨ad, hA0, -⟩ := HAH.out 0 hpos
  subst hA0
  clear h hm hmod hL hr
  go_enter Try.func20, Try.ntmps20
  obtain ⟨e0, e1, e2, e3, e4⟩ := cells5 H3.out
  go_wp2
  generalize w.alloc (.cells #[.slice A L.length c, .slice AE E.length cE, .slice (some ad) has.length cH, .slice AR R.length cR, .int .i64 picks] 46) = w1 at HB0 HAH H3 e0 e1 e2 e3 e4 ⊢
  go_loopw [5] (fun s wr => ∃ (k : Nat) (x : Int), k ≤ has.length + 2 ∧ x = (k : Int) - 1 ∧ s = .int .i64 x ∧ wr = w1) (fun s _ => (has.length + 2 : Nat) - (intOf s + 1).toNat)
  case atStart => exact ⟨0, -1, by omega, by omega, rfl, rfl⟩
  case round =>
    obtain ⟨k, x, hk, hx, rfl, rfl⟩ := hrel
    have HX := Aside0.mk (And.intro hk hx)
    have HC := HH.out wr HB0.out x
    clear hk hx
    by_cases hlt : x ≤ (has.length : Int)
    · have b0 : decide (x ≤ (has.length : Int)) = true := by simp; omega
      by_cases hneg : x = -1
      · subst hneg
        rw [hasOf_out has (-1) (.inl (by decide))] at HC
        clear hlt
        go_wp2_with fail
        refine HC.mono ?_
        rintro e w' ⟨rfl, rfl⟩
        go_wp2_with fail
        go_roundw
        case rel => exact ⟨k + 1, _, by have := HX.out; omega, by have := HX.out; omega, rfl, trivial⟩
        case measure => have := HX.out; simp [intOf]
      · obtain ⟨j, rfl⟩ : ∃ j : Nat, x = (j : Int) := ⟨k - 1, by have := HX.out; omega⟩
        have b2 : decide ((0 : Int) ≤ (j : Int)) = true := by simp
        have b0' : decide (j ≤ has.length) = true := by simp; omega
        have hw : wrap64 ((j : Int) + 1) = ((j + 1 : Nat) : Int) := wrap_succ j (by omega)
        by_cases hj : j < has.length
        · have b3 : decide ((j : Int) < (has.length : Int)) = true := by simp; omega
          have b3' : decide (j < has.length) = true := by simp; omega
          have hj2 : (j : Int) < (has.length : Int) := by omega
          obtain ⟨ad', hA1, hc⟩ := HAH.out j hj
          injection hA1 with hA1
          subst hA1
          rw [hasOf_in has j hj] at HC
          generalize has.getD j 0 = y at HC hc
          have HW := Aside0.mk hw
          clear hlt hneg hj hw
          go_wp2_with fail
          refine HC.mono ?_
          rintro e w' ⟨rfl, rfl⟩
          go_wp2_with fail
          go_roundw
          case rel => exact ⟨k + 1, _, by have := HX.out; omega, by have := HX.out; omega, rfl, trivial⟩
          case measure => have := HX.out; simp only [intOf]; omega
        · have b3 : decide ((j : Int) < (has.length : Int)) = false := by simp; omega
          have b3' : decide (j < has.length) = false := by simp; omega
          rw [hasOf_out has (j : Int) (.inr (by omega))] at HC
          have HW := Aside0.mk hw
          have HJ : Aside0 (j = has.length) := ⟨by omega⟩
          have hj4 : (j : Int) ≤ (has.length : Int) := by omega
          clear hlt hneg hj hw
          go_wp2_with fail
          refine HC.mono ?_
          rintro e w' ⟨rfl, rfl⟩
          go_wp2_with fail
          go_roundw
          case rel => exact ⟨k + 1, _, by have := HX.out; have := HJ.out; omega, by have := HX.out; omega, rfl, trivial⟩
          case measure => have := HX.out; have := HJ.out; simp only [intOf]; omega
    · have b0 : decide (x ≤ (has.length : Int)) = false := by simp; omega
      clear HC HX
      have HS9 : Aside0 (∀ w', Below wr.heap.size wr w' → w'.cell? ⟨w.heap.size, 0, none⟩ = some (.slice A L.length c) ∧ w'.cell? ⟨w.heap.size, 1, none⟩ = some (.slice AE E.length cE) ∧ w'.cell? ⟨w.heap.size, 2, none⟩ = some (.slice (some ad) has.length cH) ∧ w'.cell? ⟨w.heap.size, 3, none⟩ = some (.slice AR R.length cR) ∧ w'.cell? ⟨w.heap.size, 4, none⟩ = some (.int .i64 picks)) := ⟨fun w' hb => cells5 (blk_below H3.out hb)⟩
      have HB9 := Aside0.mk (below_drew1 (Below.refl wr.heap.size wr))
      have hbl : decide (left = left) = true := by simp
      go_wp2_with fail
      go_region_held3 (fun w' => w'.cell? ⟨w.heap.size, 0, none⟩ = some (.slice A L.length c) ∧ w'.cell? ⟨w.heap.size, 1, none⟩ = some (.slice AE E.length cE) ∧ w'.cell? ⟨w.heap.size, 2, none⟩ = some (.slice (some ad) has.length cH) ∧ w'.cell? ⟨w.heap.size, 3, none⟩ = some (.slice AR R.length cR) ∧ w'.cell? ⟨w.heap.size, 4, none⟩ = some (.int .i64 picks)) (first | exact ⟨e0, e1, e2, e3, e4⟩ | exact HS9.out _ HBA.out | exact HS9.out _ HBB.out | exact HS9.out _ HBC.out | exact HS9.out _ HBD.out | exact HS9.out _ HBE.out)
        (first
        | (go_at_call 15; refine (HRD.out _ (below_step HB0.out HB9.out)).mono ?_; rintro e w2 ⟨v1, rfl, hr1, hb2⟩; have HBA := Aside0.mk (below_step HB9.out hb2); obtain ⟨A1, c1, he1, hl1, hC1⟩ := Kd.R_reads hr1; subst he1; have HC1 := Aside0.mk (And.intro hl1 hC1); clear hr1 hb2 hl1 hC1)
        | (go_at_call 29; refine (HRR.out _ (below_step HB0.out HBA.out)).mono ?_; rintro e w3 ⟨v2, rfl, hr2, hb3⟩; have HBB := Aside0.mk (below_step HBA.out hb3); obtain ⟨A2, c2, he2, hl2, hC2⟩ := Kd.R_reads hr2; subst he2; have HC2 := Aside0.mk (And.intro hl2 hC2); have HC3 := Aside0.mk (Kd.C_below HC1.out.2 hb3); clear hr2 hb3 hl2 hC2)
        | (go_at_call 31; refine (ints_same _ HRS.out _ _ _ _ _ HC3.out HC1.out.1 HC2.out.2 HC2.out.1).mono ?_; rintro e w4 ⟨rfl, hd4⟩; have HBC : Aside0 (Below wr.heap.size wr w4) := ⟨by obtain ⟨nd, rfl⟩ := hd4; exact below_drewN HBB.out nd⟩; clear hd4)
        | (go_at_call 14; refine (left_calls P ts has picks left _ (HPL.out _ (below_step HB0.out HBC.out))).mono ?_; rintro e w5 ⟨rfl, rfl⟩)
        | (go_at_call 28; refine (HRL.out _ (below_step HB0.out HBC.out)).mono ?_; rintro e w6 ⟨rfl, hb6⟩; have HBD := Aside0.mk (below_step HBC.out hb6); have HTOK := HBC; clear HBC hb6)
        | (go_at_call 12; refine (done_calls P ts has picks left _ (HPL.out _ (below_step HB0.out HBD.out))).mono ?_; rintro e w7 ⟨rfl, rfl⟩)
        | (go_at_call 28; refine (HRL.out _ (below_step HB0.out HBD.out)).mono ?_; rintro e w8 ⟨rfl, hb8⟩; have HBE := Aside0.mk (below_step HBD.out hb8); clear HBD hb8)
        | (go_at_call 13; refine (picks_calls P ts has picks left _ (HPL.out _ (below_step HB0.out HBE.out))).mono ?_; rintro e w9 ⟨rfl, rfl⟩))
      go_wp2_with fail
      go_ret
      exact ⟨rfl, below_step HB0.out HBE.out⟩
end Go.Proofs.Ytigpcfokmbnlaaa.Sched

/- One pick, by the program and by the document. -/
namespace Go.Proofs.Ytigpcfokmbnlaaa.Sched
open Go.RowKit Go.Proofs.YtigpcfokmbnlaaaW.PrintWords Go.Proofs.Ytigpcfokmbnlaaa.PSchedPlays

section
variable {α : Type} {enc : α → Value} {h1 : ∀ x, (enc x).oneCell' = true} {W W' : World} {n : Nat} {A : Option Addr} {xs : List α} {P : Pl}
theorem C_stp (h : (Kd.scalar enc h1).C W A n xs) (hs : Stp W W' P) (hf : ∀ ad, A = some ad → ad.block ≠ P.gp ∧ ad.block ≠ P.gt ∧ ad.block ≠ P.gh) : (Kd.scalar enc h1).C W' A n xs := by
  refine ⟨h.1, h.2.1, fun hn => ?_⟩
  obtain ⟨ad, he, hc⟩ := h.2.2 hn
  refine ⟨ad, he, fun j p hj => ?_⟩
  obtain ⟨cs, h2, h3, h4⟩ := hc j p hj
  refine ⟨cs, h2, h3, fun i u hu => ?_⟩
  have h5 := h4 i u hu
  have hlt := World.block_lt_of_cell? W _ h5
  obtain ⟨n1, n2, n3⟩ := hf ad he
  rw [← h5]
  unfold World.cell?
  rw [hs.block _ hlt (by rw [add_block]; exact n1) (by rw [add_block]; exact n2) (by rw [add_block]; exact n3)]
end
/-- The document's rows are none of a block. -/
structure Apart (g : Nat) (v : MV) (E : List Bool) (has : List Int) (R : List Bool) : Prop where
  e : ∀ ad, v.AE = some ad → 0 < E.length → ad.block ≠ g
  h : ∀ ad, v.AH = some ad → 0 < has.length → ad.block ≠ g
  r : ∀ ad, v.AR = some ad → 0 < R.length → ad.block ≠ g
section
variable {α : Type} {enc : α → Value} {h1 : ∀ x, (enc x).oneCell' = true} {W W' : World} {n g : Nat} {A : Option Addr} {xs : List α} {cs : Array Value}
theorem C_lt (h : (Kd.scalar enc h1).C W A n xs) (hn : 0 < n) : ∀ ad, A = some ad → ad.block < W.heap.size := by
  intro ad ha
  obtain ⟨ad', he, hc⟩ := h.2.2 hn
  have : ad' = ad := by rw [he] at ha; injection ha
  subst this
  have hl : 0 < xs.length := by have := h.1; omega
  obtain ⟨c, h2, h3, h4⟩ := hc 0 xs[0] (by simp [hl])
  have h5 := h4 0 (enc xs[0]) (by rw [h3]; rfl)
  have h6 := World.block_lt_of_cell? W _ h5
  rwa [add_block] at h6
theorem C_row (h : (Kd.scalar enc h1).C W A n xs) (hf : ∀ ad, A = some ad → 0 < n → ad.block ≠ g) : (Kd.scalar enc h1).C (W.setRow g cs) A n xs := by
  refine ⟨h.1, h.2.1, fun hn => ?_⟩
  obtain ⟨ad, he, hc⟩ := h.2.2 hn
  refine ⟨ad, he, fun j p hj => ?_⟩
  obtain ⟨c, h2, h3, h4⟩ := hc j p hj
  refine ⟨c, h2, h3, fun i u hu => ?_⟩
  have h5 := h4 i u hu
  have hne := hf ad he hn
  rw [← h5]
  unfold World.cell?
  rw [setRow_other _ _ _ _ (by rw [add_block]; exact hne)]
end
theorem Apart.of_MC {W : World} {v : MV} {L : List (List Int)} {E : List Bool} {has : List Int} {R : List Bool} {g : Nat} (h : MC W v L E has R) (hg : W.heap.size ≤ g) : Apart g v E has R :=
  ⟨fun ad ha hn => by have := C_lt h.e hn ad ha; omega, fun ad ha hn => by have := C_lt h.h hn ad ha; omega, fun ad ha hn => by have := C_lt h.r hn ad ha; omega⟩
theorem Apart.of_new {v : MV} {E : List Bool} {has : List Int} {R : List Bool} {g N : Nat} (h : MCnew N v) (hg : g < N) : Apart g v E has R :=
  ⟨fun ad ha _ => by have := h.e ad ha; omega, fun ad ha _ => by have := h.h ad ha; omega, fun ad ha _ => by have := h.r ad ha; omega⟩
/-- The rows of those who wait were made before M. -/
def RowsOld (M : Nat) (ts : List T) : Prop := ∀ t ∈ ts, ∀ ad, t.A = some ad → 0 < t.behind.length → ad.block < M
theorem RowsOld.same {B : Nat} {ts us : List T} (h : RowsOld B ts) (hs : SameRows ts us) : RowsOld B us := by
  intro t ht ad ha hn
  obtain ⟨j, hj, rfl⟩ := List.mem_iff_getElem.1 ht
  have e : us.getD j zT = us[j] := by simp [List.getD_eq_getElem?_getD, hj]
  have hj2 : j < ts.length := by rw [← hs.1]; exact hj
  have e2 : ts.getD j zT = ts[j] := by simp [List.getD_eq_getElem?_getD, hj2]
  obtain ⟨h1, h2, h3⟩ := hs.2 j
  rw [e, e2] at h1 h3
  exact h ts[j] (List.getElem_mem _) ad (by rw [← h1]; exact ha) (by rw [← h3]; exact hn)
theorem IsPlan.rowsOld {w : World} {P : Pl} {ts : List T} {has : List Int} {picks left : Int} (h : IsPlan w P ts has picks left) : RowsOld w.heap.size ts := fun t ht ad ha hn => C_lt (h.rows t ht).2.1 hn ad ha
theorem IsPlan.belowM {w w' : World} {P : Pl} {ts : List T} {has : List Int} {picks left : Int} {M : Nat} (h : IsPlan w P ts has picks left) (pm : P.gp < M ∧ P.gt < M ∧ P.gh < M) (old : RowsOld M ts) (hb : Below M w w') : IsPlan w' P ts has picks left := by
  obtain ⟨rest, hrr⟩ := h.hass
  exact ⟨h.pt, h.ph, h.th, by rw [hb.block _ pm.1]; exact h.plan, by rw [hb.block _ pm.2.1]; exact h.tasks, ⟨rest, by rw [hb.block _ pm.2.2]; exact hrr⟩, h.room, h.lent, h.lenh,
    fun t ht => ⟨(h.rows t ht).1, by
      have hC := (h.rows t ht).2.1
      refine ⟨hC.1, hC.2.1, fun hn => ?_⟩
      obtain ⟨ad, he, hc⟩ := hC.2.2 hn
      refine ⟨ad, he, fun j p hj => ?_⟩
      obtain ⟨cs, h2, h3, h4⟩ := hc j p hj
      refine ⟨cs, h2, h3, fun i u hu => ?_⟩
      have h5 := h4 i u hu
      have := old t ht ad he hn
      rw [← h5]
      unfold World.cell?
      rw [hb.block _ (by rw [add_block]; exact this)], (h.rows t ht).2.2⟩⟩
/-- The plan and the document's, side by side. -/
structure Both (w : World) (M g11 nw : Nat) (P : Pl) (L : List (List Int)) (wr : World) (ts : List T) (has : List Int) (q left : Int) (v : MV) (E R : List Bool) : Prop where
  plan : IsPlan wr P ts has q left
  mod : Mod L ts has left E R
  mc : MC wr v L E has R
  new : MCnew M v
  len : has.length = nw
  l0 : Kd.C (Kd.slice 3 (Kd.int .i64)) w v.A L.length L
  pw : w.heap.size ≤ P.gp ∧ w.heap.size ≤ P.gt ∧ w.heap.size ≤ P.gh
  pm : P.gp < M ∧ P.gt < M ∧ P.gh < M
  bel : Below w.heap.size w wr
  old : RowsOld M ts
  ap : Apart g11 v E has R
  gm : M ≤ g11
  cell : wr.heap[g11]? = some (.cells (v.cells L E has R q) 46 (0, 0))
section
variable {w : World} {M g11 nw : Nat} {P : Pl} {L : List (List Int)} {wr w' : World} {ts us : List T} {has has' : List Int} {q q' left left' : Int} {v : MV} {E R : List Bool}
theorem Both.gl (h : Both w M g11 nw P L wr ts has q left v E R) : g11 < wr.heap.size := (Array.getElem?_eq_some_iff.1 h.cell).1
theorem Both.stp (h : Both w M g11 nw P L wr ts has q left v E R) (hs : Stp wr w' P) : MC w' v L E has R ∧ Below w.heap.size w w' := by
  have hb : Below w.heap.size w w' := below_trans h.bel (hs.below h.pw.1 h.pw.2.1 h.pw.2.2 h.bel.size)
  have k : ∀ ad : Addr, M ≤ ad.block → ad.block ≠ P.gp ∧ ad.block ≠ P.gt ∧ ad.block ≠ P.gh := fun ad ha => by have := h.pm; omega
  exact ⟨⟨Kd.C_below h.l0 hb, h.mc.lc, C_stp h.mc.e hs (fun ad ha => k ad (h.new.e ad ha)), h.mc.ec, C_stp h.mc.h hs (fun ad ha => k ad (h.new.h ad ha)), h.mc.hc, C_stp h.mc.r hs (fun ad ha => k ad (h.new.r ad ha)), h.mc.rc⟩, hb⟩
/-- Whatever is laid beside them. -/
theorem Both.keep (h : Both w M g11 nw P L wr ts has q left v E R) (hb : Below wr.heap.size wr w') : Both w M g11 nw P L w' ts has q left v E R :=
  ⟨h.plan.keep hb, h.mod, h.mc.below hb, h.new, h.len, h.l0, h.pw, h.pm, below_trans h.bel (hb.mono h.bel.size), h.old, h.ap, h.gm, blk_below h.cell hb⟩
/-- What one pick comes to: the same of both. -/
theorem play_step (h : Both w M g11 nw P L wr ts has q left v E R) (hL : goodB L = true) (hr : rowsAt L 1000) (hsz : L.length ≤ 1000) (hnw : nw ≤ 64) (x : Int) :
    ∃ (k i wk code : Int) (us : List T) (has' : List Int) (q' left' : Int), 0 ≤ code ∧ SameRows ts us ∧
      Calls Try.prog 11 #[.pointer (some ⟨P.gp, 0, none⟩), .int .i64 x] wr (fun e w' => e = .returned (pickV k i wk code) ∧ IsPlan w' P us has' q' left' ∧ Stp wr w' P) ∧
      (∀ W, MC W v L E has R → Calls Try.prog 19 #[.agg (v.cells L E has R q), .int .i64 x] W fun e w' => ∃ (v' : MV) (E' R' : List Bool), e = .returned (.tuple #[.agg (v'.cells L E' has' R' q'), .agg (ev3 k i wk), .int .i64 code]) ∧ (v' = v ∧ E' = E ∧ R' = R ∧ has' = has ∨ MCnew W.heap.size v') ∧ v'.A = v.A ∧ MC w' v' L E' has' R' ∧ Mod L us has' left' E' R' ∧ Below W.heap.size W w') ∧ has'.length = nw := by
  by_cases hx : x < 0 ∨ (has.length : Int) ≤ x
  · refine ⟨0, 0, 0, 1, ts, has, q, left, by decide, SameRows.refl _, ?_, ?_, h.len⟩
    · refine (pick_range P ts has q left wr x h.plan hx).mono ?_
      rintro e w' ⟨rfl, hb⟩
      exact ⟨rfl, h.plan.keep hb, (Stp.refl _ _).of_below hb⟩
    · intro W hm
      refine (refPick_range q x hm hx).mono ?_
      rintro e w' ⟨rfl, hb⟩
      exact ⟨v, E, R, rfl, .inl ⟨rfl, rfl, rfl, rfl⟩, rfl, hm.below hb, h.mod, hb⟩
  · obtain ⟨n, rfl⟩ : ∃ n : Nat, x = (n : Int) := ⟨x.toNat, by omega⟩
    have hn : n < has.length := by omega
    by_cases hl : left = 0
    · refine ⟨0, 0, 0, 12, ts, has, q, left, by decide, SameRows.refl _, ?_, ?_, h.len⟩
      · refine (pick_end P ts has q left wr n h.plan hn hl).mono ?_
        rintro e w' ⟨rfl, hb⟩
        exact ⟨rfl, h.plan.keep hb, (Stp.refl _ _).of_below hb⟩
      · intro W hm
        refine (refPick_end q n hn h.mod hsz hm hl).mono ?_
        rintro e w' ⟨rfl, hb⟩
        exact ⟨v, E, R, rfl, .inl ⟨rfl, rfl, rfl, rfl⟩, rfl, hm.below hb, h.mod, hb⟩
    · obtain ⟨k, i, wk, us, has', left', hW, hC⟩ := pick_step h.plan h.mod.pinv hL hr hsz n hn hl
      refine ⟨k, i, wk, 0, us, has', wrap64 (q + 1), left', by decide, hW.same, hC, ?_, ?_⟩
      · intro W hm
        refine (refPick_went q h.mod hW hn hL hr hsz (by have := h.len; omega) hm hl).mono ?_
        rintro e w' ⟨v', E', R', rfl, h0, ha, h1, h2, h3⟩
        exact ⟨v', E', R', rfl, .inr h0, ha, h1, h2, h3⟩
      · rw [hW.has_, ← h.len]
        split <;> (try split) <;> simp
/-- One round: both behind it. -/
theorem Both.next (h : Both w M g11 nw P L wr ts has q left v E R) {w2 w3 w4 w5 : World} (hsame : SameRows ts us) (hpl : IsPlan w2 P us has' q' left') (hst : Stp wr w2 P) (hb3 : Below w2.heap.size w2 w3) {v' : MV} {E' R' : List Bool} (hnew : v' = v ∧ E' = E ∧ R' = R ∧ has' = has ∨ MCnew w3.heap.size v') (hA : v'.A = v.A) (hmc : MC w4 v' L E' has' R') (hmod : Mod L us has' left' E' R') (hb4 : Below w3.heap.size w3 w4) (hb5 : Below w4.heap.size w4 w5) (hlen : has'.length = nw) :
    Both w M g11 nw P L (w5.setRow g11 (v'.cells L E' has' R' q')) us has' q' left' v' E' R' := by
  have hgl := h.gl
  have hgm := h.gm
  have s2 := hst.size
  have s3 := hb3.size
  have s4 := hb4.size
  have s5 := hb5.size
  have hpm := h.pm
  have hold := h.old.same hsame
  have bM : Below M w2 (w5.setRow g11 (v'.cells L E' has' R' q')) := below_trans (below_trans (below_trans (hb3.mono (by omega)) (hb4.mono (by omega))) (hb5.mono (by omega))) (below_setRow _ _ _ hgm)
  have hbw : Below w.heap.size w (w5.setRow g11 (v'.cells L E' has' R' q')) := by
    have hw := h.pw
    exact below_trans (h.stp hst).2 (bM.mono (by omega))
  have hap : Apart g11 v' E' has' R' := by
    rcases hnew with ⟨rfl, rfl, rfl, rfl⟩ | hn
    · exact h.ap
    · exact Apart.of_new hn (by omega)
  have hg5 : w5.heap[g11]? = some (.cells (v.cells L E has R q) 46 (0, 0)) := by
    rw [hb5.block _ (by omega), hb4.block _ (by omega), hb3.block _ (by omega), hst.block _ hgl (by omega) (by omega) (by omega)]
    exact h.cell
  have hl0 : Kd.C (Kd.slice 3 (Kd.int .i64)) w v'.A L.length L := by rw [hA]; exact h.l0
  have hmc5 := hmc.below hb5
  refine ⟨hpl.belowM hpm hold bM, hmod, ⟨Kd.C_below hl0 hbw, hmc.lc, C_row hmc5.e hap.e, hmc.ec, C_row hmc5.h hap.h, hmc.hc, C_row hmc5.r hap.r, hmc.rc⟩, ?_, hlen, hl0, h.pw, hpm, hbw, hold, hap, hgm, setRow_heap _ _ _ _ _ _ hg5⟩
  rcases hnew with ⟨rfl, _, _, _⟩ | hn
  · exact h.new
  · exact hn.mono (by omega)
end
/-- The document's plan at first. -/
theorem mod_new (L : List (List Int)) (hL : goodB L = true) (hr : rowsAt L 1000) (hsz : L.length ≤ 1000) (ts : List T) (h : ts.map bare = upB L L.length) (idle : List Bool) (hid : idle.length = L.length) (n : Nat) :
    Mod L (idleUp ts idle L.length) (List.replicate n (-1)) (leftUp L.length idle L.length) idle (List.replicate n false) := by
  obtain ⟨a, b⟩ := begin_plan L hL hr hsz ts h idle hid n
  refine ⟨a, ?_, by simp, fun w hw i hi => ?_⟩
  · have e1 : (idleUp ts idle L.length).map (fun t => t.state == 3) = ((idleUp ts idle L.length).map T.state).map (fun s => s == 3) := by rw [List.map_map]; rfl
    rw [e1, b, List.map_map]
    have : ((fun s => s == 3) ∘ idleS) = (id : Bool → Bool) := by funext x; cases x <;> rfl
    rw [this, List.map_id]
  · have : (List.replicate n (-1 : Int)).getD w 0 = -1 := by
      rw [List.length_replicate] at hw
      simp [List.getD_eq_getElem?_getD, hw]
    omega
end Go.Proofs.Ytigpcfokmbnlaaa.Sched
