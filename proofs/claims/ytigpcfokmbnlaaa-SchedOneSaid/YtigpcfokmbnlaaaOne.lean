/- Plain law and contract: one worker takes the tasks in their order. -/
import Derived.Test.YtigpcfokmbnlaaaBegin
namespace Go.Proofs.Ytigpcfokmbnlaaa.Sched
open Go.RowKit Go.Proofs.YtigpcfokmbnlaaaW.PrintWords

structure OneS (L : List (List Int)) (ts : List T) (has : List Int) (left : Int) (i s : Nat) : Prop where
  pinv : Pinv L ts has left
  one : has.length = 1
  states : ∀ m, m < L.length → (ts.getD m zT).state = if m < i then 3 else if m = i then (s : Int) else 0
theorem OneS.next {L : List (List Int)} {ts : List T} {has : List Int} {left : Int} {i : Nat} (h : OneS L ts has left i 3) : OneS L ts has left (i + 1) 0 := by
  refine ⟨h.pinv, h.one, fun m hm => ?_⟩
  rw [h.states m hm]
  by_cases h1 : m < i
  · rw [if_pos h1, if_pos (by omega)]
  · by_cases h2 : m = i
    · rw [if_neg h1, if_pos h2, if_pos (by omega)]; rfl
    · rw [if_neg h1, if_neg h2, if_neg (by omega)]; split <;> rfl
theorem OneS.done {L : List (List Int)} {ts : List T} {has : List Int} {left : Int} {s : Nat} (h : OneS L ts has left L.length s) : left = 0 := by
  rw [h.pinv.left]
  have : nLeft (ts.map T.state) = 0 := by
    refine Nat.eq_zero_of_not_pos fun hp => ?_
    obtain ⟨j, hj, h3⟩ := nLeft_pos (ts.map T.state) (by omega)
    rw [List.length_map, h.pinv.inv.len] at hj
    rw [map_getD, h.states j hj, if_pos hj] at h3
    exact h3 rfl
  rw [this]; rfl
theorem state_set {ts us : List T} {i : Nat} {k : Int} (hi : i < ts.length) (h : us.map T.state = (ts.map T.state).set i k) (m : Nat) : (us.getD m zT).state = if m = i then k else (ts.getD m zT).state := by
  rw [← map_getD us m, h, getD_set_int _ _ _ _ (by simpa using hi), map_getD]
theorem one_pick {L : List (List Int)} {ts : List T} {has : List Int} {picks left : Int} {w : World} {P : Pl} {i s : Nat} (h : IsPlan w P ts has picks left) (ho : OneS L ts has left i s) (hL : goodB L = true) (hr : rowsAt L 1000) (hsz : L.length ≤ 1000) (hi : i < L.length) (hs : s < 3) :
    ∃ (us : List T) (has' : List Int) (left' : Int), OneS L us has' left' i (s + 1) ∧
      Calls Try.prog 11 #[.pointer (some ⟨P.gp, 0, none⟩), .int .i64 0] w fun e w' => e = .returned (pickV ((s : Int) + 1) i 0 0) ∧ IsPlan w' P us has' (wrap64 (picks + 1)) left' ∧ Stp w w' P := by
  have hp := ho.pinv
  have hlen := hp.inv.len
  have hsi : (ts.getD i zT).state = s := by rw [ho.states i hi, if_neg (by omega), if_pos rfl]
  have hl : left ≠ 0 := by
    intro h0
    have := hp.left
    have h2 := nLeft_zero (ts.map T.state) (by omega) i (by rw [List.length_map, hlen]; exact hi)
    rw [map_getD, hsi] at h2
    omega
  obtain ⟨k, j, wk, us, has', left', hw, hc⟩ := pick_step h hp hL hr hsz 0 (by rw [ho.one]; omega) hl
  have hwk : wk = 0 := by have := hw.wlt; rw [ho.one] at this; omega
  subst hwk
  have hone : has'.length = 1 := by
    rw [hw.has_]
    split
    · rw [List.length_set]; exact ho.one
    · split
      · rw [List.length_set]; exact ho.one
      · exact ho.one
  -- which task it is
  have hji : j = i := by
    by_cases e : j = i
    · exact e
    · exfalso
      have hkj := hw.kind
      have hsj := ho.states j hw.lt
      rw [if_neg e] at hsj
      have hk3 := hw.high
      have hjgt : i < j := by
        by_cases c : j < i
        · rw [if_pos c] at hsj; omega
        · omega
      rw [if_neg (by omega)] at hsj
      have hk1 : k = 1 := by omega
      have hleast := hp.least hL i hi (by rw [hsi]; omega) (fun q hq => by rw [ho.states q (by omega), if_pos hq])
      have h0j : has.getD 0 0 = -1 := by
        rcases hp.hasOk 0 (by rw [ho.one]; omega) with q | ⟨q, hq, q1, q2, q3⟩
        · exact q
        · rcases hw.how with ⟨a, _⟩ | ⟨a, _⟩ | ⟨a, _⟩
          · rw [q1] at a; have : q = j := by omega
            subst this; omega
          · exact a
          · exact a
      have hnh : heldB (ts.getD i zT) = false := by
        by_cases c : heldB (ts.getD i zT) = true
        · obtain ⟨w', hw', _, hw2, _⟩ := ready_not_held hp i hi c
          rw [ho.one] at hw'
          have : w' = 0 := by omega
          subst this
          omega
        · simpa using c
      have hri : readyB (ts.getD i zT) = true := by
        rcases hleast with q | q
        · exact q
        · rw [hnh] at q; cases q
      rcases hw.how with ⟨a, _⟩ | ⟨_, _, _, a⟩ | ⟨_, a, _⟩
      · omega
      · rcases firstI_cases readyB ts with ⟨b, _⟩ | ⟨q, b, _, _, b2⟩
        · omega
        · have hqj : q = j := by omega
          subst hqj
          rw [b2 i hjgt] at hri; cases hri
      · exact a hk1
  subst hji
  have hk : k = (s : Int) + 1 := by rw [hw.kind, hsi]
  subst hk
  refine ⟨us, has', left', ⟨hw.pinv, hone, fun m hm => ?_⟩, hc⟩
  rw [state_set (by omega) hw.states m]
  by_cases e : m = j
  · subst e; rw [if_pos rfl, if_neg (by omega), if_pos rfl]; rfl
  · rw [if_neg e, ho.states m hm, if_neg e, if_neg e]
theorem one_new (L : List (List Int)) (hL : goodB L = true) (hr : rowsAt L 1000) (hsz : L.length ≤ 1000) (ts : List T) (h : ts.map bare = upB L L.length) :
    OneS L (idleUp ts (List.replicate L.length false) L.length) (List.replicate 1 (-1)) (leftUp L.length (List.replicate L.length false) L.length) 0 0 := by
  obtain ⟨a, b⟩ := begin_plan L hL hr hsz ts h (List.replicate L.length false) (by simp) 1
  refine ⟨a, by simp, fun m hm => ?_⟩
  rw [← map_getD, b]
  rw [if_neg (by omega)]
  simp [List.getD_eq_getElem?_getD, hm, idleS]
end Go.Proofs.Ytigpcfokmbnlaaa.Sched
