/- Plain law: a new plan stands as it should. -/
import Derived.Test.YtigpcfokmbnlaaaStep
namespace Go.Proofs.Ytigpcfokmbnlaaa.Sched
open Go.RowKit Go.Proofs.YtigpcfokmbnlaaaW.PrintWords

def idleS (b : Bool) : Int := if b then 3 else 0
theorem nLeft_zeros (n : Nat) : nLeft (List.replicate n 0) = n := by
  unfold nLeft; rw [List.countP_replicate]; rfl

theorem begin_up (L : List (List Int)) (hL : goodB L = true) (hr : rowsAt L 1000) (hsz : L.length ≤ 1000) (ts : List T) (h : Inv L ts) (h0 : ∀ m, m < L.length → (ts.getD m zT).state = 0 ∧ (ts.getD m zT).worker = -1) (idle : List Bool) (hid : idle.length = L.length) (i : Nat) (hi : i ≤ L.length) :
    Inv L (idleUp ts idle i) ∧ (∀ m, m < L.length → ((idleUp ts idle i).getD m zT).state = (if m < i then idleS (idle.getD m false) else 0) ∧ ((idleUp ts idle i).getD m zT).worker = -1) ∧
      leftUp L.length idle i = nLeft ((idleUp ts idle i).map T.state) := by
  induction i with
  | zero =>
    refine ⟨h, fun m hm => by rw [if_neg (by omega)]; exact h0 m hm, ?_⟩
    have : (idleUp ts idle 0).map T.state = List.replicate L.length 0 := by
      rw [List.eq_replicate_iff]
      refine ⟨by simp [idleUp, h.len], fun x hx => ?_⟩
      obtain ⟨t, ht, rfl⟩ := List.mem_map.1 hx
      obtain ⟨j, hj, rfl⟩ := List.mem_iff_getElem.1 ht
      have hj' : j < ts.length := hj
      have := (h0 j (by rw [← h.len]; exact hj')).1
      rw [show ts.getD j zT = ts[j] by simp [List.getD_eq_getElem?_getD, hj']] at this
      exact this
    rw [this, nLeft_zeros]; rfl
  | succ i ih =>
    obtain ⟨ihI, ihS, ihL⟩ := ih (by omega)
    simp only [idleUp, leftUp]
    by_cases hb : idle.getD i false = true
    · rw [if_pos hb, if_pos hb]
      have hs0 : ((idleUp ts idle i).getD i zT).state = 0 := by rw [(ihS i (by omega)).1, if_neg (by omega)]
      obtain ⟨hE, gE⟩ := ihI.ended hL hr i (by omega) (by rw [st_nat, hs0]; decide)
      have hmap : (endTs (idleUp ts idle i) i).map T.state = ((idleUp ts idle i).map T.state).set i 3 := states_set _ _ _ _ (endTs_len _ _) (fun m hm => (gE m (by rw [← ihI.len]; exact hm)).1)
      refine ⟨hE, fun m hm => ?_, ?_⟩
      · rw [(gE m hm).1, (gE m hm).2, (ihS m hm).1, (ihS m hm).2]
        refine ⟨?_, rfl⟩
        by_cases e : m = i
        · subst e; rw [if_pos rfl, if_pos (by omega), hb]; rfl
        · rw [if_neg e]
          by_cases e2 : m < i
          · rw [if_pos e2, if_pos (by omega)]
          · rw [if_neg e2, if_neg (by omega)]
      · have hil : i < ((idleUp ts idle i).map T.state).length := by rw [List.length_map, ihI.len]; omega
        have hne : ((idleUp ts idle i).map T.state).getD i 0 ≠ 3 := by rw [map_getD, hs0]; decide
        have hns := nLeft_set _ i 3 hil hne
        rw [if_pos rfl] at hns
        have hpos : 0 < nLeft ((idleUp ts idle i).map T.state) := List.countP_pos_iff.2 ⟨((idleUp ts idle i).map T.state).getD i 0, by rw [List.getD_eq_getElem?_getD, List.getElem?_eq_getElem hil]; exact List.getElem_mem hil, by simpa using hne⟩
        have hle := nLeft_le ((idleUp ts idle i).map T.state)
        rw [List.length_map, ihI.len] at hle
        rw [hmap, hns, ihL]
        unfold wrap64
        omega
    · rw [if_neg hb, if_neg hb]
      have hb' : idle.getD i false = false := by simpa using hb
      refine ⟨ihI, fun m hm => ?_, ihL⟩
      rw [(ihS m hm).1, (ihS m hm).2]
      refine ⟨?_, rfl⟩
      by_cases e : m = i
      · subst e; rw [if_neg (by omega), if_pos (by omega), hb']; rfl
      · by_cases e2 : m < i
        · rw [if_pos e2, if_pos (by omega)]
        · rw [if_neg e2, if_neg (by omega)]
/-- A new plan's states: what is idle has ended. -/
theorem begin_plan (L : List (List Int)) (hL : goodB L = true) (hr : rowsAt L 1000) (hsz : L.length ≤ 1000) (ts : List T) (h : ts.map bare = upB L L.length) (idle : List Bool) (hid : idle.length = L.length) (n : Nat) :
    Pinv L (idleUp ts idle L.length) (List.replicate n (-1)) (leftUp L.length idle L.length) ∧ (idleUp ts idle L.length).map T.state = idle.map idleS := by
  obtain ⟨h1, h2⟩ := inv_new L hL hsz hr ts h
  obtain ⟨a, b, c⟩ := begin_up L hL hr hsz ts h1 h2 idle hid L.length (Nat.le_refl _)
  have gr : ∀ w, w < n → (List.replicate n (-1 : Int)).getD w 0 = -1 := fun w hw => by simp [List.getD_eq_getElem?_getD, hw]
  refine ⟨⟨a, fun w hw => ?_, fun i hi => ?_, c⟩, ?_⟩
  · exact .inl (gr w (by simpa using hw))
  · left
    refine ⟨(b i hi).2, ?_⟩
    rw [(b i hi).1, if_pos hi]
    cases idle.getD i false
    · exact .inl rfl
    · exact .inr rfl
  · apply List.ext_getElem
    · simp [a.len, hid]
    · intro m h1 h2
      have hm : m < L.length := by rw [List.length_map, a.len] at h1; exact h1
      have := (b m hm).1
      rw [if_pos hm, show (idleUp ts idle L.length).getD m zT = (idleUp ts idle L.length)[m]'(by rw [a.len]; exact hm) by simp [List.getD_eq_getElem?_getD, show m < (idleUp ts idle L.length).length by rw [a.len]; exact hm], show idle.getD m false = idle[m]'(by omega) by simp [List.getD_eq_getElem?_getD, show m < idle.length by omega]] at this
      simp only [List.getElem_map, this]
end Go.Proofs.Ytigpcfokmbnlaaa.Sched
