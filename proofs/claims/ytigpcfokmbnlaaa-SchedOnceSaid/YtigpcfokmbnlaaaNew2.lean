/- sched.New: the walk. -/
import Derived.Test.YtigpcfokmbnlaaaNew1
namespace Go.Proofs.Ytigpcfokmbnlaaa.Sched
open Go.RowKit Go.Proofs.YtigpcfokmbnlaaaW.PrintWords Go.Proofs.Ytigpcfokmbnlaaa.PSchedPlays

/-- What New answers with an error. -/
def newV (n : Int) : Value := .tuple #[.pointer none, errV n]
def newBad (L : List (List Int)) (idle : List Bool) (n : Int) : Int := if (!goodB L || decide (idle.length ≠ L.length)) = true then 2 else if n < 1 ∨ 64 < n then 1 else 0

set_option maxHeartbeats 2000000 in
theorem new_bad (A0 : Option Addr) (c0 : Nat) (L : List (List Int)) (A1 : Option Addr) (c1 : Nat) (idle : List Bool) (n : Int) (w : World) (hL : L.length ≤ 1000000) (hr : rowsAt L 1000000) (hr0 : Kd.C (Kd.slice 3 (Kd.int .i64)) w A0 L.length L) (hc0 : L.length ≤ c0)
    (hbad : newBad L idle n ≠ 0) :
    Calls Try.prog 10 #[.slice A0 L.length c0, .slice A1 idle.length c1, .int .i64 n] w fun e w' => e = .returned (newV (newBad L idle n)) ∧ Drawn0 w w' := by
  have HG := Aside0.mk (good_calls A0 c0 L w hL hr hr0 hc0)
  unfold newBad at hbad ⊢
  cases hg : goodB L
  · have HH := Aside0.mk hg
    clear hg
    go_enter Try.func10, Try.ntmps10
    go_wp2_with (go_at_call 22; refine HG.out.mono ?_; rintro e w1 ⟨rfl, hd⟩; rw [HH.out])
    go_ret2
    exact ⟨rfl, hd⟩
  · have HH := Aside0.mk hg
    by_cases hi : idle.length = L.length
    · simp only [hg, hi] at hbad
      have bi : decide (((idle.length : Nat) : Int) = ((L.length : Nat) : Int)) = true := by simp [hi]
      by_cases h1 : n < 1
      · have b1 : decide (n < 1) = true := by simp; omega
        have e : (if (!true || decide (idle.length ≠ L.length)) = true then (2 : Int) else if n < 1 ∨ 64 < n then 1 else 0) = 1 := by simp [hi, h1]
        rw [e]
        clear hg hbad e h1
        go_enter Try.func10, Try.ntmps10
        go_wp2_with (go_at_call 22; refine HG.out.mono ?_; rintro e w1 ⟨rfl, hd⟩; rw [HH.out])
        try (go_quiet (fail); go_wp2)
        go_ret2
        exact ⟨rfl, by repeat (first | exact hd | apply Drawn0.step)⟩
      · have h2 : 64 < n := by
          refine Classical.byContradiction fun h2 => hbad ?_
          simp [h1, h2]
        have b1 : decide (n < 1) = false := by simp; omega
        have b2 : decide (64 < n) = true := by simp; omega
        have e : (if (!true || decide (idle.length ≠ L.length)) = true then (2 : Int) else if n < 1 ∨ 64 < n then 1 else 0) = 1 := by simp [hi, h2]
        rw [e]
        clear hg hbad e h1 h2
        go_enter Try.func10, Try.ntmps10
        go_wp2_with (go_at_call 22; refine HG.out.mono ?_; rintro e w1 ⟨rfl, hd⟩; rw [HH.out])
        try (go_quiet (fail); go_wp2)
        go_ret2
        exact ⟨rfl, by repeat (first | exact hd | apply Drawn0.step)⟩
    · have bi : decide (((idle.length : Nat) : Int) = ((L.length : Nat) : Int)) = false := by simp; omega
      have e : (if (!true || decide (idle.length ≠ L.length)) = true then (2 : Int) else if n < 1 ∨ 64 < n then 1 else 0) = 2 := by simp [hi]
      rw [e]
      clear hg hbad e
      go_enter Try.func10, Try.ntmps10
      go_wp2_with (go_at_call 22; refine HG.out.mono ?_; rintro e w1 ⟨rfl, hd⟩; rw [HH.out])
      try (go_quiet (fail); go_wp2)
      go_ret2
      exact ⟨rfl, by repeat (first | exact hd | apply Drawn0.step)⟩
end Go.Proofs.Ytigpcfokmbnlaaa.Sched
