/- The contracts of what is asked of a plan: Done, Picks, Left, Has, Ready; and of sluicewaynum.Num and Is. -/
import Derived.Test.YtigpcfokmbnlaaaPick
namespace Go.Proofs.Ytigpcfokmbnlaaa.Sched
open Go.RowKit Go.Proofs.YtigpcfokmbnlaaaW.PrintWords

section
variable (P : Pl) (ts : List T) (has : List Int) (picks left : Int) (w : World)
set_option maxHeartbeats 400000
theorem done_nil : Calls Try.prog 12 #[.pointer none] w fun e w' => e = .returned (.bool true) ∧ w' = w := by
  go_enter Try.func12, Try.ntmps12
  go_wp2
  go_ret
  exact ⟨rfl, rfl⟩
theorem picks_nil : Calls Try.prog 13 #[.pointer none] w fun e w' => e = .returned (.int .i64 0) ∧ w' = w := by
  go_enter Try.func13, Try.ntmps13
  go_wp2
  go_ret
  exact ⟨rfl, rfl⟩
theorem left_nil : Calls Try.prog 14 #[.pointer none] w fun e w' => e = .returned (.int .i64 0) ∧ w' = w := by
  go_enter Try.func14, Try.ntmps14
  go_wp2
  go_ret
  exact ⟨rfl, rfl⟩
theorem ready_nil : Calls Try.prog 15 #[.pointer none] w fun e w' => e = .returned (.slice none 0 0) ∧ w' = w := by
  go_enter Try.func15, Try.ntmps15
  go_wp2
  go_ret
  exact ⟨rfl, rfl⟩
theorem has_nil (n : Int) : Calls Try.prog 21 #[.pointer none, .int .i64 n] w fun e w' => e = .returned (.int .i64 (-1)) ∧ w' = w := by
  go_enter Try.func21, Try.ntmps21
  go_wp2
  go_ret
  exact ⟨rfl, rfl⟩
variable (h : IsPlan w P ts has picks left)
include h
theorem done_calls : Calls Try.prog 12 #[.pointer (some ⟨P.gp, 0, none⟩)] w fun e w' => e = .returned (.bool (left == 0)) ∧ w' = w := by
  obtain ⟨-, -, -, c3⟩ := h.cellP
  clear h
  go_enter Try.func12, Try.ntmps12
  go_wp2
  go_ret
  exact ⟨rfl, rfl⟩
theorem picks_calls : Calls Try.prog 13 #[.pointer (some ⟨P.gp, 0, none⟩)] w fun e w' => e = .returned (.int .i64 picks) ∧ w' = w := by
  obtain ⟨-, -, c2, -⟩ := h.cellP
  clear h
  go_enter Try.func13, Try.ntmps13
  go_wp2
  go_ret
  exact ⟨rfl, rfl⟩
theorem left_calls : Calls Try.prog 14 #[.pointer (some ⟨P.gp, 0, none⟩)] w fun e w' => e = .returned (.int .i64 left) ∧ w' = w := by
  obtain ⟨-, -, -, c3⟩ := h.cellP
  clear h
  go_enter Try.func14, Try.ntmps14
  go_wp2
  go_ret
  exact ⟨rfl, rfl⟩
/-- A worker's task; -1: it has none, or there is no such worker. -/
def hasOf (has : List Int) (n : Int) : Int := if n < 0 ∨ (has.length : Int) ≤ n then -1 else has.getD n.toNat 0
theorem has_calls (n : Int) : Calls Try.prog 21 #[.pointer (some ⟨P.gp, 0, none⟩), .int .i64 n] w fun e w' => e = .returned (.int .i64 (hasOf has n)) ∧ w' = w := by
  obtain ⟨-, c1, -, -⟩ := h.cellP
  unfold hasOf
  by_cases hneg : n < 0
  · rw [if_pos (.inl hneg)]
    have b1 : decide (n < 0) = true := by simp; omega
    clear h
    go_enter Try.func21, Try.ntmps21
    go_wp2
    go_ret
    exact ⟨rfl, rfl⟩
  · have b1 : decide (n < 0) = false := by simp; omega
    by_cases hfar : (has.length : Int) ≤ n
    · rw [if_pos (.inr hfar)]
      have b2 : decide ((has.length : Int) ≤ n) = true := by simp; omega
      clear h
      go_enter Try.func21, Try.ntmps21
      go_wp2
      go_ret
      exact ⟨rfl, rfl⟩
    · rw [if_neg (by omega)]
      obtain ⟨m, rfl⟩ := Int.eq_ofNat_of_zero_le (show 0 ≤ n by omega)
      have hm : m < has.length := by omega
      have b2 : decide (has.length ≤ m) = false := by simp; omega
      have ch := h.cellH m hm
      rw [Int.toNat_natCast]
      generalize has.getD m 0 = q at ch ⊢
      clear h b1 hneg hfar
      go_enter Try.func21, Try.ntmps21
      go_wp2
      go_ret
      exact ⟨rfl, rfl⟩
end

theorem assert43 (n : Int) (w : World) : (Instr.typeAssert (.iface 43 (.int .i64 n)) 28 43 true).run Try.prog w = .ok (.tuple #[.int .i64 n, .bool true]) w := by kernel_rfl
set_option maxHeartbeats 400000 in
/-- An error of package api, or none, as its number. -/
theorem num_calls (n : Int) (w : World) (hn : 0 ≤ n) : Calls Try.prog 18 #[errV n] w fun e w' => e = .returned (.int .i64 n) ∧ Drawn0 w w' := by
  unfold errV
  by_cases h0 : n = 0
  · subst h0
    rw [if_pos rfl]
    go_enter Try.func18, Try.ntmps18
    go_wp2
    refine wp_loop_rounds 1 ?_
    rw [rounds_succ]
    go_wp2
    go_ret
    exact ⟨rfl, by repeat (first | exact Drawn0.refl _ | apply Drawn0.step)⟩
  · rw [if_neg h0]
    have hta := fun w => assert43 n w
    have b0 : (n != 0) = true := by rw [bne_iff_ne]; exact h0
    have b1 : (n == 0) = false := by rw [beq_eq_false_iff_ne]; exact h0
    go_enter Try.func18, Try.ntmps18
    go_wp2
    refine wp_loop_rounds 1 ?_
    rw [rounds_succ]
    go_wp2
    go_ret
    exact ⟨rfl, by repeat (first | exact Drawn0.refl _ | apply Drawn0.step)⟩
set_option maxHeartbeats 400000 in
theorem is_calls (n m : Int) (w : World) (hn : 0 ≤ n) : Calls Try.prog 16 #[errV n, .int .i64 m] w fun e w' => e = .returned (.bool (n == m)) ∧ Drawn0 w w' := by
  have HC := Aside0.mk (fun w => num_calls n w hn)
  clear hn
  go_enter Try.func16, Try.ntmps16
  go_wp2_with (go_at_call 18; refine (HC.out _).mono ?_; rintro e w' ⟨rfl, ⟨nd, rfl⟩⟩)
  go_ret
  exact ⟨rfl, by repeat (first | exact Drawn0.refl _ | apply Drawn0.step)⟩
end Go.Proofs.Ytigpcfokmbnlaaa.Sched
