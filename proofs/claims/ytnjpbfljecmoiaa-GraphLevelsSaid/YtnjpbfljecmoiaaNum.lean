/- The contracts of sluicewaynum.Num and Is. -/
import Derived.Test.YtnjpbfljecmoiaaMeet
namespace Go.Proofs.Ytnjpbfljecmoiaa.Graph
open Go.RowKit Go.Proofs.YtnjpbfljecmoiaaW.PrintWords

/-- An error of package api as a value; 0: none. -/
def errV (n : Int) : Value := if n = 0 then .nilIface else .iface 41 (.int .i64 n)
theorem assert41 (n : Int) (w : World) : (Instr.typeAssert (.iface 41 (.int .i64 n)) 36 41 true).run Try.prog w = .ok (.tuple #[.int .i64 n, .bool true]) w := by kernel_rfl
set_option maxHeartbeats 400000 in
/-- An error of package api, or none, as its number. -/
theorem num_calls (n : Int) (w : World) (hn : 0 ≤ n) : Calls Try.prog 32 #[errV n] w fun e w' => e = .returned (.int .i64 n) ∧ Drawn0 w w' := by
  unfold errV
  by_cases h0 : n = 0
  · subst h0
    rw [if_pos rfl]
    go_enter Try.func32, Try.ntmps32
    go_wp2
    refine wp_loop_rounds 1 ?_
    rw [rounds_succ]
    go_wp2
    go_ret
    exact ⟨rfl, by repeat (first | exact Drawn0.refl _ | apply Drawn0.step)⟩
  · rw [if_neg h0]
    have hta := fun w => assert41 n w
    have b0 : (n != 0) = true := by rw [bne_iff_ne]; exact h0
    have b1 : (n == 0) = false := by rw [beq_eq_false_iff_ne]; exact h0
    go_enter Try.func32, Try.ntmps32
    go_wp2
    refine wp_loop_rounds 1 ?_
    rw [rounds_succ]
    go_wp2
    go_ret
    exact ⟨rfl, by repeat (first | exact Drawn0.refl _ | apply Drawn0.step)⟩
set_option maxHeartbeats 400000 in
theorem is_calls (n m : Int) (w : World) (hn : 0 ≤ n) : Calls Try.prog 19 #[errV n, .int .i64 m] w fun e w' => e = .returned (.bool (n == m)) ∧ Drawn0 w w' := by
  have HC := Aside0.mk (fun w => num_calls n w hn)
  clear hn
  go_enter Try.func19, Try.ntmps19
  go_wp2_with (go_at_call 32; refine (HC.out _).mono ?_; rintro e w' ⟨rfl, ⟨nd, rfl⟩⟩)
  go_ret
  exact ⟨rfl, by repeat (first | exact Drawn0.refl _ | apply Drawn0.step)⟩
end Go.Proofs.Ytnjpbfljecmoiaa.Graph
