/- SchedNone: the law's own walk. -/
import Derived.Test.YtigpcfokmbnlaaaAlive
namespace Go.Proofs.Ytigpcfokmbnlaaa.Sched
open Go.RowKit Go.Proofs.YtigpcfokmbnlaaaW.PrintWords

set_option maxHeartbeats 4000000 in
theorem none_walk (n : Int) (w : World) : Calls Try.prog 6 #[.int .i64 n] w fun e w' => e = .returned (.bool true) ∧ Below w.heap.size w w' := by
  have z33 := z33
  have H2 := Aside0.mk (ev3_one 0 0 0)
  have HP : Aside0 (∀ W, Calls Try.prog 11 #[.pointer none, .int .i64 n] W fun e w' => e = .returned (.tuple #[.agg #[.int .i64 0, .int .i64 0, .int .i64 0], errV 12]) ∧ Below W.heap.size W w') := ⟨fun W => pick_nil n W⟩
  have HI : Aside0 (∀ W, Calls Try.prog 16 #[errV 12, .int .i64 12] W fun e w' => e = .returned (.bool true) ∧ Drawn0 W w') := ⟨fun W => is_calls 12 12 W (by omega)⟩
  go_enter Try.func6, Try.ntmps6
  go_wp2_with (first | (go_at_call 7; refine (alive_calls _).mono ?_; rintro e w1 ⟨rfl, hb1⟩) | (go_at_call 11; refine (HP.out _).mono ?_; rintro e w2 ⟨rfl, hb2⟩) | (refine wpList_store_row rfl 33 _ _ rfl _ #[.int .i64 0, .int .i64 0, .int .i64 0] rfl rfl 33 #[.int .i64 0, .int .i64 0, .int .i64 0] (heap_alloc_new _ _) (by kernel_rfl) rfl H2.out ?_; rw [World.setRow_alloc_new]) | (go_at_call 16; refine (HI.out _).mono ?_; rintro e w3 ⟨rfl, ⟨m3, rfl⟩⟩) | (go_at_call 12; refine (done_nil _).mono ?_; rintro e w4 ⟨rfl, rfl⟩) | (go_at_call 13; refine (picks_nil _).mono ?_; rintro e w5 ⟨rfl, rfl⟩) | (go_at_call 14; refine (left_nil _).mono ?_; rintro e w6 ⟨rfl, rfl⟩) | (go_at_call 15; refine (ready_nil _).mono ?_; rintro e w7 ⟨rfl, rfl⟩) | (go_at_call 21; refine (has_nil _ n).mono ?_; rintro e w8 ⟨rfl, rfl⟩))
  go_ret
  exact ⟨rfl, pw_below_drewN ((hb1.trans (hb2.mono hb1.size)).alloc (Nat.le_trans hb1.size hb2.size) _) m3⟩
end Go.Proofs.Ytigpcfokmbnlaaa.Sched
