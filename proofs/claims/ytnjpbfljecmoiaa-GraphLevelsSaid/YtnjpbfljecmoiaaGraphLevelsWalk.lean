/- GraphLevels: the law's own walk. -/
import Derived.Test.YtnjpbfljecmoiaaAliveW
import Derived.Test.YtnjpbfljecmoiaaRefLevels
import Derived.Test.YtnjpbfljecmoiaaNum
namespace Go.Proofs.Ytnjpbfljecmoiaa.Graph
open Go.RowKit Go.Proofs.YtnjpbfljecmoiaaW.PrintWords Go.Proofs.Ytnjpbfljecmoiaa.PGraphLeans

theorem rowsAt_mono2 {L : List (List Int)} {a b : Nat} (h : rowsAt L a) (hab : a ≤ b) : rowsAt L b := fun l hl => Nat.le_trans (h l hl) hab
set_option maxHeartbeats 8000000 in
set_option maxRecDepth 100000 in
theorem graphLevels_walk (A : Option Addr) (c : Nat) (L : List (List Int)) (A1 : Option Addr) (c1 : Nat) (order : List Int) (w : World) (hx : Kd.C (Kd.slice 3 (Kd.int .i64)) w A L.length L) (hc : L.length ≤ c) (hy : Kd.C (Kd.int .i64) w A1 order.length order) (hc1 : order.length ≤ c1) :
    Calls Try.prog 5 #[.slice A L.length c, .slice A1 order.length c1] w fun e w' => e = .returned (.bool true) ∧ Below w.heap.size w w' := by
  have HC12 : Aside0 (∀ W, Below w.heap.size w W → Calls Try.prog 12 #[.slice A L.length c] W fun e w' => e = .returned (.bool (Lvl.bigG 0 L)) ∧ Drawn0 W w') := ⟨fun W hW => Lvl.large_calls A c L W (Kd.C_below hx hW) hc⟩
  cases hlg : Lvl.bigG 0 L with
  | true =>
    rw [hlg] at HC12
    clear hlg hx hy
    go_enter Try.func5, Try.ntmps5
    go_wp2_with (first | (go_at_call 7; refine (alive_calls _).mono ?_; rintro e w1 ⟨rfl, hb1⟩) | (go_at_call 12; refine (HC12.out _ hb1).mono ?_; rintro e w2 ⟨rfl, ⟨m2, rfl⟩⟩))
    go_ret
    exact ⟨rfl, pw_below_drewN hb1 _⟩
  | false =>
    rw [hlg] at HC12
    obtain ⟨hsz, hrows⟩ := Lvl.large_false L hlg
    by_cases h60 : 60 < order.length
    · have d0 : decide ((60 : Int) < (order.length : Int)) = true := by simp; omega
      have d0' : decide (60 < order.length) = true := by simp; omega
      clear hlg hx hy
      go_enter Try.func5, Try.ntmps5
      go_wp2_with (first | (go_at_call 7; refine (alive_calls _).mono ?_; rintro e w1 ⟨rfl, hb1⟩) | (go_at_call 12; refine (HC12.out _ hb1).mono ?_; rintro e w2 ⟨rfl, ⟨m2, rfl⟩⟩))
      go_ret
      exact ⟨rfl, pw_below_drewN hb1 _⟩
    · have d0 : decide ((60 : Int) < (order.length : Int)) = false := by simp; omega
      have d0' : decide (60 < order.length) = false := by simp; omega
      have hr3 := rowsAt_mono2 hrows (show 60 ≤ 1000 by omega)
      have hr6 := rowsAt_mono2 hrows (show 60 ≤ 1000000 by omega)
      have HC14 : Aside0 (∀ W, Below w.heap.size w W → Calls Try.prog 14 #[.slice A L.length c] W fun e w' => e = .returned (.bool (goodB L)) ∧ Drawn0 W w') := ⟨fun W hW => Lvl.r19_calls A c L W (by omega) hr6 (Kd.C_below hx hW) hc⟩
      have HC11 : Aside0 (∀ W, Below w.heap.size w W → Calls Try.prog 11 #[.slice A L.length c] W fun e w' => e = .returned (.bool (goodB L)) ∧ Drawn0 W w') := ⟨fun W hW => good_calls A c L W (by omega) hr6 (Kd.C_below hx hW) hc⟩
      have HC17 : Aside0 (∀ W, Below w.heap.size w W → Calls Try.prog 17 #[.slice A L.length c, .slice A1 order.length c1] W fun e w' => e = .returned (.bool (keepsB L order)) ∧ Below W.heap.size W w') := ⟨fun W hW => keeps_calls A c L A1 c1 order W (Kd.C_below hx hW) hc (by omega) hr6 (Kd.C_below hy hW)⟩
      have HC18 : Aside0 (∀ W, Below w.heap.size w W → Calls Try.prog 18 #[.slice A L.length c, .slice A1 order.length c1] W fun e w' => e = .returned (.bool (keepsB L order)) ∧ Drawn0 W w') := ⟨fun W hW => Lvl.refKeeps_calls L order hr3 (by omega) (by omega) A c A1 c1 W (Kd.C_below hx hW) hc (Kd.C_below hy hW) hc1⟩
      generalize keepsB L order = kb at HC17 HC18
      cases hgd : goodB L with
      | false =>
        rw [hgd] at HC14 HC11
        have HC16 : Aside0 (∀ W, Below w.heap.size w W → Calls Try.prog 16 #[.slice A L.length c] W fun e w' => ∃ A6 c6, e = .returned (.tuple #[.slice A6 0 c6, .iface 41 (.int .i64 2)]) ∧ Below W.heap.size W w') := ⟨fun W hW => by
          refine (Lvl.levels_bad L hgd (by omega) hr3 A c W (Kd.C_below hx hW) hc).mono ?_
          rintro e w' ⟨v, rfl, hR, hB⟩
          obtain ⟨A6, c6, hv⟩ := Kd.R_slice hR
          exact ⟨A6, c6, by rw [hv]; rfl, hB⟩⟩
        have HIS : Aside0 (∀ W, Calls Try.prog 19 #[.iface 41 (.int .i64 2), .int .i64 2] W fun e w' => e = .returned (.bool true) ∧ Drawn0 W w') := ⟨fun W => is_calls 2 2 W (by omega)⟩
        clear hlg hx hy hgd hrows hr3 hr6
        go_enter Try.func5, Try.ntmps5
        go_wp2_with (first | (go_at_call 7; refine (alive_calls _).mono ?_; rintro e w1 ⟨rfl, hb1⟩) | (go_at_call 12; refine (HC12.out _ hb1).mono ?_; rintro e w2 ⟨rfl, ⟨m2, rfl⟩⟩) | (go_at_call 14; refine (HC14.out _ (pw_below_drewN hb1 _)).mono ?_; rintro e w3 ⟨rfl, ⟨m3, rfl⟩⟩))
        refine (HC16.out _ (pw_below_drewN hb1 _)).mono ?_
        rintro e w4 ⟨A6, c6, rfl, hb4⟩
        have HB4 : Aside0 (Below w.heap.size w w4) := ⟨below_step (pw_below_drewN hb1 _) hb4⟩
        clear hb4 hb1
        cases kb
        · go_wp2_with (first | (go_at_call 11; refine (HC11.out _ HB4.out).mono ?_; rintro e w5 ⟨rfl, ⟨m5, rfl⟩⟩) | (go_at_call 17; refine (HC17.out _ (pw_below_drewN HB4.out _)).mono ?_; rintro e w6 ⟨rfl, hb6⟩; have HB6 := Aside0.mk (below_step (pw_below_drewN HB4.out _) hb6); clear hb6) | (go_at_call 18; refine (HC18.out _ HB6.out).mono ?_; rintro e w7 ⟨rfl, ⟨m7, rfl⟩⟩) | (go_at_call 19; refine (HIS.out _).mono ?_; rintro e w8 ⟨rfl, ⟨m8, rfl⟩⟩))
          go_ret
          exact ⟨rfl, by first | exact pw_below_drewN HB6.out _ | exact pw_below_drewN (pw_below_drewN HB6.out _) _⟩
        · go_wp2_with (first | (go_at_call 11; refine (HC11.out _ HB4.out).mono ?_; rintro e w5 ⟨rfl, ⟨m5, rfl⟩⟩) | (go_at_call 17; refine (HC17.out _ (pw_below_drewN HB4.out _)).mono ?_; rintro e w6 ⟨rfl, hb6⟩; have HB6 := Aside0.mk (below_step (pw_below_drewN HB4.out _) hb6); clear hb6) | (go_at_call 18; refine (HC18.out _ HB6.out).mono ?_; rintro e w7 ⟨rfl, ⟨m7, rfl⟩⟩) | (go_at_call 19; refine (HIS.out _).mono ?_; rintro e w8 ⟨rfl, ⟨m8, rfl⟩⟩))
          go_ret
          exact ⟨rfl, by first | exact pw_below_drewN HB6.out _ | exact pw_below_drewN (pw_below_drewN HB6.out _) _⟩
      | true =>
        rw [hgd] at HC14 HC11
        have HC16 : Aside0 (∀ W, Below w.heap.size w W → Calls Try.prog 16 #[.slice A L.length c] W fun e w' => ∃ v, e = .returned (.tuple #[v, .nilIface]) ∧ Kd.R (Kd.int .i64) 3 w' W.heap.size (fun _ => True) v (Lvl.levelsK L L.length) ∧ Below W.heap.size W w') := ⟨fun W hW => Lvl.levels_good L hgd (by omega) hr3 A c W (Kd.C_below hx hW) hc⟩
        have HC21 : Aside0 (∀ W, Below w.heap.size w W → Calls Try.prog 21 #[.slice A L.length c] W fun e w' => ∃ v, e = .returned v ∧ Kd.R (Kd.int .i64) 3 w' W.heap.size (fun _ => True) v (Lvl.levelsK L L.length) ∧ Below W.heap.size W w') := ⟨fun W hW => Lvl.refLevels_calls L hgd (by omega) hr3 A c W (Kd.C_below hx hW) hc⟩
        have hlk := Lvl.levelsK_len L L.length
        generalize Lvl.levelsK L L.length = LV at HC16 HC21 hlk
        have HLV : Aside0 (LV.length ≤ 1000000) := ⟨by omega⟩
        clear hlg hx hy hgd hrows hr3 hr6 hlk
        go_enter Try.func5, Try.ntmps5
        go_wp2_with (first | (go_at_call 7; refine (alive_calls _).mono ?_; rintro e w1 ⟨rfl, hb1⟩) | (go_at_call 12; refine (HC12.out _ hb1).mono ?_; rintro e w2 ⟨rfl, ⟨m2, rfl⟩⟩) | (go_at_call 14; refine (HC14.out _ (pw_below_drewN hb1 _)).mono ?_; rintro e w3 ⟨rfl, ⟨m3, rfl⟩⟩))
        refine (HC16.out _ (pw_below_drewN hb1 _)).mono ?_
        rintro e w4 ⟨v6, rfl, hr6, hb4⟩
        obtain ⟨A6, c6, rfl, hl6, hC6⟩ := Kd.R_reads hr6
        have HB4 : Aside0 (Below w.heap.size w w4) := ⟨below_step (pw_below_drewN hb1 _) hb4⟩
        have HC6 := Aside0.mk hC6
        have HL6 := Aside0.mk hl6
        clear hb4 hb1 hr6 hC6 hl6
        cases kb
        · go_wp2_with (first | (go_at_call 11; refine (HC11.out _ HB4.out).mono ?_; rintro e w5 ⟨rfl, ⟨m5, rfl⟩⟩) | (go_at_call 17; refine (HC17.out _ (pw_below_drewN HB4.out _)).mono ?_; rintro e w6 ⟨rfl, hb6⟩; have HB6 := Aside0.mk (below_step (pw_below_drewN HB4.out _) hb6); have HC66 := Aside0.mk (Kd.C_below (Kd.C_below HC6.out (pw_below_drewN (Below.refl _ _) m5)) hb6); clear hb6) | (go_at_call 18; refine (HC18.out _ HB6.out).mono ?_; rintro e w7 ⟨rfl, ⟨m7, rfl⟩⟩))
          refine (HC21.out _ (pw_below_drewN HB6.out _)).mono ?_
          rintro e w8 ⟨v8, rfl, hr8, hb8⟩
          obtain ⟨A8, c8, rfl, hl8, hC8⟩ := Kd.R_reads hr8
          have HB8 : Aside0 (Below w.heap.size w w8) := ⟨below_step (pw_below_drewN HB6.out _) hb8⟩
          have HI : Aside0 (Calls Try.prog 20 #[.slice A6 LV.length c6, .slice A8 LV.length c8] w8 fun e w' => e = .returned (.bool true) ∧ Drawn0 w8 w') := ⟨by
            have := ints_calls A6 c6 LV A8 c8 LV w8 HLV.out (Kd.C_below (Kd.C_below HC66.out (pw_below_drewN (Below.refl _ _) m7)) hb8) HL6.out hC8 hl8
            rwa [decide_eq_true (rfl : LV = LV)] at this⟩
          clear hr8 hb8 hl8 hC8
          go_wp2_with (go_at_call 20; refine HI.out.mono ?_; rintro e w9 ⟨rfl, ⟨m9, rfl⟩⟩)
          go_ret
          exact ⟨rfl, pw_below_drewN HB8.out m9⟩
        · go_wp2_with (first | (go_at_call 11; refine (HC11.out _ HB4.out).mono ?_; rintro e w5 ⟨rfl, ⟨m5, rfl⟩⟩) | (go_at_call 17; refine (HC17.out _ (pw_below_drewN HB4.out _)).mono ?_; rintro e w6 ⟨rfl, hb6⟩; have HB6 := Aside0.mk (below_step (pw_below_drewN HB4.out _) hb6); have HC66 := Aside0.mk (Kd.C_below (Kd.C_below HC6.out (pw_below_drewN (Below.refl _ _) m5)) hb6); clear hb6) | (go_at_call 18; refine (HC18.out _ HB6.out).mono ?_; rintro e w7 ⟨rfl, ⟨m7, rfl⟩⟩))
          refine (HC21.out _ (pw_below_drewN HB6.out _)).mono ?_
          rintro e w8 ⟨v8, rfl, hr8, hb8⟩
          obtain ⟨A8, c8, rfl, hl8, hC8⟩ := Kd.R_reads hr8
          have HB8 : Aside0 (Below w.heap.size w w8) := ⟨below_step (pw_below_drewN HB6.out _) hb8⟩
          have HI : Aside0 (Calls Try.prog 20 #[.slice A6 LV.length c6, .slice A8 LV.length c8] w8 fun e w' => e = .returned (.bool true) ∧ Drawn0 w8 w') := ⟨by
            have := ints_calls A6 c6 LV A8 c8 LV w8 HLV.out (Kd.C_below (Kd.C_below HC66.out (pw_below_drewN (Below.refl _ _) m7)) hb8) HL6.out hC8 hl8
            rwa [decide_eq_true (rfl : LV = LV)] at this⟩
          clear hr8 hb8 hl8 hC8
          go_wp2_with (go_at_call 20; refine HI.out.mono ?_; rintro e w9 ⟨rfl, ⟨m9, rfl⟩⟩)
          go_ret
          exact ⟨rfl, pw_below_drewN HB8.out m9⟩
end Go.Proofs.Ytnjpbfljecmoiaa.Graph
