/- SchedOne: the law's own walk. -/
import Derived.Test.YtigpcfokmbnlaaaOne
import Derived.Test.YtigpcfokmbnlaaaAlive
import Derived.Test.YtigpcfokmbnlaaaGuards
namespace Go.Proofs.Ytigpcfokmbnlaaa.Sched
open Go.RowKit Go.Proofs.YtigpcfokmbnlaaaW.PrintWords

theorem C_none (W : World) : Kd.C (Kd.int .i64) W none ([] : List Int).length [] := (Kd.R_reads' (Kd.R_nil (Kd.int .i64) 3 W 0 (fun _ => True))).2.2
theorem rowsAt_mono {L : List (List Int)} {a b : Nat} (h : rowsAt L a) (hab : a ≤ b) : rowsAt L b := fun l hl => Nat.le_trans (h l hl) hab
set_option maxHeartbeats 4000000 in
theorem one_walk (A0 : Option Addr) (c0 : Nat) (L : List (List Int)) (w : World) (hr0 : Kd.C (Kd.slice 3 (Kd.int .i64)) w A0 L.length L) (hc0 : L.length ≤ c0) :
    Calls Try.prog 3 #[.slice A0 L.length c0] w fun e w' => e = .returned (.bool true) ∧ Below w.heap.size w w' := by
  have HL : Aside0 (∀ W, Below w.heap.size w W → Calls Try.prog 8 #[.slice A0 L.length c0, .slice none 0 0] W fun e w' => e = .returned (.bool (largeB L [])) ∧ Drawn0 W w') := ⟨fun W hb => large_calls A0 c0 L none 0 [] W (Kd.C_below hr0 hb) hc0 (C_none W) (by simp)⟩
  cases hlg : largeB L [] with
  | true =>
    rw [hlg] at HL
    clear hlg hr0
    go_enter Try.func3, Try.ntmps3
    go_wp2_with (first | (go_at_call 7; refine (alive_calls _).mono ?_; rintro e w1 ⟨rfl, hb1⟩) | (go_at_call 8; refine (HL.out _ hb1).mono ?_; rintro e w2 ⟨rfl, ⟨m2, rfl⟩⟩))
    go_ret
    exact ⟨rfl, pw_below_drewN hb1 _⟩
  | false =>
    obtain ⟨hsz, hrows, -⟩ := large_false L [] hlg
    rw [hlg] at HL
    have HG : Aside0 (∀ W, Below w.heap.size w W → Calls Try.prog 9 #[.slice A0 L.length c0] W fun e w' => e = .returned (.bool (goodB L)) ∧ Drawn0 W w') := ⟨fun W hb => r19_calls A0 c0 L W (by omega) (rowsAt_mono hrows (by omega)) (Kd.C_below hr0 hb) hc0⟩
    cases hgd : goodB L with
    | false =>
      rw [hgd] at HG
      clear hlg hr0 hgd
      go_enter Try.func3, Try.ntmps3
      go_wp2_with (first | (go_at_call 7; refine (alive_calls _).mono ?_; rintro e w1 ⟨rfl, hb1⟩) | (go_at_call 8; refine (HL.out _ hb1).mono ?_; rintro e w2 ⟨rfl, ⟨m2, rfl⟩⟩) | (go_at_call 9; refine (HG.out _ (pw_below_drewN hb1 _)).mono ?_; rintro e w3 ⟨rfl, ⟨m3, rfl⟩⟩))
      go_ret
      exact ⟨rfl, pw_below_drewN hb1 _⟩
    | true =>
      rw [hgd] at HG
      have HR0 := Aside0.mk hr0
      have HRW := Aside0.mk (rowsAt_mono hrows (show 40 ≤ 1000 by omega))
      have HGD := Aside0.mk hgd
      clear hlg hr0 hgd hrows
      have hmk := make31 L.length (by omega)
      have HN : Aside0 (∀ W, Below w.heap.size w W → Calls Try.prog 10 #[.slice A0 L.length c0, .slice (some ⟨W.heap.size, 0, none⟩) L.length L.length, .int .i64 1] (W.alloc (.cells (madeCells #[.bool false] L.length) 4)) fun e w' => ∃ P ts has left, e = .returned (.tuple #[.pointer (some ⟨P.gp, 0, none⟩), .nilIface]) ∧ OneS L ts has left 0 0 ∧
          W.heap.size ≤ P.gp ∧ W.heap.size ≤ P.gt ∧ W.heap.size ≤ P.gh ∧ IsPlan w' P ts has 0 left ∧ Below W.heap.size W w') := ⟨fun W hb => by
        have hf := C_falses W L.length (by omega)
        have hn := new_good A0 c0 L (some ⟨W.heap.size, 0, none⟩) L.length (List.replicate L.length false) 1 (W.alloc (.cells (madeCells #[.bool false] L.length) 4)) (by omega) HRW.out (Kd.C_alloc (Kd.C_below HR0.out hb) _) hc0 hf (by simp) HGD.out (by simp) (by omega)
        rw [List.length_replicate] at hn
        refine hn.mono ?_
        rintro e w' ⟨P, ts, rfl, hts, h1, h2, h3, hP, hB⟩
        rw [World.size_alloc] at h1 h2 h3
        exact ⟨P, _, _, _, rfl, one_new L HGD.out HRW.out (by omega) ts hts, by omega, by omega, by omega, hP, (below_alloc (Below.refl _ _) _).trans (hB.mono (by simp))⟩⟩
      go_enter Try.func3, Try.ntmps3
      go_wp2_with (first | (go_at_call 7; refine (alive_calls _).mono ?_; rintro e w1 ⟨rfl, hb1⟩) | (go_at_call 8; refine (HL.out _ hb1).mono ?_; rintro e w2 ⟨rfl, ⟨m2, rfl⟩⟩) | (go_at_call 9; refine (HG.out _ (pw_below_drewN hb1 _)).mono ?_; rintro e w3 ⟨rfl, ⟨m3, rfl⟩⟩) | (go_at_call 10; refine (HN.out _ (pw_below_drewN hb1 _)).mono ?_; rintro e w4 ⟨P, ts, has, left, rfl, ho, hg1, hg2, hg3, hP, hB⟩))
      have HO : Aside0 (OneS L ts has left 0 0) := ⟨ho⟩
      have HP : Aside0 (IsPlan w4 P ts has 0 left) := ⟨hP⟩
      have hsz1 : w.heap.size ≤ (w1.drewN (m2 + m3)).heap.size := hb1.size
      have HB : Aside0 (Below w.heap.size w w4) := ⟨(pw_below_drewN hb1 (m2 + m3)).trans (hB.mono hsz1)⟩
      have HPB : Aside0 (w.heap.size ≤ P.gp ∧ w.heap.size ≤ P.gt ∧ w.heap.size ≤ P.gh) := ⟨by omega⟩
      clear HL HG HR0 hmk HN hb1 hg1 hg2 hg3 ho hP hB hsz1
      have z33 := z33
      go_loopw [30] (fun v wr => ∃ (i : Nat) (ts : List T) (has : List Int) (left pk : Int), i ≤ L.length ∧ v = .int .i64 i ∧ Aside0 (OneS L ts has left i 0) ∧ Aside0 (IsPlan wr P ts has pk left) ∧ Aside0 (Below w.heap.size w wr)) (fun v _ => L.length - (intOf v).toNat)
      case atStart => exact ⟨0, _, _, _, _, by omega, rfl, HO, HP, HB⟩
      case round =>
        clear HO HP HB
        obtain ⟨i, ts, has, left, pk, hi, rfl, HO, HP, HB⟩ := hrel
        by_cases hlt : i < L.length
        · have hb : decide (i < L.length) = true := by simp; omega
          go_wp2
          go_loopw [33] (fun v wr => ∃ (s : Nat) (ts : List T) (has : List Int) (left pk : Int), s ≤ 3 ∧ v = .int .i64 s ∧ Aside0 (OneS L ts has left i s) ∧ Aside0 (IsPlan wr P ts has pk left) ∧ Aside0 (Below w.heap.size w wr)) (fun v _ => 3 - (intOf v).toNat)
          case atStart => exact ⟨0, _, _, _, _, by omega, rfl, HO, HP, HB⟩
          case round =>
            clear HO HP HB
            obtain ⟨s, ts, has, left, pk, hs, rfl, HO, HP, HB⟩ := hrel
            by_cases hst : s < 3
            · have hcase : s = 0 ∨ s = 1 ∨ s = 2 := by omega
              rcases hcase with rfl | rfl | rfl
              · have HX : Aside0 (∃ us has' left', OneS L us has' left' i 1 ∧ Calls Try.prog 11 #[.pointer (some ⟨P.gp, 0, none⟩), .int .i64 0] wr fun e w' => e = .returned (.tuple #[.agg #[.int .i64 1, .int .i64 i, .int .i64 0], .nilIface]) ∧ IsPlan w' P us has' (wrap64 (pk + 1)) left' ∧ Stp wr w' P) := ⟨one_pick HP.out HO.out HGD.out HRW.out (by omega) hlt (by omega)⟩
                obtain ⟨us, has', left', ho', hx⟩ := HX.out
                have HX2 := Aside0.mk hx
                have HO2 := Aside0.mk ho'
                have H2 : Aside0 ((#[.int .i64 1, .int .i64 i, .int .i64 0] : Array Value).all (·.oneCell') = true) := ⟨ev3_one 1 i 0⟩
                clear HX hx ho'
                go_wp2_with (first | (go_at_call 11; refine HX2.out.mono ?_; rintro e w5 ⟨rfl, hp5, hs5⟩) | (refine wpList_store_row rfl 33 _ _ rfl _ #[.int .i64 1, .int .i64 i, .int .i64 0] rfl rfl 33 #[.int .i64 0, .int .i64 0, .int .i64 0] (heap_alloc_new _ _) (by kernel_rfl) rfl H2.out ?_; rw [World.setRow_alloc_new]))
                have HP6 : Aside0 (IsPlan (w5.alloc (.cells #[.int .i64 1, .int .i64 i, .int .i64 0] 33)) P us has' (wrap64 (pk + 1)) left') := ⟨IsPlan.keep hp5 (below_alloc (Below.refl _ _) _)⟩
                have hz := hs5.size
                have HB6 : Aside0 (Below w.heap.size w (w5.alloc (.cells #[.int .i64 1, .int .i64 i, .int .i64 0] 33))) := ⟨(HB.out.trans (hs5.below HPB.out.1 HPB.out.2.1 HPB.out.2.2 HB.out.size)).alloc (by have := HB.out.size; omega) _⟩
                generalize hV : w5.alloc (.cells #[.int .i64 1, .int .i64 i, .int .i64 0] 33) = w6 at HP6 HB6 ⊢
                clear hV hp5 hs5 hz HP HO HB HX2
                exact ⟨⟨1, us, has', left', wrap64 (pk + 1), by omega, by go_num, HO2, HP6, HB6⟩, by simp [intOf]⟩
              · have HX : Aside0 (∃ us has' left', OneS L us has' left' i 2 ∧ Calls Try.prog 11 #[.pointer (some ⟨P.gp, 0, none⟩), .int .i64 0] wr fun e w' => e = .returned (.tuple #[.agg #[.int .i64 2, .int .i64 i, .int .i64 0], .nilIface]) ∧ IsPlan w' P us has' (wrap64 (pk + 1)) left' ∧ Stp wr w' P) := ⟨one_pick HP.out HO.out HGD.out HRW.out (by omega) hlt (by omega)⟩
                obtain ⟨us, has', left', ho', hx⟩ := HX.out
                have HX2 := Aside0.mk hx
                have HO2 := Aside0.mk ho'
                have H2 : Aside0 ((#[.int .i64 2, .int .i64 i, .int .i64 0] : Array Value).all (·.oneCell') = true) := ⟨ev3_one 2 i 0⟩
                clear HX hx ho'
                go_wp2_with (first | (go_at_call 11; refine HX2.out.mono ?_; rintro e w5 ⟨rfl, hp5, hs5⟩) | (refine wpList_store_row rfl 33 _ _ rfl _ #[.int .i64 2, .int .i64 i, .int .i64 0] rfl rfl 33 #[.int .i64 0, .int .i64 0, .int .i64 0] (heap_alloc_new _ _) (by kernel_rfl) rfl H2.out ?_; rw [World.setRow_alloc_new]))
                have HP6 : Aside0 (IsPlan (w5.alloc (.cells #[.int .i64 2, .int .i64 i, .int .i64 0] 33)) P us has' (wrap64 (pk + 1)) left') := ⟨IsPlan.keep hp5 (below_alloc (Below.refl _ _) _)⟩
                have hz := hs5.size
                have HB6 : Aside0 (Below w.heap.size w (w5.alloc (.cells #[.int .i64 2, .int .i64 i, .int .i64 0] 33))) := ⟨(HB.out.trans (hs5.below HPB.out.1 HPB.out.2.1 HPB.out.2.2 HB.out.size)).alloc (by have := HB.out.size; omega) _⟩
                generalize hV : w5.alloc (.cells #[.int .i64 2, .int .i64 i, .int .i64 0] 33) = w6 at HP6 HB6 ⊢
                clear hV hp5 hs5 hz HP HO HB HX2
                exact ⟨⟨2, us, has', left', wrap64 (pk + 1), by omega, by go_num, HO2, HP6, HB6⟩, by simp [intOf]⟩
              · have HX : Aside0 (∃ us has' left', OneS L us has' left' i 3 ∧ Calls Try.prog 11 #[.pointer (some ⟨P.gp, 0, none⟩), .int .i64 0] wr fun e w' => e = .returned (.tuple #[.agg #[.int .i64 3, .int .i64 i, .int .i64 0], .nilIface]) ∧ IsPlan w' P us has' (wrap64 (pk + 1)) left' ∧ Stp wr w' P) := ⟨one_pick HP.out HO.out HGD.out HRW.out (by omega) hlt (by omega)⟩
                obtain ⟨us, has', left', ho', hx⟩ := HX.out
                have HX2 := Aside0.mk hx
                have HO2 := Aside0.mk ho'
                have H2 : Aside0 ((#[.int .i64 3, .int .i64 i, .int .i64 0] : Array Value).all (·.oneCell') = true) := ⟨ev3_one 3 i 0⟩
                clear HX hx ho'
                go_wp2_with (first | (go_at_call 11; refine HX2.out.mono ?_; rintro e w5 ⟨rfl, hp5, hs5⟩) | (refine wpList_store_row rfl 33 _ _ rfl _ #[.int .i64 3, .int .i64 i, .int .i64 0] rfl rfl 33 #[.int .i64 0, .int .i64 0, .int .i64 0] (heap_alloc_new _ _) (by kernel_rfl) rfl H2.out ?_; rw [World.setRow_alloc_new]))
                have HP6 : Aside0 (IsPlan (w5.alloc (.cells #[.int .i64 3, .int .i64 i, .int .i64 0] 33)) P us has' (wrap64 (pk + 1)) left') := ⟨IsPlan.keep hp5 (below_alloc (Below.refl _ _) _)⟩
                have hz := hs5.size
                have HB6 : Aside0 (Below w.heap.size w (w5.alloc (.cells #[.int .i64 3, .int .i64 i, .int .i64 0] 33))) := ⟨(HB.out.trans (hs5.below HPB.out.1 HPB.out.2.1 HPB.out.2.2 HB.out.size)).alloc (by have := HB.out.size; omega) _⟩
                generalize hV : w5.alloc (.cells #[.int .i64 3, .int .i64 i, .int .i64 0] 33) = w6 at HP6 HB6 ⊢
                clear hV hp5 hs5 hz HP HO HB HX2
                exact ⟨⟨3, us, has', left', wrap64 (pk + 1), by omega, by go_num, HO2, HP6, HB6⟩, by simp [intOf]⟩
            · have hs3 : s = 3 := by omega
              subst hs3
              have HO3 := Aside0.mk HO.out.next
              go_wp2
              go_roundw
              case rel => exact ⟨i + 1, ts, has, left, pk, by omega, by go_num, HO3, HP, HB⟩
              case measure => simp [intOf]; omega
        · have hb : decide (i < L.length) = false := by simp; omega
          have hiN : i = L.length := by omega
          subst hiN
          have hl0 := HO.out.done
          subst hl0
          have HD : Aside0 (Calls Try.prog 12 #[.pointer (some ⟨P.gp, 0, none⟩)] wr fun e w' => e = .returned (.bool true) ∧ w' = wr) := ⟨done_calls P ts has pk 0 wr HP.out⟩
          go_wp2_with (go_at_call 12; refine HD.out.mono ?_; rintro e w5 ⟨rfl, rfl⟩)
          go_ret
          exact ⟨rfl, HB.out⟩
end Go.Proofs.Ytigpcfokmbnlaaa.Sched
