/- GraphLeast: the law's own walk. -/
import Derived.Test.YtnjpbfljecmoiaaMut
import Derived.Test.YtnjpbfljecmoiaaRefLeast
namespace Go.Proofs.Ytnjpbfljecmoiaa.Graph
open Go.RowKit Go.Proofs.YtnjpbfljecmoiaaW.PrintWords Go.Proofs.Ytnjpbfljecmoiaa.PGraphLeans

theorem rowsAt_mono {L : List (List Int)} {a b : Nat} (h : rowsAt L a) (hab : a ≤ b) : rowsAt L b := fun l hl => Nat.le_trans (h l hl) hab
theorem least_rows (L : List (List Int)) (a : Nat) (hr : rowsAt L a) (n : Nat) : rowsAt (leastK L n) a := by
  intro l hl
  obtain ⟨i, _, rfl⟩ := List.mem_map.1 hl
  unfold leastRow
  refine Nat.le_trans (List.length_filter_le _ _) ?_
  by_cases hi : i < L.length
  · have e : L.getD i [] = L[i] := by simp [List.getD_eq_getElem?_getD, hi]
    rw [e]; exact hr _ (List.getElem_mem hi)
  · simp [List.getD_eq_getElem?_getD, List.getElem?_eq_none (Nat.le_of_not_lt hi)]
set_option maxHeartbeats 8000000 in
set_option maxRecDepth 100000 in
theorem graphLeast_walk (A : Option Addr) (c : Nat) (L : List (List Int)) (w : World) (hx : Kd.C (Kd.slice 3 (Kd.int .i64)) w A L.length L) (hc : L.length ≤ c) :
    Calls Try.prog 4 #[.slice A L.length c] w fun e w' => e = .returned (.bool true) ∧ Below w.heap.size w w' := by
  have HC12 : Aside0 (∀ W, Below w.heap.size w W → Calls Try.prog 12 #[.slice A L.length c] W fun e w' => e = .returned (.bool (Lst.bigG 0 L)) ∧ Drawn0 W w') := ⟨fun W hW => Lst.large_calls A c L W (Kd.C_below hx hW) hc⟩
  cases hlg : Lst.bigG 0 L with
  | true =>
    rw [hlg] at HC12
    clear hlg hx
    go_enter Try.func4, Try.ntmps4
    go_wp2_with (first | (go_at_call 7; refine (alive_calls _).mono ?_; rintro e w1 ⟨rfl, hb1⟩) | (go_at_call 12; refine (HC12.out _ hb1).mono ?_; rintro e w2 ⟨rfl, ⟨m2, rfl⟩⟩))
    go_ret
    exact ⟨rfl, pw_below_drewN hb1 _⟩
  | false =>
    rw [hlg] at HC12
    obtain ⟨hsz, hrows⟩ := Lst.large_false L hlg
    have HC14 : Aside0 (∀ W, Below w.heap.size w W → Calls Try.prog 14 #[.slice A L.length c] W fun e w' => e = .returned (.bool (goodB L)) ∧ Drawn0 W w') := ⟨fun W hW => Lst.r19_calls A c L W (by omega) (rowsAt_mono hrows (by omega)) (Kd.C_below hx hW) hc⟩
    cases hgd : goodB L with
    | false =>
      have HC13 : Aside0 (∀ W, Below w.heap.size w W → Calls Try.prog 13 #[.slice A L.length c] W fun e w' => e = .returned (.slice none 0 0) ∧ Drawn0 W w') := ⟨fun W hW => least_bad A c L W (Kd.C_below hx hW) hc (by omega) (rowsAt_mono hrows (by omega)) hgd⟩
      rw [hgd] at HC14
      clear hlg hx hgd hrows
      go_enter Try.func4, Try.ntmps4
      go_wp2_with (first | (go_at_call 7; refine (alive_calls _).mono ?_; rintro e w1 ⟨rfl, hb1⟩) | (go_at_call 12; refine (HC12.out _ hb1).mono ?_; rintro e w2 ⟨rfl, ⟨m2, rfl⟩⟩) | (go_at_call 13; refine (HC13.out _ (pw_below_drewN hb1 _)).mono ?_; rintro e w3 ⟨rfl, ⟨m3, rfl⟩⟩) | (go_at_call 14; refine (HC14.out _ (pw_below_drewN hb1 _)).mono ?_; rintro e w4 ⟨rfl, ⟨m4, rfl⟩⟩))
      go_ret
      exact ⟨rfl, pw_below_drewN hb1 _⟩
    | true =>
      rw [hgd] at HC14
      have HC13 : Aside0 (∀ W, Below w.heap.size w W → Calls Try.prog 13 #[.slice A L.length c] W fun e w' => ∃ v, e = .returned v ∧ Kd.S (Kd.slice 3 (Kd.int .i64)) 32 w' W.heap.size (fun _ => True) v (leastK L L.length) ∧ Below W.heap.size W w') := ⟨fun W hW => least_good A c L W (Kd.C_below hx hW) hc (by omega) (rowsAt_mono hrows (by omega)) hgd⟩
      have HC15 : Aside0 (∀ W, Below w.heap.size w W → Calls Try.prog 15 #[.slice A L.length c] W fun e w' => ∃ v, e = .returned v ∧ Kd.S (Kd.slice 3 (Kd.int .i64)) 32 w' W.heap.size (fun _ => True) v (leastK L L.length) ∧ Below W.heap.size W w') := ⟨fun W hW => Lst.refLeast_calls L hgd (by omega) (rowsAt_mono hrows (by omega)) A c W (Kd.C_below hx hW) hc⟩
      have HRS := Aside0.mk (rowsAt_mono (least_rows L 60 hrows L.length) (show 60 ≤ 1000000 by omega))
      have hLL := leastK_len L L.length
      generalize leastK L L.length = LK at HC13 HC15 HRS hLL
      have HLL : Aside0 (LK.length ≤ 1000000) := ⟨by omega⟩
      have hLL2 : LK.length ≤ 41 := by omega
      have HC9 : Aside0 (∀ W A0 c0 A1 c1, Kd.C (Kd.slice 3 (Kd.int .i64)) W A0 LK.length LK → LK.length ≤ c0 → Kd.C (Kd.slice 3 (Kd.int .i64)) W A1 LK.length LK → LK.length ≤ c1 → Calls Try.prog 9 #[.slice A0 LK.length c0, .slice A1 LK.length c1] W fun e w' => e = .returned (.bool true) ∧ Drawn0 W w') := ⟨fun W A0 c0 A1 c1 h0 h1 h2 h3 => by
        have := rows_calls A0 c0 LK A1 c1 LK W HLL.out HRS.out h0 h1 h2 h3
        rwa [decide_eq_true (rfl : LK = LK)] at this⟩
      clear hlg hx hgd hrows hLL
      go_enter Try.func4, Try.ntmps4
      go_wp2_with (first | (go_at_call 7; refine (alive_calls _).mono ?_; rintro e w1 ⟨rfl, hb1⟩) | (go_at_call 12; refine (HC12.out _ hb1).mono ?_; rintro e w2 ⟨rfl, ⟨m2, rfl⟩⟩))
      have HB1 : Aside0 (Below w.heap.size w (w1.drewN m2)) := ⟨pw_below_drewN hb1 m2⟩
      generalize w1.drewN m2 = wa at HB1 ⊢
      refine (HC13.out wa HB1.out).mono ?_
      rintro e w2 ⟨v5, rfl, hs5, hb2⟩
      have HB2 := Aside0.mk (below_step HB1.out hb2)
      have HBS := Aside0.mk HB1.out.size
      have hs5' := hs5
      obtain ⟨A5, c5, rfl, hl5, hC5⟩ := Kd.S_reads hs5
      have HS5 := Aside0.mk hs5'
      have HL5 := Aside0.mk hl5
      have HC5 := Aside0.mk hC5
      clear hs5 hs5' hl5 hC5 hb2
      go_wp2_with (go_at_call 14; refine (HC14.out _ HB2.out).mono ?_; rintro e w3 ⟨rfl, ⟨m3, rfl⟩⟩)
      refine (HC15.out (w2.drewN m3) (pw_below_drewN HB2.out m3)).mono ?_
      rintro e w3 ⟨v6, rfl, hs6, hb3⟩
      have hb3 : Below w2.heap.size w2 w3 := (pw_below_drewN (Below.refl _ _) m3).trans hb3
      have hs6 : Kd.S (Kd.slice 3 (Kd.int .i64)) 32 w3 w2.heap.size (fun _ => True) v6 LK := hs6
      have hs6' := hs6
      obtain ⟨A6, c6, rfl, hl6, hC6⟩ := Kd.S_reads hs6
      have HB3 := Aside0.mk (below_step HB2.out hb3)
      have H23 := Aside0.mk hb3
      have H9 := Aside0.mk (HC9.out w3 A5 c5 A6 c6 (Kd.C_below HC5.out hb3) HL5.out hC6 hl6)
      have HS63 := Aside0.mk hs6'
      clear hs6 hs6' hl6 hC6 hb3
      go_wp2_with (go_at_call 9; refine H9.out.mono ?_; rintro e w4 ⟨rfl, ⟨m4, rfl⟩⟩)
      obtain ⟨Af, lf, cf, hro⟩ : ∃ (Af : Nat → Option Addr) (lf cf : Nat → Nat), ∀ ad, A5 = some ad → Rows w2 ad wa.heap.size w2.heap.size LK.length Af lf cf := by
        cases A5 with
        | none => exact ⟨fun _ => none, fun _ => 0, fun _ => 0, fun ad h => by cases h⟩
        | some ad =>
          obtain ⟨Af, lf, cf, h⟩ := rows_of_S HS5.out (Nat.le_refl _) HRS.out
          exact ⟨Af, lf, cf, fun ad' h' => by injection h' with h'; subst h'; exact h⟩
      have HRO4 : Aside0 (∀ ad, A5 = some ad → Rows (w3.drewN m4) ad wa.heap.size w2.heap.size LK.length Af lf cf) := ⟨fun ad hA => ((hro ad hA).below H23.out).below (pw_below_drewN (Below.refl _ _) _)⟩
      have HB4 : Aside0 (Below w.heap.size w (w3.drewN m4)) := ⟨pw_below_drewN HB3.out _⟩
      have HS6 : Aside0 (Kd.S (Kd.slice 3 (Kd.int .i64)) 32 (w3.drewN m4) w2.heap.size (fun _ => True) (.slice A6 LK.length c6) LK) := ⟨Kd.S_drewN HS63.out m4⟩
      clear hro HS5 HS63
      generalize wa.heap.size = B1 at HBS HRO4
      generalize w2.heap.size = N1 at HRO4 HS6
      generalize hW4 : w3.drewN m4 = w4 at HRO4 HB4 HS6 ⊢
      go_loopw [28] (fun v wr => ∃ u : Nat, u ≤ LK.length ∧ v = .int .i64 u ∧ Aside0 (∀ ad, A5 = some ad → Rows wr ad B1 N1 LK.length Af lf cf) ∧ Aside0 (Mut B1 N1 w4 wr)) (fun v _ => LK.length - (intOf v).toNat)
      case atStart => exact ⟨0, by omega, rfl, HRO4, ⟨Mut.refl _ _ _⟩⟩
      case round =>
        clear HRO4 hW4
        obtain ⟨u, hu, rfl, HRO, HM⟩ := hrel
        by_cases hut : u < LK.length
        · have hb4 : decide (u < LK.length) = true := by simp; omega
          have hut2 : (u : Int) < (LK.length : Int) := by omega
          obtain ⟨ad, _, _, hA, -, -, -⟩ := at_L6 HC5.out (u : Int) (by omega) (by omega)
          have co := (HRO.out ad hA).out u hut
          have hsm := (HRO.out ad hA).small u hut
          rw [hA]
          go_wp2
          go_loopw [34] (fun v wr => ∃ j : Nat, j ≤ lf u ∧ v = .int .i64 j ∧ Aside0 (Rows wr ad B1 N1 LK.length Af lf cf) ∧ Aside0 (Mut B1 N1 w4 wr)) (fun v _ => lf u - (intOf v).toNat)
          case atStart => exact ⟨0, by omega, rfl, ⟨HRO.out ad hA⟩, HM⟩
          case round =>
            clear HRO HM co
            obtain ⟨j, hj, rfl, HRO, HM⟩ := hrel
            by_cases hjt : j < lf u
            · have hb5 : decide (j < lf u) = true := by simp; omega
              have hjt2 : (j : Int) < (lf u : Int) := by omega
              obtain ⟨g, x, hA2, hcx, hfx, hg1, hg2⟩ := HRO.out.ins u hut j hjt
              have HX2 := Aside0.mk hcx
              have HG2 := Aside0.mk (And.intro hg1 hg2)
              clear hg1 hg2
              rw [hA2]
              go_wp2
              go_roundw
              case rel => exact ⟨j + 1, by omega, by go_num, ⟨HRO.out.set _ _ _ HX2.out⟩, ⟨HM.out.set _ _ HG2.out⟩⟩
              case measure => simp [intOf]; omega
            · have hb5 : decide (j < lf u) = false := by simp; omega
              go_wp2
              go_roundw
              case rel => exact ⟨u + 1, by omega, by go_num, ⟨fun ad' hA' => by injection hA' with hA'; subst hA'; exact HRO.out⟩, HM⟩
              case measure => simp [intOf]; omega
        · have hb4 : decide (u < LK.length) = false := by simp; omega
          have HBQ : Aside0 (Below w.heap.size w wr) := ⟨HB4.out.trans ⟨HM.out.os, HM.out.tape, HM.out.output, HM.out.size, fun k hk => HM.out.block k (Nat.lt_of_lt_of_le hk HB4.out.size) (.inl (Nat.lt_of_lt_of_le hk HBS.out))⟩⟩
          have HSQ := Aside0.mk (HM.out.keepS HS6.out)
          go_wp2_with fail
          refine (HC13.out wr HBQ.out).mono ?_
          rintro e w6 ⟨v7, rfl, hs7, hb6⟩
          obtain ⟨A7, c7, rfl, hl7, hC7⟩ := Kd.S_reads hs7
          have HB6 := Aside0.mk (below_step HBQ.out hb6)
          obtain ⟨hn8, hl8, hC8⟩ := Kd.S_reads' HSQ.out
          have H9 := Aside0.mk (HC9.out w6 A7 c7 A6 c6 hC7 hl7 (Kd.C_below hC8 hb6) hl8)
          clear hs7 hl7 hC7 hb6 hn8 hl8 hC8
          go_wp2_with (go_at_call 9; refine H9.out.mono ?_; rintro e w8 ⟨rfl, ⟨m8, rfl⟩⟩)
          go_ret
          exact ⟨rfl, pw_below_drewN HB6.out m8⟩
end Go.Proofs.Ytnjpbfljecmoiaa.Graph
