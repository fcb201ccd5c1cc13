/- GraphLeans: the law's own walk. -/
import Derived.Test.YtnjpbfljecmoiaaMut
import Derived.Test.YtnjpbfljecmoiaaRefLeans
namespace Go.Proofs.Ytnjpbfljecmoiaa.Graph
open Go.RowKit Go.Proofs.YtnjpbfljecmoiaaW.PrintWords Go.Proofs.Ytnjpbfljecmoiaa.PGraphLeans

theorem leans_rows (feet : List S27) (n : Nat) (hn : n ≤ 1000) : rowsAt (leansK feet n) 1000000 := by
  intro l hl
  obtain ⟨i, hi, rfl⟩ := List.mem_map.1 hl
  have := rowK_len feet i i
  have := List.mem_range.1 hi
  omega
set_option maxHeartbeats 8000000 in
set_option maxRecDepth 100000 in
theorem graphLeans_walk (A : Option Addr) (c : Nat) (feet : List S27) (w : World) (hx : Kd.C k27 w A feet.length feet) (hc : feet.length ≤ c) :
    Calls Try.prog 3 #[.slice A feet.length c] w fun e w' => e = .returned (.bool true) ∧ Below w.heap.size w w' := by
  have HX := Aside0.mk hx
  have HCC := Aside0.mk hc
  have hmax := Kd.C_max hx
  have z27v := z27v
  clear hx hc
  go_enter Try.func3, Try.ntmps3
  go_wp2_with (go_at_call 7; refine (alive_calls _).mono ?_; rintro e w1 ⟨rfl, hb1⟩)
  have HB1 := Aside0.mk hb1
  clear hb1
  go_loopw [13] (fun v wr => ∃ i : Nat, i ≤ feet.length ∧ v = .int .i64 i ∧ Aside0 (∀ j, j < i → j ≤ 30 ∧ (feet.getD j z27).f0.length ≤ 20 ∧ (feet.getD j z27).f1.length ≤ 20 ∧ (feet.getD j z27).f2.length ≤ 20) ∧ Aside0 (Below w.heap.size w wr)) (fun v _ => feet.length - (intOf v).toNat)
  case atStart => exact ⟨0, by omega, rfl, ⟨fun j hj => by omega⟩, HB1⟩
  case round =>
    clear HB1
    obtain ⟨i, hi, rfl, HN, HB⟩ := hrel
    by_cases hlt : i < feet.length
    · have hb : decide (i < feet.length) = true := by simp; omega
      have hlt2 : (i : Int) < (feet.length : Int) := by omega
      obtain ⟨ad, u, hA, e0, e1, e2, hok⟩ := foot_at HX.out i hlt
      replace e0 := (HB.out.cell (World.block_lt_of_cell? w _ e0)).trans e0
      replace e1 := (HB.out.cell (World.block_lt_of_cell? w _ e1)).trans e1
      replace e2 := (HB.out.cell (World.block_lt_of_cell? w _ e2)).trans e2
      have HNX : Aside0 ((i ≤ 30 ∧ (feet.getD i z27).f0.length ≤ 20 ∧ (feet.getD i z27).f1.length ≤ 20 ∧ (feet.getD i z27).f2.length ≤ 20) → ∀ j, j < i + 1 → j ≤ 30 ∧ (feet.getD j z27).f0.length ≤ 20 ∧ (feet.getD j z27).f1.length ≤ 20 ∧ (feet.getD j z27).f2.length ≤ 20) := ⟨fun h j hj => by
        by_cases e : j = i
        · subst e; exact h
        · exact HN.out j (by omega)⟩
      have H2 : Aside0 ((#[.slice u.A0 (feet.getD i z27).f0.length u.c0, .slice u.A1 (feet.getD i z27).f1.length u.c1, .slice u.A2 (feet.getD i z27).f2.length u.c2] : Array Value).all (·.oneCell') = true) := ⟨by simp [Value.oneCell']⟩
      have hm0 := Kd.C_max hok.g0
      have hm1 := Kd.C_max hok.g1
      have hm2 := Kd.C_max hok.g2
      clear hok
      generalize feet.getD i z27 = f at e0 e1 e2 HNX H2 hm0 hm1 hm2
      have HBN : Aside0 (Below w.heap.size w (wr.alloc (.cells #[.slice u.A0 f.f0.length u.c0, .slice u.A1 f.f1.length u.c1, .slice u.A2 f.f2.length u.c2] 27))) := ⟨below_alloc HB.out _⟩
      rw [hA]
      generalize hl0 : f.f0.length = l0 at e0 e1 e2 HNX H2 hm0 HBN
      generalize hl1 : f.f1.length = l1 at e0 e1 e2 HNX H2 hm1 HBN
      generalize hl2 : f.f2.length = l2 at e0 e1 e2 HNX H2 hm2 HBN
      clear hl0 hl1 hl2 f
      by_cases h0 : 30 < i
      · have d0 : decide ((30 : Int) < (i : Int)) = true := by simp; omega
        have d0' : decide (30 < i) = true := by simp; omega
        go_wp2_with (refine wpList_store_row rfl 27 _ _ rfl _ #[.slice u.A0 l0 u.c0, .slice u.A1 l1 u.c1, .slice u.A2 l2 u.c2] rfl rfl 27 #[.slice none 0 0, .slice none 0 0, .slice none 0 0] (heap_alloc_new _ _) (by kernel_rfl) rfl H2.out ?_; rw [World.setRow_alloc_new])
        go_ret
        exact ⟨rfl, HBN.out⟩
      · have d0 : decide ((30 : Int) < (i : Int)) = false := by simp; omega
        have d0' : decide (30 < i) = false := by simp; omega
        by_cases h1 : 20 < l0
        · have d1 : decide ((20 : Int) < (l0 : Int)) = true := by simp; omega
          have d1' : decide (20 < l0) = true := by simp; omega
          go_wp2_with (refine wpList_store_row rfl 27 _ _ rfl _ #[.slice u.A0 l0 u.c0, .slice u.A1 l1 u.c1, .slice u.A2 l2 u.c2] rfl rfl 27 #[.slice none 0 0, .slice none 0 0, .slice none 0 0] (heap_alloc_new _ _) (by kernel_rfl) rfl H2.out ?_; rw [World.setRow_alloc_new])
          go_ret
          exact ⟨rfl, HBN.out⟩
        · have d1 : decide ((20 : Int) < (l0 : Int)) = false := by simp; omega
          have d1' : decide (20 < l0) = false := by simp; omega
          by_cases h2 : 20 < l1
          · have d2 : decide ((20 : Int) < (l1 : Int)) = true := by simp; omega
            have d2' : decide (20 < l1) = true := by simp; omega
            go_wp2_with (refine wpList_store_row rfl 27 _ _ rfl _ #[.slice u.A0 l0 u.c0, .slice u.A1 l1 u.c1, .slice u.A2 l2 u.c2] rfl rfl 27 #[.slice none 0 0, .slice none 0 0, .slice none 0 0] (heap_alloc_new _ _) (by kernel_rfl) rfl H2.out ?_; rw [World.setRow_alloc_new])
            go_ret
            exact ⟨rfl, HBN.out⟩
          · have d2 : decide ((20 : Int) < (l1 : Int)) = false := by simp; omega
            have d2' : decide (20 < l1) = false := by simp; omega
            by_cases h3 : 20 < l2
            · have d3 : decide ((20 : Int) < (l2 : Int)) = true := by simp; omega
              have d3' : decide (20 < l2) = true := by simp; omega
              go_wp2_with (refine wpList_store_row rfl 27 _ _ rfl _ #[.slice u.A0 l0 u.c0, .slice u.A1 l1 u.c1, .slice u.A2 l2 u.c2] rfl rfl 27 #[.slice none 0 0, .slice none 0 0, .slice none 0 0] (heap_alloc_new _ _) (by kernel_rfl) rfl H2.out ?_; rw [World.setRow_alloc_new])
              go_ret
              exact ⟨rfl, HBN.out⟩
            · have d3 : decide ((20 : Int) < (l2 : Int)) = false := by simp; omega
              have d3' : decide (20 < l2) = false := by simp; omega
              have HN2 := Aside0.mk (HNX.out ⟨by omega, by omega, by omega, by omega⟩)
              go_wp2_with (refine wpList_store_row rfl 27 _ _ rfl _ #[.slice u.A0 l0 u.c0, .slice u.A1 l1 u.c1, .slice u.A2 l2 u.c2] rfl rfl 27 #[.slice none 0 0, .slice none 0 0, .slice none 0 0] (heap_alloc_new _ _) (by kernel_rfl) rfl H2.out ?_; rw [World.setRow_alloc_new])
              go_roundw
              case rel => exact ⟨i + 1, by omega, by go_num, HN2, HBN⟩
              case measure => simp [intOf]; omega
    · have hb : decide (i < feet.length) = false := by simp; omega
      have hN31 : feet.length ≤ 31 := by
        by_cases c0 : feet.length = 0
        · omega
        · have := (HN.out (feet.length - 1) (by omega)).1; omega
      have HSH : Aside0 (∀ f ∈ feet, Short f) := ⟨fun f hf => by
        obtain ⟨j, hj, rfl⟩ := List.mem_iff_getElem.1 hf
        have e : feet.getD j z27 = feet[j] := by simp [List.getD_eq_getElem?_getD, hj]
        have := HN.out j (by omega)
        rw [e] at this
        exact ⟨by omega, by omega, by omega⟩⟩
      clear hlt HN z27v
      have HG := Aside0.mk (good_leans feet)
      have HRS := Aside0.mk (leans_rows feet feet.length (by omega))
      have HC8 : Aside0 (∀ W, Below w.heap.size w W → Calls Try.prog 8 #[.slice A feet.length c] W fun e w' => ∃ v, e = .returned v ∧ Kd.S (Kd.slice 3 (Kd.int .i64)) 32 w' W.heap.size (fun _ => True) v (leansK feet feet.length) ∧ Below W.heap.size W w') := ⟨fun W hW => leans_calls A c feet W (Kd.C_below HX.out hW) (by omega)⟩
      have HC10 : Aside0 (∀ W, Below w.heap.size w W → Calls Try.prog 10 #[.slice A feet.length c] W fun e w' => ∃ v, e = .returned v ∧ Kd.S (Kd.slice 3 (Kd.int .i64)) 32 w' W.heap.size (fun _ => True) v (leansK feet feet.length) ∧ Below W.heap.size W w') := ⟨fun W hW => refLeans_calls A c feet W (Kd.C_below HX.out hW) HCC.out HSH.out (by omega)⟩
      have hLL := leansK_len feet feet.length
      generalize leansK feet feet.length = LK at HG HRS HC8 HC10 hLL
      have HLL : Aside0 (LK.length ≤ 1000000) := ⟨by omega⟩
      have hLL2 : LK.length ≤ 31 := by omega
      clear HSH HX hLL
      have HC9 : Aside0 (∀ W A0 c0 A1 c1, Kd.C (Kd.slice 3 (Kd.int .i64)) W A0 LK.length LK → LK.length ≤ c0 → Kd.C (Kd.slice 3 (Kd.int .i64)) W A1 LK.length LK → LK.length ≤ c1 → Calls Try.prog 9 #[.slice A0 LK.length c0, .slice A1 LK.length c1] W fun e w' => e = .returned (.bool true) ∧ Drawn0 W w') := ⟨fun W A0 c0 A1 c1 h0 h1 h2 h3 => by
        have := rows_calls A0 c0 LK A1 c1 LK W HLL.out HRS.out h0 h1 h2 h3
        rwa [decide_eq_true (rfl : LK = LK)] at this⟩
      go_wp2_with fail
      refine (HC8.out wr HB.out).mono ?_
      rintro e w2 ⟨v5, rfl, hs5, hb2⟩
      have HB2 := Aside0.mk (below_step HB.out hb2)
      have HBS := Aside0.mk HB.out.size
      have hs5' := hs5
      obtain ⟨A5, c5, rfl, hl5, hC5⟩ := Kd.S_reads hs5
      have HS5 := Aside0.mk hs5'
      have HL5 := Aside0.mk hl5
      have HC5 := Aside0.mk hC5
      clear hs5 hs5' hl5 hC5 hb2
      go_wp2_with fail
      refine (HC10.out w2 HB2.out).mono ?_
      rintro e w3 ⟨v6, rfl, hs6, hb3⟩
      obtain ⟨A6, c6, rfl, hl6, hC6⟩ := Kd.S_reads hs6
      have HB3 := Aside0.mk (below_step HB2.out hb3)
      have HC53 := Aside0.mk (Kd.C_below HC5.out hb3)
      have H23 := Aside0.mk hb3
      have h9 := HC9.out w3 A5 c5 A6 c6 HC53.out HL5.out hC6 hl6
      have H9 := Aside0.mk h9
      have H11 : Aside0 (∀ m, Calls Try.prog 11 #[.slice A5 LK.length c5] (w3.drewN m) fun e w' => e = .returned (.bool true) ∧ Drawn0 (w3.drewN m) w') := ⟨fun m => by
        have := good_calls A5 c5 LK (w3.drewN m) HLL.out HRS.out (Kd.C_below HC53.out (pw_below_drewN (Below.refl _ _) m)) HL5.out
        rwa [HG.out] at this⟩
      clear hs6 hl6 hC6 h9 hb3
      go_wp2_with (first | (go_at_call 9; refine H9.out.mono ?_; rintro e w4 ⟨rfl, ⟨m4, rfl⟩⟩) | (go_at_call 11; refine (H11.out _).mono ?_; rintro e w5 ⟨rfl, ⟨m5, rfl⟩⟩))
      obtain ⟨Af, lf, cf, hro⟩ : ∃ (Af : Nat → Option Addr) (lf cf : Nat → Nat), ∀ ad, A5 = some ad → Rows w2 ad wr.heap.size w2.heap.size LK.length Af lf cf := by
        cases A5 with
        | none => exact ⟨fun _ => none, fun _ => 0, fun _ => 0, fun ad h => by cases h⟩
        | some ad =>
          obtain ⟨Af, lf, cf, h⟩ := rows_of_S HS5.out (Nat.le_refl _) HRS.out
          exact ⟨Af, lf, cf, fun ad' h' => by injection h' with h'; subst h'; exact h⟩
      have HRO4 : Aside0 (∀ ad, A5 = some ad → Rows (w3.drewN (m4 + m5)) ad wr.heap.size w2.heap.size LK.length Af lf cf) := ⟨fun ad hA => ((hro ad hA).below H23.out).below (pw_below_drewN (Below.refl _ _) _)⟩
      have HB4 : Aside0 (Below w.heap.size w (w3.drewN (m4 + m5))) := ⟨pw_below_drewN HB3.out _⟩
      clear hro H11 HC53 HS5
      generalize wr.heap.size = B1 at HBS HRO4
      generalize w2.heap.size = N1 at HRO4
      generalize hW4 : w3.drewN (m4 + m5) = w4 at HRO4 HB4 ⊢
      go_loopw [53] (fun v wr => ∃ u : Nat, u ≤ LK.length ∧ v = .int .i64 u ∧ Aside0 (∀ ad, A5 = some ad → Rows wr ad B1 N1 LK.length Af lf cf) ∧ Aside0 (Mut B1 N1 w4 wr)) (fun v _ => LK.length - (intOf v).toNat)
      case atStart => exact ⟨0, by omega, rfl, HRO4, ⟨Mut.refl _ _ _⟩⟩
      case round =>
        clear HRO4 hW4
        obtain ⟨u, hu, rfl, HRO, HM⟩ := hrel
        by_cases hut : u < LK.length
        · have hb4 : decide (u < LK.length) = true := by simp; omega
          have hut2 : (u : Int) < (LK.length : Int) := by omega
          obtain ⟨ad, _, _, hA, -, -, -⟩ := at_L6 HC5.out (u : Int) (by omega) (by omega)
          have co := (HRO.out ad hA).out u hut
          have hsm := (HRO.out ad hA).small u hut
          rw [hA]
          go_wp2
          go_loopw [59] (fun v wr => ∃ j : Nat, j ≤ lf u ∧ v = .int .i64 j ∧ Aside0 (Rows wr ad B1 N1 LK.length Af lf cf) ∧ Aside0 (Mut B1 N1 w4 wr)) (fun v _ => lf u - (intOf v).toNat)
          case atStart => exact ⟨0, by omega, rfl, ⟨HRO.out ad hA⟩, HM⟩
          case round =>
            clear HRO HM co
            obtain ⟨j, hj, rfl, HRO, HM⟩ := hrel
            by_cases hjt : j < lf u
            · have hb5 : decide (j < lf u) = true := by simp; omega
              have hjt2 : (j : Int) < (lf u : Int) := by omega
              obtain ⟨g, x, hA2, hcx, hfx, hg1, hg2⟩ := HRO.out.ins u hut j hjt
              have HX2 := Aside0.mk hcx
              have HG2 := Aside0.mk (And.intro hg1 hg2)
              clear hg1 hg2
              rw [hA2]
              go_wp2
              go_roundw
              case rel => exact ⟨j + 1, by omega, by go_num, ⟨HRO.out.set _ _ _ HX2.out⟩, ⟨HM.out.set _ _ HG2.out⟩⟩
              case measure => simp [intOf]; omega
            · have hb5 : decide (j < lf u) = false := by simp; omega
              go_wp2
              go_roundw
              case rel => exact ⟨u + 1, by omega, by go_num, ⟨fun ad' hA' => by injection hA' with hA'; subst hA'; exact HRO.out⟩, HM⟩
              case measure => simp [intOf]; omega
        · have hb4 : decide (u < LK.length) = false := by simp; omega
          have HBQ : Aside0 (Below w.heap.size w wr) := ⟨HB4.out.trans ⟨HM.out.os, HM.out.tape, HM.out.output, HM.out.size, fun k hk => HM.out.block k (Nat.lt_of_lt_of_le hk HB4.out.size) (.inl (Nat.lt_of_lt_of_le hk HBS.out))⟩⟩
          go_wp2_with fail
          refine (HC8.out wr HBQ.out).mono ?_
          rintro e w6 ⟨v7, rfl, hs7, hb6⟩
          obtain ⟨A7, c7, rfl, hl7, hC7⟩ := Kd.S_reads hs7
          have HB6 := Aside0.mk (below_step HBQ.out hb6)
          have HC7 := Aside0.mk hC7
          have HL7 := Aside0.mk hl7
          clear hs7 hl7 hC7 hb6
          go_wp2_with fail
          refine (HC10.out w6 HB6.out).mono ?_
          rintro e w7 ⟨v8, rfl, hs8, hb7⟩
          obtain ⟨A8, c8, rfl, hl8, hC8⟩ := Kd.S_reads hs8
          have HB7 := Aside0.mk (below_step HB6.out hb7)
          have H9 := Aside0.mk (HC9.out w7 A7 c7 A8 c8 (Kd.C_below HC7.out hb7) HL7.out hC8 hl8)
          clear hs8 hl8 hC8 hb7
          go_wp2_with (go_at_call 9; refine H9.out.mono ?_; rintro e w8 ⟨rfl, ⟨m8, rfl⟩⟩)
          go_ret
          exact ⟨rfl, pw_below_drewN HB7.out m8⟩
end Go.Proofs.Ytnjpbfljecmoiaa.Graph
