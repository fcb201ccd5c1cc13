/- GraphOrders: the law's own walk. -/
import Derived.Test.YtnjpbfljecmoiaaGraphLeansWalk
import Derived.Test.YtnjpbfljecmoiaaOrders0
namespace Go.Proofs.Ytnjpbfljecmoiaa.Graph
open Go.RowKit Go.Proofs.YtnjpbfljecmoiaaW.PrintWords Go.Proofs.Ytnjpbfljecmoiaa.PGraphLeans Lvl

theorem rowsAt_mono3 {L : List (List Int)} {a b : Nat} (h : rowsAt L a) (hab : a ≤ b) : rowsAt L b := fun l hl => Nat.le_trans (h l hl) hab
theorem leans_rows2 (feet : List S27) (n b : Nat) (hn : n ≤ b) : rowsAt (leansK feet n) b := by
  intro l hl
  obtain ⟨i, hi, rfl⟩ := List.mem_map.1 hl
  have := rowK_len feet i i
  have := List.mem_range.1 hi
  omega
theorem least_rows (L : List (List Int)) (b : Nat) (h : rowsAt L b) : rowsAt (leastK L L.length) b := by
  intro l hl
  obtain ⟨i, hi, rfl⟩ := List.mem_map.1 hl
  have hi := List.mem_range.1 hi
  unfold leastRow
  refine Nat.le_trans (List.length_filter_le _ _) (h _ ?_)
  rw [List.getD_eq_getElem?_getD, List.getElem?_eq_getElem hi]
  exact List.getElem_mem hi
set_option maxHeartbeats 8000000 in
set_option maxRecDepth 100000 in
theorem graphOrders_walk (A : Option Addr) (c : Nat) (feet : List S27) (A1 : Option Addr) (c1 : Nat) (order : List Int) (w : World) (hx : Kd.C k27 w A feet.length feet) (hy : Kd.C (Kd.int .i64) w A1 order.length order) :
    Calls Try.prog 6 #[.slice A feet.length c, .slice A1 order.length c1] w fun e w' => e = .returned (.bool true) ∧ Below w.heap.size w w' := by
  have HX := Aside0.mk hx
  have HY := Aside0.mk hy
  have hmax := Kd.C_max hx
  have z27v := z27v
  clear hx hy
  go_enter Try.func6, Try.ntmps6
  go_wp2_with (go_at_call 7; refine (alive_calls _).mono ?_; rintro e w1 ⟨rfl, hb1⟩)
  have HB1 := Aside0.mk hb1
  clear hb1
  go_loopw [21] (fun v wr => ∃ i : Nat, i ≤ feet.length ∧ v = .int .i64 i ∧ Aside0 (∀ j, j < i → j ≤ 20) ∧ Aside0 (Below w.heap.size w wr)) (fun v _ => feet.length - (intOf v).toNat)
  case atStart => exact ⟨0, by omega, rfl, ⟨fun j hj => by omega⟩, HB1⟩
  case round =>
    clear HB1
    obtain ⟨i, hi, rfl, HN, HB⟩ := hrel
    by_cases hlt : i < feet.length
    · have hb : decide (i < feet.length) = true := by simp; omega
      have hlt2 : (i : Int) < (feet.length : Int) := by omega
      obtain ⟨ad, u, hA, e0, e1, e2, hok⟩ := foot_at HX.out i hlt
      replace e0 := (HB.out.cell (World.block_lt_of_cell? w _ e0)).trans e0
      replace e1 := (HB.out.cell (World.block_lt_of_cell? w _ e1)).trans e1
      replace e2 := (HB.out.cell (World.block_lt_of_cell? w _ e2)).trans e2
      have HNX : Aside0 (i ≤ 20 → ∀ j, j < i + 1 → j ≤ 20) := ⟨fun h j hj => by
        by_cases e : j = i
        · subst e; exact h
        · exact HN.out j (by omega)⟩
      have H2 : Aside0 ((#[.slice u.A0 (feet.getD i z27).f0.length u.c0, .slice u.A1 (feet.getD i z27).f1.length u.c1, .slice u.A2 (feet.getD i z27).f2.length u.c2] : Array Value).all (·.oneCell') = true) := ⟨by simp [Value.oneCell']⟩
      have hm0 := Kd.C_max hok.g0
      have hm1 := Kd.C_max hok.g1
      have hm2 := Kd.C_max hok.g2
      clear hok
      generalize feet.getD i z27 = f at e0 e1 e2 H2 hm0 hm1 hm2
      have HBN : Aside0 (Below w.heap.size w (wr.alloc (.cells #[.slice u.A0 f.f0.length u.c0, .slice u.A1 f.f1.length u.c1, .slice u.A2 f.f2.length u.c2] 27))) := ⟨below_alloc HB.out _⟩
      rw [hA]
      generalize hl0 : f.f0.length = l0 at e0 e1 e2 H2 hm0 HBN
      generalize hl1 : f.f1.length = l1 at e0 e1 e2 H2 hm1 HBN
      generalize hl2 : f.f2.length = l2 at e0 e1 e2 H2 hm2 HBN
      clear hl0 hl1 hl2 f
      by_cases h0 : 20 < i
      · have d0 : decide ((20 : Int) < (i : Int)) = true := by simp; omega
        have d0' : decide (20 < i) = true := by simp; omega
        go_wp2_with (refine wpList_store_row rfl 27 _ _ rfl _ #[.slice u.A0 l0 u.c0, .slice u.A1 l1 u.c1, .slice u.A2 l2 u.c2] rfl rfl 27 #[.slice none 0 0, .slice none 0 0, .slice none 0 0] (heap_alloc_new _ _) (by kernel_rfl) rfl H2.out ?_; rw [World.setRow_alloc_new])
        go_ret
        exact ⟨rfl, HBN.out⟩
      · have d0 : decide ((20 : Int) < (i : Int)) = false := by simp; omega
        have d0' : decide (20 < i) = false := by simp; omega
        by_cases h1 : 20 < l0
        · have d1 : decide ((20 : Int) < (l0 : Int)) = true := by simp; omega
          have d1' : decide (20 < l0) = true := by simp; omega
          go_wp2_with (refine wpList_store_row rfl 27 _ _ rfl _ #[.slice u.A0 l0 u.c0, .slice u.A1 l1 u.c1, .slice u.A2 l2 u.c2] rfl rfl 27 #[.slice none 0 0, .slice none 0 0, .slice none 0 0] (heap_alloc_new _ _) (by kernel_rfl) rfl H2.out ?_; rw [World.setRow_alloc_new])
          go_ret
          exact ⟨rfl, HBN.out⟩
        · have d1 : decide ((20 : Int) < (l0 : Int)) = false := by simp; omega
          have d1' : decide (20 < l0) = false := by simp; omega
          by_cases h2 : 20 < l1
          · have d2 : decide ((20 : Int) < (l1 : Int)) = true := by simp; omega
            have d2' : decide (20 < l1) = true := by simp; omega
            go_wp2_with (refine wpList_store_row rfl 27 _ _ rfl _ #[.slice u.A0 l0 u.c0, .slice u.A1 l1 u.c1, .slice u.A2 l2 u.c2] rfl rfl 27 #[.slice none 0 0, .slice none 0 0, .slice none 0 0] (heap_alloc_new _ _) (by kernel_rfl) rfl H2.out ?_; rw [World.setRow_alloc_new])
            go_ret
            exact ⟨rfl, HBN.out⟩
          · have d2 : decide ((20 : Int) < (l1 : Int)) = false := by simp; omega
            have d2' : decide (20 < l1) = false := by simp; omega
            by_cases h3 : 20 < l2
            · have d3 : decide ((20 : Int) < (l2 : Int)) = true := by simp; omega
              have d3' : decide (20 < l2) = true := by simp; omega
              go_wp2_with (refine wpList_store_row rfl 27 _ _ rfl _ #[.slice u.A0 l0 u.c0, .slice u.A1 l1 u.c1, .slice u.A2 l2 u.c2] rfl rfl 27 #[.slice none 0 0, .slice none 0 0, .slice none 0 0] (heap_alloc_new _ _) (by kernel_rfl) rfl H2.out ?_; rw [World.setRow_alloc_new])
              go_ret
              exact ⟨rfl, HBN.out⟩
            · have d3 : decide ((20 : Int) < (l2 : Int)) = false := by simp; omega
              have d3' : decide (20 < l2) = false := by simp; omega
              have HN2 := Aside0.mk (HNX.out (by omega))
              go_wp2_with (refine wpList_store_row rfl 27 _ _ rfl _ #[.slice u.A0 l0 u.c0, .slice u.A1 l1 u.c1, .slice u.A2 l2 u.c2] rfl rfl 27 #[.slice none 0 0, .slice none 0 0, .slice none 0 0] (heap_alloc_new _ _) (by kernel_rfl) rfl H2.out ?_; rw [World.setRow_alloc_new])
              go_roundw
              case rel => exact ⟨i + 1, by omega, by go_num, HN2, HBN⟩
              case measure => simp [intOf]; omega
    · have hb : decide (i < feet.length) = false := by simp; omega
      have hN21 : feet.length ≤ 21 := by
        by_cases c0 : feet.length = 0
        · omega
        · have := HN.out (feet.length - 1) (by omega); omega
      clear hlt HN z27v
      by_cases h30 : 30 < order.length
      · have d0 : decide ((30 : Int) < (order.length : Int)) = true := by simp; omega
        have d0' : decide (30 < order.length) = true := by simp; omega
        clear HX HY
        go_wp2
        go_ret
        exact ⟨rfl, HB.out⟩
      · have d0 : decide ((30 : Int) < (order.length : Int)) = false := by simp; omega
        have d0' : decide (30 < order.length) = false := by simp; omega
        have hlk := leansK_len feet feet.length
        have hgl := good_leans feet
        have hr21 := leans_rows2 feet feet.length 21 hN21
        have HC8 : Aside0 (∀ W, Below w.heap.size w W → Calls Try.prog 8 #[.slice A feet.length c] W fun e w' => ∃ A5 c5, e = .returned (.slice A5 feet.length c5) ∧ feet.length ≤ c5 ∧ Kd.C (Kd.slice 3 (Kd.int .i64)) w' A5 feet.length (leansK feet feet.length) ∧ Below W.heap.size W w') := ⟨fun W hW => by
          refine (leans_calls A c feet W (Kd.C_below HX.out hW) (by omega)).mono ?_
          rintro e w' ⟨v, rfl, hS, hB⟩
          obtain ⟨A5, c5, rfl, hl5, hC5⟩ := Kd.S_reads hS
          rw [hlk] at hl5 hC5
          exact ⟨A5, c5, by rw [hlk], hl5, hC5, hB⟩⟩
        generalize leansK feet feet.length = LK at hlk hgl hr21 HC8
        generalize feet.length = N at *
        subst hlk
        clear hmax HX
        have HLN : Aside0 (LK.length ≤ 21) := ⟨hN21⟩
        have hN : LK.length ≤ 1000000 := by omega
        have HC13 : Aside0 (∀ W A5 c5, LK.length ≤ c5 → Kd.C (Kd.slice 3 (Kd.int .i64)) W A5 LK.length LK → Calls Try.prog 13 #[.slice A5 LK.length c5] W fun e w' => ∃ A6 c6, e = .returned (.slice A6 LK.length c6) ∧ LK.length ≤ c6 ∧ Kd.C (Kd.slice 3 (Kd.int .i64)) w' A6 LK.length (leastK LK LK.length) ∧ Below W.heap.size W w') := ⟨fun W A5 c5 h1 h2 => by
          refine (least_good A5 c5 LK W h2 h1 hN (rowsAt_mono3 hr21 (by omega)) hgl).mono ?_
          rintro e w' ⟨v, rfl, hS, hB⟩
          obtain ⟨A6, c6, rfl, hl6, hC6⟩ := Kd.S_reads hS
          rw [leastK_len] at hl6 hC6
          exact ⟨A6, c6, by rw [leastK_len], hl6, hC6, hB⟩⟩
        have HC16 : Aside0 (∀ W A5 c5, LK.length ≤ c5 → Kd.C (Kd.slice 3 (Kd.int .i64)) W A5 LK.length LK → Calls Try.prog 16 #[.slice A5 LK.length c5] W fun e w' => ∃ A6 c6, e = .returned (.tuple #[.slice A6 LK.length c6, .nilIface]) ∧ LK.length ≤ c6 ∧ Kd.C (Kd.int .i64) w' A6 LK.length (levelsK LK LK.length) ∧ Below W.heap.size W w') := ⟨fun W A5 c5 h1 h2 => by
          refine (Lvl.levels_good LK hgl (by omega) (rowsAt_mono3 hr21 (by omega)) A5 c5 W h2 h1).mono ?_
          rintro e w' ⟨v, rfl, hS, hB⟩
          obtain ⟨A6, c6, rfl, hl6, hC6⟩ := Kd.R_reads hS
          rw [levelsK_len] at hl6 hC6
          exact ⟨A6, c6, by rw [levelsK_len], hl6, hC6, hB⟩⟩
        have HL17 : Aside0 (∀ W A5 c5 A6 c6 ord, LK.length ≤ c5 → Kd.C (Kd.slice 3 (Kd.int .i64)) W A5 LK.length LK → Kd.C (Kd.int .i64) W A6 ord.length ord → Calls Try.prog 17 #[.slice A5 LK.length c5, .slice A6 ord.length c6] W fun e w' => e = .returned (.bool (keepsB LK ord)) ∧ Below W.heap.size W w') := ⟨fun W A5 c5 A6 c6 ord h1 h2 h3 => keeps_calls A5 c5 LK A6 c6 ord W h2 h1 hN (rowsAt_mono3 hr21 (by omega)) h3⟩
        have HM17 : Aside0 (∀ W A5 c5 A6 c6 ord, LK.length ≤ c5 → Kd.C (Kd.slice 3 (Kd.int .i64)) W A5 LK.length (leastK LK LK.length) → Kd.C (Kd.int .i64) W A6 ord.length ord → Calls Try.prog 17 #[.slice A5 LK.length c5, .slice A6 ord.length c6] W fun e w' => e = .returned (.bool (keepsB LK ord)) ∧ Below W.heap.size W w') := ⟨fun W A5 c5 A6 c6 ord h1 h2 h3 => by
          have hl := leastK_len LK LK.length
          have := keeps_calls A5 c5 (leastK LK LK.length) A6 c6 ord W (by rw [hl]; exact h2) (by rw [hl]; exact h1) (by rw [hl]; exact hN) (least_rows LK _ (rowsAt_mono3 hr21 (by omega))) h3
          rw [keeps_least LK hgl, hl] at this
          exact this⟩
        have HKB := Aside0.mk (keeps_by LK hgl)
        have HKS := Aside0.mk (keeps_straight LK hgl)
        have HBL : Aside0 (∀ l i, (byK (levelsK LK LK.length) LK.length l ++ blockK (levelsK LK LK.length) i l).length ≤ l * LK.length + i) := ⟨fun l i => by
          have h1 := byK_len (levelsK LK LK.length) LK.length l
          have h2 := blockK_len (levelsK LK LK.length) i l
          rw [List.length_append]; omega⟩
        have HLV := Aside0.mk (levelsK_len LK LK.length)
        generalize levelsK LK LK.length = LV at HC16 HKB HBL HLV
        generalize leastK LK LK.length = LM at HC13 HM17
        clear hgl hr21 hN21
        generalize keepsB LK order = kb at *
        go_wp2_with fail
        refine (HC8.out _ HB.out).mono ?_
        rintro e w5 ⟨A5, c5, rfl, hl5, hC5, hb5⟩
        have HB5 := Aside0.mk (below_step HB.out hb5)
        have HL5 := Aside0.mk hl5
        have HC5 := Aside0.mk hC5
        clear hb5 hl5 hC5 HC8
        go_wp2_with fail
        refine (HC13.out _ _ _ HL5.out HC5.out).mono ?_
        rintro e w6 ⟨A6, c6, rfl, hl6, hC6, hb6⟩
        have HB6 := Aside0.mk (below_step HB5.out hb6)
        have HC56 := Aside0.mk (Kd.C_below HC5.out hb6)
        have HL6 := Aside0.mk hl6
        have HC6 := Aside0.mk hC6
        clear hb6 hl6 hC6 HC13
        go_wp2_with fail
        refine (HC16.out _ _ _ HL5.out HC56.out).mono ?_
        rintro e w7 ⟨A7, c7, rfl, hl7, hC7, hb7⟩
        have HB7 := Aside0.mk (below_step HB6.out hb7)
        have HC57 := Aside0.mk (Kd.C_below HC56.out hb7)
        have HC67 := Aside0.mk (Kd.C_below HC6.out hb7)
        have HC7 := Aside0.mk hC7
        clear hb7 hl7 hC7 HC16
        have HZ7 := Aside0.mk HB7.out.size
        have hmx7 := Kd.C_max HC7.out
        have HT7 := HB7
        go_wp2_with (first | (go_at_call 17; refine (HL17.out _ _ _ _ _ _ HL5.out HC57.out (Kd.C_below HY.out HT7.out)).mono ?_; rintro e w8 ⟨rfl, hb8⟩; have HB8 := Aside0.mk (below_step HB7.out hb8); have H78 := Aside0.mk hb8; clear hb8 HT7) | (go_at_call 17; refine (HM17.out _ _ _ _ _ _ HL6.out (Kd.C_below HC67.out H78.out) (Kd.C_below HY.out HB8.out)).mono ?_; rintro e w9 ⟨rfl, hb9⟩; have HB9 := Aside0.mk (below_step HB8.out hb9); have H79 := Aside0.mk (below_step H78.out hb9); clear hb9))
        have HBF : Aside0 (Below w7.heap.size w7 (w9.alloc (.cells #[] 3))) := ⟨below_alloc H79.out _⟩
        have HRF : Aside0 (Kd.R (Kd.int .i64) 3 (w9.alloc (.cells #[] 3)) w7.heap.size (fun _ => True) (.slice (some ⟨w9.heap.size, 0, none⟩) 0 0) (byK LV LK.length 0)) := ⟨Kd.R_of_own (own_lit w9 w7.heap.size 3 .i64 [] H79.out.size (by simp)) (fun _ _ => trivial)⟩
        generalize w9.alloc (.cells #[] 3) = wF at HBF HRF ⊢
        go_loopw [11, 80] (fun v11 v wr => ∃ l : Nat, l ≤ LK.length ∧ v = .int .i64 l ∧ Aside0 (Kd.R (Kd.int .i64) 3 wr w7.heap.size (fun _ => True) v11 (byK LV LK.length l)) ∧ Aside0 (Below w7.heap.size w7 wr)) (fun _ v _ => LK.length - (intOf v).toNat)
        case atStart => exact ⟨0, by omega, rfl, HRF, HBF⟩
        case round =>
          clear HRF HBF
          obtain ⟨l, hl, rfl, HR, HB0⟩ := hrel
          by_cases hlt : l < LK.length
          · have hb : decide (l < LK.length) = true := by simp; omega
            go_wp2
            go_loopw [11, 85] (fun v11 v wr => ∃ i : Nat, i ≤ LK.length ∧ v = .int .i64 i ∧ Aside0 (Kd.R (Kd.int .i64) 3 wr w7.heap.size (fun _ => True) v11 (byK LV LK.length l ++ blockK LV i l)) ∧ Aside0 (Below w7.heap.size w7 wr)) (fun _ v _ => LK.length - (intOf v).toNat)
            case atStart => exact ⟨0, by omega, rfl, ⟨by rw [show blockK LV 0 l = [] from rfl, List.append_nil]; exact HR.out⟩, HB0⟩
            case round =>
              clear HR HB0
              obtain ⟨i, hi, rfl, HR, HB0⟩ := hrel
              by_cases hit : i < LK.length
              · have hb2 : decide (i < LK.length) = true := by simp; omega
                have hit2 : (i : Int) < (LK.length : Int) := by omega
                obtain ⟨ad, hA, e0⟩ := Kd.at_int (Kd.C_below HC7.out HB0.out) (i : Int) (by omega) (by omega)
                have hll := HLV.out
                rw [Int.toNat_natCast, rd_nat LV i (by omega)] at e0
                have HBS := Aside0.mk (blockK_succ LV i l)
                rw [List.getD_eq_getElem?_getD, List.getElem?_eq_getElem (by omega), Option.getD_some] at HBS
                generalize LV[i]'(by omega) = x at e0 HBS
                clear hll
                rw [hA]
                by_cases hxl : x = (l : Int)
                · have d1 : decide (x = (l : Int)) = true := by simp [hxl]
                  have d1' : (x == (l : Int)) = true := by simp [hxl]
                  rw [if_pos hxl] at HBS
                  clear hxl
                  have HSZ : Aside0 ((byK LV LK.length l ++ blockK LV i l).length ≤ 1000) := ⟨by
                    have h1 := HBL.out l i
                    have h2 := HLN.out
                    have h3 : l * LK.length ≤ 21 * 21 := Nat.mul_le_mul (by omega) (by omega)
                    omega⟩
                  have HBS2 : Aside0 (byK LV LK.length l ++ blockK LV (i + 1) l = byK LV LK.length l ++ blockK LV i l ++ [(i : Int)]) := ⟨by rw [HBS.out, List.append_assoc]⟩
                  clear HBS
                  generalize byK LV LK.length l ++ blockK LV i l = ys at HR HSZ HBS2
                  go_wp2_with (at_builtin; refine Kd.R_append (Kd.int .i64) (w0 := w7) w7.heap.size rfl (.tmp 93) (.tmp 95) 32 3 (.int .i64 0) 8 rfl Try.underlying32 info3 rfl (by decide) (by omega) u11 ys (i : Int) [.int .i64 i] (fun _ => True) (fun _ => False) rfl rfl rfl (fun _ hk => hk.elim) (fun _ _ => trivial) HR.out HB0.out HB0.out.size (by have := HSZ.out; omega) ?_; intro v8 w8 hr8 hb8 hg8 hat8; clear hg8 hat8)
                  go_roundw
                  case rel => exact ⟨i + 1, by omega, by go_num, ⟨by rw [HBS2.out]; exact hr8⟩, ⟨hb8⟩⟩
                  case measure => simp [intOf]; omega
                · have d1 : decide (x = (l : Int)) = false := by simp [hxl]
                  have d1' : (x == (l : Int)) = false := by simp [hxl]
                  rw [if_neg hxl] at HBS
                  clear hxl
                  go_wp2
                  go_roundw
                  case rel => exact ⟨i + 1, by omega, by go_num, ⟨by rw [HBS.out]; exact HR.out⟩, HB0⟩
                  case measure => simp [intOf]; omega
              · have hb2 : decide (i < LK.length) = false := by simp; omega
                have HE : Aside0 (byK LV LK.length l ++ blockK LV i l = byK LV LK.length (l + 1)) := ⟨by rw [show i = LK.length by omega]; rfl⟩
                go_wp2
                go_roundw
                case rel => exact ⟨l + 1, by omega, by go_num, ⟨by rw [← HE.out]; exact HR.out⟩, HB0⟩
                case measure => simp [intOf]; omega
          · have hb : decide (l < LK.length) = false := by simp; omega
            have hlN : l = LK.length := by omega
            rw [hlN] at HR
            clear hlN
            obtain ⟨A11, c11, rfl, hl11, hC11⟩ := Kd.R_reads HR.out
            have HC11 := Aside0.mk hC11
            clear hl11 hC11
            generalize byK LV LK.length LK.length = BY at HR HC11 HKB
            go_wp2
            have HBF : Aside0 (Below wr.heap.size wr (wr.alloc (.cells #[] 3))) := ⟨below_alloc (Below.refl _ _) _⟩
            have HRF : Aside0 (Kd.R (Kd.int .i64) 3 (wr.alloc (.cells #[] 3)) wr.heap.size (fun _ => True) (.slice (some ⟨wr.heap.size, 0, none⟩) 0 0) (straightK 0)) := ⟨Kd.R_of_own (own_lit wr wr.heap.size 3 .i64 [] (Nat.le_refl _) (by simp)) (fun _ _ => trivial)⟩
            have HCK : Aside0 (∀ W, Below wr.heap.size wr W → Below w7.heap.size w7 W) := ⟨fun W hW => below_step HB0.out hW⟩
            generalize wr.alloc (.cells #[] 3) = wG at HBF HRF ⊢
            have HWS := Aside0.mk HB0.out.size
            generalize hW10 : wr = w10 at HR HB0 HC11 HBF HRF HWS HCK ⊢
            clear hW10
            go_loopw [15, 102] (fun v15 v wr => ∃ l : Nat, l ≤ LK.length ∧ v = .int .i64 l ∧ Aside0 (Kd.R (Kd.int .i64) 3 wr w10.heap.size (fun _ => True) v15 (straightK l)) ∧ Aside0 (Below w10.heap.size w10 wr)) (fun _ v _ => LK.length - (intOf v).toNat)
            case atStart => exact ⟨0, by omega, rfl, HRF, HBF⟩
            case round =>
              clear HRF HBF
              obtain ⟨l, hl, rfl, HR15, HBL2⟩ := hrel
              by_cases hlt2 : l < LK.length
              · have hb3 : decide (l < LK.length) = true := by simp; omega
                have HBS := Aside0.mk (straightK_succ l)
                have HSZ : Aside0 ((straightK l).length ≤ 1000) := ⟨by rw [straightK_len]; have := HLN.out; omega⟩
                generalize straightK l = ys at HR15 HSZ HBS
                go_wp2_with (at_builtin; refine Kd.R_append (Kd.int .i64) (w0 := w10) w10.heap.size rfl (.tmp 105) (.tmp 107) 32 3 (.int .i64 0) 8 rfl Try.underlying32 info3 rfl (by decide) (by omega) u15 ys (l : Int) [.int .i64 l] (fun _ => True) (fun _ => False) rfl rfl rfl (fun _ hk => hk.elim) (fun _ _ => trivial) HR15.out HBL2.out HBL2.out.size (by have := HSZ.out; omega) ?_; intro v8 w8 hr8 hb8 hg8 hat8; clear hg8 hat8)
                go_roundw
                case rel => exact ⟨l + 1, by omega, by go_num, ⟨by rw [HBS.out]; exact hr8⟩, ⟨hb8⟩⟩
                case measure => simp [intOf]; omega
              · have hb3 : decide (l < LK.length) = false := by simp; omega
                rw [show l = LK.length by omega] at HR15
                obtain ⟨A15, c15, rfl, hl15, hC15⟩ := Kd.R_reads HR15.out
                have HC15 := Aside0.mk hC15
                clear hl15 hC15 HR15
                generalize straightK LK.length = ST at HC15 HKS
                have HB7R := Aside0.mk (HCK.out wr HBL2.out)
                have HK1 := Aside0.mk (HL17.out wr A5 c5 A11 c11 BY HL5.out (Kd.C_below HC57.out HB7R.out) (Kd.C_below HC11.out HBL2.out))
                have HK2 : Aside0 (∀ W, Below wr.heap.size wr W → Calls Try.prog 17 #[.slice A6 LK.length c6, .slice A11 BY.length c11] W fun e w' => e = .returned (.bool true) ∧ Below W.heap.size W w') := ⟨fun W hW => by
                  have := HM17.out W A6 c6 A11 c11 BY HL6.out (Kd.C_below (Kd.C_below HC67.out HB7R.out) hW) (Kd.C_below (Kd.C_below HC11.out HBL2.out) hW)
                  rwa [HKB.out] at this⟩
                have HK3 : Aside0 (∀ W, Below wr.heap.size wr W → Calls Try.prog 17 #[.slice A5 LK.length c5, .slice A15 ST.length c15] W fun e w' => e = .returned (.bool true) ∧ Below W.heap.size W w') := ⟨fun W hW => by
                  have := HL17.out W A5 c5 A15 c15 ST HL5.out (Kd.C_below (Kd.C_below HC57.out HB7R.out) hW) (Kd.C_below HC15.out hW)
                  rwa [HKS.out] at this⟩
                rw [HKB.out] at HK1
                have HEND : Aside0 (∀ W, Below wr.heap.size wr W → Below w.heap.size w W) := ⟨fun W hW => below_step HB7.out (below_step HB7R.out hW)⟩
                clear HC5 HC56 HC6 HC7 HC57 HC67 HC11 HC15 HB7R HBL2 HCK HL17 HM17
                go_wp2_with (first | (go_at_call 17; refine HK1.out.mono ?_; rintro e wa ⟨rfl, hba⟩; have HBA := Aside0.mk hba; clear hba HK1) | (go_at_call 17; refine (HK2.out _ HBA.out).mono ?_; rintro e wb ⟨rfl, hbb⟩; have HBB := Aside0.mk (below_step HBA.out hbb); clear hbb HK2) | (go_at_call 17; refine (HK3.out _ HBB.out).mono ?_; rintro e wc ⟨rfl, hbc⟩; have HBC := Aside0.mk (below_step HBB.out hbc); clear hbc HK3))
                go_ret
                exact ⟨rfl, HEND.out _ HBC.out⟩
end Go.Proofs.Ytnjpbfljecmoiaa.Graph
