/- The contract of the fixed fact 'alive', walked. -/
import Derived.Test.YtnjpbfljecmoiaaAlive
namespace Go.Proofs.Ytnjpbfljecmoiaa.Graph
open Go.RowKit Go.Proofs.YtnjpbfljecmoiaaW.PrintWords Go.Proofs.Ytnjpbfljecmoiaa.PGraphLeans

theorem z46v (w : World) : (zeroValue 46).run Try.prog w = .ok (.agg #[.int .i64 0, .int .i64 0]) w := by kernel_rfl
theorem C_lit (k : IntKind) (W : World) (e : TypeId) (xs : List Int) (hm : xs.length ≤ 9223372036854775807) :
    (Kd.int k).C (W.alloc (.cells (nums k xs).toArray e)) (some ⟨W.heap.size, 0, none⟩) xs.length xs := by
  refine ⟨rfl, hm, fun _ => ⟨_, rfl, fun j p hp => ⟨[.int k p], rfl, rfl, fun i u hu => ?_⟩⟩⟩
  cases i with
  | succ i => simp at hu
  | zero =>
    simp at hu
    subst hu
    rw [add_plain, cell_of_row _ _ _ _ _ _ (heap_alloc_new W _)]
    simp [Kd.int, Kd.scalar, nums, hp]
set_option maxHeartbeats 4000000 in
set_option maxRecDepth 100000 in
theorem alive_calls (w : World) : Calls Try.prog 7 #[] w fun e w' => e = .returned (.bool true) ∧ Below w.heap.size w w' := by
  have z27v := z27v
  have z46v := z46v
  have H2 : Aside0 ((#[.slice none 0 0, .slice none 0 0, .slice (some ⟨w.heap.size, 0, none⟩) 1 1] : Array Value).all (·.oneCell') = true) := ⟨by simp [Value.oneCell']⟩
  go_enter Try.func7, Try.ntmps7
  go_wp2_with (refine wpList_store_row rfl 27 _ _ rfl _ #[.slice none 0 0, .slice none 0 0, .slice (some ⟨w.heap.size, 0, none⟩) 1 1] rfl rfl 27 #[.slice none 0 0, .slice none 0 0, .slice none 0 0] (heap_alloc_new _ _) (by kernel_rfl) rfl H2.out ?_; rw [World.setRow_alloc_new])
  have hk : (((w.alloc (.cells #[.int .i64 1, .int .i64 2] 46)).alloc (.cells #[.slice none 0 0, .slice none 0 0, .slice (some ⟨w.heap.size, 0, none⟩) 1 1] 27)).alloc (.cells #[.slice none 0 0, .slice none 0 0, .slice (some ⟨w.heap.size, 0, none⟩) 1 1, .slice none 0 0, .slice none 0 0, .slice (some ⟨w.heap.size, 0, none⟩) 1 1, .slice none 0 0, .slice none 0 0, .slice (some ⟨w.heap.size, 0, none⟩) 1 1] 27)).heap[w.heap.size]? = some (.cells #[.int .i64 1, .int .i64 2] 46 (0, 0)) := by
    rw [heap_alloc_old _ _ (by simp; omega), heap_alloc_old _ _ (by simp)]; exact heap_alloc_new _ _
  have hF := C_feet (((w.alloc (.cells #[.int .i64 1, .int .i64 2] 46)).alloc (.cells #[.slice none 0 0, .slice none 0 0, .slice (some ⟨w.heap.size, 0, none⟩) 1 1] 27)).alloc (.cells #[.slice none 0 0, .slice none 0 0, .slice (some ⟨w.heap.size, 0, none⟩) 1 1, .slice none 0 0, .slice none 0 0, .slice (some ⟨w.heap.size, 0, none⟩) 1 1, .slice none 0 0, .slice none 0 0, .slice (some ⟨w.heap.size, 0, none⟩) 1 1] 27)) ((w.alloc (.cells #[.int .i64 1, .int .i64 2] 46)).alloc (.cells #[.slice none 0 0, .slice none 0 0, .slice (some ⟨w.heap.size, 0, none⟩) 1 1] 27)).heap.size w.heap.size hk (heap_alloc_new _ _)
  have hB0 : Below w.heap.size w (((w.alloc (.cells #[.int .i64 1, .int .i64 2] 46)).alloc (.cells #[.slice none 0 0, .slice none 0 0, .slice (some ⟨w.heap.size, 0, none⟩) 1 1] 27)).alloc (.cells #[.slice none 0 0, .slice none 0 0, .slice (some ⟨w.heap.size, 0, none⟩) 1 1, .slice none 0 0, .slice none 0 0, .slice (some ⟨w.heap.size, 0, none⟩) 1 1, .slice none 0 0, .slice none 0 0, .slice (some ⟨w.heap.size, 0, none⟩) 1 1] 27)) := below_alloc (below_alloc (below_alloc (Below.refl _ _) _) _) _
  have hc8 := leans_calls (some ⟨((w.alloc (.cells #[.int .i64 1, .int .i64 2] 46)).alloc (.cells #[.slice none 0 0, .slice none 0 0, .slice (some ⟨w.heap.size, 0, none⟩) 1 1] 27)).heap.size, 0, none⟩) 3 [exF, exF, exF] (((w.alloc (.cells #[.int .i64 1, .int .i64 2] 46)).alloc (.cells #[.slice none 0 0, .slice none 0 0, .slice (some ⟨w.heap.size, 0, none⟩) 1 1] 27)).alloc (.cells #[.slice none 0 0, .slice none 0 0, .slice (some ⟨w.heap.size, 0, none⟩) 1 1, .slice none 0 0, .slice none 0 0, .slice (some ⟨w.heap.size, 0, none⟩) 1 1, .slice none 0 0, .slice none 0 0, .slice (some ⟨w.heap.size, 0, none⟩) 1 1] 27)) hF (by simp)
  have HB0 := Aside0.mk hB0
  have HC8 := Aside0.mk hc8
  clear hk hF hB0 hc8 H2
  simp only [World.size_alloc] at HC8
  refine HC8.out.mono ?_
  rintro e w3 ⟨v3, rfl, hs3, hb3⟩
  rw [show leansK [exF, exF, exF] [exF, exF, exF].length = [[], [0], [0, 1]] from exLeans] at hs3
  obtain ⟨A3, c3, rfl, hl3, hC3⟩ := Kd.S_reads hs3
  have HB3 : Aside0 (Below w.heap.size w w3) := ⟨HB0.out.trans (hb3.mono (by omega))⟩
  have HL := Aside0.mk hC3
  have HLC := Aside0.mk hl3
  clear hs3 hb3 hC3 hl3 HB0 HC8
  obtain ⟨ad3, A32, c32, hA3, e3, hl32, hC32⟩ := at_L6 HL.out 2 (by omega) (by simp)
  rw [show rd_L6 [[], [0], [0, 1]] 2 = [0, 1] from rfl] at e3 hl32 hC32
  subst hA3
  have HC13 := Aside0.mk (least_good (some ad3) c3 [[], [0], [0, 1]] w3 HL.out HLC.out (by simp) (by intro l hl; simp at hl; rcases hl with rfl | rfl | rfl <;> simp) exGood)
  have HE3 := Aside0.mk e3
  have HC32 := Aside0.mk hC32
  have HL32 := Aside0.mk hl32
  clear e3 hC32 hl32
  go_wp2_with fail
  refine HC13.out.mono ?_
  rintro e w4 ⟨v4, rfl, hs4, hb4⟩
  rw [show leastK [[], [0], [0, 1]] ([[], [0], [0, 1]] : List (List Int)).length = [[], [0], [1]] from exLeast] at hs4
  obtain ⟨A4, c4, rfl, hl4, hC4⟩ := Kd.S_reads hs4
  obtain ⟨ad4, A42, c42, hA4, e4, hl42, hC42⟩ := at_L6 hC4 2 (by omega) (by simp)
  rw [show rd_L6 [[], [0], [1]] 2 = [1] from rfl] at e4 hl42 hC42
  subst hA4
  have HB4 : Aside0 (Below w.heap.size w w4) := ⟨below_step HB3.out hb4⟩
  have x3 := (hb4.cell (World.block_lt_of_cell? w3 _ HE3.out)).trans HE3.out
  have hq3 : (2 : Int).toNat = 2 := rfl
  rw [hq3] at x3 e4
  replace x3 : w4.cell? ⟨ad3.block, ad3.off + 2, none⟩ = some (.slice A32 2 c32) := x3
  replace e4 : w4.cell? ⟨ad4.block, ad4.off + 2, none⟩ = some (.slice A42 1 c42) := e4
  have HI1 : Aside0 (Calls Try.prog 20 #[.slice A32 2 c32, .slice (some ⟨w4.heap.size, 0, none⟩) 2 2] (w4.alloc (.cells #[.int .i64 0, .int .i64 1] 3)) fun e w' => e = .returned (.bool true) ∧ Drawn0 (w4.alloc (.cells #[.int .i64 0, .int .i64 1] 3)) w') := Aside0.mk (ints_calls A32 c32 [0, 1] (some ⟨w4.heap.size, 0, none⟩) 2 [0, 1] (w4.alloc (.cells #[.int .i64 0, .int .i64 1] 3)) (by simp) (Kd.C_alloc (Kd.C_below HC32.out hb4) _) HL32.out (C_lit .i64 w4 3 [0, 1] (by simp)) (by simp))
  have HX4 := Aside0.mk e4
  have HC42 := Aside0.mk hC42
  have HL42 := Aside0.mk hl42
  have HL4 := Aside0.mk (Kd.C_below HL.out hb4)
  clear hs4 hl4 hC4 e4 hl42 hC42 hb4 HC13 hq3
  go_wp2_with fail
  refine HI1.out.mono ?_
  rintro e w5 ⟨rfl, ⟨m5, rfl⟩⟩
  have x4 : ((w4.alloc (.cells #[.int .i64 0, .int .i64 1] 3)).drewN m5).cell? ⟨ad4.block, ad4.off + 2, none⟩ = some (.slice A42 1 c42) := (World.cell?_alloc_lt _ _ _ (World.block_lt_of_cell? w4 _ HX4.out)).trans HX4.out
  have HB5 : Aside0 (Below w.heap.size w ((w4.alloc (.cells #[.int .i64 0, .int .i64 1] 3)).drewN m5)) := ⟨pw_below_drewN (below_alloc HB4.out _) m5⟩
  have HL5 : Aside0 (Kd.C (Kd.slice 3 (Kd.int .i64)) ((w4.alloc (.cells #[.int .i64 0, .int .i64 1] 3)).drewN m5) (some ad3) 3 [[], [0], [0, 1]]) := ⟨Kd.C_below HL4.out (pw_below_drewN (below_alloc (Below.refl _ _) _) m5)⟩
  have HC5 : Aside0 (Kd.C (Kd.int .i64) ((w4.alloc (.cells #[.int .i64 0, .int .i64 1] 3)).drewN m5) A42 1 [1]) := ⟨Kd.C_below HC42.out (pw_below_drewN (below_alloc (Below.refl _ _) _) m5)⟩
  generalize (w4.alloc (.cells #[.int .i64 0, .int .i64 1] 3)).drewN m5 = w6 at x4 HB5 HL5 HC5 ⊢
  have HI2 : Aside0 (Calls Try.prog 20 #[.slice A42 1 c42, .slice (some ⟨w6.heap.size, 0, none⟩) 1 1] (w6.alloc (.cells #[.int .i64 1] 3)) fun e w' => e = .returned (.bool true) ∧ Drawn0 (w6.alloc (.cells #[.int .i64 1] 3)) w') := Aside0.mk (ints_calls A42 c42 [1] (some ⟨w6.heap.size, 0, none⟩) 1 [1] (w6.alloc (.cells #[.int .i64 1] 3)) (by simp) (Kd.C_alloc HC5.out _) HL42.out (C_lit .i64 w6 3 [1] (by simp)) (by simp))
  have HG : Aside0 (∀ W, Below w6.heap.size w6 W → Calls Try.prog 11 #[.slice (some ad3) 3 c3] W fun e w' => e = .returned (.bool true) ∧ Drawn0 W w') := ⟨fun W hW => by
    have := good_calls (some ad3) c3 [[], [0], [0, 1]] W (by simp) (by intro l hl; simp at hl; rcases hl with rfl | rfl | rfl <;> simp) (Kd.C_below HL5.out hW) HLC.out
    rw [exGood] at this; exact this⟩
  go_wp2_with fail
  refine HI2.out.mono ?_
  rintro e w7 ⟨rfl, ⟨m7, rfl⟩⟩
  go_wp2_with fail
  refine (HG.out _ (pw_below_drewN (below_alloc (Below.refl _ _) _) m7)).mono ?_
  rintro e w8 ⟨rfl, ⟨m8, rfl⟩⟩
  go_wp2
  go_ret
  exact ⟨rfl, by first | exact pw_below_drewN (pw_below_drewN (below_alloc HB5.out _) m7) m8 | exact pw_below_drewN (below_alloc HB5.out _) _⟩
end Go.Proofs.Ytnjpbfljecmoiaa.Graph
