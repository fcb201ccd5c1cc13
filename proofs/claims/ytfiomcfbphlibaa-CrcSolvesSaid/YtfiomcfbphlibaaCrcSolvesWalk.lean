/- CrcSolves: the walk. -/
import Derived.Test.YtfiomcfbphlibaaCrcSolve
import Derived.Deep.RegionHeld3
namespace Go.Proofs.Ytfiomcfbphlibaa.Crc
open Go.RowKit Go.Proofs.YtfiomcfbphlibaaW.PrintWords

theorem z35 (w : World) : (zeroValue 35).run Try.prog w = .ok (.agg (out4 0#32 0)) w := by rw [out4_zero]; kernel_rfl
/-- The four bytes as a list. -/
def four (x : BitVec 32) : List Int := (List.range 4).map (byD x)
theorem four_len (x : BitVec 32) : (four x).length = 4 := by simp [four]
theorem out4_four (x : BitVec 32) : out4 x 4 = (nums .u8 (four x)).toArray := by
  simp [out4, four, nums, List.range, List.range.loop]

set_option maxHeartbeats 4000000 in
set_option maxRecDepth 100000 in
theorem solves_walk (a0 : Option Addr) (len0 cap0 : Nat) (z0 : List Int) (a1 : Int) (w : World) (w0 : IsRow .u8 w a0 len0 cap0 z0) (w1 : (Lit.int .u32 a1).wf = true) :
    Calls Try.prog 6 #[.slice a0 len0 cap0, .int .u32 a1] w fun e w' => e = .returned (.bool true) ∧ Below w.heap.size w w' := by
  obtain ⟨xs, rfl, hc0, hm0, hr0, -⟩ := in8_of w0
  obtain ⟨want, rfl⟩ := wf_u32 w1
  clear w0 w1
  have HX := Aside0.mk hr0
  clear hr0
  by_cases hx : xs.length ≤ 3000
  · have bx : decide ((3000 : Int) < (xs.length : Int)) = false := by simp; omega
    have hz := z35
    go_enter Try.func6, Try.ntmps6
    go_wp2_with fail
    refine (alive_calls _).mono ?_
    rintro e w1 ⟨rfl, hb1⟩
    have HB1 := Aside0.mk hb1
    clear hb1
    go_wp2_with fail
    refine (sum_calls _ 1 _ _ (C_rows1 w1 22 _ _ xs hc0 (Kd.C_below HX.out HB1.out))).mono ?_
    rintro e w2 ⟨rfl, hb2⟩
    rw [sum_flatten, show [xs].flatten = xs by simp]
    have HB2 := Aside0.mk (below_step (below_alloc HB1.out _) hb2)
    clear hb2
    go_wp2_with fail
    refine (solve_calls _ _ _).mono ?_
    rintro e w3 ⟨rfl, hb3⟩
    have HB3 := Aside0.mk (below_step HB2.out hb3)
    clear hb3
    go_wp2_with (refine wpList_store_row rfl 35 _ _ rfl w3.heap.size (out4 (solved (add 0#32 xs) want) 4) rfl rfl 35 (out4 0#32 0) (heap_alloc_new _ _) (by rw [out4_size]; kernel_rfl) rfl (by simp [out4, Value.oneCell']) ?_; rw [World.setRow_alloc_new])
    obtain ⟨W0, hW0⟩ : ∃ W0, W0 = w3.alloc (.cells (out4 (solved (add 0#32 xs) want) 4) 35) := ⟨_, rfl⟩
    have hB0 : Below w.heap.size w W0 := by rw [hW0]; exact below_alloc HB3.out _
    have hC0 : (Kd.int .u8).C W0 (some ⟨w3.heap.size, 0, none⟩) 4 (four (solved (add 0#32 xs) want)) := by
      rw [hW0, out4_four, ← four_len (solved (add 0#32 xs) want)]
      exact C_marked w3 35 (0, 0) _ (by rw [four_len]; omega)
    rw [← hW0]
    have HB0 := Aside0.mk hB0
    have HC0 := Aside0.mk hC0
    clear hB0 hC0 hW0 hz
    generalize w3.heap.size = g at HC0 ⊢
    have HS := Aside0.mk (show add 0#32 (xs ++ four (solved (add 0#32 xs) want)) = want from by
      rw [add_append]
      exact solve_law _ _ _ (four_len _) (fun i hi => by unfold four; rw [getD_map_range 4 _ i hi]; exact byte_word _ i))
    have HL := Aside0.mk (four_len (solved (add 0#32 xs) want))
    generalize four (solved (add 0#32 xs) want) = bs at HC0 HS HL ⊢
    have h12 := C_rows2 W0 22 a0 cap0 xs hc0 (Kd.C_below HX.out HB0.out) (some ⟨g, 0, none⟩) 4 bs (by rw [HL.out]; omega) (by rw [HL.out]; exact HC0.out)
    rw [HL.out] at h12
    have h12' := sum_calls _ 2 _ _ (Kd.C_drew h12)
    rw [sum_flatten, show [xs, bs].flatten = xs ++ bs by simp, HS.out] at h12'
    have H12 := Aside0.mk h12'
    have HBe := Aside0.mk (below_drew (below_alloc (Below.refl W0.heap.size W0) (.cells #[.slice a0 xs.length cap0, .slice (some ⟨g, 0, none⟩) 4 4] 22)))
    clear h12 h12'
    go_region_held3 (fun w' => True) (trivial) (first | (go_at_call 12; refine H12.out.mono ?_; rintro e w4 ⟨rfl, hb4⟩; have HB4 := Aside0.mk (below_step HBe.out hb4); clear hb4) | (refine Kd.R_append_rows_step (Kd.int .u8) (Rr := (Kd.int .u8).K _) W0.heap.size (by rfl) (.tmp 23) (.tmp 24) 22 5 (.int .u8 0) 1 rfl Try.underlying22 (by kernel_rfl) rfl (by decide) (by decide) _ [] xs a0 xs.length cap0 (fun _ => True) (fun _ => False) rfl rfl (Kd.R_of_own (own_lit w4 W0.heap.size 5 .u8 [] HB4.out.size (by simp)) (fun _ _ => trivial)) (Kd.C_alloc (Kd.C_below HX.out (below_step HB0.out HB4.out)) _) (fun _ _ h => h) (fun _ h => h.elim) (fun _ _ => trivial) (below_alloc HB4.out _) (by have := HB4.out.size; simp; omega) (by simp; omega) ?_; intro v5 w5 hr5 hb5 hg5 hat5; clear hg5 hat5) | (refine Kd.R_append_rows_step (Kd.int .u8) (Rr := (Kd.int .u8).K _) W0.heap.size (by rfl) (.tmp 25) (.tmp 26) 22 5 (.int .u8 0) 1 rfl Try.underlying22 (by kernel_rfl) rfl (by decide) (by decide) _ ([] ++ xs) bs (some ⟨g, 0, none⟩) 4 4 (fun _ => True) (fun _ => False) rfl rfl hr5 (Kd.C_below HC0.out hb5) (fun _ _ h => h) (fun _ h => h.elim) (fun _ _ => trivial) hb5 hb5.size (by simp; omega) ?_; intro v6 w6 hr6 hb6 hg6 hat6; clear hg6 hat6) | (go_at_call 11; obtain ⟨A6, c6, he6, hl6, hC6⟩ := Kd.R_reads hr6; subst he6; refine (rsum_calls _ _ _ _ hC6).mono ?_; rintro e w7 ⟨rfl, hd7⟩; rw [List.nil_append, HS.out]; have HB7 := Aside0.mk (below_step HB0.out (below_step hb6 hd7.below)); clear hd7))
    go_wp2
    go_ret
    exact ⟨rfl, HB7.out⟩
  · have bx : decide ((3000 : Int) < (xs.length : Int)) = true := by simp; omega
    go_enter Try.func6, Try.ntmps6
    go_wp2_with (go_at_call 9; refine (alive_calls _).mono ?_; rintro e w1 ⟨rfl, hb1⟩)
    go_ret
    exact ⟨rfl, hb1⟩
end Go.Proofs.Ytfiomcfbphlibaa.Crc
