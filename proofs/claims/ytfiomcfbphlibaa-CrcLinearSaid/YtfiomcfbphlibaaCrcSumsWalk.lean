/- CrcSums: the walk. -/
import Derived.Test.YtfiomcfbphlibaaCrcIn
namespace Go.Proofs.Ytfiomcfbphlibaa.Crc
open Go.RowKit Go.Proofs.YtfiomcfbphlibaaW.PrintWords

theorem wf_u32 {n : Int} (h : (Lit.int .u32 n).wf = true) : ∃ x : BitVec 32, n = B x := by
  simp [Lit.wf, IntKind.max, IntKind.min, IntKind.signed, IntKind.bits] at h
  exact ⟨BitVec.ofInt 32 n, (B_ofInt (by omega) (by omega)).symm⟩

set_option maxHeartbeats 2000000 in
theorem sums_walk (a0 : Option Addr) (len0 cap0 : Nat) (z0 : List Int) (a1 : Option Addr) (len1 cap1 : Nat) (z1 : List Int) (a2 : Int) (w : World) (w0 : IsRow .u8 w a0 len0 cap0 z0) (w1 : IsRow .u8 w a1 len1 cap1 z1) (w2 : (Lit.int .u32 a2).wf = true) :
    Calls Try.prog 3 #[.slice a0 len0 cap0, .slice a1 len1 cap1, .int .u32 a2] w fun e w' => e = .returned (.bool true) ∧ Below w.heap.size w w' := by
  obtain ⟨xs, rfl, hc0, hm0, hr0, -⟩ := in8_of w0
  obtain ⟨ys, rfl, hc1, hm1, hr1, -⟩ := in8_of w1
  obtain ⟨s, rfl⟩ := wf_u32 w2
  clear w0 w1 w2
  have HX := Aside0.mk hr0
  have HY := Aside0.mk hr1
  clear hr0 hr1
  by_cases hx : xs.length ≤ 5000
  · have bx : decide ((5000 : Int) < (xs.length : Int)) = false := by simp; omega
    by_cases hy : ys.length ≤ 5000
    · have hby : decide ((5000 : Int) < (ys.length : Int)) = false := by simp; omega
      go_enter Try.func3, Try.ntmps3
      go_wp2_with fail
      refine (alive_calls _).mono ?_
      rintro e w1 ⟨rfl, hb1⟩
      have HB1 := Aside0.mk hb1
      clear hb1
      go_wp2_with fail
      refine (copy_calls _ _ _ hy _ (Kd.C_below HY.out HB1.out)).mono ?_
      rintro e w2 ⟨g, rfl, hmk, hb2⟩
      have HB2 := Aside0.mk (below_step HB1.out hb2)
      have HM2 := Aside0.mk hmk
      clear hb2 hmk
      go_wp2_with (first | (at_builtin; refine Kd.R_append_row (Value.int .u8) 0 (h1 := fun _ => rfl) w2.heap.size rfl (.tmp 21) (.tmp 22) 22 5 (.int .u8 0) 1 rfl Try.underlying22 (by kernel_rfl) rfl (by omega) _ [] xs a0 xs.length cap0 (fun _ => True) rfl rfl (fun _ _ => trivial) (Kd.R_of_own (own_lit w2 w2.heap.size 5 .u8 [] (Nat.le_refl _) (by simp)) (fun _ _ => trivial)) (Kd.C_alloc (Kd.C_below HX.out HB2.out) _) (below_alloc (Below.refl _ _) _) (by simp) (by simp; omega) ?_; intro v3 w3 hr3 hb3 hg3 hat3; clear hg3 hat3) | (at_builtin; refine Kd.R_append_row (Value.int .u8) 0 (h1 := fun _ => rfl) w2.heap.size rfl (.tmp 23) (.tmp 24) 22 5 (.int .u8 0) 1 rfl Try.underlying22 (by kernel_rfl) rfl (by omega) _ ([] ++ xs) ys a1 ys.length cap1 (fun _ => True) rfl rfl (fun _ _ => trivial) hr3 (Kd.C_below HY.out (below_step HB2.out hb3)) hb3 hb3.size (by simp; omega) ?_; intro v4 w4 hr4 hb4 hg4 hat4; clear hg4 hat4))
      rw [List.nil_append] at hr4
      obtain ⟨A4, c4, rfl, hl4, hC4⟩ := Kd.R_reads hr4
      clear hr3 hr4 hb3
      refine (rsum_calls _ _ _ _ hC4).mono ?_
      rintro e w5 ⟨rfl, hd5⟩
      have HB5 := Aside0.mk (below_step HB2.out (below_step hb4 hd5.below))
      have HM5 := Aside0.mk (HM2.out.below (below_step hb4 hd5.below))
      clear hd5 hb4 hC4
      go_wp2_with fail
      have HC6 := C_rows2 w5 22 a0 cap0 xs hc0 (Kd.C_below HX.out HB5.out) (some ⟨g, 0, none⟩) (ys.length + 2) ys (by omega) HM5.out.reads
      refine (sum_calls _ 2 _ _ HC6).mono ?_
      rintro e w6 ⟨rfl, hb6⟩
      rw [show sum [xs, ys] = add 0#32 (xs ++ ys) from by rw [sum_flatten]; simp]
      have HB6 := Aside0.mk (below_step (below_alloc HB5.out _) hb6)
      have HM6 := Aside0.mk ((HM5.out.below (below_alloc (Below.refl _ _) _)).below hb6)
      clear hb6 HC6
      go_wp2_with fail
      refine (rsum_calls _ _ _ _ (Kd.C_below HX.out HB6.out)).mono ?_
      rintro e w7 ⟨rfl, hd7⟩
      have HB7 := Aside0.mk (below_step HB6.out hd7.below)
      have HM7 := Aside0.mk (HM6.out.below hd7.below)
      clear hd7
      go_wp2_with fail
      refine (add_calls _ _ _ _ _ HM7.out.reads).mono ?_
      rintro e w8 ⟨rfl, hb8⟩
      rw [← add_append]
      have HB8 := Aside0.mk (below_step HB7.out hb8)
      have HM8 := Aside0.mk (HM7.out.below hb8)
      clear hb8
      go_wp2_with fail
      refine (add_calls _ _ _ _ _ HM8.out.reads).mono ?_
      rintro e w9 ⟨rfl, hb9⟩
      have HB9 := Aside0.mk (below_step HB8.out hb9)
      have HM9 := Aside0.mk (HM8.out.below hb9)
      clear hb9
      go_wp2_with fail
      refine (radd_calls _ _ _ _ _ (Kd.C_below HY.out HB9.out)).mono ?_
      rintro e w10 ⟨rfl, hd10⟩
      have HB10 := Aside0.mk (below_step HB9.out hd10.below)
      have HM10 := Aside0.mk (HM9.out.below hd10.below)
      clear hd10
      go_wp2_with fail
      refine (kept_calls _ _ _ _ _ hy _ (Kd.C_below HY.out HB10.out) HM10.out).mono ?_
      rintro e w11 ⟨rfl, hd11⟩
      have HB11 := Aside0.mk (below_step HB10.out hd11.below)
      clear hd11
      go_wp2
      go_ret
      exact ⟨rfl, HB11.out⟩
    · have hby : decide ((5000 : Int) < (ys.length : Int)) = true := by simp; omega
      go_enter Try.func3, Try.ntmps3
      go_wp2_with (go_at_call 9; refine (alive_calls _).mono ?_; rintro e w1 ⟨rfl, hb1⟩)
      go_ret
      exact ⟨rfl, hb1⟩
  · have bx : decide ((5000 : Int) < (xs.length : Int)) = true := by simp; omega
    go_enter Try.func3, Try.ntmps3
    go_wp2_with (go_at_call 9; refine (alive_calls _).mono ?_; rintro e w1 ⟨rfl, hb1⟩)
    go_ret
    exact ⟨rfl, hb1⟩
end Go.Proofs.Ytfiomcfbphlibaa.Crc
