/- CrcTurns: the walk. -/
import Derived.Test.YtfiomcfbphlibaaCrcMat
import Derived.Test.YtfiomcfbphlibaaCrcFindsWalk
namespace Go.Proofs.Ytfiomcfbphlibaa.Crc
open Go.RowKit Go.Proofs.YtfiomcfbphlibaaW.PrintWords

theorem map_getD_range (ys : List Int) : (List.range ys.length).map (fun i => ys.getD i 0) = ys := by
  apply List.ext_getElem?
  intro i
  rcases Nat.lt_or_ge i ys.length with h | h
  · simp [h]
  · simp [h]
theorem turns_law (s : BitVec 32) (xs ys : List Int) (b : Nat) (hx : ∀ x ∈ xs, 0 ≤ x ∧ x < 256) (hy : ∀ x ∈ ys, 0 ≤ x ∧ x < 256) (h : ys.length + b ≤ xs.length) :
    add s (tn xs (xs.length - ys.length - b) (fun i => ys.getD i 0) ys.length) = add s xs ^^^ turnBy ys (b : Int) := by
  rw [tn_add s xs _ _ _ hx (fun i _ => getD_range hy i) (by omega), map_getD_range]
  unfold turnBy
  rw [Int.toNat_natCast, show xs.length - (xs.length - ys.length - b) - ys.length = b by omega]

set_option maxHeartbeats 4000000 in
theorem turns_walk (a0 : Option Addr) (len0 cap0 : Nat) (z0 : List Int) (a1 : Option Addr) (len1 cap1 : Nat) (z1 : List Int) (a2 : Int) (w : World) (w0 : IsRow .u8 w a0 len0 cap0 z0) (w1 : IsRow .u8 w a1 len1 cap1 z1) (w2 : (Lit.int .i64 a2).wf = true) :
    Calls Try.prog 7 #[.slice a0 len0 cap0, .slice a1 len1 cap1, .int .i64 a2] w fun e w' => e = .returned (.bool true) ∧ Below w.heap.size w w' := by
  obtain ⟨xs, rfl, hc0, hm0, hr0, hx0⟩ := in8_of w0
  obtain ⟨ys, rfl, hc1, hm1, hr1, hy0⟩ := in8_of w1
  have hb2 : -9223372036854775808 ≤ a2 ∧ a2 ≤ 9223372036854775807 := by simpa [Lit.wf, IntKind.max, IntKind.min, IntKind.signed, IntKind.bits] using w2
  obtain ⟨hlo, hhi⟩ := hb2
  clear w0 w1 w2
  have HX := Aside0.mk hr0
  have HY := Aside0.mk hr1
  have HX0 := Aside0.mk hx0
  have HY0 := Aside0.mk hy0
  clear hr0 hr1 hx0 hy0
  by_cases hx : 3000 < xs.length
  · have bx : decide ((3000 : Int) < (xs.length : Int)) = true := by simp; omega
    go_enter Try.func7, Try.ntmps7
    go_wp2_with (go_at_call 9; refine (alive_calls _).mono ?_; rintro e w1 ⟨rfl, hb1⟩)
    go_ret
    exact ⟨rfl, hb1⟩
  have bx : decide ((3000 : Int) < (xs.length : Int)) = false := by simp; omega
  by_cases hxy : xs.length < ys.length
  · have by1 : decide (xs.length < ys.length) = true := by simp; omega
    go_enter Try.func7, Try.ntmps7
    go_wp2_with (go_at_call 9; refine (alive_calls _).mono ?_; rintro e w1 ⟨rfl, hb1⟩)
    go_ret
    exact ⟨rfl, hb1⟩
  have by1 : decide (xs.length < ys.length) = false := by simp; omega
  by_cases hneg : a2 < 0
  · have bn : decide (a2 < 0) = true := by simp; omega
    have HT := Aside0.mk (show turnBy ys a2 = turnBy ys 0 by unfold turnBy; rw [show a2.toNat = 0 by omega]; rfl)
    go_enter Try.func7, Try.ntmps7
    go_wp2_with fail
    refine (alive_calls _).mono ?_
    rintro e w1 ⟨rfl, hb1⟩
    have HB1 := Aside0.mk hb1
    clear hb1
    go_wp2_with fail
    refine (sum_calls _ 1 _ _ (C_rows1 w1 22 _ _ xs hc0 (Kd.C_below HX.out HB1.out))).mono ?_
    rintro e w2 ⟨rfl, hb2⟩
    have HB2 := Aside0.mk (below_step (below_alloc HB1.out _) hb2)
    clear hb2
    go_wp2_with fail
    refine (turn_calls _ _ _ _ _ hhi _ (Kd.C_below HY.out HB2.out)).mono ?_
    rintro e w3 ⟨rfl, hb3⟩
    rw [HT.out]
    have HB3 := Aside0.mk (below_step HB2.out hb3)
    clear hb3
    go_wp2_with fail
    refine (sum_calls _ 1 _ _ (C_rows1 w3 22 _ _ xs hc0 (Kd.C_below HX.out HB3.out))).mono ?_
    rintro e w4 ⟨rfl, hb4⟩
    have HB4 := Aside0.mk (below_step (below_alloc HB3.out _) hb4)
    clear hb4
    go_wp2_with fail
    refine (turn_calls _ _ _ _ _ (by omega) _ (Kd.C_below HY.out HB4.out)).mono ?_
    rintro e w5 ⟨rfl, hb5⟩
    have HB5 := Aside0.mk (below_step HB4.out hb5)
    clear hb5
    go_wp2
    go_ret
    exact ⟨rfl, HB5.out⟩
  have bn : decide (a2 < 0) = false := by simp; omega
  obtain ⟨b, rfl⟩ := Int.eq_ofNat_of_zero_le (show 0 ≤ a2 by omega)
  by_cases hfar : xs.length < ys.length + b
  · have bf : decide ((xs.length : Int) - (ys.length : Int) < (b : Int)) = true := by simp; omega
    go_enter Try.func7, Try.ntmps7
    go_wp2_with (go_at_call 9; refine (alive_calls _).mono ?_; rintro e w1 ⟨rfl, hb1⟩)
    go_ret
    exact ⟨rfl, hb1⟩
  have bf : decide ((xs.length : Int) - (ys.length : Int) < (b : Int)) = false := by simp; omega
  obtain ⟨k, hk⟩ : ∃ k : Nat, xs.length = k + ys.length + b := ⟨xs.length - ys.length - b, by omega⟩
  have HK := Aside0.mk hk
  clear hk
  go_enter Try.func7, Try.ntmps7
  go_wp2_with fail
  refine (alive_calls _).mono ?_
  rintro e w1 ⟨rfl, hb1⟩
  have HB1 := Aside0.mk hb1
  clear hb1
  go_wp2_with (at_builtin; refine Kd.R_append_row (Value.int .u8) 0 (h1 := fun _ => rfl) w.heap.size rfl (.tmp 45) (.tmp 46) 22 5 (.int .u8 0) 1 rfl Try.underlying22 (by kernel_rfl) rfl (by omega) _ [] xs a0 xs.length cap0 (fun _ => True) rfl rfl (fun _ _ => trivial) (Kd.R_of_own (own_lit w1 w.heap.size 5 .u8 [] HB1.out.size (by simp)) (fun _ _ => trivial)) (Kd.C_alloc (Kd.C_below HX.out HB1.out) _) (below_alloc HB1.out _) (by have := HB1.out.size; simp; omega) (by simp; omega) ?_; intro v3 w3 hr3 hb3 hg3 hat3; clear hg3 hat3)
  rw [List.nil_append] at hr3
  rw [show ((xs.length : Int) - ys.length - b) = (k : Int) by have := HK.out; omega]
  obtain ⟨A3, c3, rfl⟩ := Kd.R_slice hr3
  have HR3 := Aside0.mk hr3
  have HB3 := Aside0.mk hb3
  clear hr3 hb3
  go_loopw [57] (fun i wr => ∃ j : Nat, j ≤ ys.length ∧ i = .int .i64 j ∧ Aside0 ((Kd.int .u8).R 5 wr w.heap.size (fun _ => True) (.slice A3 xs.length c3) (tn xs k (fun i => ys.getD i 0) j)) ∧ Aside0 (Below w.heap.size w wr)) (fun i _ => ys.length - (intOf i).toNat)
  case atStart => exact ⟨0, by omega, rfl, HR3, HB3⟩
  case round =>
    obtain ⟨j, hj, rfl, HR, HB⟩ := hrel
    have hm := Kd.C_max HY.out
    by_cases hlt : j < ys.length
    · have hb : decide (j < ys.length) = true := by simp; omega
      have hkj : k + j < xs.length := by have := HK.out; omega
      obtain ⟨g, cap, he, hgb, _⟩ := Kd.R_form HR.out (by rw [tn_len]; omega)
      injection he with he1 he2 he3
      subst he1
      clear he2 he3
      have HG := Aside0.mk hgb
      clear hgb
      obtain ⟨hcell, hfr⟩ := Kd.R_celln 0 HR.out ((k + j : Nat) : Int) (by omega) (by omega)
      rw [Int.toNat_natCast] at hcell hfr
      have hrd : rdOf 0 (tn xs k (fun i => ys.getD i 0) j) ((k + j : Nat) : Int) = (tn xs k (fun i => ys.getD i 0) j).getD (k + j) 0 := by unfold rdOf; rw [Int.toNat_natCast]
      rw [hrd] at hcell
      have HT := Aside0.mk (show tn xs k (fun i => ys.getD i 0) (j + 1) = (tn xs k (fun i => ys.getD i 0) j).set (k + j) (bits .xor .u8 ((tn xs k (fun i => ys.getD i 0) j).getD (k + j) 0) (ys.getD j 0)) from rfl)
      generalize (tn xs k (fun i => ys.getD i 0) j).getD (k + j) 0 = y at hcell HT
      obtain ⟨ad, rfl, hcy⟩ := Kd.at_int (Kd.C_below HY.out HB.out) (j : Int) (by omega) (by omega)
      rw [Int.toNat_natCast] at hcy
      have hrdy : rd ys (j : Int) = ys.getD j 0 := by unfold rd; rw [Int.toNat_natCast]
      rw [hrdy] at hcy
      generalize ys.getD j 0 = z at hcy HT
      clear hrd hrdy
      go_wp2
      go_roundw
      case rel =>
        refine ⟨j + 1, by omega, by go_num, ⟨?_⟩, ⟨HB.out.setCell HG.out _⟩⟩
        have hp := Kd.R_putn HR.out ((k + j : Nat) : Int) (bits .xor .u8 y z)
        rw [Int.toNat_natCast] at hp
        rw [HT.out]
        exact hp
      case measure => simp [intOf]; omega
    · have hb : decide (j < ys.length) = false := by simp; omega
      have HE : Aside0 (add 0#32 (tn xs k (fun i => ys.getD i 0) j) = add 0#32 xs ^^^ turnBy ys (b : Int)) := ⟨by
        rw [show j = ys.length by omega, show k = xs.length - ys.length - b by have := HK.out; omega]
        exact turns_law _ _ _ _ HX0.out HY0.out (by have := HK.out; omega)⟩
      obtain ⟨A5, c5, he5, hl5, hC5⟩ := Kd.R_reads HR.out
      have HL := Aside0.mk (tn_len xs k (fun i => ys.getD i 0) j)
      injection he5 with e1 e2 e3
      subst e1 e3
      have HC5 := Aside0.mk hC5
      clear hC5 HR hl5
      generalize tn xs k (fun i => ys.getD i 0) j = cs at HC5 HE HL e2
      have E2 := Aside0.mk e2
      clear e2
      go_wp2_with fail
      refine (copy_calls _ _ _ (by omega) _ (Kd.C_below HY.out HB.out)).mono ?_
      rintro e w5 ⟨g5, rfl, hmk, hb5⟩
      have HB5 := Aside0.mk (below_step HB.out hb5)
      have HM5 := Aside0.mk hmk
      have HC6 := Aside0.mk (Kd.C_below HC5.out hb5)
      clear hb5 hmk
      go_wp2_with fail
      refine (rsum_calls _ _ _ _ (Kd.C_below HX.out HB5.out)).mono ?_
      rintro e w6 ⟨rfl, hd6⟩
      have HB6 := Aside0.mk (below_step HB5.out hd6.below)
      have HM6 := Aside0.mk (HM5.out.below hd6.below)
      have HC7 := Aside0.mk (Kd.C_below HC6.out hd6.below)
      clear hd6
      go_wp2_with fail
      refine (turn_calls _ _ _ _ _ hhi _ HM6.out.reads).mono ?_
      rintro e w7 ⟨rfl, hb7⟩
      rw [← HE.out]
      have HB7 := Aside0.mk (below_step HB6.out hb7)
      have HM7 := Aside0.mk (HM6.out.below hb7)
      have hC8 := Kd.C_below HC7.out hb7
      clear hb7
      go_wp2_with fail
      have hcall := rsum_calls _ c3 _ _ hC8
      rw [HL.out] at hcall
      refine hcall.mono ?_
      rintro e w8 ⟨rfl, hd8⟩
      have HB8 := Aside0.mk (below_step HB7.out hd8.below)
      have HM8 := Aside0.mk (HM7.out.below hd8.below)
      clear hd8 hcall hC8
      go_wp2_with fail
      refine (kept_calls _ _ _ _ _ (by omega) _ (Kd.C_below HY.out HB8.out) HM8.out).mono ?_
      rintro e w9 ⟨rfl, hd9⟩
      have HB9 := Aside0.mk (below_step HB8.out hd9.below)
      clear hd9
      go_wp2
      go_ret
      exact ⟨rfl, HB9.out⟩
end Go.Proofs.Ytfiomcfbphlibaa.Crc
