/- CrcLinear: the walk. -/
import Derived.Test.YtfiomcfbphlibaaCrcTurnsWalk
import Derived.Deep.OwnRows
namespace Go.Proofs.Ytfiomcfbphlibaa.Crc
open Go.RowKit Go.Proofs.YtfiomcfbphlibaaW.PrintWords

theorem turn_zeros (n : Nat) (b : Int) : turnBy (List.replicate n 0) b = 0#32 := by
  unfold turnBy; rw [feed_zeros, steps_zero, steps_zero]
theorem xor_cancel (s d : BitVec 32) : s ^^^ d ^^^ d = s := by rw [BitVec.xor_assoc, BitVec.xor_self, BitVec.xor_zero]
/-- Two rows put to one another. -/
def both (ys ms : List Int) (k : Nat) : List Int := (List.range k).map fun i => bits .xor .u8 (ys.getD i 0) (ms.getD i 0)
theorem both_len (ys ms : List Int) (k : Nat) : (both ys ms k).length = k := by simp [both]
theorem both_succ (ys ms : List Int) (k : Nat) : both ys ms (k + 1) = both ys ms k ++ [bits .xor .u8 (ys.getD k 0) (ms.getD k 0)] := by
  simp [both, List.range_succ]
theorem turn_both (ys ms : List Int) (b : Int) (hy : ∀ x ∈ ys, 0 ≤ x ∧ x < 256) (hm : ∀ x ∈ ms, 0 ≤ x ∧ x < 256) (hl : ms.length = ys.length) : turnBy (both ys ms ys.length) b = turnBy ys b ^^^ turnBy ms b := by
  unfold turnBy
  rw [← steps_xor]
  congr 1
  have := feed_xor 0#32 0#32 ys ms (both ys ms ys.length) hl.symm (both_len _ _ _) (fun i hi => by
    have h1 := getD_range hy i
    have h2 := getD_range hm i
    rw [← byte_xor h1.1 h1.2 h2.1 h2.2]
    congr 1
    simp [both, List.getD_eq_getElem?_getD, hi])
  rw [BitVec.xor_self] at this
  exact this

set_option maxHeartbeats 4000000 in
theorem linear_walk (s : BitVec 32) (A : Option Addr) (c : Nat) (ys : List Int) (A' : Option Addr) (c' : Nat) (ms : List Int) (b : Int) (w : World) (_hc : ys.length ≤ c) (hc' : ms.length ≤ c') (hhi : b ≤ 9223372036854775807)
    (hy : Kd.C (Kd.int .u8) w A ys.length ys) (hy0 : ∀ x ∈ ys, 0 ≤ x ∧ x < 256) (hm : Kd.C (Kd.int .u8) w A' ms.length ms) (hm0 : ∀ x ∈ ms, 0 ≤ x ∧ x < 256) :
    Calls Try.prog 18 #[.int .u32 (B s), .slice A ys.length c, .slice A' ms.length c', .int .i64 b] w fun e w' => e = .returned (.bool true) ∧ Below w.heap.size w w' := by
  have HY := Aside0.mk hy
  have HM := Aside0.mk hm
  have HY0 := Aside0.mk hy0
  have HM0 := Aside0.mk hm0
  clear hy hm hy0 hm0
  by_cases hx : 2000 < ys.length
  · have bx : decide ((2000 : Int) < (ys.length : Int)) = true := by simp; omega
    go_enter Try.func18, Try.ntmps18
    go_wp2_with (go_at_call 9; refine (alive_calls _).mono ?_; rintro e w1 ⟨rfl, hb1⟩)
    go_ret
    exact ⟨rfl, hb1⟩
  have bx : decide ((2000 : Int) < (ys.length : Int)) = false := by simp; omega
  by_cases hxy : ms.length < ys.length
  · have by1 : decide (ms.length < ys.length) = true := by simp; omega
    go_enter Try.func18, Try.ntmps18
    go_wp2_with (go_at_call 9; refine (alive_calls _).mono ?_; rintro e w1 ⟨rfl, hb1⟩)
    go_ret
    exact ⟨rfl, hb1⟩
  have by1 : decide (ms.length < ys.length) = false := by simp; omega
  go_enter Try.func18, Try.ntmps18
  go_wp2_with fail
  refine (alive_calls _).mono ?_
  rintro e w1 ⟨rfl, hb1⟩
  have HB1 := Aside0.mk hb1
  clear hb1
  go_wp2
  obtain ⟨us, HUE⟩ : ∃ us, Aside0 (us = ms.take ys.length) := ⟨_, ⟨rfl⟩⟩
  have HUL : Aside0 (us.length = ys.length) := ⟨by rw [HUE.out, List.length_take]; omega⟩
  have HU : Aside0 ((Kd.int .u8).C w A' ys.length us) := ⟨by have := Kd.C_take (m := ys.length) HM.out (by omega); rw [← HUE.out, HUL.out] at this; exact this⟩
  have HU0 : Aside0 (∀ x ∈ us, 0 ≤ x ∧ x < 256) := ⟨fun x hx => HM0.out x (by rw [HUE.out] at hx; exact List.mem_of_mem_take hx)⟩
  clear HM HM0 HUE
  go_loopw [9, 32] (fun v i wr => ∃ j : Nat, j ≤ ys.length ∧ i = .int .i64 j ∧ Aside0 ((Kd.int .u8).R 5 wr w.heap.size (fun _ => True) v (both ys us j)) ∧ Aside0 (Below w.heap.size w wr)) (fun _ i _ => ys.length - (intOf i).toNat)
  case atStart => exact ⟨0, by omega, rfl, ⟨Kd.R_of_own (own_lit w1 w.heap.size 5 .u8 [] HB1.out.size (by simp)) (fun _ _ => trivial)⟩, ⟨below_alloc HB1.out _⟩⟩
  case round =>
    obtain ⟨j, hj, rfl, HR, HB⟩ := hrel
    have hmax := Kd.C_max HY.out
    by_cases hlt : j < ys.length
    · have hb : decide (j < ys.length) = true := by simp; omega
      obtain ⟨ad, rfl, hcy⟩ := Kd.at_int (Kd.C_below HY.out HB.out) (j : Int) (by omega) (by omega)
      obtain ⟨ad', rfl, hcu⟩ := Kd.at_int (Kd.C_below HU.out HB.out) (j : Int) (by omega) (by omega)
      rw [Int.toNat_natCast] at hcy hcu
      have hrdy : rd ys (j : Int) = ys.getD j 0 := by unfold rd; rw [Int.toNat_natCast]
      have hrdu : rd us (j : Int) = us.getD j 0 := by unfold rd; rw [Int.toNat_natCast]
      rw [hrdy] at hcy
      rw [hrdu] at hcu
      have HT := Aside0.mk (both_succ ys us j)
      generalize ys.getD j 0 = y at hcy HT
      generalize us.getD j 0 = u at hcu HT
      clear hrdy hrdu
      go_wp2_with (at_builtin; refine Kd.R_append_row (Value.int .u8) 0 (h1 := fun _ => rfl) w.heap.size rfl (.tmp 37) (.tmp 44) 22 5 (.int .u8 0) 1 rfl Try.underlying22 (by kernel_rfl) rfl (by omega) _ (both ys us j) [bits .xor .u8 y u] (some ⟨wr.heap.size, 0, none⟩) 1 1 (fun _ => True) rfl rfl (fun _ _ => trivial) (Kd.R_alloc HR.out _) (C_lit .u8 wr 5 [bits .xor .u8 y u] (by simp)) (below_alloc HB.out _) (by have := HB.out.size; simp; omega) (by rw [both_len]; omega) ?_; intro v3 w3 hr3 hb3 hg3 hat3; clear hg3 hat3)
      go_roundw
      case rel => exact ⟨j + 1, by omega, by go_num, ⟨by rw [HT.out]; exact hr3⟩, ⟨hb3⟩⟩
      case measure => simp [intOf]; omega
    · have hb : decide (j < ys.length) = false := by simp; omega
      obtain ⟨Av, cv, rfl, hlv, hCv⟩ := Kd.R_reads HR.out
      have HL := Aside0.mk (both_len ys us j)
      have HE : Aside0 (turnBy (both ys us j) b = turnBy ys b ^^^ turnBy us b) := ⟨by rw [show j = ys.length by omega]; exact turn_both ys us b HY0.out HU0.out HUL.out⟩
      have HCv := Aside0.mk hCv
      clear hCv HR
      generalize both ys us j = bs at HCv HL HE hlv ⊢
      have hmk := print_make (P := Try.prog) 22 5 .u8 1 Try.underlying22 (by kernel_rfl) (by omega) ys.length (by omega)
      go_wp2_with fail
      refine (turn_calls _ _ _ _ _ hhi _ (Kd.C_below HY.out HB.out)).mono ?_
      rintro e w5 ⟨rfl, hb5⟩
      have HB5 := Aside0.mk (below_step HB.out hb5)
      have HC5 := Aside0.mk (Kd.C_below HCv.out hb5)
      clear hb5
      go_wp2_with fail
      have h6 := turn_calls s _ ys.length (List.replicate ys.length 0) b hhi _ (C_of_own (own_made w5 w5.heap.size 5 .u8 ys.length (Nat.le_refl _) (by omega)))
      rw [List.length_replicate, turn_zeros, BitVec.xor_zero] at h6
      refine h6.mono ?_
      rintro e w6 ⟨rfl, hb6⟩
      have HB6 := Aside0.mk (below_step (below_alloc HB5.out _) hb6)
      have HC6 := Aside0.mk (Kd.C_below (Kd.C_alloc HC5.out _) hb6)
      clear hb6 h6 hmk
      go_wp2_with fail
      refine (turn_calls _ _ _ _ _ hhi _ (Kd.C_below HY.out HB6.out)).mono ?_
      rintro e w7 ⟨rfl, hb7⟩
      rw [xor_cancel]
      have HB7 := Aside0.mk (below_step HB6.out hb7)
      have HC7 := Aside0.mk (Kd.C_below HC6.out hb7)
      clear hb7
      go_wp2_with fail
      have h8 := turn_calls (s ^^^ turnBy ys b) A' c' us b hhi _ (by rw [HUL.out]; exact Kd.C_below HU.out HB7.out)
      rw [HUL.out] at h8
      refine h8.mono ?_
      rintro e w8 ⟨rfl, hb8⟩
      rw [BitVec.xor_assoc, ← HE.out]
      have HB8 := Aside0.mk (below_step HB7.out hb8)
      have HC8 := Aside0.mk (Kd.C_below HC7.out hb8)
      clear hb8 h8
      go_wp2_with fail
      refine (turn_calls _ _ _ _ _ hhi _ HC8.out).mono ?_
      rintro e w9 ⟨rfl, hb9⟩
      have HB9 := Aside0.mk (below_step HB8.out hb9)
      clear hb9
      go_wp2
      go_ret
      exact ⟨rfl, HB9.out⟩

set_option maxHeartbeats 1000000 in
theorem crclinear_walk (s : BitVec 32) (A : Option Addr) (c : Nat) (ys : List Int) (A' : Option Addr) (c' : Nat) (ms : List Int) (b : Int) (w : World) (hc : ys.length ≤ c) (hc' : ms.length ≤ c') (hhi : b ≤ 9223372036854775807)
    (hy : Kd.C (Kd.int .u8) w A ys.length ys) (hy0 : ∀ x ∈ ys, 0 ≤ x ∧ x < 256) (hm : Kd.C (Kd.int .u8) w A' ms.length ms) (hm0 : ∀ x ∈ ms, 0 ≤ x ∧ x < 256) :
    Calls Try.prog 8 #[.agg #[.int .u32 (B s), .slice A ys.length c, .slice A' ms.length c', .int .i64 b]] w fun e w' => e = .returned (.bool true) ∧ Below w.heap.size w w' := by
  have H := fun (W : World) (hb : Below w.heap.size w W) => linear_walk s A c ys A' c' ms b W hc hc' hhi (Kd.C_below hy hb) hy0 (Kd.C_below hm hb) hm0
  have H' := Aside0.mk H
  clear H hy hy0 hm hm0
  go_enter Try.func8, Try.ntmps8
  go_wp2_with fail
  refine (H'.out _ (below_alloc (Below.refl _ _) _)).mono ?_
  rintro e w1 ⟨rfl, hb1⟩
  have HB1 := Aside0.mk (below_step (below_alloc (Below.refl _ _) _) hb1)
  clear hb1
  go_wp2
  go_ret
  exact ⟨rfl, HB1.out⟩
end Go.Proofs.Ytfiomcfbphlibaa.Crc
