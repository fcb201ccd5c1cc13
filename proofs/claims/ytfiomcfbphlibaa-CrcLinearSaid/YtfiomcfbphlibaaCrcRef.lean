/- The contracts of the reference: over, Add, Sum. -/
import Derived.Test.YtfiomcfbphlibaaCrcFeed
namespace Go.Proofs.Ytfiomcfbphlibaa.Crc
open Go.RowKit Go.Proofs.YtfiomcfbphlibaaW.PrintWords

theorem tmod_even (x : BitVec 32) (h : x.getLsbD 0 = false) : (Int.tmod (B x) 2 == 1) = false ∧ (Int.tmod (B x) 2 != 1) = true ∧ (Int.tdiv (B x) 2) % 4294967296 = B (step x) := by
  have h0 := odd32 x
  rw [h] at h0
  have hn := B_nonneg x
  have hl := B_lt x
  have e : Int.tmod (B x) 2 = B x % 2 := Int.tmod_eq_emod_of_nonneg hn
  have e2 : Int.tdiv (B x) 2 = B x / 2 := Int.tdiv_eq_ediv_of_nonneg hn
  rw [e, e2, h0]
  refine ⟨rfl, rfl, ?_⟩
  rw [step_even x h, ← shr1]
  omega
theorem tmod_odd (x : BitVec 32) (h : x.getLsbD 0 = true) : (Int.tmod (B x) 2 == 1) = true ∧ (Int.tmod (B x) 2 != 1) = false ∧ bits .xor .u32 ((Int.tdiv (B x) 2) % 4294967296) 3988292384 = B (step x) := by
  have h0 := odd32 x
  rw [h] at h0
  have hn := B_nonneg x
  have hl := B_lt x
  have e : Int.tmod (B x) 2 = B x % 2 := Int.tmod_eq_emod_of_nonneg hn
  have e2 : Int.tdiv (B x) 2 = B x / 2 := Int.tdiv_eq_ediv_of_nonneg hn
  rw [e, e2, h0]
  refine ⟨rfl, rfl, ?_⟩
  rw [shr1, mod_B, show (3988292384 : Int) = B poly from rfl, xor32, ofInt_B, ofInt_B]
  unfold step
  rw [h]; rfl

set_option maxHeartbeats 400000 in
theorem rover_calls (x : BitVec 32) (n : Nat) (hn : n ≤ 9223372036854775807) (w : World) :
    Calls Try.prog 20 #[.int .u32 (B x), .int .i64 n] w fun e w' => e = .returned (.int .u32 (B (steps n x))) ∧ Drawn0 w w' := by
  have HN := Aside0.mk hn
  clear hn
  go_enter Try.func20, Try.ntmps20
  go_wp2
  go_loopw [0, 5] (fun v i wr => ∃ k : Nat, k ≤ n ∧ i = .int .i64 k ∧ v = .int .u32 (B (steps k x)) ∧ Drawn0 w wr) (fun _ i _ => n - (intOf i).toNat)
  case atStart => exact ⟨0, by omega, rfl, rfl, Drawn0.refl _⟩
  case round =>
    obtain ⟨k, hk, rfl, rfl, ⟨m, rfl⟩⟩ := hrel
    by_cases hlt : k < n
    · have hb : decide (k < n) = true := by simp; omega
      have hn := HN.out
      have HT := Aside0.mk (steps_snoc k x)
      generalize steps k x = y at HT
      cases h0 : y.getLsbD 0
      · obtain ⟨e1, e2, e3⟩ := tmod_even y h0
        clear h0
        have E3 := Aside0.mk e3
        clear e3
        go_wp2
        go_roundw
        case rel => exact ⟨k + 1, by omega, by go_num, by rw [E3.out, HT.out], by repeat (first | exact Drawn0.refl _ | apply Drawn0.step)⟩
        case measure => simp [intOf]; omega
      · obtain ⟨e1, e2, e3⟩ := tmod_odd y h0
        clear h0
        have E3 := Aside0.mk e3
        clear e3
        go_wp2
        go_roundw
        case rel => exact ⟨k + 1, by omega, by go_num, by rw [E3.out, HT.out], by repeat (first | exact Drawn0.refl _ | apply Drawn0.step)⟩
        case measure => simp [intOf]; omega
    · have hb : decide (k < n) = false := by simp; omega
      have hkl := Aside0.mk (show k = n by omega)
      go_wp2
      go_ret
      exact ⟨by rw [hkl.out]; rfl, by repeat (first | exact Drawn0.refl _ | apply Drawn0.step)⟩

theorem sub_mod (x : BitVec 32) : (4294967295 - B x) % 4294967296 = B (~~~ x) := by rw [sub32, mod_B]

set_option maxHeartbeats 400000 in
theorem radd_calls (s : BitVec 32) (A : Option Addr) (c : Nat) (xs : List Int) (w : World) (hr : Kd.C (Kd.int .u8) w A xs.length xs) :
    Calls Try.prog 14 #[.int .u32 (B s), .slice A xs.length c] w fun e w' => e = .returned (.int .u32 (B (add s xs))) ∧ Drawn0 w w' := by
  have HR := Aside0.mk hr
  clear hr
  have HM := Aside0.mk (Kd.C_max HR.out)
  go_enter Try.func14, Try.ntmps14
  go_wp2
  go_loopw [5, 6] (fun v i wr => ∃ k : Nat, k ≤ xs.length ∧ i = .int .i64 k ∧ v = .int .u32 (B (feed (~~~ s) (xs.take k))) ∧ Drawn0 w wr) (fun _ i _ => xs.length - (intOf i).toNat)
  case atStart => exact ⟨0, by omega, rfl, by rw [sub_mod]; rfl, Drawn0.refl _⟩
  case round =>
    obtain ⟨k, hk, rfl, rfl, ⟨m, rfl⟩⟩ := hrel
    by_cases hlt : k < xs.length
    · have hb : decide (k < xs.length) = true := by simp; omega
      have hm := HM.out
      obtain ⟨ad, rfl, hcell⟩ := Kd.at_int HR.out (k : Int) (by omega) (by omega)
      rw [Int.toNat_natCast] at hcell
      have e2 := feed_step (feed (~~~ s) (xs.take k)) (rd xs k)
      have HT := Aside0.mk (feed_take (~~~ s) xs k hlt)
      rw [steps44] at HT
      generalize feed (~~~ s) (xs.take k) ^^^ byte (rd xs k) = x1 at e2 HT
      go_wp2_with (go_at_call 20; refine (rover_calls x1 8 (by omega) _).mono ?_; rintro e w' ⟨rfl, ⟨nd, rfl⟩⟩)
      go_roundw
      case rel => exact ⟨k + 1, by omega, by go_num, by rw [HT.out], by repeat (first | exact Drawn0.refl _ | apply Drawn0.step)⟩
      case measure => simp [intOf]; omega
    · have hb : decide (k < xs.length) = false := by simp; omega
      have hkl := Aside0.mk (show k = xs.length by omega)
      go_wp2
      go_ret
      exact ⟨by rw [hkl.out, List.take_length, sub_mod]; rfl, by repeat (first | exact Drawn0.refl _ | apply Drawn0.step)⟩

set_option maxHeartbeats 400000 in
theorem rsum_calls (A : Option Addr) (c : Nat) (xs : List Int) (w : World) (hr : Kd.C (Kd.int .u8) w A xs.length xs) :
    Calls Try.prog 11 #[.slice A xs.length c] w fun e w' => e = .returned (.int .u32 (B (add 0#32 xs))) ∧ Drawn0 w w' := by
  have HR := Aside0.mk hr
  clear hr
  have HC := Aside0.mk (radd_calls 0#32 A c xs w HR.out)
  go_enter Try.func11, Try.ntmps11
  go_wp2_with (go_at_call 14; refine HC.out.mono ?_; rintro e w' ⟨rfl, ⟨nd, rfl⟩⟩)
  go_ret
  exact ⟨rfl, by repeat (first | exact Drawn0.refl _ | apply Drawn0.step)⟩
end Go.Proofs.Ytfiomcfbphlibaa.Crc
