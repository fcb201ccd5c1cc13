/- CrcFinds: the walk. -/
import Derived.Test.YtfiomcfbphlibaaCrcIn
import Derived.Test.YtfiomcfbphlibaaCrcTurnMath
import Derived.Test.YtfiomcfbphlibaaCrcSumsWalk
namespace Go.Proofs.Ytfiomcfbphlibaa.Crc
open Go.RowKit Go.Proofs.YtfiomcfbphlibaaW.PrintWords

theorem place_of (a : Int) (n : Nat) (h4 : 4 ≤ n) (h5 : n ≤ 5000) : ∃ k : Nat, wrap64 ((IntKind.u64.wrap a).tmod ((n : Int) - 3)) = (k : Int) ∧ k + 4 ≤ n := by
  have hu : 0 ≤ IntKind.u64.wrap a := by simp [IntKind.wrap, IntKind.bits, IntKind.signed]; omega
  have h0 : 0 ≤ (IntKind.u64.wrap a).tmod ((n : Int) - 3) := Int.tmod_nonneg _ hu
  have h1 : (IntKind.u64.wrap a).tmod ((n : Int) - 3) < (n : Int) - 3 := Int.tmod_lt_of_pos _ (by omega)
  generalize (IntKind.u64.wrap a).tmod ((n : Int) - 3) = z at h0 h1
  refine ⟨z.toNat, ?_, by omega⟩
  unfold wrap64
  omega
/-- The bytes that Finds turns with. -/
def byD (s : BitVec 32) (i : Nat) : Int := (B s / 2 ^ (8 * i)) % 256

set_option maxHeartbeats 1000000 in
theorem finds_walk (a0 : Option Addr) (len0 cap0 : Nat) (z0 : List Int) (a1 a2 : Int) (w : World) (w0 : IsRow .u8 w a0 len0 cap0 z0) (_w1 : (Lit.int .i64 a1).wf = true) (w2 : (Lit.int .u32 a2).wf = true) :
    Calls Try.prog 5 #[.slice a0 len0 cap0, .int .i64 a1, .int .u32 a2] w fun e w' => e = .returned (.bool true) ∧ Below w.heap.size w w' := by
  obtain ⟨xs, rfl, hc0, hm0, hr0, hx0⟩ := in8_of w0
  obtain ⟨s, rfl⟩ := wf_u32 w2
  clear w0 w2
  have HX := Aside0.mk hr0
  have HX0 := Aside0.mk hx0
  clear hr0 hx0
  by_cases h4 : xs.length < 4
  · have bx : decide ((xs.length : Int) < 4) = true := by simp; omega
    go_enter Try.func5, Try.ntmps5
    go_wp2_with (go_at_call 9; refine (alive_calls _).mono ?_; rintro e w1 ⟨rfl, hb1⟩)
    go_ret
    exact ⟨rfl, hb1⟩
  · have bx : decide ((xs.length : Int) < 4) = false := by simp; omega
    by_cases h5 : xs.length ≤ 5000
    · have by5 : decide ((5000 : Int) < (xs.length : Int)) = false := by simp; omega
      by_cases hs : s = 0#32
      · subst hs
        have e0 : (B 0#32 == 0) = true := rfl
        go_enter Try.func5, Try.ntmps5
        go_wp2_with (go_at_call 9; refine (alive_calls _).mono ?_; rintro e w1 ⟨rfl, hb1⟩)
        go_ret
        exact ⟨rfl, hb1⟩
      · have e0 : (B s == 0) = false := by
          rw [beq_eq_false_iff_ne]
          intro e
          exact hs (B_inj e)
        have HS := Aside0.mk hs
        clear hs
        obtain ⟨k, ek, hk⟩ := place_of a1 xs.length (by omega) h5
        go_enter Try.func5, Try.ntmps5
        go_wp2_with fail
        refine (alive_calls _).mono ?_
        rintro e w1 ⟨rfl, hb1⟩
        have HB1 := Aside0.mk hb1
        clear hb1
        go_wp2_with (at_builtin; refine Kd.R_append_row (Value.int .u8) 0 (h1 := fun _ => rfl) w.heap.size rfl (.tmp 32) (.tmp 33) 22 5 (.int .u8 0) 1 rfl Try.underlying22 (by kernel_rfl) rfl (by omega) _ [] xs a0 xs.length cap0 (fun _ => True) rfl rfl (fun _ _ => trivial) (Kd.R_of_own (own_lit w1 w.heap.size 5 .u8 [] HB1.out.size (by simp)) (fun _ _ => trivial)) (Kd.C_alloc (Kd.C_below HX.out HB1.out) _) (below_alloc HB1.out _) (by have := HB1.out.size; simp; omega) (by simp; omega) ?_; intro v3 w3 hr3 hb3 hg3 hat3; clear hg3 hat3)
        rw [List.nil_append] at hr3
        obtain ⟨g, cap, rfl, hgb, hgl, _⟩ := Kd.R_form hr3 (by omega)
        have HG := Aside0.mk hgb
        have HR3 := Aside0.mk hr3
        have HB3 := Aside0.mk hb3
        clear hgb hgl hr3 hb3
        go_loopw [35] (fun i wr => ∃ j : Nat, j ≤ 4 ∧ i = .int .i64 j ∧ Aside0 ((Kd.int .u8).R 5 wr w.heap.size (fun _ => True) (.slice (some ⟨g, 0, none⟩) xs.length cap) (tn xs k (byD s) j)) ∧ Aside0 (Below w.heap.size w wr)) (fun i _ => 4 - (intOf i).toNat)
        case atStart => exact ⟨0, by omega, rfl, HR3, HB3⟩
        case round =>
          obtain ⟨j, hj, rfl, HR, HB⟩ := hrel
          by_cases hlt : j < 4
          · have hb : decide ((j : Int) < 4) = true := by simp; omega
            obtain ⟨hcell, hfr⟩ := Kd.R_celln 0 HR.out ((k + j : Nat) : Int) (by omega) (by omega)
            rw [Int.toNat_natCast] at hcell hfr
            have hrd : rdOf 0 (tn xs k (byD s) j) ((k + j : Nat) : Int) = (tn xs k (byD s) j).getD (k + j) 0 := by unfold rdOf; rw [Int.toNat_natCast]
            rw [hrd] at hcell
            have HT := Aside0.mk (show tn xs k (byD s) (j + 1) = (tn xs k (byD s) j).set (k + j) (bits .xor .u8 ((tn xs k (byD s) j).getD (k + j) 0) (byD s j)) from rfl)
            generalize (tn xs k (byD s) j).getD (k + j) 0 = y at hcell HT
            clear hrd
            go_wp2
            go_roundw
            case rel =>
              refine ⟨j + 1, by omega, by go_num, ⟨?_⟩, ⟨HB.out.setCell HG.out _⟩⟩
              have hp := Kd.R_putn HR.out ((k + j : Nat) : Int) (bits .xor .u8 y (byD s j))
              rw [Int.toNat_natCast] at hp
              rw [HT.out]
              exact hp
            case measure => simp [intOf]; omega
          · have hb : decide ((j : Int) < 4) = false := by simp; omega
            have hj4 := Aside0.mk (show j = 4 by omega)
            obtain ⟨A5, c5, he5, hl5, hC5⟩ := Kd.R_reads HR.out
            rw [tn_len] at hC5 hl5
            injection he5 with e1 e2 e3
            subst e1 e3
            have HC5 := Aside0.mk hC5
            clear hC5 e2
            have HN := Aside0.mk (finds_law 0#32 s HS.out xs k HX0.out (by omega))
            have HE : Aside0 (tn xs k (byD s) j = tn xs k (fun i => (B s / 2 ^ (8 * i)) % 256) 4) := by rw [hj4.out]; exact ⟨rfl⟩
            have HL := Aside0.mk (tn_len xs k (byD s) j)
            clear HR
            generalize tn xs k (byD s) j = cs at HC5 HE HL
            go_wp2_with fail
            have hC6 := C_rows1 wr 22 (some ⟨g, 0, none⟩) cap cs (by rw [HL.out]; exact hl5) (by rw [HL.out]; exact HC5.out)
            rw [HL.out] at hC6
            refine (sum_calls _ 1 _ _ hC6).mono ?_
            rintro e w6 ⟨rfl, hb6⟩
            rw [sum_flatten, show [cs].flatten = cs by simp]
            have HB6 := Aside0.mk (below_step (below_alloc HB.out _) hb6)
            clear hb6 hC6
            go_wp2_with fail
            refine (sum_calls _ 1 _ _ (C_rows1 w6 22 _ _ xs hc0 (Kd.C_below HX.out HB6.out))).mono ?_
            rintro e w7 ⟨rfl, hb7⟩
            rw [sum_flatten, show [xs].flatten = xs by simp]
            have HB7 := Aside0.mk (below_step (below_alloc HB6.out _) hb7)
            clear hb7
            have hne : (B (add 0#32 cs) != B (add 0#32 xs)) = true := by
              rw [bne_iff_ne]
              intro e
              exact HN.out (by rw [← HE.out]; exact B_inj e)
            go_wp2
            go_ret
            exact ⟨rfl, HB7.out⟩
    · have by5 : decide ((5000 : Int) < (xs.length : Int)) = true := by simp; omega
      go_enter Try.func5, Try.ntmps5
      go_wp2_with (go_at_call 9; refine (alive_calls _).mono ?_; rintro e w1 ⟨rfl, hb1⟩)
      go_ret
      exact ⟨rfl, hb1⟩
end Go.Proofs.Ytfiomcfbphlibaa.Crc
