/- CrcParts: the walk. -/
import Derived.Test.YtfiomcfbphlibaaCrcIn
namespace Go.Proofs.Ytfiomcfbphlibaa.Crc
open Go.RowKit Go.Proofs.YtfiomcfbphlibaaW.PrintWords

theorem flat_take (ps : List (List Int)) (k : Nat) (h : k < ps.length) : (ps.take (k + 1)).flatten = (ps.take k).flatten ++ ps.getD k [] := by
  rw [List.take_succ_eq_append_getElem h, List.flatten_append]
  simp [h]
theorem flat_len (ps : List (List Int)) (k : Nat) (h : ∀ j, j < k → (ps.getD j []).length ≤ 1000) : ((ps.take k).flatten).length ≤ 1000 * k := by
  induction k with
  | zero => simp
  | succ k ih =>
    by_cases hk : k < ps.length
    · rw [flat_take ps k hk, List.length_append]
      have := ih (fun j hj => h j (by omega))
      have := h k (by omega)
      omega
    · rw [List.take_of_length_le (by omega)]
      have := ih (fun j hj => h j (by omega))
      rw [List.take_of_length_le (by omega)] at this
      omega

theorem sized_succ {ps : List (List Int)} {k : Nat} {p : List Int} (h : ∀ j, j < k → (ps.getD j []).length ≤ 1000) (hk : k ≤ 50) (hp : ps.getD k [] = p) (hl : p.length ≤ 1000) : Aside0 (k + 1 ≤ 51 ∧ ∀ j, j < k + 1 → (ps.getD j []).length ≤ 1000) := by
  refine ⟨by omega, fun j hj => ?_⟩
  rcases Nat.lt_or_ge j k with hjk | hjk
  · exact h j hjk
  · obtain rfl : j = k := by omega
    rw [hp]; exact hl

set_option maxHeartbeats 2000000 in
theorem parts_walk (A : Option Addr) (c : Nat) (ps : List (List Int)) (w : World) (_hc0 : ps.length ≤ c) (hr : Kd.C (Kd.slice 5 (Kd.int .u8)) w A ps.length ps) :
    Calls Try.prog 4 #[.slice A ps.length c] w fun e w' => e = .returned (.bool true) ∧ Below w.heap.size w w' := by
  have HR := Aside0.mk hr
  clear hr
  have HM := Aside0.mk (Kd.C_max HR.out)
  go_enter Try.func4, Try.ntmps4
  go_wp2_with (go_at_call 9; refine (alive_calls _).mono ?_; rintro e w1 ⟨rfl, hb1⟩)
  go_loopw [3, 4, 12] (fun v s i wr => ∃ k : Nat, k ≤ ps.length ∧ i = .int .i64 k ∧ Aside0 (k ≤ 51 ∧ ∀ j, j < k → (ps.getD j []).length ≤ 1000) ∧ s = .int .u32 (B (add 0#32 (ps.take k).flatten)) ∧ Aside0 ((Kd.int .u8).R 5 wr w.heap.size (fun _ => True) v (ps.take k).flatten) ∧ Aside0 (Below w.heap.size w wr)) (fun _ _ i _ => ps.length - (intOf i).toNat)
  case atStart => exact ⟨0, by omega, rfl, ⟨by omega, by omega⟩, by simp [add_nil]; rfl, ⟨Kd.R_of_own (own_lit w1 w.heap.size 5 .u8 [] hb1.size (by simp)) (fun _ _ => trivial)⟩, ⟨below_alloc hb1 _⟩⟩
  case round =>
    obtain ⟨k, hk, rfl, HK, rfl, HV, HB⟩ := hrel
    have hm := HM.out
    obtain ⟨Av, cv, rfl, hlv, hCv⟩ := Kd.R_reads HV.out
    have HCv := Aside0.mk hCv
    clear hCv
    by_cases hlt : k < ps.length
    · have hb : decide (k < ps.length) = true := by simp; omega
      obtain ⟨ad, A1, c1, rfl, hcl0, hl1, hc1⟩ := at_L HR.out k hlt
      have hcl := pw_cell_below HB.out hcl0
      clear hcl0
      have HT := Aside0.mk (flat_take ps k hlt)
      have HL := Aside0.mk (show ps.getD k [] = ps.getD k [] from rfl)
      generalize hp : ps.getD k [] = p at HT hcl hl1 hc1
      have HP := Aside0.mk hp
      clear hp HL
      have HC1 := Aside0.mk hc1
      clear hc1
      by_cases hk50 : k ≤ 50
      · have b1 : decide ((50 : Int) < (k : Int)) = false := by simp; omega
        by_cases hp : p.length ≤ 1000
        · have b2 : decide ((1000 : Int) < (p.length : Int)) = false := by simp; omega
          have HF := Aside0.mk (flat_len ps k HK.out.2)
          go_wp2_with (first | (at_builtin; refine Kd.R_append_row (Value.int .u8) 0 (h1 := fun _ => rfl) w.heap.size rfl (.tmp 24) (.tmp 25) 22 5 (.int .u8 0) 1 rfl Try.underlying22 (by kernel_rfl) rfl (by omega) _ (ps.take k).flatten p A1 p.length c1 (fun _ => True) rfl rfl (fun _ _ => trivial) HV.out (Kd.C_below HC1.out HB.out) HB.out HB.out.size (by have := HF.out; omega) ?_; intro v3 w3 hr3 hb3 hg3 hat3; clear hg3 hat3) | (go_at_call 13; refine (add_calls _ _ _ _ _ (Kd.C_below HC1.out hb3)).mono ?_; rintro e w4 ⟨rfl, hb4⟩))
          go_roundw
          case rel => exact ⟨k + 1, by omega, by go_num, sized_succ HK.out.2 (by omega) HP.out hp, by rw [HT.out, add_append], ⟨by rw [HT.out]; exact Kd.R_below hr3 hb4⟩, ⟨below_step hb3 hb4⟩⟩
          case measure => simp [intOf]; omega
        · have b2 : decide ((1000 : Int) < (p.length : Int)) = true := by simp; omega
          go_wp2
          go_ret
          exact ⟨rfl, HB.out⟩
      · have b1 : decide ((50 : Int) < (k : Int)) = true := by simp; omega
        go_wp2
        go_ret
        exact ⟨rfl, HB.out⟩
    · have hb : decide (k < ps.length) = false := by simp; omega
      have hkl := Aside0.mk (show k = ps.length by omega)
      have HTl := Aside0.mk (show (ps.take k).flatten = ps.flatten by rw [hkl.out, List.take_length])
      generalize (ps.take k).flatten = fl at HTl HV hlv HCv ⊢
      go_wp2_with fail
      refine (sum_calls _ _ _ _ (Kd.C_below HR.out HB.out)).mono ?_
      rintro e w5 ⟨rfl, hb5⟩
      rw [sum_flatten, ← HTl.out]
      have HB5 := Aside0.mk (below_step HB.out hb5)
      have HC5 := Aside0.mk (Kd.C_below HCv.out hb5)
      clear hb5
      go_wp2_with fail
      refine (sum_calls _ 1 _ _ (C_rows1 _ 22 _ _ _ hlv HC5.out)).mono ?_
      rintro e w6 ⟨rfl, hb6⟩
      rw [sum_flatten, show [fl].flatten = fl by simp]
      have HB6 := Aside0.mk (below_step (below_alloc HB5.out _) hb6)
      have HC6 := Aside0.mk (Kd.C_below (Kd.C_alloc HC5.out _) hb6)
      clear hb6
      go_wp2_with fail
      refine (sum_calls _ 1 _ _ (C_rows1 _ 22 _ _ _ hlv HC6.out)).mono ?_
      rintro e w7 ⟨rfl, hb7⟩
      rw [sum_flatten, show [fl].flatten = fl by simp]
      have HB7 := Aside0.mk (below_step (below_alloc HB6.out _) hb7)
      clear hb7
      go_wp2
      go_ret
      exact ⟨rfl, HB7.out⟩
end Go.Proofs.Ytfiomcfbphlibaa.Crc
