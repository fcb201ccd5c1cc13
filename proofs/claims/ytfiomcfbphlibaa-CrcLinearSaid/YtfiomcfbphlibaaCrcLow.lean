/- The contracts of crc.low and crc.halves: the table of what a half of a byte does. -/
import Derived.Test.YtfiomcfbphlibaaRows
import Derived.Test.YtfiomcfbphlibaaCrcBits
import Derived.Test.YtfiomcfbphlibaaWMore
import Derived.Test.YtfiomcfbphlibaaWAt
import Derived.WalkKit
import Derived.WalkSpells
import Derived.WalkLawsBesides
import Derived.Outline
namespace Go.Proofs.Ytfiomcfbphlibaa.Crc
open Go.RowKit Go.Proofs.YtfiomcfbphlibaaW.PrintWords

theorem steps_snoc (k : Nat) (x : BitVec 32) : step (steps k x) = steps (k + 1) x := by
  have h : ∀ y, step y = steps 1 y := fun y => rfl
  rw [h, ← steps_add]

set_option maxHeartbeats 400000 in
theorem low_calls (x : BitVec 32) (w : World) :
    Calls Try.prog 26 #[.int .u32 (B x)] w fun e w' => e = .returned (.int .u32 (B (steps 4 x))) ∧ Drawn0 w w' := by
  go_enter Try.func26, Try.ntmps26
  go_wp2
  go_loopw [0, 3] (fun v i wr => ∃ k : Nat, k ≤ 4 ∧ i = .int .i64 k ∧ v = .int .u32 (B (steps k x)) ∧ Drawn0 w wr) (fun _ i _ => 4 - (intOf i).toNat)
  case atStart => exact ⟨0, by omega, rfl, rfl, Drawn0.refl _⟩
  case round =>
    obtain ⟨k, hk, rfl, rfl, ⟨m, rfl⟩⟩ := hrel
    by_cases hlt : k < 4
    · have hb : decide ((k : Int) < 4) = true := by simp; omega
      have hw : wrap64 ((k : Int) + 1) = ((k + 1 : Nat) : Int) := by unfold wrap64; omega
      go_wp2
      go_roundw
      case rel => exact ⟨k + 1, by omega, by go_num, by rw [low_step, steps_snoc], by repeat (first | exact Drawn0.refl _ | apply Drawn0.step)⟩
      case measure => simp [intOf]; omega
    · have hb : decide ((k : Int) < 4) = false := by simp; omega
      obtain rfl : k = 4 := by omega
      go_wp2
      go_ret
      exact ⟨rfl, by repeat (first | exact Drawn0.refl _ | apply Drawn0.step)⟩


/-- The table behind k rounds. -/
def tab (k : Nat) : Array Value := ((List.range 16).map fun i => Value.int .u32 (if i < k then B (steps 4 (BitVec.ofNat 32 i)) else 0)).toArray
theorem tab_size (k : Nat) : (tab k).size = 16 := by simp [tab]
theorem tab_at (k i : Nat) (hi : i < 16) : (tab k)[i]? = some (.int .u32 (if i < k then B (steps 4 (BitVec.ofNat 32 i)) else 0)) := by
  simp [tab, hi]
theorem tab_succ (k : Nat) : (tab k).setIfInBounds k (.int .u32 (B (steps 4 (BitVec.ofNat 32 k)))) = tab (k + 1) := by
  apply Array.ext_getElem?
  intro i
  rw [Array.getElem?_setIfInBounds]
  by_cases hi : i < 16
  · rw [tab_at _ _ hi, tab_at _ _ hi]
    by_cases h : k = i
    · subst h; simp [tab_size, hi]
    · rw [if_neg h]
      by_cases h2 : i < k
      · rw [if_pos h2, if_pos (by omega)]
      · rw [if_neg h2, if_neg (by omega)]
  · have h1 : ∀ j, (tab j)[i]? = none := fun j => by rw [Array.getElem?_eq_none]; rw [tab_size]; omega
    rw [h1, h1]
    by_cases h : k = i
    · subst h; rw [if_pos rfl, if_neg (by rw [tab_size]; omega)]
    · rw [if_neg h]
theorem B_ofNat (k : Nat) (h : k < 4294967296) : B (BitVec.ofNat 32 k) = (k : Int) := by
  unfold B; rw [BitVec.toNat_ofNat]; omega

set_option maxHeartbeats 400000 in
theorem halves_calls (w : World) :
    Calls Try.prog 22 #[] w fun e w' => e = .returned (.agg (tab 16)) ∧ Below w.heap.size w w' := by
  have z45 : ∀ w, (zeroValue 45).run Try.prog w = .ok (.agg (tab 0)) w := fun w => by kernel_rfl
  go_enter Try.func22, Try.ntmps22
  go_wp2
  go_loopw [2] (fun i wr => ∃ k : Nat, k ≤ 16 ∧ i = .int .i64 k ∧ wr.heap[w.heap.size]? = some (.cells (tab k) 45 (0, 0)) ∧ Below w.heap.size w wr) (fun i _ => 16 - (intOf i).toNat)
  case atStart => exact ⟨0, by omega, rfl, heap_alloc_new _ _, (Below.refl _ _).alloc (Nat.le_refl _) _⟩
  case round =>
    obtain ⟨k, hk, rfl, hg, hB⟩ := hrel
    by_cases hlt : k < 16
    · have hb : decide ((k : Int) < 16) = true := by simp; omega
      have hw : wrap64 ((k : Int) + 1) = ((k + 1 : Nat) : Int) := by unfold wrap64; omega
      have hcell : wr.cell? ⟨w.heap.size, k, none⟩ = some (.int .u32 0) := by rw [cell_of_row _ _ _ _ _ _ hg, tab_at _ _ hlt]; simp
      have hfr : wr.frozen? ⟨w.heap.size, k, none⟩ = false := frozen_of_row _ _ _ _ _ hg
      have HG := Aside0.mk hg
      have HC := low_calls (BitVec.ofNat 32 k) wr
      rw [B_ofNat k (by omega)] at HC
      have HC' := Aside0.mk HC
      clear hg HC
      go_wp2_with (go_at_call 26; refine HC'.out.mono ?_; rintro e w' ⟨rfl, ⟨nd, rfl⟩⟩)
      go_roundw
      case rel =>
        refine ⟨k + 1, by omega, by go_num, ?_, ?_⟩
        · have HG2 : (wr.drewN nd).heap[w.heap.size]? = some (.cells (tab k) 45 (0, 0)) := HG.out
          rw [heap_setCell_same _ _ _ (tab k) 45 _ HG2, tab_succ]
        · exact (pw_below_drewN hB nd).setCell (by simp) _
      case measure => simp [intOf]; omega
    · have hb : decide ((k : Int) < 16) = false := by simp; omega
      obtain rfl : k = 16 := by omega
      have HG := Aside0.mk hg
      clear hg
      go_wp2_with (first | (refine wpList_load_row rfl 45 _ rfl _ rfl 45 (tab 16) (0, 0) _ HG.out Try.underlying45 rfl (by kernel_rfl) ?_) | (refine wpList_store_row rfl 45 _ _ rfl w.heap.size (tab 16) rfl rfl 45 (tab 16) HG.out (by kernel_rfl) rfl (by kernel_rfl) ?_))
      have HG3 : (wr.setRow w.heap.size (tab 16)).heap[w.heap.size]? = some (.cells (tab 16) 45 (0, 0)) := setRow_heap _ _ _ _ _ _ HG.out
      refine bodyPost_ret (v := .agg (tab 16)) (results_cell_row rfl _ _ w.heap.size 45 (tab 16) (0, 0) _ rfl HG3 Try.underlying45 rfl (by kernel_rfl)) rfl ⟨rfl, ?_⟩
      exact hB.trans ⟨rfl, rfl, rfl, by simp, fun k hk => setRow_other _ _ _ _ (by omega)⟩

end Go.Proofs.Ytfiomcfbphlibaa.Crc
