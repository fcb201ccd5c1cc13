/- The contract of crc.Solve: the four bytes of the register led back. -/
import Derived.Test.YtfiomcfbphlibaaCrcFindsWalk
namespace Go.Proofs.Ytfiomcfbphlibaa.Crc
open Go.RowKit Go.Proofs.YtfiomcfbphlibaaW.PrintWords

theorem top_bit (y : BitVec 32) : B y / (2147483648 : Int) = if y.getLsbD 31 then 1 else 0 := by
  have h : y.getLsbD 31 = decide (y.toNat / 2147483648 % 2 = 1) := by
    rw [BitVec.getLsbD, Nat.testBit_eq_decide_div_mod_eq]
  have hl := y.isLt
  rw [h]
  unfold B
  by_cases hh : y.toNat / 2147483648 % 2 = 1
  · simp [hh]; omega
  · simp [hh]; omega
theorem back_one (y : BitVec 32) (h : y.getLsbD 31 = true) : (B y / (2147483648 : Int) == 1) = true ∧ (B y / (2147483648 : Int) != 1) = false ∧ bits .or .u32 ((bits .xor .u32 (B y) 3988292384 * 2) % 4294967296) 1 = B (back y) := by
  rw [top_bit, h]
  refine ⟨rfl, rfl, ?_⟩
  rw [show (3988292384 : Int) = B poly from rfl, xor32, ofInt_B, ofInt_B]
  have := shl32 (y ^^^ poly) 1
  rw [show B (y ^^^ poly) * (2 : Int) ^ 1 = B (y ^^^ poly) * 2 from rfl] at this
  rw [this, or32, ofInt_B]
  unfold back
  rw [h]
  rfl
theorem back_zero (y : BitVec 32) (h : y.getLsbD 31 = false) : (B y / (2147483648 : Int) == 1) = false ∧ (B y / (2147483648 : Int) != 1) = true ∧ (B y * 2) % 4294967296 = B (back y) := by
  rw [top_bit, h]
  refine ⟨rfl, rfl, ?_⟩
  have := shl32 y 1
  rw [show B y * (2 : Int) ^ 1 = B y * 2 from rfl] at this
  rw [this]
  unfold back
  rw [h]
  rfl
/-- The cells of the answer behind j rounds. -/
def out4 (x : BitVec 32) (j : Nat) : Array Value := ((List.range 4).map fun i => Value.int .u8 (if i < j then byD x i else 0)).toArray
theorem out4_size (x : BitVec 32) (j : Nat) : (out4 x j).size = 4 := by simp [out4]
theorem out4_at (x : BitVec 32) (j i : Nat) (hi : i < 4) : (out4 x j)[i]? = some (.int .u8 (if i < j then byD x i else 0)) := by simp [out4, hi]
theorem out4_zero (x : BitVec 32) : out4 x 0 = #[.int .u8 0, .int .u8 0, .int .u8 0, .int .u8 0] := by simp [out4, List.range, List.range.loop]
theorem out4_succ (x : BitVec 32) (k : Nat) : (out4 x k).setIfInBounds k (.int .u8 (byD x k)) = out4 x (k + 1) := by
  apply Array.ext_getElem?
  intro i
  rw [Array.getElem?_setIfInBounds]
  by_cases hi : i < 4
  · rw [out4_at _ _ _ hi, out4_at _ _ _ hi]
    by_cases h : k = i
    · subst h; simp [out4_size, hi]
    · rw [if_neg h]
      by_cases h2 : i < k
      · rw [if_pos h2, if_pos (by omega)]
      · rw [if_neg h2, if_neg (by omega)]
  · have h1 : ∀ j, (out4 x j)[i]? = none := fun j => by rw [Array.getElem?_eq_none]; rw [out4_size]; omega
    rw [h1, h1]
    by_cases h : k = i
    · subst h; rw [if_pos rfl, if_neg (by rw [out4_size]; omega)]
    · rw [if_neg h]
/-- The word whose bytes Solve answers. -/
def solved (s want : BitVec 32) : BitVec 32 := backs 32 (~~~ want) ^^^ ~~~ s

set_option maxHeartbeats 1000000 in
theorem solve_calls (s want : BitVec 32) (w : World) :
    Calls Try.prog 16 #[.int .u32 (B s), .int .u32 (B want)] w fun e w' => e = .returned (.agg (out4 (solved s want) 4)) ∧ Below w.heap.size w w' := by
  have z35 : ∀ w, (zeroValue 35).run Try.prog w = .ok (.agg (out4 (solved s want) 0)) w := fun w => by rw [out4_zero]; kernel_rfl
  go_enter Try.func16, Try.ntmps16
  go_wp2
  rw [not_max]
  clear z35
  obtain ⟨W0, hW0⟩ : ∃ W0, W0 = w.alloc (.cells (out4 (solved s want) 0) 35) := ⟨_, rfl⟩
  have hB0 : Below w.heap.size w W0 := by rw [hW0]; exact (Below.refl _ _).alloc (Nat.le_refl _) _
  have hg0 : W0.heap[w.heap.size]? = some (.cells (out4 (solved s want) 0) 35 (0, 0)) := by rw [hW0]; exact heap_alloc_new _ _
  rw [← hW0]
  have HB0 := Aside0.mk hB0
  have HG0 := Aside0.mk hg0
  clear hW0 hB0 hg0
  go_loop [5, 9] (fun v i => ∃ k : Nat, k ≤ 32 ∧ i = .int .i64 k ∧ v = .int .u32 (B (backs k (~~~ want)))) (fun _ i => 32 - (intOf i).toNat)
  case atStart => exact ⟨0, by omega, rfl, rfl⟩
  case round =>
    obtain ⟨k, hk, rfl, rfl⟩ := hrel
    by_cases hlt : k < 32
    · have hb : decide ((k : Int) < 32) = true := by simp; omega
      have HT := Aside0.mk (show back (backs k (~~~ want)) = backs (k + 1) (~~~ want) from rfl)
      generalize backs k (~~~ want) = y at HT
      cases h0 : y.getLsbD 31
      · obtain ⟨e1, e2, e3⟩ := back_zero y h0
        have E3 := Aside0.mk e3
        clear e3 h0
        go_wp2
        go_round
        case rel => exact ⟨k + 1, by omega, by go_num, by rw [E3.out, HT.out]⟩
        case measure => simp [intOf]; omega
      · obtain ⟨e1, e2, e3⟩ := back_one y h0
        have E3 := Aside0.mk e3
        clear e3 h0
        go_wp2
        go_round
        case rel => exact ⟨k + 1, by omega, by go_num, by rw [E3.out, HT.out]⟩
        case measure => simp [intOf]; omega
    · have hb : decide ((k : Int) < 32) = false := by simp; omega
      have HS : Aside0 (bits .xor .u32 (B (backs k (~~~ want))) (bits .xor .u32 IntKind.u32.max (B s)) = B (solved s want)) := ⟨by
        obtain rfl : k = 32 := by omega
        rw [not_max, xor32, ofInt_B, ofInt_B]; rfl⟩
      go_wp2
      rw [HS.out]
      clear HS
      go_loopw [25] (fun i wr => ∃ j : Nat, j ≤ 4 ∧ i = .int .i64 j ∧ Aside0 (wr.heap[w.heap.size]? = some (.cells (out4 (solved s want) j) 35 (0, 0))) ∧ Aside0 (Below w.heap.size w wr)) (fun i _ => 4 - (intOf i).toNat)
      case atStart => exact ⟨0, by omega, rfl, HG0, HB0⟩
      case round =>
        obtain ⟨j, hj, rfl, HG, HB⟩ := hrel
        by_cases hlj : j < 4
        · have hbj : decide ((j : Int) < 4) = true := by simp; omega
          have hcell : wr.cell? ⟨w.heap.size, j, none⟩ = some (.int .u8 0) := by rw [cell_of_row _ _ _ _ _ _ HG.out, out4_at _ _ _ hlj]; simp
          have hfr : wr.frozen? ⟨w.heap.size, j, none⟩ = false := frozen_of_row _ _ _ _ _ HG.out
          go_wp2
          go_roundw
          case rel =>
            refine ⟨j + 1, by omega, by go_num, ⟨?_⟩, ⟨HB.out.setCell (Nat.le_refl _) _⟩⟩
            have h := heap_setCell_same wr w.heap.size j _ 35 (.int .u8 (byD (solved s want) j)) HG.out
            rw [out4_succ] at h
            exact h
          case measure => simp [intOf]; omega
        · have hbj : decide ((j : Int) < 4) = false := by simp; omega
          have hj4 := Aside0.mk (show j = 4 by omega)
          have HG4 : Aside0 (wr.heap[w.heap.size]? = some (.cells (out4 (solved s want) 4) 35 (0, 0))) := by rw [← hj4.out]; exact HG
          clear HG
          go_wp2_with (first | (refine wpList_load_row rfl 35 _ rfl _ rfl 35 (out4 (solved s want) 4) (0, 0) _ HG4.out Try.underlying35 rfl (by rw [out4_size]; kernel_rfl) ?_) | (refine wpList_store_row rfl 35 _ _ rfl w.heap.size (out4 (solved s want) 4) rfl rfl 35 (out4 (solved s want) 4) HG4.out (by rw [out4_size]; kernel_rfl) rfl (by simp [out4, Value.oneCell']) ?_))
          have HG5 : (wr.setRow w.heap.size (out4 (solved s want) 4)).heap[w.heap.size]? = some (.cells (out4 (solved s want) 4) 35 (0, 0)) := setRow_heap _ _ _ _ _ _ HG4.out
          refine bodyPost_ret (v := .agg (out4 (solved s want) 4)) (results_cell_row rfl _ _ w.heap.size 35 (out4 (solved s want) 4) (0, 0) _ rfl HG5 Try.underlying35 rfl (by rw [out4_size]; kernel_rfl)) rfl ⟨rfl, ?_⟩
          exact HB.out.trans ⟨rfl, rfl, rfl, by simp, fun k hk => setRow_other _ _ _ _ (by omega)⟩
end Go.Proofs.Ytfiomcfbphlibaa.Crc
