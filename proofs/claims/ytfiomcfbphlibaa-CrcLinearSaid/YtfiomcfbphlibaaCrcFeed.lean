/- The contracts of crc.feed, crc.Add and crc.Sum. -/
import Derived.Test.YtfiomcfbphlibaaCrcLow
import Derived.Deep.WholeRow
namespace Go.Proofs.Ytfiomcfbphlibaa.Crc
open Go.RowKit Go.Proofs.YtfiomcfbphlibaaW.PrintWords

theorem z45 (w : World) : (zeroValue 45).run Try.prog w = .ok (.agg (tab 0)) w := by kernel_rfl

def nib (y : BitVec 32) : Nat := (y &&& 15#32).toNat
theorem nib_lt (y : BitVec 32) : nib y < 16 := by
  unfold nib
  rw [BitVec.toNat_and]
  have : y.toNat &&& (15#32).toNat ≤ (15#32).toNat := Nat.and_le_right
  have h15 : (15#32).toNat = 15 := rfl
  omega
theorem nib_and (y : BitVec 32) : bits .and .u32 (B y) 15 = ((nib y : Nat) : Int) := by
  rw [and32, ofInt_B]; rfl
theorem tab_nib (W : World) (g : Nat) (h : W.heap[g]? = some (.cells (tab 16) 45 (0, 0))) (y : BitVec 32) : W.cell? ⟨g, nib y, none⟩ = some (.int .u32 (B (steps 4 (y &&& 15#32)))) := by
  have hlt := nib_lt y
  rw [cell_of_row _ _ _ _ _ _ h, tab_at _ _ hlt, if_pos hlt, show nib y = (y &&& 15#32).toNat from rfl, BitVec.ofNat_toNat, BitVec.setWidth_eq]
theorem feed_take (x : BitVec 32) (xs : List Int) (k : Nat) (h : k < xs.length) : feed x (xs.take (k + 1)) = steps 4 (steps 4 (feed x (xs.take k) ^^^ byte (rd xs k))) := by
  rw [List.take_succ_eq_append_getElem h, feed_snoc, steps44]
  simp [rd, h]

set_option maxHeartbeats 1000000 in
theorem feed_calls (x : BitVec 32) (A : Option Addr) (c : Nat) (xs : List Int) (w : World) (hr : Kd.C (Kd.int .u8) w A xs.length xs) :
    Calls Try.prog 19 #[.int .u32 (B x), .slice A xs.length c] w fun e w' => e = .returned (.int .u32 (B (feed x xs))) ∧ Below w.heap.size w w' := by
  have z45 := z45
  have HR := Aside0.mk hr
  clear hr
  go_enter Try.func19, Try.ntmps19
  go_wp2_with (first | (go_at_call 22; refine (halves_calls _).mono ?_; rintro e w1 ⟨rfl, hb1⟩) | (refine wpList_store_row rfl 45 _ _ rfl w1.heap.size (tab 16) rfl rfl 45 (tab 0) (heap_alloc_new _ _) (by kernel_rfl) rfl (by kernel_rfl) ?_; rw [World.setRow_alloc_new]))
  clear z45
  have hbW := hb1.trans ((Below.refl w.heap.size w1).alloc hb1.size (.cells (tab 16) 45))
  have hblk : (w1.alloc (.cells (tab 16) 45)).heap[w1.heap.size]? = some (.cells (tab 16) 45 (0, 0)) := heap_alloc_new _ _
  generalize w1.alloc (.cells (tab 16) 45) = W0 at hbW hblk ⊢
  generalize w1.heap.size = g at hblk ⊢
  have HB := Aside0.mk hbW
  have HG := Aside0.mk hblk
  clear hblk hbW hb1
  have HM := Aside0.mk (Kd.C_max HR.out)
  go_loopw [0, 11] (fun v i wr => ∃ k : Nat, k ≤ xs.length ∧ i = .int .i64 k ∧ v = .int .u32 (B (feed x (xs.take k))) ∧ Drawn0 W0 wr) (fun _ i _ => xs.length - (intOf i).toNat)
  case atStart => exact ⟨0, by omega, rfl, rfl, Drawn0.refl _⟩
  case round =>
    obtain ⟨k, hk, rfl, rfl, ⟨m, rfl⟩⟩ := hrel
    have hm := HM.out
    by_cases hlt : k < xs.length
    · have hb : decide (k < xs.length) = true := by simp; omega
      have hw : wrap64 ((k : Int) + 1) = ((k + 1 : Nat) : Int) := by unfold wrap64; omega
      obtain ⟨ad, rfl, hcell⟩ := Kd.at_int (Kd.C_below HR.out HB.out) (k : Int) (by omega) (by omega)
      rw [Int.toNat_natCast] at hcell
      have e1 := feed_step (feed x (xs.take k)) (rd xs k)
      have HT := Aside0.mk (feed_take x xs k hlt)
      generalize feed x (xs.take k) ^^^ byte (rd xs k) = x1 at e1 HT
      have e2 := nib_and x1
      have l1 := nib_lt x1
      have c1 := tab_nib _ _ HG.out x1
      have e3 := half_step x1
      generalize steps 4 x1 = x2 at e3 HT
      have e4 := nib_and x2
      have l2 := nib_lt x2
      have c2 := tab_nib _ _ HG.out x2
      have e5 := half_step x2
      go_wp2
      go_roundw
      case rel => exact ⟨k + 1, by omega, by go_num, by rw [HT.out], by repeat (first | exact Drawn0.refl _ | apply Drawn0.step)⟩
      case measure => simp [intOf]; omega
    · have hb : decide (k < xs.length) = false := by simp; omega
      have hkl := Aside0.mk (show k = xs.length by omega)
      go_wp2
      go_ret
      exact ⟨by rw [hkl.out, List.take_length]; rfl, pw_below_drewN HB.out m⟩

theorem not_max (x : BitVec 32) : bits .xor .u32 IntKind.u32.max (B x) = B (~~~ x) := not32 x
set_option maxHeartbeats 400000 in
theorem add_calls (s : BitVec 32) (A : Option Addr) (c : Nat) (xs : List Int) (w : World) (hr : Kd.C (Kd.int .u8) w A xs.length xs) :
    Calls Try.prog 13 #[.int .u32 (B s), .slice A xs.length c] w fun e w' => e = .returned (.int .u32 (B (add s xs))) ∧ Below w.heap.size w w' := by
  have HR := Aside0.mk hr
  clear hr
  go_enter Try.func13, Try.ntmps13
  go_wp2_with fail
  rw [not_max]
  refine (feed_calls _ _ _ _ _ HR.out).mono ?_
  rintro e w1 ⟨rfl, hb1⟩
  go_wp2
  go_ret
  exact ⟨congrArg (fun z => Ending.returned (.int .u32 z)) (not_max _), hb1⟩

theorem at_L {w : World} {A : Option Addr} {n : Nat} {xs : List (List Int)} (h : Kd.C (Kd.slice 5 (Kd.int .u8)) w A n xs) (k : Nat) (hk : k < n) : ∃ ad A0 c0, A = some ad ∧ w.cell? (ad.add k) = some (.slice A0 (xs.getD k []).length c0) ∧ (xs.getD k []).length ≤ c0 ∧ (Kd.int .u8).C w A0 (xs.getD k []).length (xs.getD k []) := by
  obtain ⟨ad, c, e, _, hK, hc0⟩ := Kd.C_get h ([] : List Int) (k : Int) (by omega) (by omega)
  simp only [Int.toNat_natCast] at hK hc0
  obtain ⟨A0, c0, rfl, l0, g0⟩ := hK
  have hc : ∀ j u, [Value.slice A0 (xs.getD k []).length c0][j]? = some u → w.cell? (ad.add (k * 1 + j)) = some u := hc0
  exact ⟨ad, A0, c0, e, by have hq := hc 0 _ rfl; rwa [Nat.mul_one, Nat.add_zero] at hq, l0, g0⟩
theorem sum_take (s : BitVec 32) (ps : List (List Int)) (k : Nat) (h : k < ps.length) : (ps.take (k + 1)).foldl add s = add ((ps.take k).foldl add s) (ps.getD k []) := by
  rw [List.take_succ_eq_append_getElem h, List.foldl_append]
  simp [h]
set_option maxHeartbeats 1000000 in
theorem sum_calls (A : Option Addr) (c : Nat) (ps : List (List Int)) (w : World) (hr : Kd.C (Kd.slice 5 (Kd.int .u8)) w A ps.length ps) :
    Calls Try.prog 12 #[.slice A ps.length c] w fun e w' => e = .returned (.int .u32 (B (sum ps))) ∧ Below w.heap.size w w' := by
  have HR := Aside0.mk hr
  clear hr
  have HM := Aside0.mk (Kd.C_max HR.out)
  go_enter Try.func12, Try.ntmps12
  go_wp2
  go_loopw [3, 8] (fun v i wr => ∃ k : Nat, k ≤ ps.length ∧ i = .int .i64 k ∧ v = .int .u32 (B ((ps.take k).foldl add 0#32)) ∧ Below w.heap.size w wr) (fun _ i _ => ps.length - (intOf i).toNat)
  case atStart => exact ⟨0, by omega, rfl, rfl, Below.refl _ _⟩
  case round =>
    obtain ⟨k, hk, rfl, rfl, hB⟩ := hrel
    have hm := HM.out
    by_cases hlt : k < ps.length
    · have hb : decide (k < ps.length) = true := by simp; omega
      have hw : wrap64 ((k : Int) + 1) = ((k + 1 : Nat) : Int) := by unfold wrap64; omega
      have HT := Aside0.mk (sum_take 0#32 ps k hlt)
      obtain ⟨ad, A1, c1, rfl, hcl, hl1, hc1⟩ := at_L (Kd.C_below HR.out hB) k hlt
      generalize ps.getD k [] = p at HT hcl hl1 hc1
      have HC1 := Aside0.mk hc1
      clear hc1
      go_wp2_with (go_at_call 13; refine (add_calls _ _ _ _ _ HC1.out).mono ?_; rintro e w1 ⟨rfl, hb1⟩)
      go_roundw
      case rel => exact ⟨k + 1, by omega, by go_num, by rw [HT.out], hB.trans (hb1.mono hB.size)⟩
      case measure => simp [intOf]; omega
    · have hb : decide (k < ps.length) = false := by simp; omega
      have hkl := Aside0.mk (show k = ps.length by omega)
      go_wp2
      go_ret
      exact ⟨by rw [hkl.out, List.take_length]; rfl, hB⟩
end Go.Proofs.Ytfiomcfbphlibaa.Crc
