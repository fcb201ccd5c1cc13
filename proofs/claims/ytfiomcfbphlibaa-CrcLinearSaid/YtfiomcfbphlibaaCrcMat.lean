/- The contracts of crc's matrices: shifted, of, then, over, and of crc.Turn. -/
import Derived.Test.YtfiomcfbphlibaaCrcFeed
import Derived.Test.YtfiomcfbphlibaaCrcAlive
import Derived.Deep.RegionHeld3
namespace Go.Proofs.Ytfiomcfbphlibaa.Crc
open Go.RowKit Go.Proofs.YtfiomcfbphlibaaW.PrintWords

/-- A matrix behind k rounds: the first k columns are there. -/
def mtab (n k : Nat) : Array Value := ((List.range 32).map fun i => Value.int .u32 (if i < k then B (steps n (bit i)) else 0)).toArray
theorem mtab_size (n k : Nat) : (mtab n k).size = 32 := by simp [mtab]
theorem mtab_at (n k i : Nat) (hi : i < 32) : (mtab n k)[i]? = some (.int .u32 (if i < k then B (steps n (bit i)) else 0)) := by simp [mtab, hi]
theorem mtab_succ (n k : Nat) : (mtab n k).setIfInBounds k (.int .u32 (B (steps n (bit k)))) = mtab n (k + 1) := by
  apply Array.ext_getElem?
  intro i
  rw [Array.getElem?_setIfInBounds]
  by_cases hi : i < 32
  · rw [mtab_at _ _ _ hi, mtab_at _ _ _ hi]
    by_cases h : k = i
    · subst h; simp [mtab_size, hi]
    · rw [if_neg h]
      by_cases h2 : i < k
      · rw [if_pos h2, if_pos (by omega)]
      · rw [if_neg h2, if_neg (by omega)]
  · have h1 : ∀ j, (mtab n j)[i]? = none := fun j => by rw [Array.getElem?_eq_none]; rw [mtab_size]; omega
    rw [h1, h1]
    by_cases h : k = i
    · subst h; rw [if_pos rfl, if_neg (by rw [mtab_size]; omega)]
    · rw [if_neg h]
/-- A block that holds a matrix. -/
def IsMat (w : World) (g n : Nat) : Prop := w.heap[g]? = some (.cells (mtab n 32) 52 (0, 0))
theorem IsMat.below {w w1 : World} {g n : Nat} (h : IsMat w g n) (hb : Below w.heap.size w w1) : IsMat w1 g n := by
  have hlt : g < w.heap.size := (Array.getElem?_eq_some_iff.1 h).1
  unfold IsMat
  rw [hb.block g hlt]
  exact h
theorem IsMat.cell {w : World} {g n : Nat} (h : IsMat w g n) (i : Nat) (hi : i < 32) : w.cell? ⟨g, i, none⟩ = some (.int .u32 (B (steps n (bit i)))) := by
  rw [cell_of_row _ _ _ _ _ _ h, mtab_at _ _ _ hi, if_pos hi]
theorem of_step (n i : Nat) (x : BitVec 32) : bits .xor .u32 (B (steps n (lows i x))) ((B (steps n (bit i)) * bits .and .u32 (B x / 2 ^ i) 1) % 4294967296) = B (steps n (lows (i + 1) x)) := by
  rw [shr32, and32, ofInt_B, show BitVec.ofInt 32 1 = 1#32 from rfl, mul32, xor32, ofInt_B, ofInt_B, steps_lows_succ]

set_option maxHeartbeats 1000000 in
theorem of_calls (g n : Nat) (x : BitVec 32) (w : World) (hm : IsMat w g n) :
    Calls Try.prog 24 #[.pointer (some ⟨g, 0, none⟩), .int .u32 (B x)] w fun e w' => e = .returned (.int .u32 (B (steps n x))) ∧ Drawn0 w w' := by
  have HM := Aside0.mk hm
  clear hm
  go_enter Try.func24, Try.ntmps24
  go_wp2
  go_loopw [5, 7] (fun v i wr => ∃ k : Nat, k ≤ 32 ∧ i = .int .i64 k ∧ v = .int .u32 (B (steps n (lows k x))) ∧ Drawn0 w wr) (fun _ i _ => 32 - (intOf i).toNat)
  case atStart => exact ⟨0, by omega, rfl, by rw [lows_zero, steps_zero]; rfl, Drawn0.refl _⟩
  case round =>
    obtain ⟨k, hk, rfl, rfl, ⟨m, rfl⟩⟩ := hrel
    by_cases hlt : k < 32
    · have hb : decide ((k : Int) < 32) = true := by simp; omega
      have hlt' : (k : Int) < 32 := by omega
      have hcell := HM.out.cell k hlt
      have HT := Aside0.mk (of_step n k x)
      go_wp2
      go_quiet (fail)
      go_wp2
      go_roundw
      case rel => exact ⟨k + 1, by omega, by go_num, by rw [← HT.out], by repeat (first | exact Drawn0.refl _ | apply Drawn0.step)⟩
      case measure => simp [intOf]; omega
    · have hb : decide ((k : Int) < 32) = false := by simp; omega
      have hkl := Aside0.mk (show k = 32 by omega)
      go_wp2
      go_ret
      exact ⟨by rw [hkl.out, lows_all]; rfl, by repeat (first | exact Drawn0.refl _ | apply Drawn0.step)⟩

theorem blk_below {w w1 : World} {g : Nat} {o : Obj} (h : w.heap[g]? = some o) (hb : Below w.heap.size w w1) : w1.heap[g]? = some o := by
  rw [hb.block g (Array.getElem?_eq_some_iff.1 h).1]; exact h
theorem blk_alloc {w : World} {g : Nat} {o : Obj} (h : w.heap[g]? = some o) (x : Obj) : (w.alloc x).heap[g]? = some o := blk_below h (below_alloc (Below.refl _ _) x)
theorem bit_wrap (k : Nat) : IntKind.u32.wrap (2 ^ k) = B (bit k) := by
  have := shl32 1#32 k
  rw [show B 1#32 = 1 from rfl, Int.one_mul] at this
  rw [IntKind.wrap_u32, this]
  rfl
theorem mt_cell {w : World} {g n k : Nat} (h : w.heap[g]? = some (.cells (mtab n k) 52 (0, 0))) (hk : k < 32) : w.cell? ⟨g, k, none⟩ = some (.int .u32 0) := by
  rw [cell_of_row _ _ _ _ _ _ h, mtab_at _ _ _ hk]; simp
theorem cell_far {w : World} {g1 g : Nat} (h : g1 ≠ g) (j k : Nat) (v : Value) : (w.setCell ⟨g, k, none⟩ v).cell? ⟨g1, j, none⟩ = w.cell? ⟨g1, j, none⟩ := by
  simp only [World.cell?, heap_setCell_other w ⟨g, k, none⟩ g1 v h]
theorem mtab_zero (n : Nat) : mtab n 0 = (List.replicate 32 (Value.int .u32 0)).toArray := by
  simp [mtab, List.replicate, List.range, List.range.loop]
theorem C_zero1 (W : World) : (Kd.int .u8).C (W.alloc (.cells #[.int .u8 0] 5)) (some ⟨W.heap.size, 0, none⟩) [(0 : Int)].length [0] := C_lit .u8 W 5 [0] (by simp)
theorem feed_zero (x : BitVec 32) : feed x [0] = steps 8 x := by
  rw [feed_cons, feed_nil, show byte 0 = 0#32 from rfl, BitVec.xor_zero]

set_option maxHeartbeats 2000000 in
set_option maxRecDepth 100000 in
theorem shifted_calls (w : World) :
    Calls Try.prog 23 #[] w fun e w' => ∃ g, e = .returned (.pointer (some ⟨g, 0, none⟩)) ∧ IsMat w' g 8 ∧ w.heap.size ≤ g ∧ Below w.heap.size w w' := by
  go_enter Try.func23, Try.ntmps23
  go_wp2
  generalize hW : w.alloc _ = W0
  have hg0 : W0.heap[w.heap.size]? = some (.cells (mtab 8 0) 52 (0, 0)) := by rw [← hW]; exact heap_alloc_new _ _
  have hB0 : Below w.heap.size w W0 := by rw [← hW]; exact (Below.refl _ _).alloc (Nat.le_refl _) _
  have HG0 := Aside0.mk hg0
  have HB0 := Aside0.mk hB0
  clear hW hg0 hB0
  generalize hg : w.heap.size = g at HG0 ⊢
  have hgw : w.heap.size ≤ g := by rw [hg]; exact Nat.le_refl _
  clear hg
  go_loopw [5] (fun i wr => ∃ k : Nat, k ≤ 32 ∧ i = .int .i64 k ∧ Aside0 (wr.heap[g]? = some (.cells (mtab 8 k) 52 (0, 0))) ∧ Aside0 (Below w.heap.size w wr)) (fun i _ => 32 - (intOf i).toNat)
  case atStart => exact ⟨0, by omega, rfl, HG0, HB0⟩
  case round =>
    obtain ⟨k, hk, rfl, HG, HB⟩ := hrel
    by_cases hlt : k < 32
    · have hb : decide ((k : Int) < 32) = true := by simp; omega
      have hlt' : (k : Int) < 32 := by omega
      go_wp2
      go_region_held3 (fun _ => True) (trivial) (first | (go_at_call 19; rw [bit_wrap k]; refine (feed_calls (bit k) (some ⟨wr.heap.size, 0, none⟩) 1 [0] _ (Kd.C_drew (C_zero1 wr))).mono ?_; rintro e w5 ⟨rfl, hb5⟩; rw [feed_zero]; have HG5 := Aside0.mk (blk_below (w := (wr.alloc (.cells #[.int .u8 0] 5)).drew) (blk_alloc HG.out _) hb5); have HB5 := Aside0.mk (below_step (below_drew (below_alloc HB.out (.cells #[.int .u8 0] 5))) hb5); clear hb5; have hc5 := mt_cell HG5.out hlt; have hf5 : w5.frozen? ⟨g, k, none⟩ = false := frozen_of_row _ _ _ _ _ HG5.out))
      go_wp2
      go_roundw
      case rel =>
        refine ⟨k + 1, by omega, by go_num, ⟨?_⟩, ⟨HB5.out.setCell hgw _⟩⟩
        rw [heap_setCell_same _ _ _ _ 52 _ HG5.out, mtab_succ]
      case measure => simp [intOf]; omega
    · have hb : decide ((k : Int) < 32) = false := by simp; omega
      have hkl := Aside0.mk (show k = 32 by omega)
      go_wp2
      go_ret
      exact ⟨g, rfl, by have := HG.out; rw [hkl.out] at this; exact this, hgw, HB.out⟩

set_option maxHeartbeats 2000000 in
set_option maxRecDepth 100000 in
theorem then_calls (g1 g2 M N : Nat) (w : World) (h1 : IsMat w g1 M) (h2 : IsMat w g2 N) :
    Calls Try.prog 25 #[.pointer (some ⟨g1, 0, none⟩), .pointer (some ⟨g2, 0, none⟩)] w fun e w' => ∃ g, e = .returned (.pointer (some ⟨g, 0, none⟩)) ∧ IsMat w' g (M + N) ∧ w.heap.size ≤ g ∧ Below w.heap.size w w' := by
  have H1 := Aside0.mk h1
  have H2 := Aside0.mk h2
  clear h1 h2
  go_enter Try.func25, Try.ntmps25
  go_wp2
  generalize hW : w.alloc _ = W0
  have hg0 : W0.heap[w.heap.size]? = some (.cells (mtab (M + N) 0) 52 (0, 0)) := by rw [← hW]; exact heap_alloc_new _ _
  have hB0 : Below w.heap.size w W0 := by rw [← hW]; exact (Below.refl _ _).alloc (Nat.le_refl _) _
  have HG0 := Aside0.mk hg0
  have HB0 := Aside0.mk hB0
  clear hW hg0 hB0
  generalize hg : w.heap.size = g at HG0 ⊢
  have hgw : w.heap.size ≤ g := by rw [hg]; exact Nat.le_refl _
  clear hg
  go_loopw [9] (fun i wr => ∃ k : Nat, k ≤ 32 ∧ i = .int .i64 k ∧ Aside0 (wr.heap[g]? = some (.cells (mtab (M + N) k) 52 (0, 0))) ∧ Aside0 (Below w.heap.size w wr)) (fun i _ => 32 - (intOf i).toNat)
  case atStart => exact ⟨0, by omega, rfl, HG0, HB0⟩
  case round =>
    obtain ⟨k, hk, rfl, HG, HB⟩ := hrel
    by_cases hlt : k < 32
    · have hb : decide ((k : Int) < 32) = true := by simp; omega
      have hlt' : (k : Int) < 32 := by omega
      have hcl := (H1.out.below HB.out).cell k hlt
      have hne : g1 ≠ g := fun e => by have := (Array.getElem?_eq_some_iff.1 H1.out).1; omega
      have HA := Aside0.mk (steps_add M N (bit k)).symm
      go_wp2
      go_region_held3 (fun w' => w'.cell? ⟨g1, k, none⟩ = some (.int .u32 (B (steps M (bit k))))) (first | exact hcl | exact (cell_far hne _ _ _).trans hcl) (first | (go_at_call 24; refine (of_calls g2 N (steps M (bit k)) _ (show IsMat wr.drew g2 N from H2.out.below (below_drew HB.out))).mono ?_; rintro e w5 ⟨rfl, ⟨nd, rfl⟩⟩; rw [HA.out]; have hc5 := mt_cell HG.out hlt; have hf5 : wr.frozen? ⟨g, k, none⟩ = false := frozen_of_row _ _ _ _ _ HG.out))
      go_wp2
      go_roundw
      case rel =>
        refine ⟨k + 1, by omega, by go_num, ⟨?_⟩, ⟨(pw_below_drewN HB.out _).setCell hgw _⟩⟩
        have hG : (wr.drewN (1 + nd)).heap[g]? = some (.cells (mtab (M + N) k) 52 (0, 0)) := HG.out
        rw [heap_setCell_same _ _ _ _ 52 _ hG, mtab_succ]
      case measure => simp [intOf]; omega
    · have hb : decide ((k : Int) < 32) = false := by simp; omega
      have hkl := Aside0.mk (show k = 32 by omega)
      go_wp2
      go_ret
      exact ⟨g, rfl, by have := HG.out; rw [hkl.out] at this; exact this, hgw, HB.out⟩

theorem and1_i64 (q : Nat) : bits .and .i64 (q : Int) 1 = ((q % 2 : Nat) : Int) := by
  have e : (BitVec.ofInt 64 (q : Int) &&& BitVec.ofInt 64 1).toNat = q % 2 := by
    rw [BitVec.toNat_and, BitVec.ofInt_natCast, BitVec.toNat_ofNat, show (BitVec.ofInt 64 1).toNat = 2 ^ 1 - 1 from rfl, Nat.and_two_pow_sub_one_eq_mod]
    omega
  show IntKind.i64.wrap ((BitVec.ofInt 64 (q : Int) &&& BitVec.ofInt 64 1).toNat : Int) = _
  rw [e, IntKind.wrap_i64]
  omega
theorem half_even (M q : Nat) (x : BitVec 32) (h : q % 2 = 0) : steps ((M + M) * (q / 2)) x = steps (M * q) x := by
  congr 1
  have : q = 2 * (q / 2) := by omega
  conv => rhs; rw [this]
  rw [← Nat.mul_assoc, Nat.mul_two]
theorem half_odd (M q : Nat) (x : BitVec 32) (h : q % 2 = 1) : steps ((M + M) * (q / 2)) (steps M x) = steps (M * q) x := by
  rw [← steps_add]
  congr 1
  have : q = 2 * (q / 2) + 1 := by omega
  conv => rhs; rw [this]
  rw [Nat.mul_add, ← Nat.mul_assoc, Nat.mul_two, Nat.mul_one, Nat.add_comm]

set_option maxHeartbeats 2000000 in
theorem over_nat (x : BitVec 32) (q0 : Nat) (hn : q0 ≤ 9223372036854775807) (w : World) :
    Calls Try.prog 21 #[.int .u32 (B x), .int .i64 q0] w fun e w' => e = .returned (.int .u32 (B (steps (8 * q0) x))) ∧ Below w.heap.size w w' := by
  go_enter Try.func21, Try.ntmps21
  go_wp2_with (go_at_call 23; refine (shifted_calls _).mono ?_; rintro e w1 ⟨g, rfl, hm, hgw, hb1⟩)
  have HM1 := Aside0.mk hm
  have HB1 := Aside0.mk hb1
  have HN := Aside0.mk hn
  clear hm hb1 hgw hn
  go_loopw [0, 1, 5] (fun v n p wr => ∃ (q M gq : Nat) (y : BitVec 32), n = .int .i64 q ∧ v = .int .u32 (B y) ∧ p = .pointer (some ⟨gq, 0, none⟩) ∧ q ≤ 9223372036854775807 ∧ Aside0 (steps (M * q) y = steps (8 * q0) x) ∧ Aside0 (IsMat wr gq M) ∧ Aside0 (Below w.heap.size w wr)) (fun _ n _ _ => (intOf n).toNat)
  case atStart => exact ⟨q0, 8, g, x, rfl, rfl, rfl, HN.out, ⟨rfl⟩, HM1, HB1⟩
  case round =>
    obtain ⟨q, M, gq, y, rfl, rfl, rfl, hq, HT, HM, HB⟩ := hrel
    by_cases hpos : 0 < q
    · have hb : decide (0 < (q : Int)) = true := by simp; omega
      have ea := and1_i64 q
      by_cases hodd : q % 2 = 1
      · have e1 : ((q : Int) % 2 == 1) = true := by rw [beq_iff_eq]; omega
        have HH := Aside0.mk (half_odd M q y hodd)
        clear hodd
        go_wp2_with fail
        refine (of_calls gq M y _ HM.out).mono ?_
        rintro e w2 ⟨rfl, hd2⟩
        have HB2 := Aside0.mk (below_step HB.out hd2.below)
        have HM2 := Aside0.mk (HM.out.below hd2.below)
        clear hd2
        go_wp2_with fail
        refine (then_calls gq gq M M _ HM2.out HM2.out).mono ?_
        rintro e w3 ⟨g3, rfl, hm3, hg3, hb3⟩
        have HM3 := Aside0.mk hm3
        have HB3 := Aside0.mk (below_step HB2.out hb3)
        clear hm3 hg3 hb3
        go_wp2
        go_roundw
        case rel => exact ⟨q / 2, M + M, g3, steps M y, by go_num, rfl, rfl, by omega, ⟨HH.out.trans HT.out⟩, HM3, HB3⟩
        case measure => simp [intOf]; omega
      · have e1 : ((q : Int) % 2 == 1) = false := by rw [beq_eq_false_iff_ne]; omega
        have HH := Aside0.mk (half_even M q y (by omega))
        clear hodd
        go_wp2_with fail
        refine (then_calls gq gq M M _ HM.out HM.out).mono ?_
        rintro e w3 ⟨g3, rfl, hm3, hg3, hb3⟩
        have HM3 := Aside0.mk hm3
        have HB3 := Aside0.mk (below_step HB.out hb3)
        clear hm3 hg3 hb3
        go_wp2
        go_roundw
        case rel => exact ⟨q / 2, M + M, g3, y, by go_num, rfl, rfl, by omega, ⟨HH.out.trans HT.out⟩, HM3, HB3⟩
        case measure => simp [intOf]; omega
    · have hb : decide (0 < (q : Int)) = false := by simp; omega
      have hq0 : Aside0 (y = steps (8 * q0) x) := ⟨by rw [← HT.out, show q = 0 by omega]; rfl⟩
      go_wp2
      go_ret
      exact ⟨by rw [← hq0.out]; rfl, HB.out⟩

set_option maxHeartbeats 2000000 in
theorem over_neg (x : BitVec 32) (n : Int) (hn : n < 0) (w : World) :
    Calls Try.prog 21 #[.int .u32 (B x), .int .i64 n] w fun e w' => e = .returned (.int .u32 (B x)) ∧ Below w.heap.size w w' := by
  have hb : decide (0 < n) = false := by simp; omega
  clear hn
  go_enter Try.func21, Try.ntmps21
  go_wp2_with (go_at_call 23; refine (shifted_calls _).mono ?_; rintro e w1 ⟨g, rfl, hm, hgw, hb1⟩)
  clear hm hgw
  have HB1 := Aside0.mk hb1
  clear hb1
  go_loopw [0, 1, 5] (fun v m p wr => v = .int .u32 (B x) ∧ m = .int .i64 n ∧ p = .pointer (some ⟨g, 0, none⟩) ∧ wr = w1) (fun _ _ _ _ => 0)
  case atStart => exact ⟨rfl, rfl, rfl, rfl⟩
  case round =>
    obtain ⟨rfl, rfl, rfl, rfl⟩ := hrel
    go_wp2
    go_ret
    exact ⟨rfl, HB1.out⟩
/-- A register led over so many noughts; none, if they are below 0. -/
theorem over_calls (x : BitVec 32) (n : Int) (hn : n ≤ 9223372036854775807) (w : World) :
    Calls Try.prog 21 #[.int .u32 (B x), .int .i64 n] w fun e w' => e = .returned (.int .u32 (B (steps (8 * n.toNat) x))) ∧ Below w.heap.size w w' := by
  by_cases h : n < 0
  · rw [show n.toNat = 0 by omega]
    exact over_neg x n h w
  · obtain ⟨q, rfl⟩ := Int.eq_ofNat_of_zero_le (show 0 ≤ n by omega)
    rw [Int.toNat_natCast]
    exact over_nat x q (by omega) w

/-- What Turn puts to a sum. -/
def turnBy (by_ : List Int) (n : Int) : BitVec 32 := steps (8 * n.toNat) (feed 0#32 by_)
set_option maxHeartbeats 1000000 in
theorem turn_calls (s : BitVec 32) (A : Option Addr) (c : Nat) (ys : List Int) (n : Int) (hn : n ≤ 9223372036854775807) (w : World) (hr : Kd.C (Kd.int .u8) w A ys.length ys) :
    Calls Try.prog 17 #[.int .u32 (B s), .slice A ys.length c, .int .i64 n] w fun e w' => e = .returned (.int .u32 (B (s ^^^ turnBy ys n))) ∧ Below w.heap.size w w' := by
  have HF := Aside0.mk (feed_calls 0#32 A c ys w hr)
  clear hr
  go_enter Try.func17, Try.ntmps17
  go_wp2_with fail
  refine HF.out.mono ?_
  rintro e w1 ⟨rfl, hb1⟩
  have HB1 := Aside0.mk hb1
  clear hb1
  go_wp2_with fail
  refine (over_calls _ n hn _).mono ?_
  rintro e w2 ⟨rfl, hb2⟩
  have HB2 := Aside0.mk (below_step HB1.out hb2)
  clear hb2
  go_wp2
  go_ret
  exact ⟨congrArg (fun z => Ending.returned (.int .u32 z)) (by rw [xor32, ofInt_B, ofInt_B]; rfl), HB2.out⟩
end Go.Proofs.Ytfiomcfbphlibaa.Crc
