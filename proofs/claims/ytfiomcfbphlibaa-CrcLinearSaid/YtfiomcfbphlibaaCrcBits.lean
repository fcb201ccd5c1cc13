/- Go's operations on 32 bit numbers, as the model spells them, said of bit vectors. -/
import Derived.Test.YtfiomcfbphlibaaCrcMath
import Derived.Laws.BitsLemmas
import Derived.Laws.BitsAllLaws
import Derived.Laws.Unary
namespace Go.Proofs.Ytfiomcfbphlibaa.Crc
open Go

/-- A register as Go's number. -/
def B (x : BitVec 32) : Int := (x.toNat : Int)
theorem B_nonneg (x : BitVec 32) : 0 ≤ B x := by unfold B; omega
theorem B_lt (x : BitVec 32) : B x < 4294967296 := by unfold B; have := x.isLt; omega
theorem ofInt_B (x : BitVec 32) : BitVec.ofInt 32 (B x) = x := by
  unfold B; rw [BitVec.ofInt_natCast, BitVec.ofNat_toNat, BitVec.setWidth_eq]
theorem B_ofInt {a : Int} (h0 : 0 ≤ a) (h1 : a < 4294967296) : B (BitVec.ofInt 32 a) = a := by
  unfold B
  rw [BitVec.toNat_ofInt]
  omega
theorem B_inj {x y : BitVec 32} (h : B x = B y) : x = y := by rw [← ofInt_B x, h, ofInt_B]
theorem wrap_B (x : BitVec 32) : IntKind.u32.wrap (B x) = B x := by
  rw [IntKind.wrap_u32]; have := B_nonneg x; have := B_lt x; omega
theorem mod_B (x : BitVec 32) : B x % 4294967296 = B x := by
  have := B_nonneg x; have := B_lt x; omega
theorem xor32 (a b : Int) : bits .xor .u32 a b = B (BitVec.ofInt 32 a ^^^ BitVec.ofInt 32 b) := wrap_B _
theorem and32 (a b : Int) : bits .and .u32 a b = B (BitVec.ofInt 32 a &&& BitVec.ofInt 32 b) := wrap_B _
theorem or32 (a b : Int) : bits .or .u32 a b = B (BitVec.ofInt 32 a ||| BitVec.ofInt 32 b) := wrap_B _
theorem shr32 (x : BitVec 32) (n : Nat) : B x / 2 ^ n = B (x >>> n) := by
  unfold B
  rw [BitVec.toNat_ushiftRight, Nat.shiftRight_eq_div_pow]
  norm_cast
theorem shr1 (x : BitVec 32) : B x / (2 : Int) = B (x >>> 1) := shr32 x 1
theorem shr4 (x : BitVec 32) : B x / (16 : Int) = B (x >>> 4) := shr32 x 4
theorem mul32 (x y : BitVec 32) : (B x * B y) % 4294967296 = B (x * y) := by
  unfold B
  rw [BitVec.toNat_mul, ← Int.natCast_mul]
  generalize x.toNat * y.toNat = z
  omega
theorem shl32 (x : BitVec 32) (n : Nat) : (B x * 2 ^ n) % 4294967296 = B (x <<< n) := by
  unfold B
  rw [BitVec.toNat_shiftLeft, Nat.shiftLeft_eq, show ((2 : Int) ^ n) = ((2 ^ n : Nat) : Int) by norm_cast, ← Int.natCast_mul]
  generalize x.toNat * 2 ^ n = z
  omega
theorem byte_mod (c : Int) : BitVec.ofInt 32 (c % 4294967296) = byte c := by
  unfold byte
  apply BitVec.eq_of_toNat_eq
  rw [BitVec.toNat_ofInt, BitVec.toNat_ofInt]
  omega
theorem not32 (x : BitVec 32) : bits .xor .u32 4294967295 (B x) = B (~~~ x) := by
  rw [xor32, ofInt_B]
  rw [show BitVec.ofInt 32 4294967295 = BitVec.allOnes 32 from rfl, BitVec.allOnes_xor]
theorem sub32 (x : BitVec 32) : 4294967295 - B x = B (~~~ x) := by
  unfold B
  rw [BitVec.toNat_not]
  have := x.isLt
  omega
theorem odd32 (x : BitVec 32) : B x % 2 = if x.getLsbD 0 then 1 else 0 := by
  have h : x.getLsbD 0 = decide (x.toNat % 2 = 1) := by
    rw [BitVec.getLsbD, Nat.testBit_zero]
  rw [h]
  unfold B
  by_cases hh : x.toNat % 2 = 1
  · simp [hh]; omega
  · simp [hh]; omega
/-- One shift, as crc.low says it. -/
theorem low_step (x : BitVec 32) : bits .xor .u32 (B x / (2 : Int)) ((3988292384 * (bits .and .u32 (B x) 1)) % 4294967296) = B (step x) := by
  rw [and32, ofInt_B, show (3988292384 : Int) = B poly from rfl, mul32, xor32, ofInt_B, shr1, ofInt_B, show BitVec.ofInt 32 1 = 1#32 from rfl, step_mul]
/-- A half of a byte, as crc.feed says it. -/
theorem half_step (x : BitVec 32) : bits .xor .u32 (B x / (16 : Int)) (B (steps 4 (x &&& 15#32))) = B (steps 4 x) := by
  rw [xor32, ofInt_B, shr4, ofInt_B, steps4]
theorem feed_step (x : BitVec 32) (c : Int) : bits .xor .u32 (B x) (c % 4294967296) = B (x ^^^ byte c) := by
  rw [xor32, ofInt_B, byte_mod]
theorem steps44 (x : BitVec 32) : steps 4 (steps 4 x) = steps 8 x := (steps_add 4 4 x).symm
end Go.Proofs.Ytfiomcfbphlibaa.Crc
