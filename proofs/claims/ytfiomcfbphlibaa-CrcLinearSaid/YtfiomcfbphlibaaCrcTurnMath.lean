/- Rows of which some bytes are turned, one behind the other, and what that does to the check sum. -/
import Derived.Test.YtfiomcfbphlibaaCrcBits
namespace Go.Proofs.Ytfiomcfbphlibaa.Crc
open Go

/-- The row behind j rounds: the bytes from k on are turned by d. -/
def tn (l : List Int) (k : Nat) (d : Nat → Int) : Nat → List Int
  | 0 => l
  | j + 1 => (tn l k d j).set (k + j) (bits .xor .u8 ((tn l k d j).getD (k + j) 0) (d j))
theorem tn_len (l : List Int) (k : Nat) (d : Nat → Int) (j : Nat) : (tn l k d j).length = l.length := by
  induction j with
  | zero => rfl
  | succ j ih => simp only [tn, List.length_set]; exact ih
theorem tn_get (l : List Int) (k : Nat) (d : Nat → Int) (j : Nat) (h : k + j ≤ l.length) (i : Nat) : (tn l k d j).getD i 0 = if k ≤ i ∧ i < k + j then bits .xor .u8 (l.getD i 0) (d (i - k)) else l.getD i 0 := by
  induction j with
  | zero => rw [if_neg (by omega)]; rfl
  | succ j ih =>
    have ih := ih (by omega)
    simp only [tn]
    by_cases hi : i = k + j
    · subst hi
      rw [ih, if_neg (by omega), if_pos (by omega), List.getD_eq_getElem?_getD, List.getElem?_set_self (by rw [tn_len]; omega)]
      simp
    · rw [List.getD_eq_getElem?_getD, List.getElem?_set_ne (fun e => hi e.symm), ← List.getD_eq_getElem?_getD, ih]
      by_cases h1 : k ≤ i ∧ i < k + j
      · rw [if_pos h1, if_pos (by omega)]
      · rw [if_neg h1, if_neg (by omega)]
theorem byte_xor {a b : Int} (h0 : 0 ≤ a) (h1 : a < 256) (h2 : 0 ≤ b) (h3 : b < 256) : byte (bits .xor .u8 a b) = byte a ^^^ byte b := by
  rw [u8_xor a b h0 h1 h2 h3]
  unfold byte
  obtain ⟨m, rfl⟩ := Int.eq_ofNat_of_zero_le h0
  obtain ⟨n, rfl⟩ := Int.eq_ofNat_of_zero_le h2
  simp only [Int.toNat_natCast, BitVec.ofInt_natCast]
  apply eq_of_bits
  intro i
  simp only [BitVec.getLsbD_xor, BitVec.getLsbD_ofNat, Nat.testBit_xor]
  by_cases hi : i < 32
  · simp [hi]
  · simp [hi]
theorem xor8_range {a b : Int} (h0 : 0 ≤ a) (h1 : a < 256) (h2 : 0 ≤ b) (h3 : b < 256) : 0 ≤ bits .xor .u8 a b ∧ bits .xor .u8 a b < 256 := by
  rw [u8_xor a b h0 h1 h2 h3]
  have : a.toNat ^^^ b.toNat < 2 ^ 8 := Nat.xor_lt_two_pow (by omega) (by omega)
  omega
theorem getD_range {l : List Int} (hl : ∀ x ∈ l, 0 ≤ x ∧ x < 256) (i : Nat) : 0 ≤ l.getD i 0 ∧ l.getD i 0 < 256 := by
  rw [List.getD_eq_getElem?_getD]
  rcases Nat.lt_or_ge i l.length with h | h
  · rw [List.getElem?_eq_getElem h]
    exact hl _ (List.getElem_mem h)
  · rw [List.getElem?_eq_none h]
    exact ⟨Int.le_refl _, by decide⟩
theorem around_get (k n : Nat) (d : List Int) (i : Nat) : (List.replicate k (0 : Int) ++ d ++ List.replicate n 0).getD i 0 = if k ≤ i ∧ i < k + d.length then d.getD (i - k) 0 else 0 := by
  simp only [List.getD_eq_getElem?_getD, List.getElem?_append, List.length_append, List.length_replicate, List.getElem?_replicate]
  rcases Nat.lt_or_ge i k with h1 | h1
  · simp only [show i < k + d.length by omega, h1, show ¬ k ≤ i by omega, if_true, false_and, if_false, Option.getD_some]
  · rcases Nat.lt_or_ge i (k + d.length) with h2 | h2
    · simp only [h2, show ¬ i < k by omega, h1, if_true, if_false, and_self]
    · simp only [show ¬ i < k + d.length by omega, and_false, if_false]
      split <;> rfl
theorem tn_add (s : BitVec 32) (l : List Int) (k n : Nat) (d : Nat → Int) (hl : ∀ x ∈ l, 0 ≤ x ∧ x < 256) (hd : ∀ i, i < n → 0 ≤ d i ∧ d i < 256) (h : k + n ≤ l.length) :
    add s (tn l k d n) = add s l ^^^ steps (8 * (l.length - k - n)) (feed 0#32 ((List.range n).map d)) := by
  rw [← feed_around k]
  refine add_turn s l _ _ (by simp; omega) (tn_len _ _ _ _) fun i hi => ?_
  rw [tn_get l k d n h, around_get]
  simp only [List.length_map, List.length_range]
  have hr := getD_range hl i
  by_cases h1 : k ≤ i ∧ i < k + n
  · have hr2 := hd (i - k) (by omega)
    rw [if_pos h1, if_pos h1, byte_xor hr.1 hr.2 hr2.1 hr2.2]
    congr 2
    simp [List.getD_eq_getElem?_getD, show i - k < n by omega]
  · rw [if_neg h1, if_neg h1, show byte 0 = 0#32 from rfl, BitVec.xor_zero]
/-- A byte of a word, as Go tells it. -/
theorem byte_word (x : BitVec 32) (i : Nat) : byte ((B x / 2 ^ (8 * i)) % 256) = word x i := by
  unfold word byte B
  rw [← B, shr32]
  unfold B
  apply BitVec.eq_of_toNat_eq
  rw [BitVec.toNat_and, show (255#32).toNat = 2 ^ 8 - 1 from rfl, Nat.and_two_pow_sub_one_eq_mod, BitVec.toNat_ofInt]
  have := (x >>> (8 * i)).isLt
  omega
theorem mod256 (z : Int) : 0 ≤ z % 256 ∧ z % 256 < 256 := by omega
theorem getD_map_range (n : Nat) (d : Nat → Int) (i : Nat) (h : i < n) : ((List.range n).map d).getD i 0 = d i := by
  simp [List.getD_eq_getElem?_getD, h]
/-- Four bytes side by side, changed: another sum. -/
theorem finds_law (s x : BitVec 32) (hx : x ≠ 0#32) (l : List Int) (k : Nat) (hl : ∀ x ∈ l, 0 ≤ x ∧ x < 256) (h : k + 4 ≤ l.length) :
    add s (tn l k (fun i => (B x / 2 ^ (8 * i)) % 256) 4) ≠ add s l := by
  rw [tn_add s l k 4 _ hl (fun i _ => mod256 _) h]
  apply xor_ne
  intro he
  have := steps_inj0 _ _ he
  rw [feed_word 0#32 x _ (by simp) (fun i hi => by rw [getD_map_range 4 _ i hi]; exact byte_word x i), BitVec.zero_xor] at this
  exact hx (steps_inj0 _ _ this)
end Go.Proofs.Ytfiomcfbphlibaa.Crc
