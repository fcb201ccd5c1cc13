/- The plain mathematics of the check sum: one shift of a 32 bit register, rows of bytes led over it, and what linearity gives. No program in sight. -/
namespace Go.Proofs.Ytfiomcfbphlibaa.Crc

def poly : BitVec 32 := 0xedb88320#32
/-- One shift of the register. -/
def step (x : BitVec 32) : BitVec 32 := x >>> 1 ^^^ (if x.getLsbD 0 then poly else 0#32)
def steps : Nat → BitVec 32 → BitVec 32
  | 0, x => x
  | n + 1, x => steps n (step x)

theorem step_bit (x : BitVec 32) (i : Nat) : (step x).getLsbD i = ((x.getLsbD (i + 1)) ^^ (x.getLsbD 0 && poly.getLsbD i)) := by
  unfold step
  rw [BitVec.getLsbD_xor, BitVec.getLsbD_ushiftRight, Nat.add_comm 1 i]
  cases x.getLsbD 0 <;> simp

theorem eq_of_bits {x y : BitVec 32} (h : ∀ i, x.getLsbD i = y.getLsbD i) : x = y := BitVec.eq_of_getLsbD_eq (fun i _ => h i)

theorem step_xor (x y : BitVec 32) : step (x ^^^ y) = step x ^^^ step y := by
  apply eq_of_bits
  intro i
  simp only [step_bit, BitVec.getLsbD_xor]
  cases x.getLsbD (i + 1) <;> cases y.getLsbD (i + 1) <;> cases x.getLsbD 0 <;> cases y.getLsbD 0 <;> cases poly.getLsbD i <;> rfl

theorem steps_xor (n : Nat) (x y : BitVec 32) : steps n (x ^^^ y) = steps n x ^^^ steps n y := by
  induction n generalizing x y with
  | zero => rfl
  | succ n ih => simp only [steps, step_xor, ih]

theorem steps_add (m n : Nat) (x : BitVec 32) : steps (m + n) x = steps n (steps m x) := by
  induction m generalizing x with
  | zero => simp [steps]
  | succ m ih => rw [show m + 1 + n = (m + n) + 1 by omega]; simp only [steps]; exact ih _

theorem step_zero : step 0#32 = 0#32 := by decide
theorem steps_zero (n : Nat) : steps n 0#32 = 0#32 := by
  induction n with
  | zero => rfl
  | succ n ih => simp only [steps, step_zero]; exact ih

theorem step_even (x : BitVec 32) (h : x.getLsbD 0 = false) : step x = x >>> 1 := by
  unfold step; rw [h]; simp

theorem steps_even (n : Nat) (x : BitVec 32) (h : ∀ i, i < n → x.getLsbD i = false) : steps n x = x >>> n := by
  induction n generalizing x with
  | zero => simp [steps]
  | succ n ih =>
    simp only [steps]
    rw [step_even x (h 0 (by omega)), ih]
    · rw [← BitVec.shiftRight_add, Nat.add_comm]
    · intro i hi
      rw [BitVec.getLsbD_ushiftRight]
      exact h (1 + i) (by omega)

/-- The register's upper bits are only shifted. -/
theorem steps_split (n : Nat) (x m : BitVec 32) (hm : ∀ i, m.getLsbD i = decide (i < n ∧ i < 32)) : steps n x = x >>> n ^^^ steps n (x &&& m) := by
  have hx : x = (x &&& ~~~m) ^^^ (x &&& m) := by
    apply eq_of_bits
    intro i
    simp only [BitVec.getLsbD_xor, BitVec.getLsbD_and, BitVec.getLsbD_not]
    by_cases hi : i < 32
    · cases x.getLsbD i <;> cases m.getLsbD i <;> simp [hi]
    · simp [BitVec.getLsbD_of_ge x i (by omega)]
  conv => lhs; rw [hx, steps_xor]
  congr 1
  rw [steps_even]
  · apply eq_of_bits
    intro i
    simp only [BitVec.getLsbD_ushiftRight, BitVec.getLsbD_and, BitVec.getLsbD_not, hm]
    by_cases hi : n + i < 32
    · simp [hi]
    · simp [BitVec.getLsbD_of_ge x (n + i) (by omega)]
  · intro i hi
    simp only [BitVec.getLsbD_and, BitVec.getLsbD_not, hm]
    by_cases h : i < 32 <;> simp [h, hi]

theorem mask15 (i : Nat) : (15#32).getLsbD i = decide (i < 4 ∧ i < 32) := by
  by_cases h : i < 32
  · revert i; decide
  · rw [BitVec.getLsbD_of_ge _ _ (by omega)]; simp; omega
theorem mask255 (i : Nat) : (255#32).getLsbD i = decide (i < 8 ∧ i < 32) := by
  by_cases h : i < 32
  · revert i; decide
  · rw [BitVec.getLsbD_of_ge _ _ (by omega)]; simp; omega

theorem steps4 (x : BitVec 32) : x >>> 4 ^^^ steps 4 (x &&& 15#32) = steps 4 x := (steps_split 4 x _ mask15).symm
theorem steps8 (x : BitVec 32) : steps 8 x = x >>> 8 ^^^ steps 8 (x &&& 255#32) := steps_split 8 x _ mask255

/-! bytes -/
def byte (c : Int) : BitVec 32 := BitVec.ofInt 32 c
def feed (x : BitVec 32) (l : List Int) : BitVec 32 := l.foldl (fun x c => steps 8 (x ^^^ byte c)) x
theorem feed_nil (x : BitVec 32) : feed x [] = x := rfl
theorem feed_cons (x : BitVec 32) (c : Int) (l : List Int) : feed x (c :: l) = feed (steps 8 (x ^^^ byte c)) l := rfl
theorem feed_append (x : BitVec 32) (a b : List Int) : feed x (a ++ b) = feed (feed x a) b := by unfold feed; rw [List.foldl_append]
theorem feed_snoc (x : BitVec 32) (a : List Int) (c : Int) : feed x (a ++ [c]) = steps 8 (feed x a ^^^ byte c) := by rw [feed_append]; rfl
def add (s : BitVec 32) (l : List Int) : BitVec 32 := ~~~ feed (~~~ s) l
theorem add_append (s : BitVec 32) (a b : List Int) : add s (a ++ b) = add (add s a) b := by
  unfold add; rw [feed_append, BitVec.not_not]
def sum (ps : List (List Int)) : BitVec 32 := ps.foldl add 0#32
theorem add_nil (s : BitVec 32) : add s [] = s := by unfold add; rw [feed_nil, BitVec.not_not]
theorem foldl_add (s : BitVec 32) (ps : List (List Int)) : ps.foldl add s = add s ps.flatten := by
  induction ps generalizing s with
  | nil => simp [add_nil]
  | cons p ps ih => rw [List.foldl_cons, ih, List.flatten_cons, add_append]
theorem sum_flatten (ps : List (List Int)) : sum ps = add 0#32 ps.flatten := foldl_add _ _

/-- linear in the bytes: xor of two rows of one length -/
theorem feed_xor (x y : BitVec 32) : ∀ (a b c : List Int), a.length = b.length → c.length = a.length → (∀ i, i < a.length → byte (c.getD i 0) = byte (a.getD i 0) ^^^ byte (b.getD i 0)) → feed (x ^^^ y) c = feed x a ^^^ feed y b := by
  intro a
  induction a generalizing x y with
  | nil =>
    intro b c h1 h2 _
    simp at h1 h2
    obtain rfl := List.eq_nil_of_length_eq_zero h1.symm
    subst h2
    rfl
  | cons a0 a ih =>
    intro b c h1 h2 h3
    cases b with
    | nil => simp at h1
    | cons b0 b =>
      cases c with
      | nil => simp at h2
      | cons c0 c =>
        rw [feed_cons, feed_cons, feed_cons, ← ih _ _ b c (by simpa using h1) (by simpa using h2) (fun i hi => by have := h3 (i + 1) (by simpa using hi); simpa using this), ← steps_xor]
        have h0 := h3 0 (by simp)
        simp only [List.getD_cons_zero] at h0
        rw [h0]
        congr 2
        ac_rfl
theorem feed_zeros (x : BitVec 32) (n : Nat) : feed x (List.replicate n 0) = steps (8 * n) x := by
  induction n generalizing x with
  | zero => rfl
  | succ n ih =>
    rw [List.replicate_succ, feed_cons, ih, show byte 0 = 0#32 from rfl, BitVec.xor_zero, Nat.mul_succ, Nat.add_comm, steps_add]

/-! the way back -/
def back (x : BitVec 32) : BitVec 32 := if x.getLsbD 31 then (x ^^^ poly) <<< 1 ||| 1#32 else x <<< 1
theorem step_back (x : BitVec 32) : step (back x) = x := by
  apply eq_of_bits
  intro i
  rw [step_bit]
  unfold back
  by_cases h : x.getLsbD 31
  · rw [if_pos h]
    have hb : ∀ j, ((x ^^^ poly) <<< 1 ||| 1#32).getLsbD j = (decide (j < 32) && (if j = 0 then true else (x.getLsbD (j - 1) ^^ poly.getLsbD (j - 1)))) := by
      intro j
      rw [BitVec.getLsbD_or, BitVec.getLsbD_shiftLeft]
      by_cases hj : j = 0
      · subst hj; simp
      · have h1 : (1#32).getLsbD j = false := by rw [BitVec.getLsbD_one]; simp [hj]
        rw [h1]; simp [hj]
    rw [hb, hb]
    by_cases hi : i < 31
    · simp [show i + 1 < 32 by omega]
    · by_cases hi' : i = 31
      · subst hi'; rw [h]; simp; decide
      · simp [show ¬ i + 1 < 32 by omega, BitVec.getLsbD_of_ge x i (by omega), BitVec.getLsbD_of_ge poly i (by omega)]
  · rw [if_neg h]
    have hb : ∀ j, (x <<< 1).getLsbD j = (decide (j < 32) && (if j = 0 then false else x.getLsbD (j - 1))) := by
      intro j
      rw [BitVec.getLsbD_shiftLeft]
      by_cases hj : j = 0
      · subst hj; simp
      · simp [hj]
    rw [hb, hb]
    by_cases hi : i < 31
    · simp [show i + 1 < 32 by omega]
    · by_cases hi' : i = 31
      · subst hi'; simp at h ⊢; exact h
      · simp [show ¬ i + 1 < 32 by omega, BitVec.getLsbD_of_ge x i (by omega)]

theorem step_inj0 (x : BitVec 32) (h : step x = 0#32) : x = 0#32 := by
  have hb : ∀ i, ((x.getLsbD (i + 1)) ^^ (x.getLsbD 0 && poly.getLsbD i)) = false := fun i => by rw [← step_bit, h]; simp
  have h0 : x.getLsbD 0 = false := by
    have := hb 31
    rw [BitVec.getLsbD_of_ge x 32 (by omega), show poly.getLsbD 31 = true by decide] at this
    simpa using this
  apply eq_of_bits
  intro i
  cases i with
  | zero => rw [h0]; simp
  | succ i =>
    have := hb i
    rw [h0] at this
    simpa using this
theorem steps_inj0 (n : Nat) (x : BitVec 32) (h : steps n x = 0#32) : x = 0#32 := by
  induction n generalizing x with
  | zero => exact h
  | succ n ih => exact step_inj0 x (ih _ h)
def backs : Nat → BitVec 32 → BitVec 32
  | 0, x => x
  | n + 1, x => back (backs n x)
theorem steps_backs (n : Nat) (x : BitVec 32) : steps n (backs n x) = x := by
  induction n generalizing x with
  | zero => rfl
  | succ n ih =>
    simp only [steps, backs]
    rw [step_back]
    exact ih _

/-! four bytes of a word -/
def word (w : BitVec 32) (i : Nat) : BitVec 32 := (w >>> (8 * i)) &&& 255#32
theorem steps8_low (x w : BitVec 32) : steps 8 (x ^^^ (w &&& 255#32)) = steps 8 (x ^^^ w) ^^^ w >>> 8 := by
  rw [steps_xor, steps_xor, steps8 w]
  have : ∀ a b c : BitVec 32, a ^^^ b = a ^^^ (c ^^^ b) ^^^ c := by
    intro a b c
    apply eq_of_bits
    intro i
    simp only [BitVec.getLsbD_xor]
    cases a.getLsbD i <;> cases b.getLsbD i <;> cases c.getLsbD i <;> rfl
  exact this _ _ _
theorem word_step (x w : BitVec 32) (i : Nat) : steps 8 ((x ^^^ w >>> (8 * i)) ^^^ word w i) = steps 8 x ^^^ w >>> (8 * (i + 1)) := by
  unfold word
  rw [steps8_low, BitVec.xor_assoc, BitVec.xor_self, BitVec.xor_zero, ← BitVec.shiftRight_add, Nat.mul_succ]
theorem feed_word (r w : BitVec 32) (l : List Int) (hl : l.length = 4) (h : ∀ i, i < 4 → byte (l.getD i 0) = word w i) : feed r l = steps 32 (r ^^^ w) := by
  match l, hl with
  | [b0, b1, b2, b3], _ =>
    have h0 := h 0 (by omega)
    have h1 := h 1 (by omega)
    have h2 := h 2 (by omega)
    have h3 := h 3 (by omega)
    simp only [List.getD_cons_zero, List.getD_cons_succ] at h0 h1 h2 h3
    have hr : r = (r ^^^ w) ^^^ w >>> (8 * 0) := by rw [Nat.mul_zero, BitVec.ushiftRight_zero, BitVec.xor_assoc, BitVec.xor_self, BitVec.xor_zero]
    rw [feed_cons, feed_cons, feed_cons, feed_cons, feed_nil, h0, h1, h2, h3]
    conv => lhs; rw [hr]
    rw [word_step, word_step, word_step, word_step]
    rw [show (w >>> (8 * (3 + 1))) = 0#32 from by apply eq_of_bits; intro i; rw [BitVec.getLsbD_ushiftRight, BitVec.getLsbD_of_ge _ _ (by omega)]; simp, BitVec.xor_zero]
    rw [← steps_add, ← steps_add, ← steps_add]

/-! rows that are turned -/
theorem feed_turn (x : BitVec 32) (l d l' : List Int) (h1 : d.length = l.length) (h2 : l'.length = l.length) (h : ∀ i, i < l.length → byte (l'.getD i 0) = byte (l.getD i 0) ^^^ byte (d.getD i 0)) : feed x l' = feed x l ^^^ feed 0#32 d := by
  rw [← feed_xor x 0#32 l d l' h1.symm h2 h, BitVec.xor_zero]
theorem add_turn (s : BitVec 32) (l d l' : List Int) (h1 : d.length = l.length) (h2 : l'.length = l.length) (h : ∀ i, i < l.length → byte (l'.getD i 0) = byte (l.getD i 0) ^^^ byte (d.getD i 0)) : add s l' = add s l ^^^ feed 0#32 d := by
  unfold add
  rw [feed_turn _ l d l' h1 h2 h]
  apply eq_of_bits
  intro i
  simp only [BitVec.getLsbD_not, BitVec.getLsbD_xor]
  by_cases hi : i < 32
  · simp [hi]
  · rw [BitVec.getLsbD_of_ge (feed 0#32 d) i (by omega)]; simp [hi]
/-- A register of noughts, a row with noughts around it. -/
theorem feed_around (k n : Nat) (d : List Int) : feed 0#32 (List.replicate k 0 ++ d ++ List.replicate n 0) = steps (8 * n) (feed 0#32 d) := by
  rw [feed_append, feed_append, feed_zeros, feed_zeros, steps_zero]

/-! matrices -/
def bit (i : Nat) : BitVec 32 := 1#32 <<< i
theorem bit_at (i j : Nat) : (bit i).getLsbD j = decide (j = i ∧ j < 32) := by
  unfold bit
  rw [BitVec.getLsbD_shiftLeft, BitVec.getLsbD_one]
  by_cases h : j = i
  · subst h; simp
  · simp [h]; omega
def lows (n : Nat) (x : BitVec 32) : BitVec 32 := x &&& (BitVec.ofNat 32 (2 ^ n - 1))
theorem lows_at (n : Nat) (x : BitVec 32) (j : Nat) : (lows n x).getLsbD j = (x.getLsbD j && decide (j < n)) := by
  unfold lows
  rw [BitVec.getLsbD_and, BitVec.getLsbD_ofNat, Nat.testBit_two_pow_sub_one]
  by_cases hj : j < 32
  · simp [hj]
  · simp [BitVec.getLsbD_of_ge x j (by omega)]
theorem lows_zero (x : BitVec 32) : lows 0 x = 0#32 := by apply eq_of_bits; intro j; rw [lows_at]; simp
theorem lows_all (x : BitVec 32) : lows 32 x = x := by
  apply eq_of_bits; intro j; rw [lows_at]
  by_cases hj : j < 32
  · simp [hj]
  · simp [BitVec.getLsbD_of_ge x j (by omega)]
theorem lows_succ (n : Nat) (x : BitVec 32) : lows (n + 1) x = lows n x ^^^ (if x.getLsbD n then bit n else 0#32) := by
  apply eq_of_bits; intro j
  rw [BitVec.getLsbD_xor, lows_at, lows_at]
  have hb : (if x.getLsbD n then bit n else 0#32).getLsbD j = (x.getLsbD j && decide (j = n)) := by
    by_cases h : j = n
    · subst h
      cases hx : x.getLsbD j
      · simp
      · have : j < 32 := by
          rcases Nat.lt_or_ge j 32 with h | h
          · exact h
          · rw [BitVec.getLsbD_of_ge x j h] at hx; cases hx
        rw [if_pos rfl, bit_at]; simp [this]
    · cases x.getLsbD n
      · simp [h]
      · rw [if_pos rfl, bit_at]; simp [h]
  rw [hb]
  by_cases h1 : j < n
  · simp [h1, show j < n + 1 by omega, show j ≠ n by omega]
  · by_cases h2 : j = n
    · subst h2; simp
    · simp [h1, h2, show ¬ j < n + 1 by omega]
/-- the bit as a number: 0 or 1 -/
theorem shr_and_one (x : BitVec 32) (i : Nat) : (x >>> i) &&& 1#32 = if x.getLsbD i then 1#32 else 0#32 := by
  apply eq_of_bits; intro j
  rw [BitVec.getLsbD_and, BitVec.getLsbD_ushiftRight, BitVec.getLsbD_one]
  by_cases hj : j = 0
  · subst hj
    cases x.getLsbD i <;> simp
  · cases x.getLsbD i <;> simp [hj, BitVec.getLsbD_one]
theorem step_mul (x : BitVec 32) : x >>> 1 ^^^ poly * (x &&& 1#32) = step x := by
  have := shr_and_one x 0
  rw [BitVec.ushiftRight_zero] at this
  unfold step
  rw [this]
  cases x.getLsbD 0 <;> simp
/-- what a matrix of 'steps n' makes of a register, i bits of it -/
theorem steps_lows_succ (n i : Nat) (x : BitVec 32) : steps n (lows (i + 1) x) = steps n (lows i x) ^^^ (steps n (bit i) * ((x >>> i) &&& 1#32)) := by
  rw [lows_succ, steps_xor, shr_and_one]
  congr 1
  cases x.getLsbD i
  · simp [steps_zero]
  · simp
theorem alive : sum [[49, 50, 51, 52], [53, 54, 55, 56, 57]] = 0xcbf43926#32 := by decide +kernel

/-! the laws -/
theorem solve_law (s want : BitVec 32) (l : List Int) (hl : l.length = 4) (h : ∀ i, i < 4 → byte (l.getD i 0) = word (backs 32 (~~~ want) ^^^ ~~~ s) i) : add s l = want := by
  unfold add
  rw [feed_word _ _ l hl h, BitVec.xor_comm, BitVec.xor_assoc, BitVec.xor_self, BitVec.xor_zero, steps_backs, BitVec.not_not]
theorem xor_ne (a d : BitVec 32) (h : d ≠ 0#32) : a ^^^ d ≠ a := by
  intro e
  apply h
  have : a ^^^ (a ^^^ d) = a ^^^ a := by rw [e]
  rwa [← BitVec.xor_assoc, BitVec.xor_self, BitVec.zero_xor] at this
end Go.Proofs.Ytfiomcfbphlibaa.Crc
