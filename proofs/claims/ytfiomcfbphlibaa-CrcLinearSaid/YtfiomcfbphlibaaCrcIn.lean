/- What the laws share: a slice of bytes that came in reads as a list of bytes. -/
import Derived.Test.YtfiomcfbphlibaaCrcAlive
namespace Go.Proofs.Ytfiomcfbphlibaa.Crc
open Go.RowKit Go.Proofs.YtfiomcfbphlibaaW.PrintWords

/-- What a walk is told of a slice of bytes that came in. -/
def In8 (w : World) (A : Option Addr) (n c : Nat) (xs : List Int) : Prop :=
  xs.length = n ∧ n ≤ c ∧ c ≤ 9223372036854775807 ∧ (Kd.int .u8).C w A n xs ∧ ∀ x ∈ xs, 0 ≤ x ∧ x < 256
theorem wf_u8 {n : Int} (h : (Lit.int .u8 n).wf = true) : 0 ≤ n ∧ n < 256 := by
  simp [Lit.wf, IntKind.max, IntKind.min, IntKind.signed, IntKind.bits] at h
  omega
theorem in8_nil (w : World) : In8 w none 0 0 [] := ⟨rfl, Nat.le_refl _, by omega, Kd.C_nil _ _, by simp⟩
theorem in8_row (w : World) (a : Addr) (len cap : Nat) (zs : List Int) (hl : len ≤ cap) (hm : cap ≤ maxLen) (hz : zs.length = cap)
    (hcell : ∀ i, i < zs.length → w.cell? (a.add i) = some (.int .u8 (zs.getD i 0))) (hwf : ∀ n ∈ zs, (Lit.int .u8 n).wf = true) : In8 w (some a) len cap (zs.take len) := by
  have hlen : (zs.take len).length = len := by rw [List.length_take]; omega
  simp only [maxLen] at hm
  refine ⟨hlen, hl, by omega, ⟨hlen, by omega, fun _ => ⟨a, rfl, fun j p hj => ⟨[.int .u8 p], rfl, rfl, fun i u hu => ?_⟩⟩⟩, fun x hx => wf_u8 (hwf x (List.mem_of_mem_take hx))⟩
  cases i with
  | succ i => simp at hu
  | zero =>
    simp at hu
    subst hu
    have hj' := List.getElem?_eq_some_iff.1 hj
    obtain ⟨h1, h2⟩ := hj'
    rw [hlen] at h1
    rw [List.getElem_take] at h2
    have h3 := hcell j (by omega)
    simp only [Kd.int, Kd.scalar, Nat.mul_one, Nat.add_zero]
    rw [h3, List.getD_eq_getElem?_getD, List.getElem?_eq_getElem (by omega), Option.getD_some, h2]
/-- A slice of bytes that came in, as the row's reading leaves it: nil, or a row of 'cap' cells. -/
def IsRow (k : IntKind) (w : World) (a : Option Addr) (len cap : Nat) (zs : List Int) : Prop :=
  (a = none ∧ len = 0 ∧ cap = 0 ∧ zs = []) ∨
  ∃ x, a = some x ∧ len ≤ cap ∧ cap ≤ maxLen ∧ zs.length = cap ∧ (∀ i, i < zs.length → w.cell? (x.add i) = some (.int k (zs.getD i 0))) ∧ ∀ n ∈ zs, (Lit.int k n).wf = true
theorem in8_of {w : World} {a : Option Addr} {len cap : Nat} {zs : List Int} (h : IsRow .u8 w a len cap zs) : ∃ xs, In8 w a len cap xs := by
  rcases h with ⟨rfl, rfl, rfl, rfl⟩ | ⟨x, rfl, hl, hm, hz, hcell, hwf⟩
  · exact ⟨[], in8_nil w⟩
  · exact ⟨_, in8_row w x len cap zs hl hm hz hcell hwf⟩
end Go.Proofs.Ytfiomcfbphlibaa.Crc
