/- The contracts of what package foot's Meet is made of: within, and slices' functions at keys and spans. -/
import Derived.Test.YtnjpbfljecmoiaaPGraphLeansx1
import Derived.Test.YtnjpbfljecmoiaaWMore
import Derived.Test.YtnjpbfljecmoiaaWAt
import Derived.WalkKit
import Derived.WalkSpells
import Derived.WalkLawsBesides
import Derived.Outline
import Derived.Deep.RegionHeld3
import Derived.BigQuiet
namespace Go.Proofs.Ytnjpbfljecmoiaa.Graph
open Go.RowKit Go.Proofs.YtnjpbfljecmoiaaW.PrintWords Go.Proofs.YtnjpbfljecmoiaaW.PrintLast Go.Proofs.YtnjpbfljecmoiaaW.PrintMore Go.Proofs.Ytnjpbfljecmoiaa.PGraphLeans
attribute [local go_sem high] eqA46

def keyV (k : S46) : Value := .agg #[.int .i64 k.f0, .int .i64 k.f1]
def spanV (s : S68) : Value := .agg #[.int .i64 s.f0, .int .i64 s.f1, .int .i64 s.f2]
def withinB (k : S46) (s : S68) : Bool := k.f0 == s.f0 && (decide (s.f1 ≤ k.f1) && decide (k.f1 ≤ s.f2))
def eqB (a b : S46) : Bool := a.f0 == b.f0 && a.f1 == b.f1

set_option maxHeartbeats 1000000 in
theorem within_calls (k : S46) (s : S68) (w : World) :
    Calls Try.prog 46 #[.agg #[.int .i64 k.f0, .int .i64 k.f1], .agg #[.int .i64 s.f0, .int .i64 s.f1, .int .i64 s.f2]] w fun e w' => e = .returned (.bool (withinB k s)) ∧ Below w.heap.size w w' := by
  obtain ⟨k0, k1⟩ := k
  obtain ⟨s0, s1, s2⟩ := s
  unfold withinB
  simp only
  cases h0 : (k0 == s0)
  · go_enter Try.func46, Try.ntmps46
    go_wp2
    go_ret
    exact ⟨rfl, below_alloc (below_alloc (Below.refl _ _) _) _⟩
  · cases h1 : decide (s1 ≤ k1)
    · go_enter Try.func46, Try.ntmps46
      go_wp2
      go_ret
      exact ⟨rfl, below_alloc (below_alloc (Below.refl _ _) _) _⟩
    · cases h2 : decide (k1 ≤ s2)
      · go_enter Try.func46, Try.ntmps46
        go_wp2
        go_ret
        exact ⟨rfl, below_alloc (below_alloc (Below.refl _ _) _) _⟩
      · go_enter Try.func46, Try.ntmps46
        go_wp2
        go_ret
        exact ⟨rfl, below_alloc (below_alloc (Below.refl _ _) _) _⟩

theorem any_take {α : Type} (p : α → Bool) (xs : List α) (i : Nat) (h : i < xs.length) : (xs.take (i + 1)).any p = ((xs.take i).any p || p xs[i]) := by
  rw [List.take_succ_eq_append_getElem h, List.any_append]; simp
theorem any_of_at {α : Type} (p : α → Bool) (xs : List α) (i : Nat) (h : i < xs.length) (hp : p xs[i] = true) : xs.any p = true := List.any_eq_true.2 ⟨xs[i], List.getElem_mem h, hp⟩
theorem rd_T68_nat (xs : List S68) (i : Nat) (h : i < xs.length) : rd_T68 xs (i : Int) = xs[i] := by simp [rd_T68, h]
theorem rd_T46_nat (xs : List S46) (i : Nat) (h : i < xs.length) : rd_T46 xs (i : Int) = xs[i] := by simp [rd_T46, h]
/-- A key in a block of its own. -/
def KeyAt (w : World) (g : Nat) (k : S46) : Prop := w.heap[g]? = some (.cells #[.int .i64 k.f0, .int .i64 k.f1] 46 (0, 0))
theorem KeyAt.cells {w : World} {g : Nat} {k : S46} (h : KeyAt w g k) : w.cell? ⟨g, 0, none⟩ = some (.int .i64 k.f0) ∧ w.cell? ⟨g, 1, none⟩ = some (.int .i64 k.f1) := by
  refine ⟨?_, ?_⟩ <;> (rw [cell_of_row _ _ _ _ _ _ h]; rfl)
theorem KeyAt.below {w w' : World} {g B : Nat} {k : S46} (h : KeyAt w g k) (hb : Below B w w') (hg : g < B) : KeyAt w' g k := by
  unfold KeyAt; rw [hb.block _ hg]; exact h
theorem KeyAt.keep {w w' : World} {g : Nat} {k : S46} (h : KeyAt w g k) (hb : Below w.heap.size w w') : KeyAt w' g k := h.below hb (Array.getElem?_eq_some_iff.1 h).1

set_option maxHeartbeats 1000000 in
/-- foot.Reads's closure. -/
theorem reads1_calls (g : Nat) (k : S46) (s : S68) (w : World) (hg : KeyAt w g k) :
    Calls Try.prog 45 #[.agg #[.int .i64 s.f0, .int .i64 s.f1, .int .i64 s.f2], .pointer (some ⟨g, 0, none⟩)] w fun e w' => e = .returned (.bool (withinB k s)) ∧ Below w.heap.size w w' := by
  have hg1 := hg.keep (below_alloc (Below.refl _ _) (.cells #[.int .i64 s.f0, .int .i64 s.f1, .int .i64 s.f2] 68))
  obtain ⟨c0, c1⟩ := hg1.cells
  have HW := Aside0.mk (fun W => within_calls k s W)
  clear hg hg1
  go_enter Try.func45, Try.ntmps45
  go_wp2_with (go_at_call 46; refine (HW.out _).mono ?_; rintro e w1 ⟨rfl, hb1⟩)
  go_ret
  exact ⟨rfl, below_step (below_alloc (Below.refl _ _) _) hb1⟩

set_option maxHeartbeats 2000000 in
theorem idxSpan_calls (A : Option Addr) (c : Nat) (xs : List S68) (g : Nat) (k : S46) (w : World) (hx : Kd.C k68 w A xs.length xs) (hg : KeyAt w g k) :
    Calls Try.prog 48 #[.slice A xs.length c, .func (.func 45) #[] #[.pointer (some ⟨g, 0, none⟩)]] w fun e w' => ∃ r : Int, e = .returned (.int .i64 r) ∧ decide (0 ≤ r) = xs.any (withinB k) ∧ Below w.heap.size w w' := by
  have HX := Aside0.mk hx
  have HG := Aside0.mk hg
  have hmax := Kd.C_max hx
  clear hx hg
  go_enter Try.func48, Try.ntmps48
  go_wp2
  go_loopw [8] (fun v wr => ∃ i : Nat, i ≤ xs.length ∧ v = .int .i64 i ∧ Aside0 ((xs.take i).any (withinB k) = false) ∧ Aside0 (Below w.heap.size w wr)) (fun v _ => xs.length - (intOf v).toNat)
  case atStart => exact ⟨0, by omega, rfl, ⟨rfl⟩, ⟨Below.refl _ _⟩⟩
  case round =>
    obtain ⟨i, hi, rfl, HN, HB⟩ := hrel
    by_cases hlt : i < xs.length
    · have hb : decide (i < xs.length) = true := by simp; omega
      have hlt2 : (i : Int) < (xs.length : Int) := by omega
      obtain ⟨ad, hA, e0, e1, e2⟩ := at_T68 HX.out (i : Int) (by omega) (by omega)
      rw [Int.toNat_natCast] at e0 e1 e2
      replace e0 := (HB.out.cell (World.block_lt_of_cell? w _ e0)).trans e0
      replace e1 := (HB.out.cell (World.block_lt_of_cell? w _ e1)).trans e1
      replace e2 := (HB.out.cell (World.block_lt_of_cell? w _ e2)).trans e2
      rw [rd_T68_nat xs i hlt] at e0 e1 e2
      have HT := Aside0.mk (any_take (withinB k) xs i hlt)
      have HAT := Aside0.mk (any_of_at (withinB k) xs i hlt)
      generalize xs[i] = s at e0 e1 e2 HT HAT
      have HC : Aside0 (Calls Try.prog 45 #[.agg #[.int .i64 s.f0, .int .i64 s.f1, .int .i64 s.f2], .pointer (some ⟨g, 0, none⟩)] wr fun e w' => e = .returned (.bool (withinB k s)) ∧ Below wr.heap.size wr w') := ⟨reads1_calls g k s wr (HG.out.keep HB.out)⟩
      rw [hA]
      cases hp : withinB k s with
      | true =>
        rw [hp] at HC
        have HF := Aside0.mk (HAT.out hp)
        clear hp HAT HT
        go_wp2_with (go_at_call 45; refine HC.out.mono ?_; rintro e w1 ⟨rfl, hb1⟩)
        go_ret
        exact ⟨_, rfl, by rw [HF.out]; simp, below_step HB.out hb1⟩
      | false =>
        rw [hp] at HC
        have HN2 : Aside0 ((xs.take (i + 1)).any (withinB k) = false) := ⟨by rw [HT.out, HN.out, hp]; rfl⟩
        clear hp HAT HT
        go_wp2_with (go_at_call 45; refine HC.out.mono ?_; rintro e w1 ⟨rfl, hb1⟩)
        go_roundw
        case rel => exact ⟨i + 1, by omega, by go_num, HN2, ⟨below_step HB.out hb1⟩⟩
        case measure => simp [intOf]; omega
    · have hb : decide (i < xs.length) = false := by simp; omega
      have HF : Aside0 (xs.any (withinB k) = false) := ⟨by have := HN.out; rwa [show i = xs.length by omega, List.take_length] at this⟩
      go_wp2
      go_ret
      exact ⟨_, rfl, by rw [HF.out]; rfl, HB.out⟩
set_option maxHeartbeats 1000000 in
theorem ctnSpan_calls (A : Option Addr) (c : Nat) (xs : List S68) (g : Nat) (k : S46) (w : World) (hx : Kd.C k68 w A xs.length xs) (hg : KeyAt w g k) :
    Calls Try.prog 44 #[.slice A xs.length c, .func (.func 45) #[] #[.pointer (some ⟨g, 0, none⟩)]] w fun e w' => e = .returned (.bool (xs.any (withinB k))) ∧ Below w.heap.size w w' := by
  have HC := Aside0.mk (idxSpan_calls A c xs g k w hx hg)
  clear hx hg
  generalize xs.any (withinB k) = b at HC
  go_enter Try.func44, Try.ntmps44
  go_wp2_with (go_at_call 48; refine HC.out.mono ?_; rintro e w1 ⟨r, rfl, hr, hb1⟩; have HR := Aside0.mk hr; have HB1 := Aside0.mk hb1; clear hr hb1)
  go_ret
  exact ⟨by rw [← HR.out]; rfl, HB1.out⟩

set_option maxHeartbeats 2000000 in
theorem index_calls (A : Option Addr) (c : Nat) (xs : List S46) (k : S46) (w : World) (hx : Kd.C k46 w A xs.length xs) :
    Calls Try.prog 47 #[.slice A xs.length c, .agg #[.int .i64 k.f0, .int .i64 k.f1]] w fun e w' => ∃ r : Int, e = .returned (.int .i64 r) ∧ decide (0 ≤ r) = xs.any (eqB k) ∧ Below w.heap.size w w' := by
  have HX := Aside0.mk hx
  have hmax := Kd.C_max hx
  clear hx
  go_enter Try.func47, Try.ntmps47
  go_wp2
  have HG0 : Aside0 (KeyAt (w.alloc (.cells #[.int .i64 k.f0, .int .i64 k.f1] 46)) w.heap.size k) := ⟨heap_alloc_new _ _⟩
  have HB0 : Aside0 (Below w.heap.size w (w.alloc (.cells #[.int .i64 k.f0, .int .i64 k.f1] 46))) := ⟨below_alloc (Below.refl _ _) _⟩
  generalize w.alloc (.cells #[.int .i64 k.f0, .int .i64 k.f1] 46) = w0 at HG0 HB0 ⊢
  go_loopw [8] (fun v wr => ∃ i : Nat, i ≤ xs.length ∧ v = .int .i64 i ∧ Aside0 ((xs.take i).any (eqB k) = false) ∧ Aside0 (KeyAt wr w.heap.size k) ∧ Aside0 (Below w.heap.size w wr)) (fun v _ => xs.length - (intOf v).toNat)
  case atStart => exact ⟨0, by omega, rfl, ⟨rfl⟩, HG0, HB0⟩
  case round =>
    clear HG0 HB0
    obtain ⟨i, hi, rfl, HN, HG, HB⟩ := hrel
    by_cases hlt : i < xs.length
    · have hb : decide (i < xs.length) = true := by simp; omega
      have hlt2 : (i : Int) < (xs.length : Int) := by omega
      obtain ⟨ad, hA, e0, e1⟩ := at_T46 HX.out (i : Int) (by omega) (by omega)
      rw [Int.toNat_natCast] at e0 e1
      replace e0 := (HB.out.cell (World.block_lt_of_cell? w _ e0)).trans e0
      replace e1 := (HB.out.cell (World.block_lt_of_cell? w _ e1)).trans e1
      rw [rd_T46_nat xs i hlt] at e0 e1
      have HT := Aside0.mk (any_take (eqB k) xs i hlt)
      have HAT := Aside0.mk (any_of_at (eqB k) xs i hlt)
      generalize xs[i] = s at e0 e1 HT HAT
      obtain ⟨c0, c1⟩ := HG.out.cells
      rw [hA]
      cases hp : eqB k s with
      | true =>
        have HF := Aside0.mk (HAT.out hp)
        have hp2 : (k.f0 == s.f0 && k.f1 == s.f1) = true := hp
        clear hp HAT HT
        go_wp2
        try (go_quiet (fail); go_wp2)
        go_ret
        exact ⟨_, rfl, by rw [HF.out]; simp, by first | exact HB.out | exact pw_below_drewN HB.out _⟩
      | false =>
        have HN2 : Aside0 ((xs.take (i + 1)).any (eqB k) = false) := ⟨by rw [HT.out, HN.out, hp]; rfl⟩
        have hp2 : (k.f0 == s.f0 && k.f1 == s.f1) = false := hp
        clear hp HAT HT
        go_wp2
        try (go_quiet (fail); go_wp2)
        go_roundw
        case rel => exact ⟨i + 1, by omega, by go_num, HN2, ⟨by first | exact HG.out | exact HG.out.keep (pw_below_drewN (Below.refl _ _) _)⟩, ⟨by first | exact HB.out | exact pw_below_drewN HB.out _⟩⟩
        case measure => simp [intOf]; omega
    · have hb : decide (i < xs.length) = false := by simp; omega
      have HF : Aside0 (xs.any (eqB k) = false) := ⟨by have := HN.out; rwa [show i = xs.length by omega, List.take_length] at this⟩
      go_wp2
      go_ret
      exact ⟨_, rfl, by rw [HF.out]; rfl, HB.out⟩
set_option maxHeartbeats 1000000 in
theorem contains_calls (A : Option Addr) (c : Nat) (xs : List S46) (k : S46) (w : World) (hx : Kd.C k46 w A xs.length xs) :
    Calls Try.prog 43 #[.slice A xs.length c, .agg #[.int .i64 k.f0, .int .i64 k.f1]] w fun e w' => e = .returned (.bool (xs.any (eqB k))) ∧ Below w.heap.size w w' := by
  have HC := Aside0.mk (index_calls A c xs k (w.alloc (.cells #[.int .i64 k.f0, .int .i64 k.f1] 46)) (Kd.C_alloc hx _))
  clear hx
  generalize xs.any (eqB k) = b at HC
  go_enter Try.func43, Try.ntmps43
  go_wp2_with (go_at_call 47; refine HC.out.mono ?_; rintro e w1 ⟨r, rfl, hr, hb1⟩; have HR := Aside0.mk hr; have HB1 := Aside0.mk (below_step (below_alloc (Below.refl _ _) _) hb1); clear hr hb1)
  go_ret
  exact ⟨by rw [← HR.out]; rfl, HB1.out⟩
end Go.Proofs.Ytnjpbfljecmoiaa.Graph
