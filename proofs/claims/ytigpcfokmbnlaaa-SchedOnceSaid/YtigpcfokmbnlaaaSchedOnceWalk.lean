/- SchedOnce: the law's own walk. -/
import Derived.Test.YtigpcfokmbnlaaaOncePlain
import Derived.Test.YtigpcfokmbnlaaaAlive
import Derived.Test.YtigpcfokmbnlaaaGuards
import Derived.Test.YtigpcfokmbnlaaaRow
namespace Go.Proofs.Ytigpcfokmbnlaaa.Sched
open Go.RowKit Go.Proofs.YtigpcfokmbnlaaaW.PrintWords

theorem rowsAt_mono' {L : List (List Int)} {a b : Nat} (h : rowsAt L a) (hab : a ≤ b) : rowsAt L b := fun l hl => Nat.le_trans (h l hl) hab
/-- The states told by what is idle, so far. -/
def upS (idle : List Bool) : Nat → List Int
  | 0 => List.replicate idle.length 0
  | i + 1 => if idle.getD i false then (upS idle i).set i 3 else upS idle i
theorem upS_len (idle : List Bool) (i : Nat) : (upS idle i).length = idle.length := by
  induction i with
  | zero => simp [upS]
  | succ i ih => simp only [upS]; split <;> simp [ih]
theorem upS_getD (idle : List Bool) (i : Nat) (hi : i ≤ idle.length) (m : Nat) (hm : m < idle.length) : (upS idle i).getD m 0 = if m < i then idleS (idle.getD m false) else 0 := by
  induction i with
  | zero => rw [if_neg (by omega)]; simp [upS, List.getD_eq_getElem?_getD, hm]
  | succ i ih =>
    have := ih (by omega)
    simp only [upS]
    by_cases hb : idle.getD i false = true
    · rw [if_pos hb, getD_set_int _ _ _ _ (by rw [upS_len]; omega)]
      by_cases e : m = i
      · subst e; rw [if_pos rfl, if_pos (by omega), hb]; rfl
      · rw [if_neg e, this]
        by_cases e2 : m < i
        · rw [if_pos e2, if_pos (by omega)]
        · rw [if_neg e2, if_neg (by omega)]
    · rw [if_neg hb, this]
      have hb' : idle.getD i false = false := by simpa using hb
      by_cases e : m = i
      · subst e; rw [if_neg (by omega), if_pos (by omega), hb']; rfl
      · by_cases e2 : m < i
        · rw [if_pos e2, if_pos (by omega)]
        · rw [if_neg e2, if_neg (by omega)]
theorem upS_all (idle : List Bool) : upS idle idle.length = idle.map idleS := by
  apply List.ext_getElem
  · simp [upS_len]
  · intro m h1 h2
    rw [upS_len] at h1
    have := upS_getD idle idle.length (Nat.le_refl _) m h1
    rw [if_pos h1, getD_get _ _ (by rw [upS_len]; exact h1), show idle.getD m false = idle[m] by simp [List.getD_eq_getElem?_getD, h1]] at this
    rw [this]; simp
section
variable (A0 : Option Addr) (c0 : Nat) (L : List (List Int)) (A1 : Option Addr) (c1 : Nat) (idle : List Bool) (n : Int) (A2 : Option Addr) (c2 : Nat) (picks : List Int) (w : World)
def planC : Array Value := #[.slice A0 L.length c0, .slice A1 idle.length c1, .int .i64 n]
/-- The boxed argument. -/
structure Box (W : World) (g : Nat) : Prop where
  row : W.heap[g]? = some (.cells #[.slice A0 L.length c0, .slice A1 idle.length c1, .int .i64 n] 37 (0, 0))
variable {A0 c0 L A1 c1 idle n}
theorem Box.cells {W : World} {g : Nat} (h : Box A0 c0 L A1 c1 idle n W g) : W.cell? ⟨g, 0, none⟩ = some (.slice A0 L.length c0) ∧ W.cell? ⟨g, 1, none⟩ = some (.slice A1 idle.length c1) ∧ W.cell? ⟨g, 2, none⟩ = some (.int .i64 n) := by
  refine ⟨?_, ?_, ?_⟩ <;> (rw [cell_of_row _ _ _ _ _ _ h.row]; rfl)
theorem Box.lt {W : World} {g : Nat} (h : Box A0 c0 L A1 c1 idle n W g) : g < W.heap.size := (Array.getElem?_eq_some_iff.1 h.row).1
theorem Box.below {W W' : World} {g B : Nat} (h : Box A0 c0 L A1 c1 idle n W g) (hb : Below B W W') (hg : g < B) : Box A0 c0 L A1 c1 idle n W' g := ⟨by rw [hb.block _ hg]; exact h.row⟩
theorem Box.stp {W W' : World} {g : Nat} {P : Pl} (h : Box A0 c0 L A1 c1 idle n W g) (hs : Stp W W' P) (h1 : g ≠ P.gp) (h2 : g ≠ P.gt) (h3 : g ≠ P.gh) : Box A0 c0 L A1 c1 idle n W' g := ⟨by rw [hs.block _ h.lt h1 h2 h3]; exact h.row⟩
theorem Box.set {W : World} {g : Nat} (h : Box A0 c0 L A1 c1 idle n W g) (p : Addr) (u : Value) (hp : g ≠ p.block) : Box A0 c0 L A1 c1 idle n (W.setCell p u) g := ⟨by rw [heap_setCell_other _ _ _ _ hp]; exact h.row⟩
variable (A0 c0 L A1 c1 idle n)
set_option maxHeartbeats 4000000 in
set_option maxRecDepth 100000 in
theorem once_big (hr0 : Kd.C (Kd.slice 3 (Kd.int .i64)) w A0 L.length L) (hc0 : L.length ≤ c0) (_hr1 : Kd.C Kd.bool w A1 idle.length idle) (_hc1 : idle.length ≤ c1) (hr2 : Kd.C (Kd.int .i64) w A2 picks.length picks) (hc2 : picks.length ≤ c2) (h : largeB L picks = true ∨ (largeB L picks = false ∧ 40 < idle.length)) :
    Calls Try.prog 4 #[.agg #[.slice A0 L.length c0, .slice A1 idle.length c1, .int .i64 n], .slice A2 picks.length c2] w fun e w' => e = .returned (.bool true) ∧ Below w.heap.size w w' := by
  have HL : Aside0 (∀ W, Below w.heap.size w W → Calls Try.prog 8 #[.slice A0 L.length c0, .slice A2 picks.length c2] W fun e w' => e = .returned (.bool (largeB L picks)) ∧ Drawn0 W w') := ⟨fun W hb => large_calls A0 c0 L A2 c2 picks W (Kd.C_below hr0 hb) hc0 (Kd.C_below hr2 hb) hc2⟩
  have HX : Aside0 (∀ w1, Below (w.heap.size + 1) (w.alloc (.cells #[.slice A0 L.length c0, .slice A1 idle.length c1, .int .i64 n] 37)) w1 → Below w.heap.size w w1 ∧ Box A0 c0 L A1 c1 idle n w1 w.heap.size) := ⟨fun w1 hb => ⟨below_trans (below_alloc (Below.refl _ _) _) (hb.mono (Nat.le_succ _)), ⟨by rw [hb.block _ (Nat.lt_succ_self _)]; exact heap_alloc_new _ _⟩⟩⟩
  rcases h with hlg | ⟨hlg, h40⟩
  · rw [hlg] at HL
    clear hlg hr0 hr2
    go_enter Try.func4, Try.ntmps4
    go_wp2_with fail
    refine (alive_calls _).mono ?_
    rintro e w1 ⟨rfl, hb1⟩
    rw [World.size_alloc] at hb1
    obtain ⟨hb, hx⟩ := HX.out w1 hb1
    obtain ⟨x0, x1, x2⟩ := hx.cells
    go_wp2_with (go_at_call 8; refine (HL.out _ hb).mono ?_; rintro e w2 ⟨rfl, ⟨m2, rfl⟩⟩)
    go_ret
    exact ⟨rfl, pw_below_drewN hb _⟩
  · rw [hlg] at HL
    have b40 : decide (40 < (idle.length : Int)) = true := by simp; omega
    have b41 : decide (40 < idle.length) = true := by simp; omega
    clear hlg hr0 hr2
    go_enter Try.func4, Try.ntmps4
    go_wp2_with fail
    refine (alive_calls _).mono ?_
    rintro e w1 ⟨rfl, hb1⟩
    rw [World.size_alloc] at hb1
    obtain ⟨hb, hx⟩ := HX.out w1 hb1
    obtain ⟨x0, x1, x2⟩ := hx.cells
    go_wp2_with (go_at_call 8; refine (HL.out _ hb).mono ?_; rintro e w2 ⟨rfl, ⟨m2, rfl⟩⟩)
    go_ret
    exact ⟨rfl, pw_below_drewN hb _⟩
set_option maxHeartbeats 4000000 in
set_option maxRecDepth 100000 in
theorem once_bad (hr0 : Kd.C (Kd.slice 3 (Kd.int .i64)) w A0 L.length L) (hc0 : L.length ≤ c0) (_hr1 : Kd.C Kd.bool w A1 idle.length idle) (_hc1 : idle.length ≤ c1) (hr2 : Kd.C (Kd.int .i64) w A2 picks.length picks) (hc2 : picks.length ≤ c2) (hlg : largeB L picks = false) (h40 : idle.length ≤ 40) (hbad : newBad L idle n ≠ 0) :
    Calls Try.prog 4 #[.agg #[.slice A0 L.length c0, .slice A1 idle.length c1, .int .i64 n], .slice A2 picks.length c2] w fun e w' => e = .returned (.bool true) ∧ Below w.heap.size w w' := by
  have HL : Aside0 (∀ W, Below w.heap.size w W → Calls Try.prog 8 #[.slice A0 L.length c0, .slice A2 picks.length c2] W fun e w' => e = .returned (.bool (largeB L picks)) ∧ Drawn0 W w') := ⟨fun W hb => large_calls A0 c0 L A2 c2 picks W (Kd.C_below hr0 hb) hc0 (Kd.C_below hr2 hb) hc2⟩
  have HX : Aside0 (∀ w1, Below (w.heap.size + 1) (w.alloc (.cells #[.slice A0 L.length c0, .slice A1 idle.length c1, .int .i64 n] 37)) w1 → Below w.heap.size w w1 ∧ Box A0 c0 L A1 c1 idle n w1 w.heap.size) := ⟨fun w1 hb => ⟨below_trans (below_alloc (Below.refl _ _) _) (hb.mono (Nat.le_succ _)), ⟨by rw [hb.block _ (Nat.lt_succ_self _)]; exact heap_alloc_new _ _⟩⟩⟩
  obtain ⟨hsz, hrows, -⟩ := large_false L picks hlg
  have HN : Aside0 (∀ W, Below w.heap.size w W → Calls Try.prog 10 #[.slice A0 L.length c0, .slice A1 idle.length c1, .int .i64 n] W fun e w' => e = .returned (.tuple #[.pointer none, .iface 43 (.int .i64 (newBad L idle n))]) ∧ Drawn0 W w') := ⟨fun W hb => by
    have h := new_bad A0 c0 L A1 c1 idle n W (by omega) (rowsAt_mono' hrows (by omega)) (Kd.C_below hr0 hb) hc0 hbad
    rw [show newV (newBad L idle n) = .tuple #[.pointer none, .iface 43 (.int .i64 (newBad L idle n))] by unfold newV errV; rw [if_neg hbad]] at h
    exact h⟩
  rw [hlg] at HL
  have b40 : decide (40 < (idle.length : Int)) = false := by simp; omega
  have b41 : decide (40 < idle.length) = false := by simp; omega
  generalize newBad L idle n = nb at HN
  clear hlg hr0 hr2 hrows hbad
  go_enter Try.func4, Try.ntmps4
  go_wp2_with fail
  refine (alive_calls _).mono ?_
  rintro e w1 ⟨rfl, hb1⟩
  rw [World.size_alloc] at hb1
  obtain ⟨hb, hx⟩ := HX.out w1 hb1
  obtain ⟨x0, x1, x2⟩ := hx.cells
  go_wp2_with (first | (go_at_call 8; refine (HL.out _ hb).mono ?_; rintro e w2 ⟨rfl, ⟨m2, rfl⟩⟩) | (go_at_call 10; refine (HN.out _ (pw_below_drewN hb _)).mono ?_; rintro e w3 ⟨rfl, ⟨m3, rfl⟩⟩))
  go_ret
  exact ⟨rfl, pw_below_drewN hb _⟩
end
end Go.Proofs.Ytigpcfokmbnlaaa.Sched
