/- The document's Pick: what it asks of a plan that stands as it should. -/
import Derived.Test.YtigpcfokmbnlaaaPlaysF
import Derived.Test.YtigpcfokmbnlaaaPlaysG
import Derived.Test.YtigpcfokmbnlaaaPlaysC
import Derived.Test.YtigpcfokmbnlaaaPlaysE
namespace Go.Proofs.Ytigpcfokmbnlaaa.Sched
open Go.RowKit Go.Proofs.YtigpcfokmbnlaaaW.PrintWords Go.Proofs.Ytigpcfokmbnlaaa.PSchedPlays

/-- Where the document's plan lies. -/
structure MV where
  A : Option Addr
  c : Nat
  AE : Option Addr
  cE : Nat
  AH : Option Addr
  cH : Nat
  AR : Option Addr
  cR : Nat
def MV.cells (v : MV) (L : List (List Int)) (E : List Bool) (has : List Int) (R : List Bool) (p : Int) : Array Value := #[.slice v.A L.length v.c, .slice v.AE E.length v.cE, .slice v.AH has.length v.cH, .slice v.AR R.length v.cR, .int .i64 p]
structure MC (W : World) (v : MV) (L : List (List Int)) (E : List Bool) (has : List Int) (R : List Bool) : Prop where
  l : Kd.C (Kd.slice 3 (Kd.int .i64)) W v.A L.length L
  lc : L.length ≤ v.c
  e : Kd.C Kd.bool W v.AE E.length E
  ec : E.length ≤ v.cE
  h : Kd.C (Kd.int .i64) W v.AH has.length has
  hc : has.length ≤ v.cH
  r : Kd.C Kd.bool W v.AR R.length R
  rc : R.length ≤ v.cR
theorem MC.below {W W' : World} {v : MV} {L : List (List Int)} {E : List Bool} {has : List Int} {R : List Bool} (h : MC W v L E has R) (hb : Below W.heap.size W W') : MC W' v L E has R :=
  ⟨Kd.C_below h.l hb, h.lc, Kd.C_below h.e hb, h.ec, Kd.C_below h.h hb, h.hc, Kd.C_below h.r hb, h.rc⟩
theorem MC.drew {W : World} {v : MV} {L : List (List Int)} {E : List Bool} {has : List Int} {R : List Bool} (h : MC W v L E has R) : MC W.drew v L E has R := h.below (below_drew1 (Below.refl _ _))
section
variable {L : List (List Int)} {ts : List T} {has : List Int} {left : Int} {E R : List Bool} (p : Int) {W : World} {v : MV}
theorem refLeft_calls (h : Mod L ts has left E R) (hsz : L.length ≤ 1000) (hm : MC W v L E has R) :
    Calls Try.prog 28 #[.agg #[.slice v.A L.length v.c, .slice v.AE E.length v.cE, .slice v.AH has.length v.cH, .slice v.AR R.length v.cR, .int .i64 p]] W fun e w' => e = .returned (.int .i64 left) ∧ Below W.heap.size W w' := by
  obtain ⟨K, hK⟩ := left_f p h hsz
  exact sluicewayref21_Left.calls K _ _ _ _ _ _ _ _ _ _ _ _ _ _ W hm.l hm.lc hm.e hm.ec hm.h hm.hc hm.r hm.rc (hK K (Nat.le_refl _))
theorem refHolder_calls (h : Pinv L ts has left) (hsz : has.length ≤ 1000) (hm : MC W v L E has R) (i : Nat) (hi : i < L.length) :
    Calls Try.prog 30 #[.agg #[.slice v.A L.length v.c, .slice v.AE E.length v.cE, .slice v.AH has.length v.cH, .slice v.AR R.length v.cR, .int .i64 p], .int .i64 i] W fun e w' => e = .returned (.int .i64 (ts.getD i zT).worker) ∧ Below W.heap.size W w' := by
  obtain ⟨K, hK⟩ := holder_f (E := E) (R := R) p h hsz i hi
  exact sluicewayref21_holder.calls K _ _ _ _ _ _ _ _ _ _ _ _ _ _ _ W hm.l hm.lc hm.e hm.ec hm.h hm.hc hm.r hm.rc (hK K (Nat.le_refl _))
theorem refReady_calls (h : Mod L ts has left E R) (hL : goodB L = true) (hr : rowsAt L 1000) (hsz : L.length ≤ 1000) (hw : has.length ≤ 1000) (hm : MC W v L E has R) :
    Calls Try.prog 29 #[.agg #[.slice v.A L.length v.c, .slice v.AE E.length v.cE, .slice v.AH has.length v.cH, .slice v.AR R.length v.cR, .int .i64 p]] W fun e w' => ∃ v0 : Value, e = .returned v0 ∧ Kd.R (Kd.int .i64) 3 w' W.heap.size (fun _ => True) v0 (readyL ts ts.length) ∧ Below W.heap.size W w' := by
  obtain ⟨K, hK⟩ := ready_f p h hL hr hsz hw
  exact sluicewayref21_Ready.calls K _ _ _ _ _ _ _ _ _ _ _ _ _ _ W hm.l hm.lc hm.e hm.ec hm.h hm.hc hm.r hm.rc (hK K (Nat.le_refl _))
end
end Go.Proofs.Ytigpcfokmbnlaaa.Sched

/- The document's Pick: where it refuses. -/
namespace Go.Proofs.Ytigpcfokmbnlaaa.Sched
open Go.RowKit Go.Proofs.YtigpcfokmbnlaaaW.PrintWords Go.Proofs.Ytigpcfokmbnlaaa.PSchedPlays

theorem alloc3 (W : World) (a b c : Obj) : (((W.alloc a).alloc b).alloc c).heap[W.heap.size + 1]? = some b ∧ (((W.alloc a).alloc b).alloc c).heap[W.heap.size + 1 + 1]? = some c ∧ (((W.alloc a).alloc b).alloc c).heap[W.heap.size]? = some a := by
  have s1 : (W.alloc a).heap.size = W.heap.size + 1 := World.size_alloc _ _
  have s2 : ((W.alloc a).alloc b).heap.size = W.heap.size + 1 + 1 := by rw [World.size_alloc, s1]
  refine ⟨?_, ?_, ?_⟩
  · rw [heap_alloc_old _ _ (by omega), ← s1]; exact heap_alloc_new _ _
  · rw [← s2]; exact heap_alloc_new _ _
  · rw [heap_alloc_old _ _ (by omega), heap_alloc_old _ _ (by omega)]; exact heap_alloc_new _ _
theorem set2 {w : World} {g4 g5 : Nat} {o4 o5 c4 c5 : Array Value} {t4 t5 : TypeId} (h4 : w.heap[g4]? = some (.cells o4 t4 (0, 0))) (h5 : w.heap[g5]? = some (.cells o5 t5 (0, 0))) (ne : g4 ≠ g5) :
    (w.setRow g4 c4).heap[g5]? = some (.cells o5 t5 (0, 0)) ∧ ((w.setRow g4 c4).setRow g5 c5).heap[g4]? = some (.cells c4 t4 (0, 0)) ∧ ((w.setRow g4 c4).setRow g5 c5).heap[g5]? = some (.cells c5 t5 (0, 0)) := by
  have h1 : (w.setRow g4 c4).heap[g5]? = some (.cells o5 t5 (0, 0)) := by rw [setRow_other _ _ _ _ ne.symm]; exact h5
  exact ⟨h1, by rw [setRow_other _ _ _ _ ne]; exact setRow_heap _ _ _ _ _ _ h4, setRow_heap _ _ _ _ _ _ h1⟩
section
variable {L : List (List Int)} {ts : List T} {has : List Int} {left : Int} {E R : List Bool} (p : Int) {W : World} {v : MV}
set_option maxHeartbeats 4000000 in
set_option maxRecDepth 100000 in
theorem refPick_range (n : Int) (hm : MC W v L E has R) (hn : n < 0 ∨ (has.length : Int) ≤ n) :
    Calls Try.prog 19 #[.agg #[.slice v.A L.length v.c, .slice v.AE E.length v.cE, .slice v.AH has.length v.cH, .slice v.AR R.length v.cR, .int .i64 p], .int .i64 n] W fun e w' => e = .returned (.tuple #[.agg #[.slice v.A L.length v.c, .slice v.AE E.length v.cE, .slice v.AH has.length v.cH, .slice v.AR R.length v.cR, .int .i64 p], .agg #[.int .i64 0, .int .i64 0, .int .i64 0], .int .i64 1]) ∧ Below W.heap.size W w' := by
  have hu46 := Try.underlying46
  have hmh := Kd.C_max hm.h
  clear hm
  by_cases h0 : n < 0
  · have d0 : decide (n < 0) = true := by simp; omega
    clear hn
    go_enter Try.func19, Try.ntmps19
    go_wp2
    have H3 := alloc3 W (.cells #[.slice v.A L.length v.c, .slice v.AE E.length v.cE, .slice v.AH has.length v.cH, .slice v.AR R.length v.cR, .int .i64 p] 46) (.cells #[.slice v.A L.length v.c, .slice v.AE E.length v.cE, .slice v.AH has.length v.cH, .slice v.AR R.length v.cR, .int .i64 p] 46) (.cells #[.int .i64 0, .int .i64 0, .int .i64 0] 50)
    (try simp only [Exit.inBlock, Exit.then]); refine bodyPost_ret (results_list (rs := [.cell 4 46, .cell 5 50, .tmp 6]) rfl (by simp) (.cell (W.heap.size + 1) 46 #[.slice v.A L.length v.c, .slice v.AE E.length v.cE, .slice v.AH has.length v.cH, .slice v.AR R.length v.cR, .int .i64 p] (0, 0) _ rfl H3.1 Try.underlying46 rfl (by kernel_rfl) (.cell (W.heap.size + 1 + 1) 50 #[.int .i64 0, .int .i64 0, .int .i64 0] (0, 0) _ rfl H3.2.1 Try.underlying50 rfl (by kernel_rfl) (.tmp .nil)))) rfl ?_
    exact ⟨rfl, below_alloc (below_alloc (below_alloc (Below.refl _ _) _) _) _⟩
  · have d0 : decide (n < 0) = false := by simp; omega
    have d1 : decide ((has.length : Int) ≤ n) = true := by simp; omega
    clear hn
    go_enter Try.func19, Try.ntmps19
    go_wp2
    have H3 := alloc3 W (.cells #[.slice v.A L.length v.c, .slice v.AE E.length v.cE, .slice v.AH has.length v.cH, .slice v.AR R.length v.cR, .int .i64 p] 46) (.cells #[.slice v.A L.length v.c, .slice v.AE E.length v.cE, .slice v.AH has.length v.cH, .slice v.AR R.length v.cR, .int .i64 p] 46) (.cells #[.int .i64 0, .int .i64 0, .int .i64 0] 50)
    (try simp only [Exit.inBlock, Exit.then]); refine bodyPost_ret (results_list (rs := [.cell 4 46, .cell 5 50, .tmp 6]) rfl (by simp) (.cell (W.heap.size + 1) 46 #[.slice v.A L.length v.c, .slice v.AE E.length v.cE, .slice v.AH has.length v.cH, .slice v.AR R.length v.cR, .int .i64 p] (0, 0) _ rfl H3.1 Try.underlying46 rfl (by kernel_rfl) (.cell (W.heap.size + 1 + 1) 50 #[.int .i64 0, .int .i64 0, .int .i64 0] (0, 0) _ rfl H3.2.1 Try.underlying50 rfl (by kernel_rfl) (.tmp .nil)))) rfl ?_
    exact ⟨rfl, below_alloc (below_alloc (below_alloc (Below.refl _ _) _) _) _⟩
set_option maxHeartbeats 4000000 in
set_option maxRecDepth 100000 in
theorem refPick_end (n : Nat) (hn : n < has.length) (h : Mod L ts has left E R) (hsz : L.length ≤ 1000) (hm : MC W v L E has R) (hl : left = 0) :
    Calls Try.prog 19 #[.agg #[.slice v.A L.length v.c, .slice v.AE E.length v.cE, .slice v.AH has.length v.cH, .slice v.AR R.length v.cR, .int .i64 p], .int .i64 n] W fun e w' => e = .returned (.tuple #[.agg #[.slice v.A L.length v.c, .slice v.AE E.length v.cE, .slice v.AH has.length v.cH, .slice v.AR R.length v.cR, .int .i64 p], .agg #[.int .i64 0, .int .i64 0, .int .i64 0], .int .i64 12]) ∧ Below W.heap.size W w' := by
  have hu46 := Try.underlying46
  have hmh := Kd.C_max hm.h
  have HM := Aside0.mk hm
  have HC : Aside0 (∀ w, Below W.heap.size W w → Calls Try.prog 28 #[.agg #[.slice v.A L.length v.c, .slice v.AE E.length v.cE, .slice v.AH has.length v.cH, .slice v.AR R.length v.cR, .int .i64 p]] w fun e w' => e = .returned (.int .i64 0) ∧ Below w.heap.size w w') := ⟨fun w hw => by
    have := refLeft_calls p h hsz (hm.below hw)
    rwa [hl] at this⟩
  clear hm h hl
  have d0 : decide ((n : Int) < 0) = false := by simp
  have d1 : decide ((has.length : Int) ≤ (n : Int)) = false := by simp; omega
  have d1' : decide (has.length ≤ n) = false := by simp; omega
  have HB : Aside0 (Below W.heap.size W (((W.alloc (.cells #[.slice v.A L.length v.c, .slice v.AE E.length v.cE, .slice v.AH has.length v.cH, .slice v.AR R.length v.cR, .int .i64 p] 46)).alloc (.cells #[.slice none 0 0, .slice none 0 0, .slice none 0 0, .slice none 0 0, .int .i64 0] 46)).alloc (.cells #[.int .i64 0, .int .i64 0, .int .i64 0] 50))) := ⟨below_alloc (below_alloc (below_alloc (Below.refl _ _) _) _) _⟩
  have HA := Aside0.mk (alloc3 W (.cells #[.slice v.A L.length v.c, .slice v.AE E.length v.cE, .slice v.AH has.length v.cH, .slice v.AR R.length v.cR, .int .i64 p] 46) (.cells #[.slice none 0 0, .slice none 0 0, .slice none 0 0, .slice none 0 0, .int .i64 0] 46) (.cells #[.int .i64 0, .int .i64 0, .int .i64 0] 50))
  have HC2 := Aside0.mk (HC.out _ HB.out)
  go_enter Try.func19, Try.ntmps19
  go_wp2_with fail
  refine HC2.out.mono ?_
  rintro e w1 ⟨rfl, hb1⟩
  have H2 := blk_below HA.out.2.2 hb1
  have H4 := blk_below HA.out.1 hb1
  have H5 := blk_below HA.out.2.1 hb1
  have HB1 := Aside0.mk (below_step HB.out hb1)
  have e0 : w1.cell? ⟨W.heap.size, 0, none⟩ = some (.slice v.A L.length v.c) := (blk_cell H2 0).trans rfl
  have e1 : w1.cell? ⟨W.heap.size, 1, none⟩ = some (.slice v.AE E.length v.cE) := (blk_cell H2 1).trans rfl
  have e2 : w1.cell? ⟨W.heap.size, 2, none⟩ = some (.slice v.AH has.length v.cH) := (blk_cell H2 2).trans rfl
  have e3 : w1.cell? ⟨W.heap.size, 3, none⟩ = some (.slice v.AR R.length v.cR) := (blk_cell H2 3).trans rfl
  have e4 : w1.cell? ⟨W.heap.size, 4, none⟩ = some (.int .i64 p) := (blk_cell H2 4).trans rfl
  have HG := Aside0.mk (And.intro (Nat.le_succ W.heap.size) (Nat.le_succ (W.heap.size + 1)))
  have HB1' := Aside0.mk (And.intro HB1.out (Nat.le_refl W.heap.size))
  clear hb1 HB HA HC HC2 HB1 HM
  obtain ⟨g2, hg2⟩ : ∃ g, g = W.heap.size := ⟨_, rfl⟩
  have HB2 : Aside0 (Below W.heap.size W w1 ∧ W.heap.size ≤ g2) := ⟨by rw [hg2]; exact HB1'.out⟩
  clear HB1'
  rw [← hg2] at e0 e1 e2 e3 e4 H4 H5 ⊢
  have HB3 : Aside0 (Below W.heap.size W w1 ∧ W.heap.size ≤ g2 + 1) := ⟨HB2.out.1, by have := HB2.out.2; omega⟩
  have HSET := Aside0.mk (set2 (c4 := #[.slice v.A L.length v.c, .slice v.AE E.length v.cE, .slice v.AH has.length v.cH, .slice v.AR R.length v.cR, .int .i64 p]) (c5 := #[.int .i64 0, .int .i64 0, .int .i64 0]) H4 H5 (by omega))
  have HH := Aside0.mk (And.intro H4 HSET.out.1)
  clear H2 H4 H5 hg2
  have HO : Aside0 ((#[.slice v.A L.length v.c, .slice v.AE E.length v.cE, .slice v.AH has.length v.cH, .slice v.AR R.length v.cR, .int .i64 p] : Array Value).all (·.oneCell') = true) := ⟨by simp [Value.oneCell']⟩
  have HO2 : Aside0 ((#[.int .i64 0, .int .i64 0, .int .i64 0] : Array Value).all (·.oneCell') = true) := ⟨by simp [Value.oneCell']⟩
  go_wp2_with (first | (refine wpList_store_row rfl 46 _ _ rfl _ #[.slice v.A L.length v.c, .slice v.AE E.length v.cE, .slice v.AH has.length v.cH, .slice v.AR R.length v.cR, .int .i64 p] rfl rfl 46 #[.slice none 0 0, .slice none 0 0, .slice none 0 0, .slice none 0 0, .int .i64 0] HH.out.1 (by kernel_rfl) rfl HO.out ?_) | (refine wpList_store_row rfl 50 _ _ rfl _ #[.int .i64 0, .int .i64 0, .int .i64 0] rfl rfl 50 #[.int .i64 0, .int .i64 0, .int .i64 0] HH.out.2 (by kernel_rfl) rfl HO2.out ?_))
  (try simp only [Exit.inBlock, Exit.then]); refine bodyPost_ret (results_list (rs := [.cell 4 46, .cell 5 50, .tmp 6]) rfl (by simp) (.cell (g2 + 1) 46 #[.slice v.A L.length v.c, .slice v.AE E.length v.cE, .slice v.AH has.length v.cH, .slice v.AR R.length v.cR, .int .i64 p] (0, 0) _ rfl HSET.out.2.1 Try.underlying46 rfl (by kernel_rfl) (.cell (g2 + 1 + 1) 50 #[.int .i64 0, .int .i64 0, .int .i64 0] (0, 0) _ rfl HSET.out.2.2 Try.underlying50 rfl (by kernel_rfl) (.tmp .nil)))) rfl ?_
  exact ⟨rfl, below_trans (below_trans HB3.out.1 (below_setRow _ _ _ HB3.out.2)) (below_setRow _ _ _ (Nat.le_succ_of_le HB3.out.2))⟩
end
end Go.Proofs.Ytigpcfokmbnlaaa.Sched

/- What has been copied so far: plain law of a region whose order is drawn. -/
namespace Go.Proofs.Ytigpcfokmbnlaaa.Sched
open Go.RowKit Go.Proofs.YtigpcfokmbnlaaaW.PrintWords

section
variable {α : Type} {enc : α → Value} {h1 : ∀ x, (enc x).oneCell' = true} {e : Nat} {w w1 : World} {B : Nat} {ok : Nat → Prop} {v : Value} {xs : List α}
/-- A row of its own; of blocks nothing but its own is asked. -/
def O (d : Kd α) (e : Nat) (w : World) (B : Nat) (v : Value) (xs : List α) : Prop := d.R e w B (fun k => v.ownBlock = some k) v xs
theorem O_of (h : (Kd.scalar enc h1).R e w B ok v xs) : O (Kd.scalar enc h1) e w B v xs := Kd.R_of_own (Kd.own_of_R h) (fun _ hk => hk)
theorem O_R (h : O (Kd.scalar enc h1) e w B v xs) : (Kd.scalar enc h1).R e w B (fun _ => True) v xs := Kd.R_mono h (fun _ _ => trivial)
theorem O_keep (h : O (Kd.scalar enc h1) e w B v xs) (hk : ∀ k, v.ownBlock = some k → k < w.heap.size → w1.heap[k]? = w.heap[k]?) : O (Kd.scalar enc h1) e w1 B v xs := Kd.R_step h hk
theorem O_block (h : O (Kd.scalar enc h1) e w B v xs) (k : Nat) (hk : v.ownBlock = some k) : B ≤ k ∧ k < w.heap.size ∧ ∃ cells, w.heap[k]? = some (.cells cells e (0, 0)) := by
  obtain ⟨_, hb, hl, q, hq, cells, hc⟩ := (Kd.R_bound h).1 k hk
  have : q = e := by simpa [Kd.scalar] using hq
  subst this
  exact ⟨hb, hl, cells, hc⟩
theorem O_alloc (h : O (Kd.scalar enc h1) e w B v xs) (o : Obj) : O (Kd.scalar enc h1) e (w.alloc o) B v xs := O_keep h (fun _ _ hl => heap_alloc_old _ _ hl)
theorem O_grown (h : O (Kd.scalar enc h1) e w B v xs) {row : Option Nat} (hg : w.grownBy w1 row) (hne : ∀ k, v.ownBlock = some k → row ≠ some k) : O (Kd.scalar enc h1) e w1 B v xs :=
  O_keep h (fun k hk hl => hg.block k hl (fun e => hne k hk e.symm))
theorem O_types {β : Type} {enc' : β → Value} {h1' : ∀ x, (enc' x).oneCell' = true} {e' : Nat} {u : Value} {ys : List β} (h : O (Kd.scalar enc h1) e w B v xs) (h' : O (Kd.scalar enc' h1') e' w B u ys) (hne : e ≠ e') : ∀ k, v.ownBlock = some k → u.ownBlock ≠ some k := by
  intro k hk hk'
  obtain ⟨_, _, c, hc⟩ := O_block h k hk
  obtain ⟨_, _, c', hc'⟩ := O_block h' k hk'
  rw [hc] at hc'
  injection hc' with hc'
  injection hc' with _ ht
  exact hne ht
theorem O_lit (w : World) (B : Nat) (hB : B ≤ w.heap.size) : O (Kd.scalar enc h1) e (w.alloc (.cells #[] e)) B (.slice (some ⟨w.heap.size, 0, none⟩) 0 0) [] :=
  Kd.R_of_own (own_lit_of w B e ([] : List α) hB (by simp)) (fun _ hk => hk)
end

/-- What has been copied: of the three rows, of the new plan's place. -/
structure R5 (B : Nat) (w0 : World) (E : List Bool) (has : List Int) (R : List Bool) (C : Value → Value → Value → Array Value) (Z : Array Value) (b2 b5 b6 b9 b10 b13 b17 b18 b19 : Bool) (s7 s30 s33 s34 s37 s38 s41 s45 : Value) (w : World) : Prop where
  bel : Below B w0 w
  d5 : b5 = true → b2 = true
  d9 : b9 = true → b6 = true
  d13 : b13 = true → b10 = true
  e : b2 = true → O Kd.bool 4 w B (if b5 then s33 else s30) (if b5 then E else [])
  h : b6 = true → O (Kd.int .i64) 3 w B (if b9 then s37 else s34) (if b9 then has else [])
  r : b10 = true → O Kd.bool 4 w B (if b13 then s41 else s38) (if b13 then R else [])
  ap : b2 = true → b10 = true → ∀ k, (if b5 then s33 else s30).ownBlock = some k → (if b13 then s41 else s38).ownBlock ≠ some k
  al : b18 = true → ∃ g7, s7 = .pointer (some ⟨g7, 0, none⟩) ∧ B ≤ g7 ∧ w.heap[g7]? = some (.cells (if b19 then C s33 s37 s41 else Z) 46 (0, 0))
  bu : b17 = true → b5 = true ∧ b9 = true ∧ b13 = true ∧ s45 = .agg (C s33 s37 s41)
  st : b19 = true → b17 = true ∧ b18 = true
section
variable {B : Nat} {w0 w w1 : World} {E : List Bool} {has : List Int} {R : List Bool} {C : Value → Value → Value → Array Value} {Z : Array Value} {b2 b5 b6 b9 b10 b13 b17 b18 b19 : Bool} {s7 s30 s33 s34 s37 s38 s41 s45 : Value}
theorem R5.base (h : R5 B w0 E has R C Z b2 b5 b6 b9 b10 b13 b17 b18 b19 s7 s30 s33 s34 s37 s38 s41 s45 w) (hB : B ≤ w0.heap.size) : B ≤ w.heap.size := Nat.le_trans hB h.bel.size
theorem R5.start (B : Nat) (w0 : World) : R5 B w0 E has R C Z false false false false false false false false false s7 s30 s33 s34 s37 s38 s41 s45 w0 := by
  refine ⟨Below.refl _ _, ?_, ?_, ?_, ?_, ?_, ?_, ?_, ?_, ?_, ?_⟩ <;> (intro q; cases q)
theorem below_alloc2 (hB : B ≤ w0.heap.size) (hb : Below B w0 w) (o : Obj) : Below B w0 (w.alloc o) := hb.alloc (Nat.le_trans hB hb.size) o
theorem R5.bsE (h : R5 B w0 E has R C Z false b5 b6 b9 b10 b13 b17 b18 b19 s7 s30 s33 s34 s37 s38 s41 s45 w) (hB : B ≤ w0.heap.size) :
    R5 B w0 E has R C Z true b5 b6 b9 b10 b13 b17 b18 b19 s7 (.slice (some ⟨w.heap.size, 0, none⟩) 0 0) s33 s34 s37 s38 s41 s45 (w.alloc (.cells #[] 4)) := by
  have h5 : b5 = false := by cases b5 with
    | false => rfl
    | true => exact absurd (h.d5 rfl) (by decide)
  subst h5
  refine ⟨below_alloc2 hB h.bel _, fun _ => rfl, h.d9, h.d13, fun _ => O_lit w B (h.base hB), fun q => O_alloc (h.h q) _, fun q => O_alloc (h.r q) _, fun _ q k hk hk' => ?_, fun q => ?_, h.bu, h.st⟩
  · have hl := (O_block (h.r q) k hk').2.1
    have : w.heap.size = k := by simpa [Value.ownBlock] using hk
    omega
  · obtain ⟨g7, h1, h2, h3⟩ := h.al q
    exact ⟨g7, h1, h2, by rw [heap_alloc_old _ _ (Array.getElem?_eq_some_iff.1 h3).1]; exact h3⟩
theorem R5.bsH (h : R5 B w0 E has R C Z b2 b5 false b9 b10 b13 b17 b18 b19 s7 s30 s33 s34 s37 s38 s41 s45 w) (hB : B ≤ w0.heap.size) :
    R5 B w0 E has R C Z b2 b5 true b9 b10 b13 b17 b18 b19 s7 s30 s33 (.slice (some ⟨w.heap.size, 0, none⟩) 0 0) s37 s38 s41 s45 (w.alloc (.cells #[] 3)) := by
  have h5 : b9 = false := by cases b9 with
    | false => rfl
    | true => exact absurd (h.d9 rfl) (by decide)
  subst h5
  refine ⟨below_alloc2 hB h.bel _, h.d5, fun _ => rfl, h.d13, fun q => O_alloc (h.e q) _, fun _ => O_lit w B (h.base hB), fun q => O_alloc (h.r q) _, h.ap, fun q => ?_, h.bu, h.st⟩
  obtain ⟨g7, h1, h2, h3⟩ := h.al q
  exact ⟨g7, h1, h2, by rw [heap_alloc_old _ _ (Array.getElem?_eq_some_iff.1 h3).1]; exact h3⟩
theorem R5.bsR (h : R5 B w0 E has R C Z b2 b5 b6 b9 false b13 b17 b18 b19 s7 s30 s33 s34 s37 s38 s41 s45 w) (hB : B ≤ w0.heap.size) :
    R5 B w0 E has R C Z b2 b5 b6 b9 true b13 b17 b18 b19 s7 s30 s33 s34 s37 (.slice (some ⟨w.heap.size, 0, none⟩) 0 0) s41 s45 (w.alloc (.cells #[] 4)) := by
  have h5 : b13 = false := by cases b13 with
    | false => rfl
    | true => exact absurd (h.d13 rfl) (by decide)
  subst h5
  refine ⟨below_alloc2 hB h.bel _, h.d5, h.d9, fun _ => rfl, fun q => O_alloc (h.e q) _, fun q => O_alloc (h.h q) _, fun _ => O_lit w B (h.base hB), fun q _ k hk hk' => ?_, fun q => ?_, h.bu, h.st⟩
  · have hl := (O_block (h.e q) k hk).2.1
    have : w.heap.size = k := by simpa [Value.ownBlock] using hk'
    omega
  · obtain ⟨g7, h1, h2, h3⟩ := h.al q
    exact ⟨g7, h1, h2, by rw [heap_alloc_old _ _ (Array.getElem?_eq_some_iff.1 h3).1]; exact h3⟩
theorem R5.room (h : R5 B w0 E has R C Z b2 b5 b6 b9 b10 b13 b17 false b19 s7 s30 s33 s34 s37 s38 s41 s45 w) (hB : B ≤ w0.heap.size) :
    R5 B w0 E has R C Z b2 b5 b6 b9 b10 b13 b17 true b19 (.pointer (some ⟨w.heap.size, 0, none⟩)) s30 s33 s34 s37 s38 s41 s45 (w.alloc (.cells Z 46)) := by
  have h5 : b19 = false := by cases b19 with
    | false => rfl
    | true => exact absurd (h.st rfl).2 (by decide)
  subst h5
  exact ⟨below_alloc2 hB h.bel _, h.d5, h.d9, h.d13, fun q => O_alloc (h.e q) _, fun q => O_alloc (h.h q) _, fun q => O_alloc (h.r q) _, h.ap, fun _ => ⟨_, rfl, h.base hB, heap_alloc_new _ _⟩, h.bu, fun q => by cases q⟩
theorem grown_cell {g7 : Nat} {cs : Array Value} {t e : Nat} {α : Type} {enc : α → Value} {h1 : ∀ x, (enc x).oneCell' = true} {u : Value} {xs : List α} (hO : O (Kd.scalar enc h1) e w B u xs) (hg : w.grownBy w1 u.ownBlock) (h : w.heap[g7]? = some (.cells cs t (0, 0))) (hne : e ≠ t) : w1.heap[g7]? = some (.cells cs t (0, 0)) := by
  rw [hg.block g7 (Array.getElem?_eq_some_iff.1 h).1 (fun q => ?_)]
  · exact h
  · obtain ⟨_, _, c, hc⟩ := O_block hO g7 q.symm
    rw [hc] at h
    injection h with h
    injection h with _ ht
    exact hne ht
theorem R5.apE (h : R5 B w0 E has R C Z true false b6 b9 b10 b13 b17 b18 b19 s7 s30 s33 s34 s37 s38 s41 s45 w) {v1 : Value} {ok : Nat → Prop} (hv : Kd.bool.R 4 w1 B ok v1 E) (hb : Below B w0 w1) (hg : w.grownBy w1 s30.ownBlock) (hat : v1.ownBlock = s30.ownBlock ∨ ∃ b, v1.ownBlock = some b ∧ w.heap.size ≤ b) :
    R5 B w0 E has R C Z true true b6 b9 b10 b13 b17 b18 b19 s7 s30 v1 s34 s37 s38 s41 s45 w1 := by
  have h17 : b17 = false := by cases b17 with
    | false => rfl
    | true => exact absurd (h.bu rfl).1 (by decide)
  subst h17
  have h19 : b19 = false := by cases b19 with
    | false => rfl
    | true => exact absurd (h.st rfl).1 (by decide)
  subst h19
  have hO : O Kd.bool 4 w B s30 [] := h.e rfl
  refine ⟨hb, fun _ => rfl, h.d9, h.d13, fun _ => O_of hv, fun q => O_grown (h.h q) hg (fun k hk => O_types (h.h q) hO (by decide) k hk), fun q => O_grown (h.r q) hg (fun k hk hk' => h.ap rfl q k hk' hk), fun _ q k hk hk' => ?_, fun q => ?_, (by intro q; cases q), (by intro q; cases q)⟩
  · have hk2 : v1.ownBlock = some k := hk
    rcases hat with he | ⟨b, he, hlt⟩
    · exact h.ap rfl q k (show s30.ownBlock = some k by rw [← he]; exact hk2) hk'
    · have hl := (O_block (h.r q) k hk').2.1
      rw [he] at hk2
      injection hk2 with hk2
      omega
  · obtain ⟨g7, h1, h2, h3⟩ := h.al q
    exact ⟨g7, h1, h2, grown_cell hO hg h3 (by decide)⟩
theorem R5.apH (h : R5 B w0 E has R C Z b2 b5 true false b10 b13 b17 b18 b19 s7 s30 s33 s34 s37 s38 s41 s45 w) {v1 : Value} {ok : Nat → Prop} (hv : (Kd.int .i64).R 3 w1 B ok v1 has) (hb : Below B w0 w1) (hg : w.grownBy w1 s34.ownBlock) :
    R5 B w0 E has R C Z b2 b5 true true b10 b13 b17 b18 b19 s7 s30 s33 s34 v1 s38 s41 s45 w1 := by
  have h17 : b17 = false := by cases b17 with
    | false => rfl
    | true => exact absurd (h.bu rfl).2.1 (by decide)
  subst h17
  have h19 : b19 = false := by cases b19 with
    | false => rfl
    | true => exact absurd (h.st rfl).1 (by decide)
  subst h19
  have hO : O (Kd.int .i64) 3 w B s34 [] := h.h rfl
  refine ⟨hb, h.d5, fun _ => rfl, h.d13, fun q => O_grown (h.e q) hg (fun k hk => O_types (h.e q) hO (by decide) k hk), fun _ => O_of hv, fun q => O_grown (h.r q) hg (fun k hk => O_types (h.r q) hO (by decide) k hk), h.ap, fun q => ?_, (by intro q; cases q), (by intro q; cases q)⟩
  obtain ⟨g7, h1, h2, h3⟩ := h.al q
  exact ⟨g7, h1, h2, grown_cell hO hg h3 (by decide)⟩
theorem R5.apR (h : R5 B w0 E has R C Z b2 b5 b6 b9 true false b17 b18 b19 s7 s30 s33 s34 s37 s38 s41 s45 w) {v1 : Value} {ok : Nat → Prop} (hv : Kd.bool.R 4 w1 B ok v1 R) (hb : Below B w0 w1) (hg : w.grownBy w1 s38.ownBlock) (hat : v1.ownBlock = s38.ownBlock ∨ ∃ b, v1.ownBlock = some b ∧ w.heap.size ≤ b) :
    R5 B w0 E has R C Z b2 b5 b6 b9 true true b17 b18 b19 s7 s30 s33 s34 s37 s38 v1 s45 w1 := by
  have h17 : b17 = false := by cases b17 with
    | false => rfl
    | true => exact absurd (h.bu rfl).2.2.1 (by decide)
  subst h17
  have h19 : b19 = false := by cases b19 with
    | false => rfl
    | true => exact absurd (h.st rfl).1 (by decide)
  subst h19
  have hO : O Kd.bool 4 w B s38 [] := h.r rfl
  refine ⟨hb, h.d5, h.d9, fun _ => rfl, fun q => O_grown (h.e q) hg (fun k hk hk' => h.ap q rfl k hk hk'), fun q => O_grown (h.h q) hg (fun k hk => O_types (h.h q) hO (by decide) k hk), fun _ => O_of hv, fun q _ k hk hk' => ?_, fun q => ?_, (by intro q; cases q), (by intro q; cases q)⟩
  · have hk2 : v1.ownBlock = some k := hk'
    rcases hat with he | ⟨b, he, hlt⟩
    · exact h.ap q rfl k hk (show s38.ownBlock = some k by rw [← he]; exact hk2)
    · have hl := (O_block (h.e q) k hk).2.1
      rw [he] at hk2
      injection hk2 with hk2
      omega
  · obtain ⟨g7, h1, h2, h3⟩ := h.al q
    exact ⟨g7, h1, h2, grown_cell hO hg h3 (by decide)⟩
theorem R5.built (h : R5 B w0 E has R C Z b2 true b6 true b10 true false b18 b19 s7 s30 s33 s34 s37 s38 s41 s45 w) : R5 B w0 E has R C Z b2 true b6 true b10 true true b18 b19 s7 s30 s33 s34 s37 s38 s41 (.agg (C s33 s37 s41)) w :=
  ⟨h.bel, h.d5, h.d9, h.d13, h.e, h.h, h.r, h.ap, h.al, fun _ => ⟨rfl, rfl, rfl, rfl⟩, fun q => ⟨rfl, (h.st q).2⟩⟩
theorem O_setRow {α : Type} {enc : α → Value} {h1 : ∀ x, (enc x).oneCell' = true} {e t g : Nat} {v : Value} {xs : List α} {old cs : Array Value} (h : O (Kd.scalar enc h1) e w B v xs) (hg : w.heap[g]? = some (.cells old t (0, 0))) (hne : e ≠ t) : O (Kd.scalar enc h1) e (w.setRow g cs) B v xs :=
  O_keep h (fun k hk _ => setRow_other _ _ _ _ (by
    rintro rfl
    obtain ⟨_, _, c, hc⟩ := O_block h k hk
    rw [hc] at hg
    injection hg with hg
    injection hg with _ ht
    exact hne ht))
theorem R5.stored (h : R5 B w0 E has R C Z b2 b5 b6 b9 b10 b13 true true false s7 s30 s33 s34 s37 s38 s41 s45 w) (g7 : Nat) (h7 : s7 = .pointer (some ⟨g7, 0, none⟩)) : R5 B w0 E has R C Z b2 b5 b6 b9 b10 b13 true true true s7 s30 s33 s34 s37 s38 s41 s45 (w.setRow g7 (C s33 s37 s41)) := by
  obtain ⟨g, q1, q2, q3⟩ := h.al rfl
  have : g = g7 := by rw [h7] at q1; injection q1 with q1; injection q1 with q1; injection q1 with q1; exact q1.symm
  subst this
  exact ⟨below_trans h.bel (below_setRow _ _ _ q2), h.d5, h.d9, h.d13, fun q => O_setRow (h.e q) q3 (by decide), fun q => O_setRow (h.h q) q3 (by decide), fun q => O_setRow (h.r q) q3 (by decide), h.ap, fun _ => ⟨g, q1, q2, setRow_heap _ _ _ _ _ _ q3⟩, h.bu, fun _ => ⟨rfl, rfl⟩⟩
end
end Go.Proofs.Ytigpcfokmbnlaaa.Sched

/- The document's plan that is being changed: its own block, and its three rows. -/
namespace Go.Proofs.Ytigpcfokmbnlaaa.Sched
open Go.RowKit Go.Proofs.YtigpcfokmbnlaaaW.PrintWords

/-- The document's rows were made from N on. -/
structure MCnew (N : Nat) (v : MV) : Prop where
  e : ∀ ad, v.AE = some ad → N ≤ ad.block
  h : ∀ ad, v.AH = some ad → N ≤ ad.block
  r : ∀ ad, v.AR = some ad → N ≤ ad.block
theorem MCnew.mono {M N : Nat} {v : MV} (h : MCnew N v) (hm : M ≤ N) : MCnew M v := ⟨fun ad ha => Nat.le_trans hm (h.e ad ha), fun ad ha => Nat.le_trans hm (h.h ad ha), fun ad ha => Nat.le_trans hm (h.r ad ha)⟩
structure Dp where
  g : Nat
  gE : Nat
  cE : Nat
  gH : Nat
  cH : Nat
  gR : Nat
  cR : Nat
def Dp.mv (D : Dp) (v : MV) : MV := ⟨v.A, v.c, some ⟨D.gE, 0, none⟩, D.cE, some ⟨D.gH, 0, none⟩, D.cH, some ⟨D.gR, 0, none⟩, D.cR⟩
structure Doc (w2 w : World) (v : MV) (D : Dp) (L : List (List Int)) (E : List Bool) (has : List Int) (R : List Bool) (q : Int) : Prop where
  bel : Below w2.heap.size w2 w
  l : Kd.C (Kd.slice 3 (Kd.int .i64)) w2 v.A L.length L
  lc : L.length ≤ v.c
  plan : w.heap[D.g]? = some (.cells #[.slice v.A L.length v.c, .slice (some ⟨D.gE, 0, none⟩) E.length D.cE, .slice (some ⟨D.gH, 0, none⟩) has.length D.cH, .slice (some ⟨D.gR, 0, none⟩) R.length D.cR, .int .i64 q] 46 (0, 0))
  e : O Kd.bool 4 w w2.heap.size (.slice (some ⟨D.gE, 0, none⟩) E.length D.cE) E
  h : O (Kd.int .i64) 3 w w2.heap.size (.slice (some ⟨D.gH, 0, none⟩) has.length D.cH) has
  r : O Kd.bool 4 w w2.heap.size (.slice (some ⟨D.gR, 0, none⟩) R.length D.cR) R
  er : D.gE ≠ D.gR
  eh : D.gE ≠ D.gH
  hr : D.gH ≠ D.gR
  pe : D.g ≠ D.gE
  ph : D.g ≠ D.gH
  pr : D.g ≠ D.gR
  bp : w2.heap.size ≤ D.g
  be : w2.heap.size ≤ D.gE
  bh : w2.heap.size ≤ D.gH
  br : w2.heap.size ≤ D.gR
theorem own_slice (g n c : Nat) : (Value.slice (some ⟨g, 0, none⟩) n c).ownBlock = some g := by simp [Value.ownBlock]
section
variable {α : Type} {enc : α → Value} {h1 : ∀ x, (enc x).oneCell' = true} {e g n c : Nat} {w w1 : World} {B : Nat} {xs : List α}
theorem O_kept (h : O (Kd.scalar enc h1) e w B (.slice (some ⟨g, 0, none⟩) n c) xs) (hk : w1.heap[g]? = w.heap[g]?) : O (Kd.scalar enc h1) e w1 B (.slice (some ⟨g, 0, none⟩) n c) xs :=
  O_keep h (fun k hk' _ => by rw [own_slice] at hk'; injection hk' with hk'; subst hk'; exact hk)
theorem O_lt (h : O (Kd.scalar enc h1) e w B (.slice (some ⟨g, 0, none⟩) n c) xs) : B ≤ g ∧ g < w.heap.size ∧ ∃ cells, w.heap[g]? = some (.cells cells e (0, 0)) := O_block h g (own_slice g n c)
theorem O_cell (d : α) (h : O (Kd.scalar enc h1) e w B (.slice (some ⟨g, 0, none⟩) n c) xs) (j : Nat) (hj : j < n) : w.cell? ⟨g, j, none⟩ = some (enc (xs.getD j d)) ∧ w.frozen? ⟨g, j, none⟩ = false := by
  have := Kd.R_celln d h (j : Int) (by omega) (by omega)
  rw [Int.toNat_natCast] at this
  unfold rdOf at this
  rw [Int.toNat_natCast] at this
  exact this
theorem O_put (h : O (Kd.scalar enc h1) e w B (.slice (some ⟨g, 0, none⟩) n c) xs) (j : Nat) (x : α) : O (Kd.scalar enc h1) e (w.setCell ⟨g, j, none⟩ (enc x)) B (.slice (some ⟨g, 0, none⟩) n c) (xs.set j x) := by
  have := (Kd.R_putg h (j : Int) x).1
  rw [Int.toNat_natCast] at this
  exact this
theorem set_other {g' : Nat} (u : Value) (j : Nat) (hne : g' ≠ g) : (w.setCell ⟨g, j, none⟩ u).heap[g']? = w.heap[g']? := heap_setCell_other _ _ _ _ hne
theorem cell_apart {a b : Nat} (u : Value) (i j : Nat) (hne : a ≠ b) : (w.setCell ⟨b, j, none⟩ u).cell? ⟨a, i, none⟩ = w.cell? ⟨a, i, none⟩ := by
  unfold World.cell?
  rw [heap_setCell_other _ _ _ _ hne]
theorem cell_row_apart {a b : Nat} (cs : Array Value) (i : Nat) (hne : a ≠ b) : (w.setRow b cs).cell? ⟨a, i, none⟩ = w.cell? ⟨a, i, none⟩ := by
  unfold World.cell?
  rw [setRow_other _ _ _ _ hne]
theorem cells5 {a0 a1 a2 a3 a4 : Value} {t : Nat} (h : w.heap[g]? = some (.cells #[a0, a1, a2, a3, a4] t (0, 0))) : w.cell? ⟨g, 0, none⟩ = some a0 ∧ w.cell? ⟨g, 1, none⟩ = some a1 ∧ w.cell? ⟨g, 2, none⟩ = some a2 ∧ w.cell? ⟨g, 3, none⟩ = some a3 ∧ w.cell? ⟨g, 4, none⟩ = some a4 := by
  refine ⟨?_, ?_, ?_, ?_, ?_⟩ <;> (rw [cell_of_row _ _ _ _ _ _ h]; rfl)
theorem O_C (h : O (Kd.scalar enc h1) e w B (.slice (some ⟨g, 0, none⟩) n c) xs) : (Kd.scalar enc h1).C w (some ⟨g, 0, none⟩) n xs ∧ n ≤ c := by
  obtain ⟨A, c', he, hl, hc⟩ := Kd.R_reads h
  injection he with e1 e2 e3
  subst e1 e2 e3
  exact ⟨hc, hl⟩
theorem below_set (w : World) (g j : Nat) (u : Value) (h : B ≤ g) : Below B w (w.setCell ⟨g, j, none⟩ u) := ⟨rfl, rfl, rfl, by simp [World.setCell], fun k hk => Below.heap_setCell _ _ _ _ (by show k ≠ g; omega)⟩
end
section
variable {w2 w w' : World} {v : MV} {D : Dp} {L : List (List Int)} {E : List Bool} {has : List Int} {R : List Bool} {q : Int}
theorem Doc.cells (h : Doc w2 w v D L E has R q) : w.cell? ⟨D.g, 0, none⟩ = some (.slice v.A L.length v.c) ∧ w.cell? ⟨D.g, 1, none⟩ = some (.slice (some ⟨D.gE, 0, none⟩) E.length D.cE) ∧ w.cell? ⟨D.g, 2, none⟩ = some (.slice (some ⟨D.gH, 0, none⟩) has.length D.cH) ∧ w.cell? ⟨D.g, 3, none⟩ = some (.slice (some ⟨D.gR, 0, none⟩) R.length D.cR) ∧ w.cell? ⟨D.g, 4, none⟩ = some (.int .i64 q) := by
  refine ⟨?_, ?_, ?_, ?_, ?_⟩ <;> (rw [cell_of_row _ _ _ _ _ _ h.plan]; rfl)
theorem Doc.mc (h : Doc w2 w v D L E has R q) : MC w (D.mv v) L E has R :=
  ⟨Kd.C_below h.l h.bel, h.lc, (O_C h.e).1, (O_C h.e).2, (O_C h.h).1, (O_C h.h).2, (O_C h.r).1, (O_C h.r).2⟩
theorem Doc.keep (h : Doc w2 w v D L E has R q) (hb : Below w.heap.size w w') : Doc w2 w' v D L E has R q :=
  ⟨below_step h.bel hb, h.l, h.lc, blk_below h.plan hb, O_keep h.e (fun k _ hl => hb.block k hl), O_keep h.h (fun k _ hl => hb.block k hl), O_keep h.r (fun k _ hl => hb.block k hl), h.er, h.eh, h.hr, h.pe, h.ph, h.pr, h.bp, h.be, h.bh, h.br⟩
theorem Doc.drewN (h : Doc w2 w v D L E has R q) (n : Nat) : Doc w2 (w.drewN n) v D L E has R q := h.keep (below_drewN (Below.refl _ _) n)
theorem Doc.setH (h : Doc w2 w v D L E has R q) (j : Nat) (x : Int) : Doc w2 (w.setCell ⟨D.gH, j, none⟩ (.int .i64 x)) v D L E (has.set j x) R q := by
  have := O_put h.h j x
  refine ⟨below_trans h.bel (below_set _ _ _ _ h.bh), h.l, h.lc, ?_, O_kept h.e (set_other _ _ h.eh), ?_, O_kept h.r (set_other _ _ h.hr.symm), h.er, h.eh, h.hr, h.pe, h.ph, h.pr, h.bp, h.be, h.bh, h.br⟩
  · rw [set_other _ _ h.ph, List.length_set]; exact h.plan
  · rw [List.length_set]; exact this
theorem Doc.setE (h : Doc w2 w v D L E has R q) (j : Nat) (x : Bool) : Doc w2 (w.setCell ⟨D.gE, j, none⟩ (.bool x)) v D L (E.set j x) has R q := by
  have := O_put h.e j x
  refine ⟨below_trans h.bel (below_set _ _ _ _ h.be), h.l, h.lc, ?_, ?_, O_kept h.h (set_other _ _ h.eh.symm), O_kept h.r (set_other _ _ h.er.symm), h.er, h.eh, h.hr, h.pe, h.ph, h.pr, h.bp, h.be, h.bh, h.br⟩
  · rw [set_other _ _ h.pe, List.length_set]; exact h.plan
  · rw [List.length_set]; exact this
theorem Doc.setR (h : Doc w2 w v D L E has R q) (j : Nat) (x : Bool) : Doc w2 (w.setCell ⟨D.gR, j, none⟩ (.bool x)) v D L E has (R.set j x) q := by
  have := O_put h.r j x
  refine ⟨below_trans h.bel (below_set _ _ _ _ h.br), h.l, h.lc, ?_, O_kept h.e (set_other _ _ h.er), O_kept h.h (set_other _ _ h.hr), ?_, h.er, h.eh, h.hr, h.pe, h.ph, h.pr, h.bp, h.be, h.bh, h.br⟩
  · rw [set_other _ _ h.pr, List.length_set]; exact h.plan
  · rw [List.length_set]; exact this
/-- Whose blocks are the results' own: nothing of the plan turns by them. -/
theorem Doc.fin (h : Doc w2 w v D L E has R q) {W : World} (hm : Kd.C (Kd.slice 3 (Kd.int .i64)) W v.A L.length L) (hb : Below W.heap.size W w2) {g4 g5 : Nat} {c4 c5 : Array Value} (h4 : W.heap.size ≤ g4 ∧ g4 < w2.heap.size) (h5 : W.heap.size ≤ g5 ∧ g5 < w2.heap.size) :
    MCnew W.heap.size (D.mv v) ∧ (D.mv v).A = v.A ∧ MC ((w.setRow g4 c4).setRow g5 c5) (D.mv v) L E has R ∧ Below W.heap.size W ((w.setRow g4 c4).setRow g5 c5) := by
  have hbw : Below W.heap.size W ((w.setRow g4 c4).setRow g5 c5) := below_trans (below_trans (below_step hb h.bel) (below_setRow _ _ _ h4.1)) (below_setRow _ _ _ h5.1)
  have k : ∀ g, w2.heap.size ≤ g → ((w.setRow g4 c4).setRow g5 c5).heap[g]? = w.heap[g]? := fun g hg => by
    rw [setRow_other _ _ _ _ (by omega), setRow_other _ _ _ _ (by omega)]
  have hs := hb.size
  have n1 := h.be
  have n2 := h.bh
  have n3 := h.br
  exact ⟨⟨fun ad ha => by cases ha; exact Nat.le_trans hs n1, fun ad ha => by cases ha; exact Nat.le_trans hs n2, fun ad ha => by cases ha; exact Nat.le_trans hs n3⟩, rfl, ⟨Kd.C_below hm hbw, h.lc, (O_C (O_kept h.e (k _ h.be))).1, (O_C h.e).2, (O_C (O_kept h.h (k _ h.bh))).1, (O_C h.h).2, (O_C (O_kept h.r (k _ h.br))).1, (O_C h.r).2⟩, hbw⟩
/-- What region 5 leaves. -/
theorem Doc.of5 {has : List Int} {s7 s30 s33 s34 s37 s38 s41 s45 : Value} {Z : Array Value} {L : List (List Int)} (h : R5 w2.heap.size w2 E has R (fun x y z => #[.slice v.A L.length v.c, x, y, z, .int .i64 q]) Z true true true true true true true true true s7 s30 s33 s34 s37 s38 s41 s45 w)
    (hm : MC w2 v L E has R) (hE : 0 < E.length) (hH : 0 < has.length) (hR : 0 < R.length) :
    ∃ D : Dp, s7 = .pointer (some ⟨D.g, 0, none⟩) ∧ s33 = .slice (some ⟨D.gE, 0, none⟩) E.length D.cE ∧ s37 = .slice (some ⟨D.gH, 0, none⟩) has.length D.cH ∧ s41 = .slice (some ⟨D.gR, 0, none⟩) R.length D.cR ∧ Doc w2 w v D L E has R q := by
  have he : O Kd.bool 4 w w2.heap.size s33 E := h.e rfl
  have hh : O (Kd.int .i64) 3 w w2.heap.size s37 has := h.h rfl
  have hr : O Kd.bool 4 w w2.heap.size s41 R := h.r rfl
  have hap : ∀ k, s33.ownBlock = some k → s41.ownBlock ≠ some k := h.ap rfl rfl
  obtain ⟨g7, rfl, hB7, hg7⟩ := h.al rfl
  obtain ⟨gE, cE, rfl, -, -, -⟩ := Kd.R_form (O_R he) hE
  obtain ⟨gH, cH, rfl, -, -, -⟩ := Kd.R_form (O_R hh) hH
  obtain ⟨gR, cR, rfl, -, -, -⟩ := Kd.R_form (O_R hr) hR
  simp only [if_true] at hg7
  have ne : ∀ {a b ta tb : Nat} {ca cb : Array Value}, w.heap[a]? = some (.cells ca ta (0, 0)) → w.heap[b]? = some (.cells cb tb (0, 0)) → ta ≠ tb → a ≠ b := by
    rintro a b ta tb ca cb h1 h2 hne rfl
    rw [h1] at h2
    injection h2 with h2
    injection h2 with _ h2
    exact hne h2
  obtain ⟨b1, -, c1, k1⟩ := O_lt he
  obtain ⟨b2, -, c2, k2⟩ := O_lt hh
  obtain ⟨b3, -, c3, k3⟩ := O_lt hr
  have ner : gE ≠ gR := fun e => hap gE (own_slice _ _ _) (by rw [own_slice, e])
  exact ⟨⟨g7, gE, cE, gH, cH, gR, cR⟩, rfl, rfl, rfl, rfl, h.bel, hm.l, hm.lc, hg7, he, hh, hr, ner, ne k1 k2 (by decide), ne k2 k3 (by decide), ne hg7 k1 (by decide), ne hg7 k2 (by decide), ne hg7 k3 (by decide), hB7, b1, b2, b3⟩
end
end Go.Proofs.Ytigpcfokmbnlaaa.Sched

/- The document's plan that is being made. -/
namespace Go.Proofs.Ytigpcfokmbnlaaa.Sched
open Go.RowKit Go.Proofs.YtigpcfokmbnlaaaW.PrintWords

theorem O_at {α : Type} {enc : α → Value} {h1 : ∀ x, (enc x).oneCell' = true} {e n c : Nat} {w : World} {B : Nat} {ad : Addr} {xs : List α} (h : O (Kd.scalar enc h1) e w B (.slice (some ad) n c) xs) : B ≤ ad.block := by
  obtain ⟨g, rfl⟩ := Kd.R_head h
  exact (O_lt h).1
structure DM (w0 w : World) (A0 : Option Addr) (c0 g : Nat) (sE hv rv : Value) (L : List (List Int)) (idle : List Bool) (xs : List Int) (ys : List Bool) : Prop where
  bel : Below w0.heap.size w0 w
  plan : w.heap[g]? = some (.cells #[.slice A0 L.length c0, sE, hv, rv, .int .i64 0] 46 (0, 0))
  e : O Kd.bool 4 w w0.heap.size sE idle
  h : O (Kd.int .i64) 3 w w0.heap.size hv xs
  r : O Kd.bool 4 w w0.heap.size rv ys
  er : ∀ k, sE.ownBlock = some k → rv.ownBlock ≠ some k
  bp : w0.heap.size ≤ g
section
variable {α : Type} {enc : α → Value} {h1 : ∀ x, (enc x).oneCell' = true} {e t g : Nat} {w : World} {B : Nat} {v : Value} {xs : List α} {cs : Array Value}
theorem O_setCell (h : O (Kd.scalar enc h1) e w B v xs) (hg : w.heap[g]? = some (.cells cs t (0, 0))) (hne : e ≠ t) (j : Nat) (u : Value) : O (Kd.scalar enc h1) e (w.setCell ⟨g, j, none⟩ u) B v xs :=
  O_keep h (fun k hk _ => set_other _ _ (by
    rintro rfl
    obtain ⟨_, _, c, hc⟩ := O_block h k hk
    rw [hc] at hg
    injection hg with hg
    injection hg with _ ht
    exact hne ht))
theorem O_nil (w : World) (B : Nat) : O (Kd.scalar enc h1) e w B (.slice none 0 0) [] := O_of (Kd.R_nil (Kd.scalar enc h1) e w B (fun _ => True))
end
section
variable {w0 w w3 : World} {A0 : Option Addr} {c0 g : Nat} {sE hv rv v1 : Value} {L : List (List Int)} {idle : List Bool} {xs : List Int} {ys : List Bool} {ok : Nat → Prop}
theorem DM.cells (h : DM w0 w A0 c0 g sE hv rv L idle xs ys) : w.cell? ⟨g, 2, none⟩ = some hv ∧ w.cell? ⟨g, 3, none⟩ = some rv ∧ w.frozen? ⟨g, 2, none⟩ = false ∧ w.frozen? ⟨g, 3, none⟩ = false :=
  ⟨(cells5 h.plan).2.2.1, (cells5 h.plan).2.2.2.1, frozen_of_row _ _ _ _ _ h.plan, frozen_of_row _ _ _ _ _ h.plan⟩
theorem DM.grownH (h : DM w0 w A0 c0 g sE hv rv L idle xs ys) (hg : w.grownBy w3 hv.ownBlock) : w3.heap[g]? = some (.cells #[.slice A0 L.length c0, sE, hv, rv, .int .i64 0] 46 (0, 0)) := grown_cell h.h hg h.plan (by decide)
theorem DM.grownR (h : DM w0 w A0 c0 g sE hv rv L idle xs ys) (hg : w.grownBy w3 rv.ownBlock) : w3.heap[g]? = some (.cells #[.slice A0 L.length c0, sE, hv, rv, .int .i64 0] 46 (0, 0)) := grown_cell h.r hg h.plan (by decide)
theorem DM.appH (h : DM w0 w A0 c0 g sE hv rv L idle xs ys) {zs : List Int} (hr : (Kd.int .i64).R 3 w3 w0.heap.size ok v1 zs) (hb : Below w0.heap.size w0 w3) (hg : w.grownBy w3 hv.ownBlock) :
    DM w0 (w3.setCell ⟨g, 2, none⟩ v1) A0 c0 g sE v1 rv L idle zs ys := by
  have hp := h.grownH hg
  refine ⟨below_trans hb (below_set _ _ _ _ h.bp), ?_, ?_, O_setCell (O_of hr) hp (by decide) _ _, ?_, h.er, h.bp⟩
  · rw [heap_setCell_same _ _ _ _ _ _ hp]; rfl
  · exact O_setCell (O_grown h.e hg (fun k hk => O_types h.e h.h (by decide) k hk)) hp (by decide) _ _
  · exact O_setCell (O_grown h.r hg (fun k hk => O_types h.r h.h (by decide) k hk)) hp (by decide) _ _
theorem DM.appR (h : DM w0 w A0 c0 g sE hv rv L idle xs ys) {zs : List Bool} (hr : Kd.bool.R 4 w3 w0.heap.size ok v1 zs) (hb : Below w0.heap.size w0 w3) (hg : w.grownBy w3 rv.ownBlock) (hat : v1.ownBlock = rv.ownBlock ∨ ∃ b, v1.ownBlock = some b ∧ w.heap.size ≤ b) :
    DM w0 (w3.setCell ⟨g, 3, none⟩ v1) A0 c0 g sE hv v1 L idle xs zs := by
  have hp := h.grownR hg
  refine ⟨below_trans hb (below_set _ _ _ _ h.bp), ?_, ?_, ?_, O_setCell (O_of hr) hp (by decide) _ _, fun k hk hk' => ?_, h.bp⟩
  · rw [heap_setCell_same _ _ _ _ _ _ hp]; rfl
  · exact O_setCell (O_grown h.e hg (fun k hk hk' => h.er k hk hk')) hp (by decide) _ _
  · exact O_setCell (O_grown h.h hg (fun k hk => O_types h.h h.r (by decide) k hk)) hp (by decide) _ _
  · rcases hat with he | ⟨b, he, hlt⟩
    · exact h.er k hk (by rw [← he]; exact hk')
    · have hl := (O_block h.e k hk).2.1
      rw [he] at hk'
      injection hk' with hk'
      omega
theorem DM.fin (h : DM w0 w A0 c0 g sE hv rv L idle xs ys) {W : World} (hm : Kd.C (Kd.slice 3 (Kd.int .i64)) W A0 L.length L) (hc : L.length ≤ c0) (hb : Below W.heap.size W w0) {g6 : Nat} {cs : Array Value} (h6 : W.heap.size ≤ g6 ∧ g6 < w0.heap.size) :
    ∃ v : MV, #[.slice A0 L.length c0, sE, hv, rv, .int .i64 0] = v.cells L idle xs ys 0 ∧ MCnew W.heap.size v ∧ v.A = A0 ∧ MC (w.setRow g6 cs) v L idle xs ys ∧ Below W.heap.size W (w.setRow g6 cs) := by
  have hbw : Below W.heap.size W (w.setRow g6 cs) := below_trans (below_step hb h.bel) (below_setRow _ _ _ h6.1)
  obtain ⟨A1, c1, e1, l1, C1⟩ := Kd.R_reads (O_R (O_keep (w1 := w.setRow g6 cs) h.e (fun k hk _ => setRow_other _ _ _ _ (by have := (O_block h.e k hk).1; omega))))
  obtain ⟨A2, c2, e2, l2, C2⟩ := Kd.R_reads (O_R (O_keep (w1 := w.setRow g6 cs) h.h (fun k hk _ => setRow_other _ _ _ _ (by have := (O_block h.h k hk).1; omega))))
  obtain ⟨A3, c3, e3, l3, C3⟩ := Kd.R_reads (O_R (O_keep (w1 := w.setRow g6 cs) h.r (fun k hk _ => setRow_other _ _ _ _ (by have := (O_block h.r k hk).1; omega))))
  subst e1 e2 e3
  have hs := hb.size
  exact ⟨⟨A0, c0, A1, c1, A2, c2, A3, c3⟩, rfl, ⟨fun ad ha => by subst ha; exact Nat.le_trans hs (O_at h.e), fun ad ha => by subst ha; exact Nat.le_trans hs (O_at h.h), fun ad ha => by subst ha; exact Nat.le_trans hs (O_at h.r)⟩, rfl, ⟨Kd.C_below hm hbw, hc, C1, l1, C2, l2, C3, l3⟩, hbw⟩
end
end Go.Proofs.Ytigpcfokmbnlaaa.Sched

/- Rows that a law turns behind the back of what was made out of them. -/
namespace Go.Proofs.Ytigpcfokmbnlaaa.Sched
open Go.RowKit Go.Proofs.YtigpcfokmbnlaaaW.PrintWords

structure RowsM (W : World) (ad : Addr) (AI : Option Addr) (B N n m : Nat) (A : Nat → Option Addr) (l c : Nat → Nat) : Prop where
  out : ∀ i, i < n → W.cell? (ad.add i) = some (.slice (A i) (l i) (c i))
  ins : ∀ i, i < n → ∀ j, j < l i → ∃ g x, A i = some ⟨g, 0, none⟩ ∧ W.cell? ⟨g, j, none⟩ = some (.int .i64 x) ∧ W.frozen? ⟨g, j, none⟩ = false ∧ B ≤ g ∧ g < N
  idle : ∀ i, i < m → ∃ g y, AI = some ⟨g, 0, none⟩ ∧ W.cell? ⟨g, i, none⟩ = some (.bool y) ∧ W.frozen? ⟨g, i, none⟩ = false ∧ B ≤ g ∧ g < N
  small : ∀ i, i < n → l i ≤ 1000000
theorem rowsM_of_R {W : World} {B N cap ci : Nat} {ad : Addr} {AI : Option Addr} {ok ok' : Nat → Prop} {xs : List (List Int)} {idle : List Bool} (hR : (Kd.slice 3 (Kd.int .i64)).R 38 W B ok (.slice (some ad) xs.length cap) xs) (hI : Kd.bool.R 4 W B ok' (.slice AI idle.length ci) idle) (hN : W.heap.size ≤ N) (hr : rowsAt xs 1000000) : ∃ A l c, RowsM W ad AI B N xs.length idle.length A l c := by
  have key : ∀ i : Nat, ∃ (A : Option Addr) (l c : Nat), i < xs.length → (W.cell? (ad.add i) = some (.slice A l c) ∧ (∀ j, j < l → ∃ g x, A = some ⟨g, 0, none⟩ ∧ W.cell? ⟨g, j, none⟩ = some (.int .i64 x) ∧ W.frozen? ⟨g, j, none⟩ = false ∧ B ≤ g ∧ g < N) ∧ l ≤ 1000000) := by
    intro i
    by_cases hi : i < xs.length
    · obtain ⟨cs, -, ⟨v, rfl, hv⟩, hcell⟩ := Go.Proofs.YtigpcfokmbnlaaaW.PrintMore.Kd.R_get hR [] (i : Int) (by omega) (by omega)
      rw [Int.toNat_natCast] at hv hcell
      obtain ⟨A, c, rfl⟩ := Kd.R_slice hv
      have hsz : (Kd.slice 3 (Kd.int .i64)).sz = 1 := rfl
      have h0 := hcell 0 _ rfl
      rw [hsz, Nat.mul_one, Nat.add_zero] at h0
      refine ⟨A, (xs.getD i []).length, c, fun _ => ⟨h0, fun j hj => ?_, ?_⟩⟩
      · obtain ⟨g, cap', he, hB, hlt, -⟩ := Kd.R_form hv (by omega)
        injection he with e1 _ _
        subst e1
        obtain ⟨c1, c2⟩ := Kd.R_celln (0 : Int) hv (j : Int) (by omega) (by omega)
        rw [Int.toNat_natCast] at c1 c2
        exact ⟨g, _, rfl, c1, c2, hB, by omega⟩
      · have e : xs.getD i [] = xs[i] := by simp [List.getD_eq_getElem?_getD, hi]
        rw [e]; exact hr _ (List.getElem_mem hi)
    · exact ⟨none, 0, 0, fun hc => absurd hc hi⟩
  refine ⟨fun i => (key i).choose, fun i => (key i).choose_spec.choose, fun i => (key i).choose_spec.choose_spec.choose, fun i hi => ?_, fun i hi => ?_, fun i hi => ?_, fun i hi => ?_⟩
  · exact ((key i).choose_spec.choose_spec.choose_spec hi).1
  · exact ((key i).choose_spec.choose_spec.choose_spec hi).2.1
  · obtain ⟨g, cap', he, hB, hlt, -⟩ := Kd.R_form hI (by omega)
    injection he with e1 _ _
    subst e1
    obtain ⟨c1, c2⟩ := Kd.R_celln false hI (i : Int) (by omega) (by omega)
    rw [Int.toNat_natCast] at c1 c2
    exact ⟨g, _, rfl, c1, c2, hB, by omega⟩
  · exact ((key i).choose_spec.choose_spec.choose_spec hi).2.2
section
variable {W W' : World} {ad : Addr} {AI : Option Addr} {B N n m : Nat} {A : Nat → Option Addr} {l c : Nat → Nat}
theorem RowsM.setI (h : RowsM W ad AI B N n m A l c) (p : Addr) (x y : Int) (hp : W.cell? p = some (.int .i64 x)) : RowsM (W.setCell p (.int .i64 y)) ad AI B N n m A l c := by
  refine ⟨fun i hi => ?_, fun i hi j hj => ?_, fun i hi => ?_, h.small⟩
  · have ho := h.out i hi
    have hne : p ≠ ad.add i := fun e => by rw [e, ho] at hp; cases hp
    rw [World.cell?_setCell_other _ _ _ _ hne]; exact ho
  · obtain ⟨g, x', hA, hc, hf, hb1, hb2⟩ := h.ins i hi j hj
    by_cases e : p = ⟨g, j, none⟩
    · subst e
      exact ⟨g, y, hA, World.cell?_setCell_same _ _ _ hp, by rw [World.frozen?_setCell]; exact hf, hb1, hb2⟩
    · exact ⟨g, x', hA, by rw [World.cell?_setCell_other _ _ _ _ e]; exact hc, by rw [World.frozen?_setCell]; exact hf, hb1, hb2⟩
  · obtain ⟨g, y', hA, hc, hf, hb1, hb2⟩ := h.idle i hi
    have hne : p ≠ ⟨g, i, none⟩ := fun e => by rw [e, hc] at hp; cases hp
    exact ⟨g, y', hA, by rw [World.cell?_setCell_other _ _ _ _ hne]; exact hc, by rw [World.frozen?_setCell]; exact hf, hb1, hb2⟩
theorem RowsM.setB (h : RowsM W ad AI B N n m A l c) (p : Addr) (x y : Bool) (hp : W.cell? p = some (.bool x)) : RowsM (W.setCell p (.bool y)) ad AI B N n m A l c := by
  refine ⟨fun i hi => ?_, fun i hi j hj => ?_, fun i hi => ?_, h.small⟩
  · have ho := h.out i hi
    have hne : p ≠ ad.add i := fun e => by rw [e, ho] at hp; cases hp
    rw [World.cell?_setCell_other _ _ _ _ hne]; exact ho
  · obtain ⟨g, x', hA, hc, hf, hb1, hb2⟩ := h.ins i hi j hj
    have hne : p ≠ ⟨g, j, none⟩ := fun e => by rw [e, hc] at hp; cases hp
    exact ⟨g, x', hA, by rw [World.cell?_setCell_other _ _ _ _ hne]; exact hc, by rw [World.frozen?_setCell]; exact hf, hb1, hb2⟩
  · obtain ⟨g, y', hA, hc, hf, hb1, hb2⟩ := h.idle i hi
    by_cases e : p = ⟨g, i, none⟩
    · subst e
      exact ⟨g, y, hA, World.cell?_setCell_same _ _ _ hp, by rw [World.frozen?_setCell]; exact hf, hb1, hb2⟩
    · exact ⟨g, y', hA, by rw [World.cell?_setCell_other _ _ _ _ e]; exact hc, by rw [World.frozen?_setCell]; exact hf, hb1, hb2⟩
theorem RowsM.below (h : RowsM W ad AI B N n m A l c) (hb : Below W.heap.size W W') : RowsM W' ad AI B N n m A l c :=
  ⟨fun i hi => (hb.cell (World.block_lt_of_cell? W _ (h.out i hi))).trans (h.out i hi), fun i hi j hj => by
    obtain ⟨g, x, hA, hc, hf, hb1, hb2⟩ := h.ins i hi j hj
    have hlt := World.block_lt_of_cell? W _ hc
    exact ⟨g, x, hA, (hb.cell hlt).trans hc, by rw [World.frozen?_of_block (hb.block _ hlt)]; exact hf, hb1, hb2⟩, fun i hi => by
    obtain ⟨g, x, hA, hc, hf, hb1, hb2⟩ := h.idle i hi
    have hlt := World.block_lt_of_cell? W _ hc
    exact ⟨g, x, hA, (hb.cell hlt).trans hc, by rw [World.frozen?_of_block (hb.block _ hlt)]; exact hf, hb1, hb2⟩, h.small⟩
end
/-- Nothing has turned but blocks from B up to N. -/
structure Mut (B N : Nat) (W W' : World) : Prop where
  os : W'.os = W.os
  tape : W'.tape = W.tape
  output : W'.output = W.output
  size : W.heap.size ≤ W'.heap.size
  block : ∀ k, k < W.heap.size → (k < B ∨ N ≤ k) → W'.heap[k]? = W.heap[k]?
theorem Mut.refl (B N : Nat) (W : World) : Mut B N W W := ⟨rfl, rfl, rfl, Nat.le_refl _, fun _ _ _ => rfl⟩
theorem Mut.set {B N : Nat} {W W' : World} (h : Mut B N W W') (p : Addr) (u : Value) (hp : B ≤ p.block ∧ p.block < N) : Mut B N W (W'.setCell p u) :=
  ⟨h.os, h.tape, h.output, by simpa [World.setCell] using h.size, fun k hk hb => (Below.heap_setCell _ _ _ _ (by omega)).trans (h.block k hk hb)⟩
theorem Mut.below {B N : Nat} {W W' : World} (h : Mut B N W W') (hB : B ≤ W.heap.size) : Below B W W' := ⟨h.os, h.tape, h.output, h.size, fun k hk => h.block k (by omega) (.inl hk)⟩
section
variable {α : Type} {enc : α → Value} {h1 : ∀ x, (enc x).oneCell' = true} {W W' : World} {B N n : Nat} {A : Option Addr} {xs : List α}
theorem C_mut (h : (Kd.scalar enc h1).C W A n xs) (hm : Mut B N W W') (hf : ∀ ad, A = some ad → 0 < n → N ≤ ad.block) : (Kd.scalar enc h1).C W' A n xs := by
  refine ⟨h.1, h.2.1, fun hn => ?_⟩
  obtain ⟨ad, he, hc⟩ := h.2.2 hn
  refine ⟨ad, he, fun j p hj => ?_⟩
  obtain ⟨cs, h2, h3, h4⟩ := hc j p hj
  refine ⟨cs, h2, h3, fun i u hu => ?_⟩
  have h5 := h4 i u hu
  have hlt := World.block_lt_of_cell? W _ h5
  have hN := hf ad he hn
  rw [← h5]
  unfold World.cell?
  rw [hm.block _ hlt (.inr (by rw [add_block]; exact hN))]
end
theorem IsPlan.mut {w w' : World} {P : Pl} {ts : List T} {has : List Int} {picks left : Int} {B N : Nat} (h : IsPlan w P ts has picks left) (hm : Mut B N w w') (h1 : N ≤ P.gp) (h2 : N ≤ P.gt) (h3 : N ≤ P.gh) (hr : RowsNew N ts) : IsPlan w' P ts has picks left := by
  have lt : ∀ {g : Nat} {o : Obj}, w.heap[g]? = some o → g < w.heap.size := fun h => (Array.getElem?_eq_some_iff.1 h).1
  obtain ⟨rest, hrr⟩ := h.hass
  exact ⟨h.pt, h.ph, h.th, by rw [hm.block _ (lt h.plan) (.inr h1)]; exact h.plan, by rw [hm.block _ (lt h.tasks) (.inr h2)]; exact h.tasks, ⟨rest, by rw [hm.block _ (lt hrr) (.inr h3)]; exact hrr⟩, h.room, h.lent, h.lenh,
    fun t ht => ⟨(h.rows t ht).1, C_mut (h.rows t ht).2.1 hm (hr t ht), (h.rows t ht).2.2⟩⟩
theorem MC.mut {W W' W0 : World} {v : MV} {L : List (List Int)} {E : List Bool} {has : List Int} {R : List Bool} {B N : Nat} (h : MC W v L E has R) (hl : Kd.C (Kd.slice 3 (Kd.int .i64)) W0 v.A L.length L) (hb : Below W0.heap.size W0 W') (hm : Mut B N W W') (hn : MCnew N v) : MC W' v L E has R :=
  ⟨Kd.C_below hl hb, h.lc, C_mut h.e hm (fun ad ha _ => hn.e ad ha), h.ec, C_mut h.h hm (fun ad ha _ => hn.h ad ha), h.hc, C_mut h.r hm (fun ad ha _ => hn.r ad ha), h.rc⟩
end Go.Proofs.Ytigpcfokmbnlaaa.Sched
