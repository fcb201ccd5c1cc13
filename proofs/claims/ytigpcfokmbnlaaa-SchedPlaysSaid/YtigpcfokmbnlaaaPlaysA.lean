/- A plan in memory: the words that the walks of package sched use, and the plain functions that they come to. -/
import Derived.Test.YtigpcfokmbnlaaaRows
import Derived.Test.YtigpcfokmbnlaaaWMore
import Derived.Test.YtigpcfokmbnlaaaWAt
import Derived.WalkKit
import Derived.WalkSpells
import Derived.WalkLawsBesides
import Derived.Outline
import Derived.Deep.RegionHeld3
import Derived.Deep.WholeRow
namespace Go.Proofs.Ytigpcfokmbnlaaa.Sched
open Go.RowKit Go.Proofs.YtigpcfokmbnlaaaW.PrintWords

/-- A task: on how many it waits; which wait for it (the row's place, its room, its numbers); its worker; its state. -/
structure T where
  waits : Int
  A : Option Addr
  cap : Nat
  behind : List Int
  worker : Int
  state : Int
def T.cells (t : T) : List Value := [.int .i64 t.waits, .slice t.A t.behind.length t.cap, .int .i64 t.worker, .int .i64 t.state]
theorem T.cells_len (t : T) : t.cells.length = 4 := rfl
def tcells (ts : List T) : List Value := ts.flatMap T.cells
theorem tcells_len (ts : List T) : (tcells ts).length = ts.length * 4 := by
  induction ts with
  | nil => rfl
  | cons t ts ih => simp only [tcells, List.flatMap_cons, List.length_append, T.cells_len, List.length_cons] at ih ⊢; omega
def zT : T := ⟨0, none, 0, [], 0, 0⟩
theorem tcells_at (ts : List T) (i f : Nat) (hi : i < ts.length) (hf : f < 4) : (tcells ts)[i * 4 + f]? = (ts.getD i zT).cells[f]? := by
  induction ts generalizing i with
  | nil => simp at hi
  | cons t ts ih =>
    simp only [tcells, List.flatMap_cons]
    cases i with
    | zero =>
      rw [List.getElem?_append_left (by rw [T.cells_len]; omega)]
      simp
    | succ i =>
      rw [List.getElem?_append_right (by rw [T.cells_len]; omega), T.cells_len, show (i + 1) * 4 + f - 4 = i * 4 + f by omega]
      have := ih i (by simpa using hi)
      simpa [tcells] using this
/-- One cell of one task, written. -/
theorem tcells_set (ts : List T) (i f : Nat) (hi : i < ts.length) (hf : f < 4) (u : Value) (t' : T) (h : (ts.getD i zT).cells.set f u = t'.cells) : (tcells ts).set (i * 4 + f) u = tcells (ts.set i t') := by
  induction ts generalizing i with
  | nil => simp at hi
  | cons t ts ih =>
    simp only [tcells, List.flatMap_cons]
    cases i with
    | zero =>
      rw [List.set_append_left _ _ (by rw [T.cells_len]; omega), List.set_cons_zero, List.flatMap_cons]
      simp at h
      simp [h]
    | succ i =>
      rw [List.set_append_right _ _ (by rw [T.cells_len]; omega), T.cells_len, show (i + 1) * 4 + f - 4 = i * 4 + f by omega, List.set_cons_succ, List.flatMap_cons]
      have := ih i (by simpa using hi) (by simpa using h)
      simp only [tcells] at this
      rw [this]

/-- Where a plan lies: the plan itself, its tasks, its workers' row and that row's room. -/
structure Pl where
  gp : Nat
  gt : Nat
  gh : Nat
  hcap : Nat

/-- Of what was there, nothing has turned but the plan's three blocks. -/
structure Stp (w w' : World) (P : Pl) : Prop where
  os : w'.os = w.os
  tape : w'.tape = w.tape
  output : w'.output = w.output
  size : w.heap.size ≤ w'.heap.size
  block : ∀ k, k < w.heap.size → k ≠ P.gp → k ≠ P.gt → k ≠ P.gh → w'.heap[k]? = w.heap[k]?
theorem Stp.refl (w : World) (P : Pl) : Stp w w P := ⟨rfl, rfl, rfl, Nat.le_refl _, fun _ _ _ _ _ => rfl⟩
theorem Stp.trans {a b c : World} {P : Pl} (h : Stp a b P) (k : Stp b c P) : Stp a c P :=
  ⟨k.os.trans h.os, k.tape.trans h.tape, k.output.trans h.output, Nat.le_trans h.size k.size, fun i hi h1 h2 h3 => (k.block i (Nat.lt_of_lt_of_le hi h.size) h1 h2 h3).trans (h.block i hi h1 h2 h3)⟩
theorem Stp.of_below {w w1 w2 : World} {P : Pl} (h : Stp w w1 P) (hb : Below w1.heap.size w1 w2) : Stp w w2 P :=
  h.trans ⟨hb.os, hb.tape, hb.output, hb.size, fun i hi _ _ _ => hb.block i hi⟩
theorem Stp.drewN {w w1 : World} {P : Pl} (h : Stp w w1 P) (n : Nat) : Stp w (w1.drewN n) P := ⟨h.os, h.tape, h.output, h.size, h.block⟩
theorem Stp.drew {w w1 : World} {P : Pl} (h : Stp w w1 P) : Stp w w1.drew P := ⟨h.os, h.tape, h.output, h.size, h.block⟩
theorem Stp.setCell {w w1 : World} {P : Pl} (h : Stp w w1 P) {p : Addr} (hp : p.block = P.gp ∨ p.block = P.gt ∨ p.block = P.gh) (u : Value) : Stp w (w1.setCell p u) P :=
  h.trans ⟨rfl, rfl, rfl, by simp [World.setCell], fun k _ h1 h2 h3 => Below.heap_setCell _ _ _ _ (by rcases hp with hp | hp | hp <;> (rw [hp]; assumption))⟩
theorem Stp.alloc {w w1 : World} {P : Pl} (h : Stp w w1 P) (o : Obj) : Stp w (w1.alloc o) P := h.of_below (below_alloc (Below.refl _ _) o)
/-- What lies below the plan's blocks is as it was. -/
theorem Stp.below {B : Nat} {w w1 : World} {P : Pl} (h : Stp w w1 P) (h1 : B ≤ P.gp) (h2 : B ≤ P.gt) (h3 : B ≤ P.gh) (hB : B ≤ w.heap.size) : Below B w w1 :=
  ⟨h.os, h.tape, h.output, h.size, fun k hk => h.block k (by omega) (by omega) (by omega) (by omega)⟩

structure IsPlan (w : World) (P : Pl) (ts : List T) (has : List Int) (picks left : Int) : Prop where
  pt : P.gp ≠ P.gt
  ph : P.gp ≠ P.gh
  th : P.gt ≠ P.gh
  plan : w.heap[P.gp]? = some (.cells #[.slice (some ⟨P.gt, 0, none⟩) ts.length ts.length, .slice (some ⟨P.gh, 0, none⟩) has.length P.hcap, .int .i64 picks, .int .i64 left] 59)
  tasks : w.heap[P.gt]? = some (.cells (tcells ts).toArray 61)
  hass : ∃ rest, w.heap[P.gh]? = some (.cells (nums .i64 has ++ rest).toArray 3)
  room : has.length ≤ P.hcap
  lent : ts.length ≤ 1000000
  lenh : has.length ≤ 1000000
  rows : ∀ t ∈ ts, t.behind.length ≤ t.cap ∧ (Kd.int .i64).C w t.A t.behind.length t.behind ∧ (∀ ad, t.A = some ad → 0 < t.behind.length → ad.block ≠ P.gp ∧ ad.block ≠ P.gt ∧ ad.block ≠ P.gh)

section
variable {w w' : World} {P : Pl} {ts : List T} {has : List Int} {picks left : Int}
theorem IsPlan.cellP (h : IsPlan w P ts has picks left) : w.cell? ⟨P.gp, 0, none⟩ = some (.slice (some ⟨P.gt, 0, none⟩) ts.length ts.length) ∧ w.cell? ⟨P.gp, 1, none⟩ = some (.slice (some ⟨P.gh, 0, none⟩) has.length P.hcap) ∧ w.cell? ⟨P.gp, 2, none⟩ = some (.int .i64 picks) ∧ w.cell? ⟨P.gp, 3, none⟩ = some (.int .i64 left) := by
  refine ⟨?_, ?_, ?_, ?_⟩ <;> (rw [cell_of_row _ _ _ _ _ _ h.plan]; rfl)
theorem IsPlan.frP (h : IsPlan w P ts has picks left) (j : Nat) : w.frozen? ⟨P.gp, j, none⟩ = false := frozen_of_row _ _ _ _ _ h.plan
theorem IsPlan.frT (h : IsPlan w P ts has picks left) (j : Nat) : w.frozen? ⟨P.gt, j, none⟩ = false := frozen_of_row _ _ _ _ _ h.tasks
theorem IsPlan.frH (h : IsPlan w P ts has picks left) (j : Nat) : w.frozen? ⟨P.gh, j, none⟩ = false := by
  obtain ⟨rest, hr⟩ := h.hass
  exact frozen_of_row _ _ _ _ _ hr
theorem IsPlan.cellT (h : IsPlan w P ts has picks left) (i f : Nat) (hi : i < ts.length) (hf : f < 4) : w.cell? ⟨P.gt, i * 4 + f, none⟩ = (ts.getD i zT).cells[f]? := by
  rw [cell_of_row _ _ _ _ _ _ h.tasks]
  simpa using tcells_at ts i f hi hf
theorem IsPlan.cellH (h : IsPlan w P ts has picks left) (i : Nat) (hi : i < has.length) : w.cell? ⟨P.gh, i, none⟩ = some (.int .i64 (has.getD i 0)) := by
  obtain ⟨rest, hr⟩ := h.hass
  rw [cell_of_row _ _ _ _ _ _ hr]
  simp [nums, hi, List.getElem?_append]
/-- Kept by whatever leaves the plan's blocks and the rows alone. -/
theorem IsPlan.keep (h : IsPlan w P ts has picks left) (hb : Below w.heap.size w w') : IsPlan w' P ts has picks left := by
  have lt : ∀ {g : Nat} {o : Obj}, w.heap[g]? = some o → g < w.heap.size := fun h => (Array.getElem?_eq_some_iff.1 h).1
  obtain ⟨rest, hr⟩ := h.hass
  exact ⟨h.pt, h.ph, h.th, by rw [hb.block _ (lt h.plan)]; exact h.plan, by rw [hb.block _ (lt h.tasks)]; exact h.tasks, ⟨rest, by rw [hb.block _ (lt hr)]; exact hr⟩, h.room, h.lent, h.lenh,
    fun t ht => ⟨(h.rows t ht).1, Kd.C_below (h.rows t ht).2.1 hb, (h.rows t ht).2.2⟩⟩
theorem IsPlan.drewN (h : IsPlan w P ts has picks left) (n : Nat) : IsPlan (w.drewN n) P ts has picks left := h.keep (pw_below_drewN (Below.refl _ _) n)
theorem rows_set {w' : World} (h : ∀ t ∈ ts, t.behind.length ≤ t.cap ∧ (Kd.int .i64).C w t.A t.behind.length t.behind ∧ (∀ ad, t.A = some ad → 0 < t.behind.length → ad.block ≠ P.gp ∧ ad.block ≠ P.gt ∧ ad.block ≠ P.gh))
    (hs : Stp w w' P) : ∀ t ∈ ts, t.behind.length ≤ t.cap ∧ (Kd.int .i64).C w' t.A t.behind.length t.behind ∧ (∀ ad, t.A = some ad → 0 < t.behind.length → ad.block ≠ P.gp ∧ ad.block ≠ P.gt ∧ ad.block ≠ P.gh) := by
  intro t ht
  obtain ⟨h1, h2, h3⟩ := h t ht
  refine ⟨h1, ⟨h2.1, h2.2.1, fun hn => ?_⟩, h3⟩
  obtain ⟨ad, he, hc⟩ := h2.2.2 hn
  refine ⟨ad, he, fun j p hj => ?_⟩
  obtain ⟨c, hc1, hc2, hc3⟩ := hc j p hj
  refine ⟨c, hc1, hc2, fun i u hu => ?_⟩
  have h4 := hc3 i u hu
  have hlt := World.block_lt_of_cell? w _ h4
  rw [add_block] at hlt
  obtain ⟨n1, n2, n3⟩ := h3 ad he hn
  rw [← h4]
  simp only [World.cell?, add_block, hs.block ad.block hlt n1 n2 n3]
/-- One cell of one task is written. -/
theorem IsPlan.setT (h : IsPlan w P ts has picks left) (i f : Nat) (hi : i < ts.length) (hf : f < 4) (u : Value) (t' : T) (hc : (ts.getD i zT).cells.set f u = t'.cells)
    (hA : t'.A = (ts.getD i zT).A ∧ t'.cap = (ts.getD i zT).cap ∧ t'.behind = (ts.getD i zT).behind) : IsPlan (w.setCell ⟨P.gt, i * 4 + f, none⟩ u) P (ts.set i t') has picks left := by
  have hs : Stp w (w.setCell ⟨P.gt, i * 4 + f, none⟩ u) P := (Stp.refl w P).setCell (.inr (.inl rfl)) u
  obtain ⟨rest, hr⟩ := h.hass
  refine ⟨h.pt, h.ph, h.th, ?_, ?_, ⟨rest, ?_⟩, h.room, by rw [List.length_set]; exact h.lent, h.lenh, ?_⟩
  · rw [List.length_set, heap_setCell_other _ _ _ _ h.pt]; exact h.plan
  · rw [heap_setCell_same _ _ _ _ _ _ h.tasks]
    congr 2
    rw [List.setIfInBounds_toArray, tcells_set ts i f hi hf u t' hc]
  · rw [heap_setCell_other _ _ _ _ h.th.symm]; exact hr
  · intro t ht
    have hrows := rows_set h.rows hs
    rcases List.mem_or_eq_of_mem_set ht with ht | rfl
    · exact hrows t ht
    · have hg : ts.getD i zT ∈ ts := by rw [List.getD_eq_getElem?_getD, List.getElem?_eq_getElem hi]; exact List.getElem_mem hi
      have := hrows _ hg
      rw [← hA.1, ← hA.2.1, ← hA.2.2] at this
      exact this
theorem IsPlan.setH (h : IsPlan w P ts has picks left) (i : Nat) (hi : i < has.length) (n : Int) : IsPlan (w.setCell ⟨P.gh, i, none⟩ (.int .i64 n)) P ts (has.set i n) picks left := by
  have hs : Stp w (w.setCell ⟨P.gh, i, none⟩ (.int .i64 n)) P := (Stp.refl w P).setCell (.inr (.inr rfl)) _
  obtain ⟨rest, hr⟩ := h.hass
  refine ⟨h.pt, h.ph, h.th, ?_, ?_, ⟨rest, ?_⟩, by rw [List.length_set]; exact h.room, h.lent, by rw [List.length_set]; exact h.lenh, rows_set h.rows hs⟩
  · rw [List.length_set, heap_setCell_other _ _ _ _ h.ph]; exact h.plan
  · rw [heap_setCell_other _ _ _ _ h.th]; exact h.tasks
  · rw [heap_setCell_same _ _ _ _ _ _ hr]
    congr 2
    rw [List.setIfInBounds_toArray, List.set_append_left _ _ (by rw [nums_length]; exact hi)]
    simp [nums, List.map_set]
theorem IsPlan.setPicks (h : IsPlan w P ts has picks left) (n : Int) : IsPlan (w.setCell ⟨P.gp, 2, none⟩ (.int .i64 n)) P ts has n left := by
  have hs : Stp w (w.setCell ⟨P.gp, 2, none⟩ (.int .i64 n)) P := (Stp.refl w P).setCell (.inl rfl) _
  obtain ⟨rest, hr⟩ := h.hass
  refine ⟨h.pt, h.ph, h.th, ?_, ?_, ⟨rest, ?_⟩, h.room, h.lent, h.lenh, rows_set h.rows hs⟩
  · rw [heap_setCell_same _ _ _ _ _ _ h.plan]; rfl
  · rw [heap_setCell_other _ _ _ _ h.pt.symm]; exact h.tasks
  · rw [heap_setCell_other _ _ _ _ h.ph.symm]; exact hr
theorem IsPlan.setLeft (h : IsPlan w P ts has picks left) (n : Int) : IsPlan (w.setCell ⟨P.gp, 3, none⟩ (.int .i64 n)) P ts has picks n := by
  have hs : Stp w (w.setCell ⟨P.gp, 3, none⟩ (.int .i64 n)) P := (Stp.refl w P).setCell (.inl rfl) _
  obtain ⟨rest, hr⟩ := h.hass
  refine ⟨h.pt, h.ph, h.th, ?_, ?_, ⟨rest, ?_⟩, h.room, h.lent, h.lenh, rows_set h.rows hs⟩
  · rw [heap_setCell_same _ _ _ _ _ _ h.plan]; rfl
  · rw [heap_setCell_other _ _ _ _ h.pt.symm]; exact h.tasks
  · rw [heap_setCell_other _ _ _ _ h.ph.symm]; exact hr
end

/-- The same rows of those that wait. -/
def SameRows (ts us : List T) : Prop := us.length = ts.length ∧ ∀ j, (us.getD j zT).A = (ts.getD j zT).A ∧ (us.getD j zT).cap = (ts.getD j zT).cap ∧ (us.getD j zT).behind = (ts.getD j zT).behind
theorem SameRows.refl (ts : List T) : SameRows ts ts := ⟨rfl, fun _ => ⟨rfl, rfl, rfl⟩⟩
theorem SameRows.trans {a b c : List T} (h : SameRows a b) (k : SameRows b c) : SameRows a c :=
  ⟨k.1.trans h.1, fun j => ⟨(k.2 j).1.trans (h.2 j).1, (k.2 j).2.1.trans (h.2 j).2.1, (k.2 j).2.2.trans (h.2 j).2.2⟩⟩
theorem SameRows.set (ts : List T) (i : Nat) (t : T) (h : t.A = (ts.getD i zT).A ∧ t.cap = (ts.getD i zT).cap ∧ t.behind = (ts.getD i zT).behind) : SameRows ts (ts.set i t) := by
  refine ⟨by simp, fun j => ?_⟩
  by_cases hj : j = i
  · subst hj
    by_cases hl : j < ts.length
    · rw [show (ts.set j t).getD j zT = t by simp [List.getD_eq_getElem?_getD, hl]]; exact h
    · rw [List.set_eq_of_length_le (by omega)]; exact ⟨rfl, rfl, rfl⟩
  · rw [show (ts.set i t).getD j zT = ts.getD j zT by simp [List.getD_eq_getElem?_getD, List.getElem?_set_ne (Ne.symm hj)]]; exact ⟨rfl, rfl, rfl⟩
/-- A plan stands in whatever world its three blocks stand in, its rows being those of an elder world. -/
theorem IsPlan.rebuild {w w8 w9 : World} {P : Pl} {ts us : List T} {has has' : List Int} {picks left picks' left' : Int} (h : IsPlan w P ts has picks left) (hS : Stp w w9 P) (h8 : IsPlan w8 P us has' picks' left') (hr : SameRows ts us)
    (hb : ∀ k, k = P.gp ∨ k = P.gt ∨ k = P.gh → w9.heap[k]? = w8.heap[k]?) : IsPlan w9 P us has' picks' left' := by
  obtain ⟨rest, hrest⟩ := h8.hass
  refine ⟨h.pt, h.ph, h.th, by rw [hb _ (.inl rfl)]; exact h8.plan, by rw [hb _ (.inr (.inl rfl))]; exact h8.tasks, ⟨rest, by rw [hb _ (.inr (.inr rfl))]; exact hrest⟩, h8.room, h8.lent, h8.lenh, ?_⟩
  intro t ht
  obtain ⟨j, hj, rfl⟩ := List.mem_iff_getElem.1 ht
  have hj2 : j < ts.length := by rw [← hr.1]; exact hj
  have e : us.getD j zT = us[j] := by simp [List.getD_eq_getElem?_getD, hj]
  have e2 : ts.getD j zT ∈ ts := by rw [List.getD_eq_getElem?_getD, List.getElem?_eq_getElem hj2]; exact List.getElem_mem hj2
  have h3 := rows_set h.rows hS _ e2
  obtain ⟨s1, s2, s3⟩ := hr.2 j
  rw [← s1, ← s2, ← s3, e] at h3
  exact h3
theorem below_setRow (B : Nat) (w : World) {g : Nat} (cs : Array Value) (h : B ≤ g) : Below B w (w.setRow g cs) :=
  ⟨rfl, rfl, rfl, by simp, fun k hk => setRow_other _ _ _ _ (by omega)⟩
/-- Over a whole row that is none of what was there. -/
theorem Stp.setRow {w w1 : World} {P : Pl} (h : Stp w w1 P) {g : Nat} (cs : Array Value) (hg : w.heap.size ≤ g) : Stp w (w1.setRow g cs) P :=
  ⟨h.os, h.tape, h.output, by simpa using h.size, fun k hk h1 h2 h3 => (setRow_other _ _ _ _ (by omega)).trans (h.block k hk h1 h2 h3)⟩
theorem IsPlan.lts {w : World} {P : Pl} {ts : List T} {has : List Int} {picks left : Int} (h : IsPlan w P ts has picks left) : P.gp < w.heap.size ∧ P.gt < w.heap.size ∧ P.gh < w.heap.size := by
  obtain ⟨rest, hr⟩ := h.hass
  exact ⟨(Array.getElem?_eq_some_iff.1 h.plan).1, (Array.getElem?_eq_some_iff.1 h.tasks).1, (Array.getElem?_eq_some_iff.1 hr).1⟩
end Go.Proofs.Ytigpcfokmbnlaaa.Sched

/- The contracts of (*task).ready, held, (*Plan).end. -/
namespace Go.Proofs.Ytigpcfokmbnlaaa.Sched
open Go.RowKit Go.Proofs.YtigpcfokmbnlaaaW.PrintWords

def readyB (t : T) : Bool := t.state == 0 && t.waits == 0
def heldB (t : T) : Bool := t.worker != -1

set_option maxHeartbeats 400000 in
theorem ready_calls (g o : Nat) (t : T) (w : World) (h0 : w.cell? ⟨g, o, none⟩ = some (.int .i64 t.waits)) (h3 : w.cell? ⟨g, o + 3, none⟩ = some (.int .i64 t.state)) :
    Calls Try.prog 26 #[.pointer (some ⟨g, o, none⟩)] w fun e w' => e = .returned (.bool (readyB t)) ∧ Drawn0 w w' := by
  unfold readyB
  cases e1 : (t.state == 0)
  · go_enter Try.func26, Try.ntmps26
    go_wp2
    try (go_quiet (fail); go_wp2)
    go_ret
    exact ⟨rfl, by repeat (first | exact Drawn0.refl _ | apply Drawn0.step)⟩
  · go_enter Try.func26, Try.ntmps26
    go_wp2
    try (go_quiet (fail); go_wp2)
    go_ret
    exact ⟨rfl, by repeat (first | exact Drawn0.refl _ | apply Drawn0.step)⟩
set_option maxHeartbeats 400000 in
theorem held_calls (g o : Nat) (t : T) (w : World) (h2 : w.cell? ⟨g, o + 2, none⟩ = some (.int .i64 t.worker)) :
    Calls Try.prog 27 #[.pointer (some ⟨g, o, none⟩)] w fun e w' => e = .returned (.bool (heldB t)) ∧ Drawn0 w w' := by
  unfold heldB
  go_enter Try.func27, Try.ntmps27
  go_wp2
  try (go_quiet (fail); go_wp2)
  go_ret
  exact ⟨rfl, by repeat (first | exact Drawn0.refl _ | apply Drawn0.step)⟩

def decW (ts : List T) (k : Nat) : List T := ts.set k { ts.getD k zT with waits := wrap64 ((ts.getD k zT).waits - 1) }
def setState (ts : List T) (i : Nat) (s : Int) : List T := ts.set i { ts.getD i zT with state := s }
def endTs (ts : List T) (i : Nat) : List T := ((ts.getD i zT).behind).foldl (fun ts k => decW ts k.toNat) (setState ts i 3)

theorem decW_len (ts : List T) (k : Nat) : (decW ts k).length = ts.length := by simp [decW]
theorem setState_len (ts : List T) (i : Nat) (s : Int) : (setState ts i s).length = ts.length := by simp [setState]
theorem foldl_len (l : List Int) (ts : List T) : (l.foldl (fun ts k => decW ts k.toNat) ts).length = ts.length := by
  induction l generalizing ts with
  | nil => rfl
  | cons k l ih => rw [List.foldl_cons, ih, decW_len]
theorem fold_take (l : List Int) (ts : List T) (k : Nat) (h : k < l.length) : (l.take (k + 1)).foldl (fun ts k => decW ts k.toNat) ts = decW ((l.take k).foldl (fun ts k => decW ts k.toNat) ts) (rd l k).toNat := by
  rw [List.take_succ_eq_append_getElem h, List.foldl_append]
  simp [rd, h]

set_option maxHeartbeats 1000000 in
theorem end_calls (P : Pl) (ts : List T) (has : List Int) (picks left : Int) (i : Nat) (w : World) (h : IsPlan w P ts has picks left) (hi : i < ts.length) (hb : ∀ k ∈ (ts.getD i zT).behind, 0 ≤ k ∧ k < ts.length) :
    Calls Try.prog 23 #[.pointer (some ⟨P.gp, 0, none⟩), .int .i64 i] w fun e w' => e = .returned (.tuple #[]) ∧ IsPlan w' P (endTs ts i) has picks (wrap64 (left - 1)) ∧ Stp w w' P := by
  obtain ⟨c0, c1, c2, c3⟩ := h.cellP
  have f0 := h.frP
  have ft := h.frT
  have t1 := h.cellT i 1 hi (by omega)
  have t3 := h.cellT i 3 hi (by omega)
  simp only [T.cells, List.getElem?_cons_zero, List.getElem?_cons_succ] at t1 t3
  have n1 := h.pt
  have n2 := h.pt.symm
  have hmem : ts.getD i zT ∈ ts := by rw [List.getD_eq_getElem?_getD, List.getElem?_eq_getElem hi]; exact List.getElem_mem hi
  have hR := h.rows _ hmem
  have hE : endTs ts i = ((ts.getD i zT).behind).foldl (fun ts k => decW ts k.toNat) (setState ts i 3) := rfl
  have hS := h.setT i 3 hi (by omega) (.int .i64 3) { ts.getD i zT with state := 3 } rfl ⟨rfl, rfl, rfl⟩
  have hS2 : IsPlan ((w.setCell ⟨P.gt, i * 4 + 3, none⟩ (.int .i64 3)).setCell ⟨P.gp, 3, none⟩ (.int .i64 (wrap64 (left - 1)))) P (setState ts i 3) has picks (wrap64 (left - 1)) := hS.setLeft _
  have hSt : Stp w ((w.setCell ⟨P.gt, i * 4 + 3, none⟩ (.int .i64 3)).setCell ⟨P.gp, 3, none⟩ (.int .i64 (wrap64 (left - 1)))) P := ((Stp.refl w P).setCell (.inr (.inl rfl)) _).setCell (.inl rfl) _
  clear hS hmem
  generalize ts.getD i zT = t at t1 t3 hb hR hE
  have HI := Aside0.mk h
  have HE := Aside0.mk hE
  have HS2 := Aside0.mk hS2
  have HSt := Aside0.mk hSt
  have HB := Aside0.mk hb
  have HR := Aside0.mk hR
  clear h hb hE hS2 hSt hR
  go_enter Try.func23, Try.ntmps23
  go_wp2
  generalize hW : (w.setCell ⟨P.gt, i * 4 + 3, none⟩ (.int .i64 3)).setCell ⟨P.gp, 3, none⟩ (.int .i64 (wrap64 (left - 1))) = W at HS2 HSt ⊢
  clear hW c0 c1 c2 c3 f0 ft t1 t3
  go_loopw [29] (fun j wr => ∃ k : Nat, k ≤ t.behind.length ∧ j = .int .i64 k ∧ Aside0 (IsPlan wr P ((t.behind.take k).foldl (fun ts k => decW ts k.toNat) (setState ts i 3)) has picks (wrap64 (left - 1))) ∧ Aside0 (Stp w wr P)) (fun i _ => t.behind.length - (intOf i).toNat)
  case atStart => exact ⟨0, by omega, rfl, HS2, HSt⟩
  case round =>
    obtain ⟨k, hk, rfl, HP, HT⟩ := hrel
    have hmax := Kd.C_max HR.out.2.1
    by_cases hlt : k < t.behind.length
    · have hb : decide (k < t.behind.length) = true := by simp; omega
      have hrows := rows_set (P := P) (ts := [t]) (w := w) (fun t' ht' => by rw [List.mem_singleton.1 ht']; exact HR.out) HT.out t (by simp)
      obtain ⟨ad, hA, hcell⟩ := Kd.at_int hrows.2.1 (k : Int) (by omega) (by omega)
      rw [Int.toNat_natCast] at hcell
      have hr : 0 ≤ rd t.behind k ∧ rd t.behind k < ts.length := by
        have := HB.out (rd t.behind k) (by unfold rd; rw [Int.toNat_natCast, List.getD_eq_getElem?_getD, List.getElem?_eq_getElem hlt]; exact List.getElem_mem hlt)
        exact this
      have HF := Aside0.mk (fold_take t.behind (setState ts i 3) k hlt)
      have hlen : ((t.behind.take k).foldl (fun ts k => decW ts k.toNat) (setState ts i 3)).length = ts.length := by rw [foldl_len, setState_len]
      generalize rd t.behind k = q at hcell hr HF
      obtain ⟨q, rfl⟩ := Int.eq_ofNat_of_zero_le hr.1
      rw [Int.toNat_natCast] at HF
      have hq : q < ts.length := by omega
      have hq2 : (q : Int) < (ts.length : Int) := by omega
      generalize (t.behind.take k).foldl (fun ts k => decW ts k.toNat) (setState ts i 3) = us at HP HF hlen
      obtain ⟨c0, c1, c2, c3⟩ := HP.out.cellP
      have ft := HP.out.frT
      have t0 := HP.out.cellT q 0 (by omega) (by omega)
      simp only [T.cells, List.getElem?_cons_zero, Nat.add_zero] at t0
      rw [hlen] at c0
      have HA := Aside0.mk hA
      have HL := Aside0.mk hlen
      clear hr hlen hA
      have hd := HP.out.setT q 0 (by rw [HL.out]; omega) (by omega) (.int .i64 (wrap64 ((us.getD q zT).waits - 1))) { us.getD q zT with waits := wrap64 ((us.getD q zT).waits - 1) } rfl ⟨rfl, rfl, rfl⟩
      have hd2 := Aside0.mk (show IsPlan _ P (decW us q) has picks (wrap64 (left - 1)) from hd)
      rw [Nat.add_zero] at hd2
      clear hd
      have HWt := Aside0.mk (show (us.getD q zT).waits = (us.getD q zT).waits from rfl)
      generalize (us.getD q zT).waits = wt at t0 hd2
      clear HWt
      rw [HA.out]
      go_wp2
      go_roundw
      case rel => exact ⟨k + 1, by omega, by go_num, ⟨by rw [HF.out]; exact hd2.out⟩, ⟨HT.out.setCell (.inr (.inl rfl)) _⟩⟩
      case measure => simp [intOf]; omega
    · have hb : decide (k < t.behind.length) = false := by simp; omega
      have hkl := Aside0.mk (show (t.behind.take k).foldl (fun ts k => decW ts k.toNat) (setState ts i 3) = endTs ts i by rw [HE.out, show k = t.behind.length by omega, List.take_length])
      go_wp2
      go_end0
      exact ⟨rfl, by rw [← hkl.out]; exact HP.out, HT.out⟩

theorem same_decW (ts : List T) (k : Nat) : SameRows ts (decW ts k) := SameRows.set ts k _ ⟨rfl, rfl, rfl⟩
theorem same_setState (ts : List T) (i : Nat) (s : Int) : SameRows ts (setState ts i s) := SameRows.set ts i _ ⟨rfl, rfl, rfl⟩
theorem same_fold (l : List Int) (ts : List T) : SameRows ts (l.foldl (fun ts k => decW ts k.toNat) ts) := by
  induction l generalizing ts with
  | nil => exact SameRows.refl _
  | cons k l ih => exact (same_decW ts k.toNat).trans (ih _)
theorem same_end (ts : List T) (i : Nat) : SameRows ts (endTs ts i) := (same_setState ts i 3).trans (same_fold _ _)
end Go.Proofs.Ytigpcfokmbnlaaa.Sched

/- The contract of (*Plan).first, with (*task).ready and with held. -/
namespace Go.Proofs.Ytigpcfokmbnlaaa.Sched
open Go.RowKit Go.Proofs.YtigpcfokmbnlaaaW.PrintWords

/-- The first task of which something is so; -1: there is none. -/
def firstI (so : T → Bool) (ts : List T) : Int := match ts.findIdx? so with
  | some i => i
  | none => -1
theorem firstI_some {so : T → Bool} {ts : List T} {k : Nat} (hk : k < ts.length) (h : so (ts.getD k zT) = true) (hb : ∀ j, j < k → so (ts.getD j zT) = false) : firstI so ts = k := by
  have : ts.findIdx? so = some k := by
    rw [List.findIdx?_eq_some_iff_getElem]
    refine ⟨hk, ?_, fun j hj => ?_⟩
    · rw [List.getD_eq_getElem?_getD, List.getElem?_eq_getElem hk] at h; exact h
    · have := hb j hj
      rw [List.getD_eq_getElem?_getD, List.getElem?_eq_getElem (by omega)] at this
      simpa using this
  unfold firstI
  rw [this]
theorem firstI_none {so : T → Bool} {ts : List T} (hb : ∀ j, j < ts.length → so (ts.getD j zT) = false) : firstI so ts = -1 := by
  have : ts.findIdx? so = none := by
    rw [List.findIdx?_eq_none_iff]
    intro x hx
    obtain ⟨j, hj, rfl⟩ := List.mem_iff_getElem.1 hx
    have := hb j hj
    rwa [List.getD_eq_getElem?_getD, List.getElem?_eq_getElem hj] at this
  unfold firstI
  rw [this]

set_option maxHeartbeats 1000000 in
theorem first_ready (P : Pl) (ts : List T) (has : List Int) (picks left : Int) (w : World) (h : IsPlan w P ts has picks left) :
    Calls Try.prog 25 #[.pointer (some ⟨P.gp, 0, none⟩), .func (.func 26) #[] #[]] w fun e w' => e = .returned (.int .i64 (firstI readyB ts)) ∧ Drawn0 w w' := by
  obtain ⟨c0, -, -, -⟩ := h.cellP
  have HI := Aside0.mk h
  have hlen := h.lent
  clear h
  go_enter Try.func25, Try.ntmps25
  go_wp2
  go_loopw [11] (fun i wr => ∃ k : Nat, k ≤ ts.length ∧ i = .int .i64 k ∧ Aside0 (∀ j, j < k → readyB (ts.getD j zT) = false) ∧ Drawn0 w wr) (fun i _ => ts.length - (intOf i).toNat)
  case atStart => exact ⟨0, by omega, rfl, ⟨fun j hj => by omega⟩, Drawn0.refl _⟩
  case round =>
    obtain ⟨k, hk, rfl, HK, ⟨m, rfl⟩⟩ := hrel
    by_cases hlt : k < ts.length
    · have hb : decide (k < ts.length) = true := by simp; omega
      have hlt2 : (k : Int) < (ts.length : Int) := by omega
      have t0 := HI.out.cellT k 0 hlt (by omega)
      have t3 := HI.out.cellT k 3 hlt (by omega)
      simp only [T.cells, List.getElem?_cons_zero, List.getElem?_cons_succ, Nat.add_zero] at t0 t3
      have HS := fun h : readyB (ts.getD k zT) = true => firstI_some hlt h HK.out
      have HN := fun h : readyB (ts.getD k zT) = false => (fun j (hj : j < k + 1) => if hjk : j < k then HK.out j hjk else by rw [show j = k by omega]; exact h : ∀ j, j < k + 1 → readyB (ts.getD j zT) = false)
      generalize ts.getD k zT = t at t0 t3 HS HN
      have HC := Aside0.mk (fun n => ready_calls P.gt (k * 4) t (w.drewN n) t0 t3)
      have HSa := Aside0.mk HS
      have HNa := Aside0.mk HN
      clear HS HN
      cases hr : readyB t
      · have HN2 := Aside0.mk (HNa.out hr)
        rw [hr] at HC
        clear hr HSa HNa
        go_wp2_with (go_at_call 26; refine (HC.out _).mono ?_; rintro e w' ⟨rfl, ⟨nd, rfl⟩⟩)
        go_roundw
        case rel => exact ⟨k + 1, by omega, by go_num, HN2, by repeat (first | exact Drawn0.refl _ | apply Drawn0.step)⟩
        case measure => simp [intOf]; omega
      · have HS2 := Aside0.mk (HSa.out hr)
        rw [hr] at HC
        clear hr HSa HNa
        go_wp2_with (go_at_call 26; refine (HC.out _).mono ?_; rintro e w' ⟨rfl, ⟨nd, rfl⟩⟩)
        go_ret
        exact ⟨by rw [HS2.out]; rfl, by repeat (first | exact Drawn0.refl _ | apply Drawn0.step)⟩
    · have hb : decide (k < ts.length) = false := by simp; omega
      have HF := Aside0.mk (firstI_none (so := readyB) (ts := ts) (fun j hj => HK.out j (by omega)))
      go_wp2
      go_ret
      exact ⟨by rw [HF.out]; rfl, by repeat (first | exact Drawn0.refl _ | apply Drawn0.step)⟩
set_option maxHeartbeats 1000000 in
theorem first_held (P : Pl) (ts : List T) (has : List Int) (picks left : Int) (w : World) (h : IsPlan w P ts has picks left) :
    Calls Try.prog 25 #[.pointer (some ⟨P.gp, 0, none⟩), .func (.func 27) #[] #[]] w fun e w' => e = .returned (.int .i64 (firstI heldB ts)) ∧ Drawn0 w w' := by
  obtain ⟨c0, -, -, -⟩ := h.cellP
  have HI := Aside0.mk h
  have hlen := h.lent
  clear h
  go_enter Try.func25, Try.ntmps25
  go_wp2
  go_loopw [11] (fun i wr => ∃ k : Nat, k ≤ ts.length ∧ i = .int .i64 k ∧ Aside0 (∀ j, j < k → heldB (ts.getD j zT) = false) ∧ Drawn0 w wr) (fun i _ => ts.length - (intOf i).toNat)
  case atStart => exact ⟨0, by omega, rfl, ⟨fun j hj => by omega⟩, Drawn0.refl _⟩
  case round =>
    obtain ⟨k, hk, rfl, HK, ⟨m, rfl⟩⟩ := hrel
    by_cases hlt : k < ts.length
    · have hb : decide (k < ts.length) = true := by simp; omega
      have hlt2 : (k : Int) < (ts.length : Int) := by omega
      have t2 := HI.out.cellT k 2 hlt (by omega)
      simp only [T.cells, List.getElem?_cons_zero, List.getElem?_cons_succ] at t2
      have HS := fun h : heldB (ts.getD k zT) = true => firstI_some hlt h HK.out
      have HN := fun h : heldB (ts.getD k zT) = false => (fun j (hj : j < k + 1) => if hjk : j < k then HK.out j hjk else by rw [show j = k by omega]; exact h : ∀ j, j < k + 1 → heldB (ts.getD j zT) = false)
      generalize ts.getD k zT = t at t2 HS HN
      have HC := Aside0.mk (fun n => held_calls P.gt (k * 4) t (w.drewN n) t2)
      have HSa := Aside0.mk HS
      have HNa := Aside0.mk HN
      clear HS HN
      cases hr : heldB t
      · have HN2 := Aside0.mk (HNa.out hr)
        rw [hr] at HC
        clear hr HSa HNa
        go_wp2_with (go_at_call 27; refine (HC.out _).mono ?_; rintro e w' ⟨rfl, ⟨nd, rfl⟩⟩)
        go_roundw
        case rel => exact ⟨k + 1, by omega, by go_num, HN2, by repeat (first | exact Drawn0.refl _ | apply Drawn0.step)⟩
        case measure => simp [intOf]; omega
      · have HS2 := Aside0.mk (HSa.out hr)
        rw [hr] at HC
        clear hr HSa HNa
        go_wp2_with (go_at_call 27; refine (HC.out _).mono ?_; rintro e w' ⟨rfl, ⟨nd, rfl⟩⟩)
        go_ret
        exact ⟨by rw [HS2.out]; rfl, by repeat (first | exact Drawn0.refl _ | apply Drawn0.step)⟩
    · have hb : decide (k < ts.length) = false := by simp; omega
      have HF := Aside0.mk (firstI_none (so := heldB) (ts := ts) (fun j hj => HK.out j (by omega)))
      go_wp2
      go_ret
      exact ⟨by rw [HF.out]; rfl, by repeat (first | exact Drawn0.refl _ | apply Drawn0.step)⟩
end Go.Proofs.Ytigpcfokmbnlaaa.Sched

/- The contract of (*Plan).goOn. -/
namespace Go.Proofs.Ytigpcfokmbnlaaa.Sched
open Go.RowKit Go.Proofs.YtigpcfokmbnlaaaW.PrintWords

/-- An event as a value. -/
def evV (k i w : Int) : Value := .agg #[.int .i64 k, .int .i64 i, .int .i64 w]
def ev3 (k i w : Int) : Array Value := #[.int .i64 k, .int .i64 i, .int .i64 w]
theorem ev3_one (k i w : Int) : (ev3 k i w).all (·.oneCell') = true := by simp [ev3, Value.oneCell']
theorem z33 (w : World) : (zeroValue 33).run Try.prog w = .ok (.agg #[.int .i64 0, .int .i64 0, .int .i64 0]) w := by kernel_rfl
def setWorker (ts : List T) (i : Nat) (s : Int) : List T := ts.set i { ts.getD i zT with worker := s }
theorem setWorker_len (ts : List T) (i : Nat) (s : Int) : (setWorker ts i s).length = ts.length := by simp [setWorker]

theorem gate_store {P : Program} {ops : Array Oper} {rest : List Oper} {o : Oper} {a : Act} {Q : Exit → Act → World → Prop} {W : World} {ty : TypeId} {x y : Operand} (_ho : o.op = .store ty x y) (h : wpList P ops Q (o :: rest) a W) : wpList P ops Q (o :: rest) a W := h
/-- A block laid last, its cells written over, the plan's own having been written before. -/
theorem setRow_last (w : World) (a : Addr) (u : Value) (c c' : Array Value) (t : TypeId) : ((w.setCell a u).alloc (.cells c t)).setRow w.heap.size c' = (w.setCell a u).alloc (.cells c' t) := by
  have := World.setRow_alloc_new (w.setCell a u) c c' t
  simpa using this
set_option maxHeartbeats 1000000 in
theorem goOn_took (P : Pl) (ts : List T) (has : List Int) (picks left : Int) (i wk : Nat) (w : World) (h : IsPlan w P ts has picks left) (hi : i < ts.length) (hs : (ts.getD i zT).state = 1) (hw : (ts.getD i zT).worker = wk) :
    Calls Try.prog 24 #[.pointer (some ⟨P.gp, 0, none⟩), .int .i64 i] w fun e w' => e = .returned (evV 2 i wk) ∧ IsPlan w' P (setState ts i 2) has picks left ∧ Stp w w' P := by
  have z33 := z33
  obtain ⟨c0, -, -, -⟩ := (h.keep (below_alloc (Below.refl _ _) (.cells #[.int .i64 0, .int .i64 0, .int .i64 0] 33))).cellP
  have h2 := h.keep (below_alloc (Below.refl _ _) (.cells #[.int .i64 0, .int .i64 0, .int .i64 0] 33))
  have ft := h2.frT
  have t2 := h2.cellT i 2 hi (by omega)
  have t3 := h2.cellT i 3 hi (by omega)
  simp only [T.cells, List.getElem?_cons_zero, List.getElem?_cons_succ] at t2 t3
  rw [hw] at t2
  rw [hs] at t3
  have hq := (h.setT i 3 hi (by omega) (.int .i64 2) { ts.getD i zT with state := 2 } rfl ⟨rfl, rfl, rfl⟩)
  have t4 := hq.cellT i 3 (by rw [List.length_set]; exact hi) (by omega)
  rw [show ((ts.set i { ts.getD i zT with state := 2 }).getD i zT) = { ts.getD i zT with state := 2 } by simp [List.getD_eq_getElem?_getD, hi]] at t4
  simp only [T.cells, List.getElem?_cons_zero, List.getElem?_cons_succ] at t4
  have HQ := Aside0.mk hq
  clear hq
  have hlt : P.gt < w.heap.size := (Array.getElem?_eq_some_iff.1 h.tasks).1
  have hlt2 : P.gp < w.heap.size := (Array.getElem?_eq_some_iff.1 h.plan).1
  have HI := Aside0.mk h
  clear h hs hw
  go_enter Try.func24, Try.ntmps24
  go_wp2_with (refine wpList_store_row rfl 33 _ _ rfl w.heap.size (ev3 2 i wk) rfl rfl 33 #[.int .i64 0, .int .i64 0, .int .i64 0] (by have := heap_alloc_new (w.setCell ⟨P.gt, i * 4 + 3, none⟩ (.int .i64 2)) (.cells #[.int .i64 0, .int .i64 0, .int .i64 0] 33); simpa using this) (by kernel_rfl) rfl (by rfl) ?_; rw [setRow_last])
  have HG : ((w.setCell ⟨P.gt, i * 4 + 3, none⟩ (.int .i64 2)).alloc (.cells (ev3 2 i wk) 33)).heap[w.heap.size]? = some (.cells (ev3 2 i wk) 33 (0, 0)) := by have := heap_alloc_new (w.setCell ⟨P.gt, i * 4 + 3, none⟩ (.int .i64 2)) (.cells (ev3 2 i wk) 33); simpa using this
  refine bodyPost_ret (v := .agg (ev3 2 i wk)) (results_cell_row rfl _ _ w.heap.size 33 (ev3 2 i wk) (0, 0) _ rfl HG Try.underlying33 rfl (by kernel_rfl)) rfl ⟨rfl, HQ.out.keep (below_alloc (Below.refl _ _) _), ?_⟩
  exact ((Stp.refl w P).setCell (.inr (.inl rfl)) _).alloc _

/-- A task that was run is ended: the tasks, then. -/
def ranTs (ts : List T) (i : Nat) : List T := setState (endTs (setWorker ts i (-1)) i) i 3
theorem same_setWorker (ts : List T) (i : Nat) (s : Int) : SameRows ts (setWorker ts i s) := SameRows.set ts i _ ⟨rfl, rfl, rfl⟩
theorem same_ran (ts : List T) (i : Nat) : SameRows ts (ranTs ts i) := ((same_setWorker ts i (-1)).trans (same_end _ _)).trans (same_setState _ _ _)
theorem endTs_len (ts : List T) (i : Nat) : (endTs ts i).length = ts.length := by unfold endTs; rw [foldl_len, setState_len]
theorem getD_set (ts : List T) (i : Nat) (t : T) (hi : i < ts.length) : (ts.set i t).getD i zT = t := by simp [List.getD_eq_getElem?_getD, hi]

set_option maxHeartbeats 2000000 in
theorem goOn_ran (P : Pl) (ts : List T) (has : List Int) (picks left : Int) (i wk : Nat) (w : World) (h : IsPlan w P ts has picks left) (hi : i < ts.length) (hs : (ts.getD i zT).state = 2) (hw : (ts.getD i zT).worker = wk) (hwk : wk < has.length)
    (hb : ∀ k ∈ (ts.getD i zT).behind, 0 ≤ k ∧ k < ts.length) :
    Calls Try.prog 24 #[.pointer (some ⟨P.gp, 0, none⟩), .int .i64 i] w fun e w' => e = .returned (evV 3 i wk) ∧ IsPlan w' P (ranTs ts i) (has.set wk (-1)) picks (wrap64 (left - 1)) ∧ Stp w w' P := by
  have z33 := z33
  have h2 := h.keep (below_alloc (Below.refl _ _) (.cells #[.int .i64 0, .int .i64 0, .int .i64 0] 33))
  obtain ⟨c0, c1, -, -⟩ := h2.cellP
  have ft := h2.frT
  have fh := h2.frH
  have t2 := h2.cellT i 2 hi (by omega)
  have t3 := h2.cellT i 3 hi (by omega)
  have th := h2.cellH wk hwk
  have th0 := h.cellH wk hwk
  have fh0 := h.frH
  have ft0 := h.frT
  simp only [T.cells, List.getElem?_cons_zero, List.getElem?_cons_succ] at t2 t3
  rw [hw] at t2
  rw [hs] at t3
  have hA := (h.setT i 2 hi (by omega) (.int .i64 (-1)) { ts.getD i zT with worker := -1 } rfl ⟨rfl, rfl, rfl⟩)
  have hq := hA.setH wk hwk (-1)
  have hsA : Stp w ((w.setCell ⟨P.gt, i * 4 + 2, none⟩ (.int .i64 (-1))).setCell ⟨P.gh, wk, none⟩ (.int .i64 (-1))) P := ((Stp.refl w P).setCell (.inr (.inl rfl)) _).setCell (.inr (.inr rfl)) _
  have hbe : ((setWorker ts i (-1)).getD i zT).behind = (ts.getD i zT).behind := by unfold setWorker; rw [getD_set _ _ _ hi]
  have HQ := Aside0.mk (show IsPlan _ P (setWorker ts i (-1)) (has.set wk (-1)) picks left from hq)
  have HSA := Aside0.mk hsA
  have hlt : P.gt < w.heap.size := (Array.getElem?_eq_some_iff.1 h.tasks).1
  have hlt2 : P.gp < w.heap.size := (Array.getElem?_eq_some_iff.1 h.plan).1
  have hlt3 : P.gh < w.heap.size := by obtain ⟨rest, hr⟩ := h.hass; exact (Array.getElem?_eq_some_iff.1 hr).1
  have n1 := h.th
  have n2 := h.th.symm
  have hwk2 : (wk : Int) < (has.length : Int) := by omega
  have HI := Aside0.mk h
  have HBB := Aside0.mk hb
  have HBE := Aside0.mk hbe
  clear h hs hw hA hq hsA hb hbe
  go_enter Try.func24, Try.ntmps24
  go_wp2_with fail
  have hq2 := HQ.out.keep (below_alloc (Below.refl _ _) (.cells #[.int .i64 0, .int .i64 0, .int .i64 0] 33))
  refine (end_calls P _ _ _ _ i _ hq2 (by rw [setWorker_len]; exact hi) (by rw [HBE.out, setWorker_len]; exact HBB.out)).mono ?_
  rintro e w5 ⟨rfl, hP5, hS5⟩
  have hblk5 : w5.heap[w.heap.size]? = some (.cells #[.int .i64 0, .int .i64 0, .int .i64 0] 33 (0, 0)) := by
    rw [hS5.block w.heap.size (by simp) (by omega) (by omega) (by omega)]
    have := heap_alloc_new ((w.setCell ⟨P.gt, i * 4 + 2, none⟩ (.int .i64 (-1))).setCell ⟨P.gh, wk, none⟩ (.int .i64 (-1))) (.cells #[.int .i64 0, .int .i64 0, .int .i64 0] 33)
    simpa using this
  have hlen5 : (endTs (setWorker ts i (-1)) i).length = ts.length := by rw [endTs_len, setWorker_len]
  have u3 := hP5.cellT i 3 (by omega) (by omega)
  have fu := hP5.frT
  have hq6 := hP5.setT i 3 (by omega) (by omega) (.int .i64 3) { (endTs (setWorker ts i (-1)) i).getD i zT with state := 3 } rfl ⟨rfl, rfl, rfl⟩
  have u4 := hq6.cellT i 3 (by rw [List.length_set]; omega) (by omega)
  rw [getD_set _ _ _ (by omega)] at u4
  simp only [T.cells, List.getElem?_cons_zero, List.getElem?_cons_succ] at u3 u4
  generalize ((endTs (setWorker ts i (-1)) i).getD i zT).state = s5 at u3
  have HQ6 := Aside0.mk (show IsPlan _ P (ranTs ts i) (has.set wk (-1)) picks (wrap64 (left - 1)) from hq6)
  have HS6 := Aside0.mk ((((HSA.out.alloc _).trans hS5).setCell (p := ⟨P.gt, i * 4 + 3, none⟩) (.inr (.inl rfl)) (.int .i64 3)))
  have HK5 := Aside0.mk hblk5
  have hgw : P.gt ≠ w.heap.size := by omega
  clear hq2 hP5 hS5 hblk5 hq6 hlen5 c0 c1 ft fh t2 t3 th th0 fh0 ft0
  have HK6 : Aside0 ((w5.setCell ⟨P.gt, i * 4 + 3, none⟩ (.int .i64 3)).heap[w.heap.size]? = some (.cells #[.int .i64 0, .int .i64 0, .int .i64 0] 33 (0, 0))) := ⟨by rw [heap_setCell_other _ _ _ _ hgw.symm]; exact HK5.out⟩
  have H2 := Aside0.mk (ev3_one 3 i wk)
  go_wp2_with (refine wpList_store_row rfl 33 _ _ rfl w.heap.size (ev3 3 i wk) rfl rfl 33 #[.int .i64 0, .int .i64 0, .int .i64 0] HK6.out (by kernel_rfl) rfl H2.out ?_)
  have HG := setRow_heap _ w.heap.size #[.int .i64 0, .int .i64 0, .int .i64 0] (ev3 3 i wk) 33 (0, 0) HK6.out
  refine bodyPost_ret (v := .agg (ev3 3 i wk)) (results_cell_row rfl _ _ w.heap.size 33 (ev3 3 i wk) (0, 0) _ rfl HG Try.underlying33 rfl (by kernel_rfl)) rfl ⟨rfl, ?_, ?_⟩
  · exact HI.out.rebuild (HS6.out.setRow _ (Nat.le_refl _)) HQ6.out (same_ran ts i) (fun k hk => setRow_other _ _ _ _ (by rcases hk with hk | hk | hk <;> omega))
  · exact HS6.out.setRow _ (Nat.le_refl _)
end Go.Proofs.Ytigpcfokmbnlaaa.Sched

/- The contract of (*Plan).Pick, case by case. -/
namespace Go.Proofs.Ytigpcfokmbnlaaa.Sched
open Go.RowKit Go.Proofs.YtigpcfokmbnlaaaW.PrintWords

/-- An error of package api as a value; 0: none. -/
def errV (n : Int) : Value := if n = 0 then .nilIface else .iface 43 (.int .i64 n)
/-- What Pick answers. -/
def pickV (k i w n : Int) : Value := .tuple #[.agg (ev3 k i w), errV n]

theorem results11 (tmps : Array Value) (W : World) (g : Nat) (k i w n : Int) (h4 : tmps.getD 4 undef = .pointer (some ⟨g, 0, none⟩)) (h5 : tmps.getD 5 undef = errV n) (hg : W.heap[g]? = some (.cells (ev3 k i w) 33 (0, 0))) :
    (results Try.f11 tmps).run Try.prog W = .ok (pickV k i w n) W := by
  have hl := run_loadVar_row (P := Try.prog) W g 33 33 (ev3 k i w) (0, 0) _ hg Try.underlying33 rfl (by kernel_rfl)
  have h4' : tmps[4]?.getD undef = .pointer (some ⟨g, 0, none⟩) := by simpa using h4
  have h5' : tmps[5]?.getD undef = errV n := by simpa using h5
  simp [results, Try.results11, h4', h5', asAddr, hl, pickV]

set_option maxHeartbeats 1000000 in
theorem pick_nil (n : Int) (w : World) :
    Calls Try.prog 11 #[.pointer none, .int .i64 n] w fun e w' => e = .returned (pickV 0 0 0 12) ∧ Below w.heap.size w w' := by
  have z33 := z33
  have H2 := Aside0.mk (ev3_one 0 0 0)
  go_enter Try.func11, Try.ntmps11
  go_wp2_with (refine wpList_store_row rfl 33 _ _ rfl w.heap.size (ev3 0 0 0) rfl rfl 33 #[.int .i64 0, .int .i64 0, .int .i64 0] (heap_alloc_new _ _) (by kernel_rfl) rfl H2.out ?_; rw [World.setRow_alloc_new])
  refine bodyPost_ret (v := pickV 0 0 0 12) (results11 _ _ w.heap.size 0 0 0 12 rfl rfl (heap_alloc_new _ _)) rfl ⟨rfl, below_alloc (Below.refl _ _) _⟩

section
variable (P : Pl) (ts : List T) (has : List Int) (picks left : Int) (w : World)
set_option maxHeartbeats 1000000 in
theorem pick_range (n : Int) (h : IsPlan w P ts has picks left) (hn : n < 0 ∨ has.length ≤ n) :
    Calls Try.prog 11 #[.pointer (some ⟨P.gp, 0, none⟩), .int .i64 n] w fun e w' => e = .returned (pickV 0 0 0 1) ∧ Below w.heap.size w w' := by
  have z33 := z33
  have H2 := Aside0.mk (ev3_one 0 0 0)
  have h2 := h.keep (below_alloc (Below.refl _ _) (.cells #[.int .i64 0, .int .i64 0, .int .i64 0] 33))
  obtain ⟨-, c1, -, -⟩ := h2.cellP
  clear h h2
  by_cases hneg : n < 0
  · have b1 : decide (n < 0) = true := by simp; omega
    clear hn
    go_enter Try.func11, Try.ntmps11
    go_wp2_with (refine wpList_store_row rfl 33 _ _ rfl w.heap.size (ev3 0 0 0) rfl rfl 33 #[.int .i64 0, .int .i64 0, .int .i64 0] (heap_alloc_new _ _) (by kernel_rfl) rfl H2.out ?_; rw [World.setRow_alloc_new])
    refine bodyPost_ret (v := pickV 0 0 0 1) (results11 _ _ w.heap.size 0 0 0 1 rfl rfl (heap_alloc_new _ _)) rfl ⟨rfl, below_alloc (Below.refl _ _) _⟩
  · have b1 : decide (n < 0) = false := by simp; omega
    have b2 : decide ((has.length : Int) ≤ n) = true := by simp; omega
    clear hn
    go_enter Try.func11, Try.ntmps11
    go_wp2_with (refine wpList_store_row rfl 33 _ _ rfl w.heap.size (ev3 0 0 0) rfl rfl 33 #[.int .i64 0, .int .i64 0, .int .i64 0] (heap_alloc_new _ _) (by kernel_rfl) rfl H2.out ?_; rw [World.setRow_alloc_new])
    refine bodyPost_ret (v := pickV 0 0 0 1) (results11 _ _ w.heap.size 0 0 0 1 rfl rfl (heap_alloc_new _ _)) rfl ⟨rfl, below_alloc (Below.refl _ _) _⟩

set_option maxHeartbeats 1000000 in
theorem pick_end (n : Nat) (h : IsPlan w P ts has picks left) (hn : n < has.length) (hl : left = 0) :
    Calls Try.prog 11 #[.pointer (some ⟨P.gp, 0, none⟩), .int .i64 n] w fun e w' => e = .returned (pickV 0 0 0 12) ∧ Below w.heap.size w w' := by
  subst hl
  have z33 := z33
  have H2 := Aside0.mk (ev3_one 0 0 0)
  have h2 := h.keep (below_alloc (Below.refl _ _) (.cells #[.int .i64 0, .int .i64 0, .int .i64 0] 33))
  obtain ⟨-, c1, -, c3⟩ := h2.cellP
  clear h h2
  have b2 : decide (has.length ≤ n) = false := by simp; omega
  go_enter Try.func11, Try.ntmps11
  go_wp2_with (refine wpList_store_row rfl 33 _ _ rfl w.heap.size (ev3 0 0 0) rfl rfl 33 #[.int .i64 0, .int .i64 0, .int .i64 0] (heap_alloc_new _ _) (by kernel_rfl) rfl H2.out ?_; rw [World.setRow_alloc_new])
  refine bodyPost_ret (v := pickV 0 0 0 12) (results11 _ _ w.heap.size 0 0 0 12 rfl rfl (heap_alloc_new _ _)) rfl ⟨rfl, below_alloc (Below.refl _ _) _⟩

set_option maxHeartbeats 2000000 in
theorem pick_goOn (n i : Nat) (k wk : Int) (us : List T) (has' : List Int) (left' : Int) (h : IsPlan w P ts has picks left) (hn : n < has.length) (hl : left ≠ 0) (hh : has.getD n 0 = (i : Int)) (hr : SameRows ts us)
    (hg : ∀ W, IsPlan W P ts has (wrap64 (picks + 1)) left → Calls Try.prog 24 #[.pointer (some ⟨P.gp, 0, none⟩), .int .i64 i] W fun e w' => e = .returned (evV k i wk) ∧ IsPlan w' P us has' (wrap64 (picks + 1)) left' ∧ Stp W w' P) :
    Calls Try.prog 11 #[.pointer (some ⟨P.gp, 0, none⟩), .int .i64 n] w fun e w' => e = .returned (pickV k i wk 0) ∧ IsPlan w' P us has' (wrap64 (picks + 1)) left' ∧ Stp w w' P := by
  have z33 := z33
  have H2 := Aside0.mk (ev3_one k i wk)
  have h2 := h.keep (below_alloc (Below.refl _ _) (.cells #[.int .i64 0, .int .i64 0, .int .i64 0] 33))
  obtain ⟨c0, c1, c2, c3⟩ := h2.cellP
  obtain ⟨d0, d1, d2, d3⟩ := h.cellP
  have fp := h2.frP
  have fp0 := h.frP
  have ch := h2.cellH n hn
  have ch0 := h.cellH n hn
  rw [hh] at ch ch0
  have b2 : decide (has.length ≤ n) = false := by simp; omega
  have b3 : (left == 0) = false := by rw [beq_eq_false_iff_ne]; exact hl
  have b4 : ((i : Int) != -1) = true := by rw [bne_iff_ne]; omega
  have n1 := h.ph
  have n2 := h.ph.symm
  obtain ⟨l1, l2, l3⟩ := h.lts
  have hq := h.setPicks (wrap64 (picks + 1))
  have HQ := Aside0.mk hq
  have HI := Aside0.mk h
  have HG := Aside0.mk hg
  clear h h2 hh hg hq
  go_enter Try.func11, Try.ntmps11
  go_wp2_with fail
  have hq2 := HQ.out.keep (below_alloc (Below.refl _ _) (.cells #[.int .i64 0, .int .i64 0, .int .i64 0] 33))
  refine (HG.out _ hq2).mono ?_
  rintro e w5 ⟨rfl, hP5, hS5⟩
  have hblk5 : w5.heap[w.heap.size]? = some (.cells #[.int .i64 0, .int .i64 0, .int .i64 0] 33 (0, 0)) := by
    rw [hS5.block w.heap.size (by simp) (by omega) (by omega) (by omega)]
    have := heap_alloc_new (w.setCell ⟨P.gp, 2, none⟩ (.int .i64 (wrap64 (picks + 1)))) (.cells #[.int .i64 0, .int .i64 0, .int .i64 0] 33)
    simpa using this
  have HK5 := Aside0.mk hblk5
  have HP5 := Aside0.mk hP5
  have HS5 := Aside0.mk ((((Stp.refl w P).setCell (p := ⟨P.gp, 2, none⟩) (.inl rfl) (.int .i64 (wrap64 (picks + 1)))).alloc (.cells #[.int .i64 0, .int .i64 0, .int .i64 0] 33)).trans hS5)
  clear hq2 hP5 hS5 hblk5 c0 c1 c2 c3 d0 d1 d2 d3 fp fp0 ch ch0
  unfold evV
  go_wp2_with (refine wpList_store_row rfl 33 _ _ rfl w.heap.size (ev3 k i wk) rfl rfl 33 #[.int .i64 0, .int .i64 0, .int .i64 0] HK5.out (by kernel_rfl) rfl H2.out ?_)
  have HGr := setRow_heap _ w.heap.size #[.int .i64 0, .int .i64 0, .int .i64 0] (ev3 k i wk) 33 (0, 0) HK5.out
  refine bodyPost_ret (v := pickV k i wk 0) (results11 _ _ w.heap.size k i wk 0 rfl rfl HGr) rfl ⟨rfl, ?_, HS5.out.setRow _ (Nat.le_refl _)⟩
  exact HI.out.rebuild (HS5.out.setRow _ (Nat.le_refl _)) HP5.out hr (fun k hk => setRow_other _ _ _ _ (by rcases hk with hk | hk | hk <;> omega))

set_option maxHeartbeats 2000000 in
theorem pick_help (n i : Nat) (k wk : Int) (us : List T) (has' : List Int) (left' : Int) (h : IsPlan w P ts has picks left) (hn : n < has.length) (hl : left ≠ 0) (hh : has.getD n 0 = -1) (hrd : firstI readyB ts = -1) (hhd : firstI heldB ts = (i : Int)) (hr : SameRows ts us)
    (hg : ∀ W, IsPlan W P ts has (wrap64 (picks + 1)) left → Calls Try.prog 24 #[.pointer (some ⟨P.gp, 0, none⟩), .int .i64 i] W fun e w' => e = .returned (evV k i wk) ∧ IsPlan w' P us has' (wrap64 (picks + 1)) left' ∧ Stp W w' P) :
    Calls Try.prog 11 #[.pointer (some ⟨P.gp, 0, none⟩), .int .i64 n] w fun e w' => e = .returned (pickV k i wk 0) ∧ IsPlan w' P us has' (wrap64 (picks + 1)) left' ∧ Stp w w' P := by
  have z33 := z33
  have H2 := Aside0.mk (ev3_one k i wk)
  have h2 := h.keep (below_alloc (Below.refl _ _) (.cells #[.int .i64 0, .int .i64 0, .int .i64 0] 33))
  obtain ⟨c0, c1, c2, c3⟩ := h2.cellP
  obtain ⟨d0, d1, d2, d3⟩ := h.cellP
  have fp := h2.frP
  have fp0 := h.frP
  have ch := h2.cellH n hn
  have ch0 := h.cellH n hn
  rw [hh] at ch ch0
  have b2 : decide (has.length ≤ n) = false := by simp; omega
  have b3 : (left == 0) = false := by rw [beq_eq_false_iff_ne]; exact hl
  have n1 := h.ph
  have n2 := h.ph.symm
  obtain ⟨l1, l2, l3⟩ := h.lts
  have hq := h.setPicks (wrap64 (picks + 1))
  have HQ := Aside0.mk hq
  have HI := Aside0.mk h
  have HG := Aside0.mk hg
  have HR := Aside0.mk hrd
  have HH := Aside0.mk hhd
  clear h h2 hh hg hq hrd hhd
  go_enter Try.func11, Try.ntmps11
  go_wp2_with fail
  have hq2 := HQ.out.keep (below_alloc (Below.refl _ _) (.cells #[.int .i64 0, .int .i64 0, .int .i64 0] 33))
  refine (first_ready P ts has _ left _ hq2).mono ?_
  rintro e w3 ⟨rfl, ⟨nd3, rfl⟩⟩
  rw [HR.out]
  go_wp2_with fail
  refine (first_held P ts has _ left _ (hq2.drewN nd3)).mono ?_
  rintro e w4 ⟨rfl, ⟨nd4, rfl⟩⟩
  rw [HH.out]
  go_wp2_with fail
  have hq4 : IsPlan (((w.setCell ⟨P.gp, 2, none⟩ (.int .i64 (wrap64 (picks + 1)))).alloc (.cells #[.int .i64 0, .int .i64 0, .int .i64 0] 33)).drewN (nd3 + nd4)) P ts has (wrap64 (picks + 1)) left := hq2.drewN _
  refine (HG.out _ hq4).mono ?_
  rintro e w5 ⟨rfl, hP5, hS5⟩
  have hblk5 : w5.heap[w.heap.size]? = some (.cells #[.int .i64 0, .int .i64 0, .int .i64 0] 33 (0, 0)) := by
    rw [hS5.block w.heap.size (by show w.heap.size < ((w.setCell ⟨P.gp, 2, none⟩ (.int .i64 (wrap64 (picks + 1)))).alloc (.cells #[.int .i64 0, .int .i64 0, .int .i64 0] 33)).heap.size; simp) (by omega) (by omega) (by omega)]
    have := heap_alloc_new (w.setCell ⟨P.gp, 2, none⟩ (.int .i64 (wrap64 (picks + 1)))) (.cells #[.int .i64 0, .int .i64 0, .int .i64 0] 33)
    have this2 : ((w.setCell ⟨P.gp, 2, none⟩ (.int .i64 (wrap64 (picks + 1)))).alloc (.cells #[.int .i64 0, .int .i64 0, .int .i64 0] 33)).heap[w.heap.size]? = some (.cells #[.int .i64 0, .int .i64 0, .int .i64 0] 33 (0, 0)) := by simpa using this
    exact this2
  have HK5 := Aside0.mk hblk5
  have HP5 := Aside0.mk hP5
  have HS5 := Aside0.mk (((((Stp.refl w P).setCell (p := ⟨P.gp, 2, none⟩) (.inl rfl) (.int .i64 (wrap64 (picks + 1)))).alloc (.cells #[.int .i64 0, .int .i64 0, .int .i64 0] 33)).drewN (nd3 + nd4)).trans hS5)
  clear hq2 hq4 hP5 hS5 hblk5 c0 c1 c2 c3 d0 d1 d2 d3 fp fp0 ch ch0
  unfold evV
  go_wp2_with (refine wpList_store_row rfl 33 _ _ rfl w.heap.size (ev3 k i wk) rfl rfl 33 #[.int .i64 0, .int .i64 0, .int .i64 0] HK5.out (by kernel_rfl) rfl H2.out ?_)
  have HGr := setRow_heap _ w.heap.size #[.int .i64 0, .int .i64 0, .int .i64 0] (ev3 k i wk) 33 (0, 0) HK5.out
  refine bodyPost_ret (v := pickV k i wk 0) (results11 _ _ w.heap.size k i wk 0 rfl rfl HGr) rfl ⟨rfl, ?_, HS5.out.setRow _ (Nat.le_refl _)⟩
  exact HI.out.rebuild (HS5.out.setRow _ (Nat.le_refl _)) HP5.out hr (fun k hk => setRow_other _ _ _ _ (by rcases hk with hk | hk | hk <;> omega))
end
end Go.Proofs.Ytigpcfokmbnlaaa.Sched
