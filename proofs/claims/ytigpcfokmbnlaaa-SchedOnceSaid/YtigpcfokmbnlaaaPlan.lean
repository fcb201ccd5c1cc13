/- A plan in memory: the words that the walks of package sched use, and the plain functions that they come to. -/
import Derived.Test.YtigpcfokmbnlaaaRows
import Derived.Test.YtigpcfokmbnlaaaWMore
import Derived.Test.YtigpcfokmbnlaaaWAt
import Derived.WalkKit
import Derived.WalkSpells
import Derived.WalkLawsBesides
import Derived.Outline
import Derived.Deep.RegionHeld3
namespace Go.Proofs.Ytigpcfokmbnlaaa.Sched
open Go.RowKit Go.Proofs.YtigpcfokmbnlaaaW.PrintWords

/-- A task: on how many it waits; which wait for it (the row's place, its room, its numbers); its worker; its state. -/
structure T where
  waits : Int
  A : Option Addr
  cap : Nat
  behind : List Int
  worker : Int
  state : Int
def T.cells (t : T) : List Value := [.int .i64 t.waits, .slice t.A t.behind.length t.cap, .int .i64 t.worker, .int .i64 t.state]
theorem T.cells_len (t : T) : t.cells.length = 4 := rfl
def tcells (ts : List T) : List Value := ts.flatMap T.cells
theorem tcells_len (ts : List T) : (tcells ts).length = ts.length * 4 := by
  induction ts with
  | nil => rfl
  | cons t ts ih => simp only [tcells, List.flatMap_cons, List.length_append, T.cells_len, List.length_cons] at ih ⊢; omega
def zT : T := ⟨0, none, 0, [], 0, 0⟩
theorem tcells_at (ts : List T) (i f : Nat) (hi : i < ts.length) (hf : f < 4) : (tcells ts)[i * 4 + f]? = (ts.getD i zT).cells[f]? := by
  induction ts generalizing i with
  | nil => simp at hi
  | cons t ts ih =>
    simp only [tcells, List.flatMap_cons]
    cases i with
    | zero =>
      rw [List.getElem?_append_left (by rw [T.cells_len]; omega)]
      simp
    | succ i =>
      rw [List.getElem?_append_right (by rw [T.cells_len]; omega), T.cells_len, show (i + 1) * 4 + f - 4 = i * 4 + f by omega]
      have := ih i (by simpa using hi)
      simpa [tcells] using this
/-- One cell of one task, written. -/
theorem tcells_set (ts : List T) (i f : Nat) (hi : i < ts.length) (hf : f < 4) (u : Value) (t' : T) (h : (ts.getD i zT).cells.set f u = t'.cells) : (tcells ts).set (i * 4 + f) u = tcells (ts.set i t') := by
  induction ts generalizing i with
  | nil => simp at hi
  | cons t ts ih =>
    simp only [tcells, List.flatMap_cons]
    cases i with
    | zero =>
      rw [List.set_append_left _ _ (by rw [T.cells_len]; omega), List.set_cons_zero, List.flatMap_cons]
      simp at h
      simp [h]
    | succ i =>
      rw [List.set_append_right _ _ (by rw [T.cells_len]; omega), T.cells_len, show (i + 1) * 4 + f - 4 = i * 4 + f by omega, List.set_cons_succ, List.flatMap_cons]
      have := ih i (by simpa using hi) (by simpa using h)
      simp only [tcells] at this
      rw [this]

/-- Where a plan lies: the plan itself, its tasks, its workers' row and that row's room. -/
structure Pl where
  gp : Nat
  gt : Nat
  gh : Nat
  hcap : Nat

/-- Of what was there, nothing has turned but the plan's three blocks. -/
structure Stp (w w' : World) (P : Pl) : Prop where
  os : w'.os = w.os
  tape : w'.tape = w.tape
  output : w'.output = w.output
  size : w.heap.size ≤ w'.heap.size
  block : ∀ k, k < w.heap.size → k ≠ P.gp → k ≠ P.gt → k ≠ P.gh → w'.heap[k]? = w.heap[k]?
theorem Stp.refl (w : World) (P : Pl) : Stp w w P := ⟨rfl, rfl, rfl, Nat.le_refl _, fun _ _ _ _ _ => rfl⟩
theorem Stp.trans {a b c : World} {P : Pl} (h : Stp a b P) (k : Stp b c P) : Stp a c P :=
  ⟨k.os.trans h.os, k.tape.trans h.tape, k.output.trans h.output, Nat.le_trans h.size k.size, fun i hi h1 h2 h3 => (k.block i (Nat.lt_of_lt_of_le hi h.size) h1 h2 h3).trans (h.block i hi h1 h2 h3)⟩
theorem Stp.of_below {w w1 w2 : World} {P : Pl} (h : Stp w w1 P) (hb : Below w1.heap.size w1 w2) : Stp w w2 P :=
  h.trans ⟨hb.os, hb.tape, hb.output, hb.size, fun i hi _ _ _ => hb.block i hi⟩
theorem Stp.drewN {w w1 : World} {P : Pl} (h : Stp w w1 P) (n : Nat) : Stp w (w1.drewN n) P := ⟨h.os, h.tape, h.output, h.size, h.block⟩
theorem Stp.drew {w w1 : World} {P : Pl} (h : Stp w w1 P) : Stp w w1.drew P := ⟨h.os, h.tape, h.output, h.size, h.block⟩
theorem Stp.setCell {w w1 : World} {P : Pl} (h : Stp w w1 P) {p : Addr} (hp : p.block = P.gp ∨ p.block = P.gt ∨ p.block = P.gh) (u : Value) : Stp w (w1.setCell p u) P :=
  h.trans ⟨rfl, rfl, rfl, by simp [World.setCell], fun k _ h1 h2 h3 => Below.heap_setCell _ _ _ _ (by rcases hp with hp | hp | hp <;> (rw [hp]; assumption))⟩
theorem Stp.alloc {w w1 : World} {P : Pl} (h : Stp w w1 P) (o : Obj) : Stp w (w1.alloc o) P := h.of_below (below_alloc (Below.refl _ _) o)
/-- What lies below the plan's blocks is as it was. -/
theorem Stp.below {B : Nat} {w w1 : World} {P : Pl} (h : Stp w w1 P) (h1 : B ≤ P.gp) (h2 : B ≤ P.gt) (h3 : B ≤ P.gh) (hB : B ≤ w.heap.size) : Below B w w1 :=
  ⟨h.os, h.tape, h.output, h.size, fun k hk => h.block k (by omega) (by omega) (by omega) (by omega)⟩

structure IsPlan (w : World) (P : Pl) (ts : List T) (has : List Int) (picks left : Int) : Prop where
  pt : P.gp ≠ P.gt
  ph : P.gp ≠ P.gh
  th : P.gt ≠ P.gh
  plan : w.heap[P.gp]? = some (.cells #[.slice (some ⟨P.gt, 0, none⟩) ts.length ts.length, .slice (some ⟨P.gh, 0, none⟩) has.length P.hcap, .int .i64 picks, .int .i64 left] 59)
  tasks : w.heap[P.gt]? = some (.cells (tcells ts).toArray 61)
  hass : ∃ rest, w.heap[P.gh]? = some (.cells (nums .i64 has ++ rest).toArray 3)
  room : has.length ≤ P.hcap
  lent : ts.length ≤ 1000000
  lenh : has.length ≤ 1000000
  rows : ∀ t ∈ ts, t.behind.length ≤ t.cap ∧ (Kd.int .i64).C w t.A t.behind.length t.behind ∧ (∀ ad, t.A = some ad → 0 < t.behind.length → ad.block ≠ P.gp ∧ ad.block ≠ P.gt ∧ ad.block ≠ P.gh)

section
variable {w w' : World} {P : Pl} {ts : List T} {has : List Int} {picks left : Int}
theorem IsPlan.cellP (h : IsPlan w P ts has picks left) : w.cell? ⟨P.gp, 0, none⟩ = some (.slice (some ⟨P.gt, 0, none⟩) ts.length ts.length) ∧ w.cell? ⟨P.gp, 1, none⟩ = some (.slice (some ⟨P.gh, 0, none⟩) has.length P.hcap) ∧ w.cell? ⟨P.gp, 2, none⟩ = some (.int .i64 picks) ∧ w.cell? ⟨P.gp, 3, none⟩ = some (.int .i64 left) := by
  refine ⟨?_, ?_, ?_, ?_⟩ <;> (rw [cell_of_row _ _ _ _ _ _ h.plan]; rfl)
theorem IsPlan.frP (h : IsPlan w P ts has picks left) (j : Nat) : w.frozen? ⟨P.gp, j, none⟩ = false := frozen_of_row _ _ _ _ _ h.plan
theorem IsPlan.frT (h : IsPlan w P ts has picks left) (j : Nat) : w.frozen? ⟨P.gt, j, none⟩ = false := frozen_of_row _ _ _ _ _ h.tasks
theorem IsPlan.frH (h : IsPlan w P ts has picks left) (j : Nat) : w.frozen? ⟨P.gh, j, none⟩ = false := by
  obtain ⟨rest, hr⟩ := h.hass
  exact frozen_of_row _ _ _ _ _ hr
theorem IsPlan.cellT (h : IsPlan w P ts has picks left) (i f : Nat) (hi : i < ts.length) (hf : f < 4) : w.cell? ⟨P.gt, i * 4 + f, none⟩ = (ts.getD i zT).cells[f]? := by
  rw [cell_of_row _ _ _ _ _ _ h.tasks]
  simpa using tcells_at ts i f hi hf
theorem IsPlan.cellH (h : IsPlan w P ts has picks left) (i : Nat) (hi : i < has.length) : w.cell? ⟨P.gh, i, none⟩ = some (.int .i64 (has.getD i 0)) := by
  obtain ⟨rest, hr⟩ := h.hass
  rw [cell_of_row _ _ _ _ _ _ hr]
  simp [nums, hi, List.getElem?_append]
/-- Kept by whatever leaves the plan's blocks and the rows alone. -/
theorem IsPlan.keep (h : IsPlan w P ts has picks left) (hb : Below w.heap.size w w') : IsPlan w' P ts has picks left := by
  have lt : ∀ {g : Nat} {o : Obj}, w.heap[g]? = some o → g < w.heap.size := fun h => (Array.getElem?_eq_some_iff.1 h).1
  obtain ⟨rest, hr⟩ := h.hass
  exact ⟨h.pt, h.ph, h.th, by rw [hb.block _ (lt h.plan)]; exact h.plan, by rw [hb.block _ (lt h.tasks)]; exact h.tasks, ⟨rest, by rw [hb.block _ (lt hr)]; exact hr⟩, h.room, h.lent, h.lenh,
    fun t ht => ⟨(h.rows t ht).1, Kd.C_below (h.rows t ht).2.1 hb, (h.rows t ht).2.2⟩⟩
theorem IsPlan.drewN (h : IsPlan w P ts has picks left) (n : Nat) : IsPlan (w.drewN n) P ts has picks left := h.keep (pw_below_drewN (Below.refl _ _) n)
theorem rows_set {w' : World} (h : ∀ t ∈ ts, t.behind.length ≤ t.cap ∧ (Kd.int .i64).C w t.A t.behind.length t.behind ∧ (∀ ad, t.A = some ad → 0 < t.behind.length → ad.block ≠ P.gp ∧ ad.block ≠ P.gt ∧ ad.block ≠ P.gh))
    (hs : Stp w w' P) : ∀ t ∈ ts, t.behind.length ≤ t.cap ∧ (Kd.int .i64).C w' t.A t.behind.length t.behind ∧ (∀ ad, t.A = some ad → 0 < t.behind.length → ad.block ≠ P.gp ∧ ad.block ≠ P.gt ∧ ad.block ≠ P.gh) := by
  intro t ht
  obtain ⟨h1, h2, h3⟩ := h t ht
  refine ⟨h1, ⟨h2.1, h2.2.1, fun hn => ?_⟩, h3⟩
  obtain ⟨ad, he, hc⟩ := h2.2.2 hn
  refine ⟨ad, he, fun j p hj => ?_⟩
  obtain ⟨c, hc1, hc2, hc3⟩ := hc j p hj
  refine ⟨c, hc1, hc2, fun i u hu => ?_⟩
  have h4 := hc3 i u hu
  have hlt := World.block_lt_of_cell? w _ h4
  rw [add_block] at hlt
  obtain ⟨n1, n2, n3⟩ := h3 ad he hn
  rw [← h4]
  simp only [World.cell?, add_block, hs.block ad.block hlt n1 n2 n3]
/-- One cell of one task is written. -/
theorem IsPlan.setT (h : IsPlan w P ts has picks left) (i f : Nat) (hi : i < ts.length) (hf : f < 4) (u : Value) (t' : T) (hc : (ts.getD i zT).cells.set f u = t'.cells)
    (hA : t'.A = (ts.getD i zT).A ∧ t'.cap = (ts.getD i zT).cap ∧ t'.behind = (ts.getD i zT).behind) : IsPlan (w.setCell ⟨P.gt, i * 4 + f, none⟩ u) P (ts.set i t') has picks left := by
  have hs : Stp w (w.setCell ⟨P.gt, i * 4 + f, none⟩ u) P := (Stp.refl w P).setCell (.inr (.inl rfl)) u
  obtain ⟨rest, hr⟩ := h.hass
  refine ⟨h.pt, h.ph, h.th, ?_, ?_, ⟨rest, ?_⟩, h.room, by rw [List.length_set]; exact h.lent, h.lenh, ?_⟩
  · rw [List.length_set, heap_setCell_other _ _ _ _ h.pt]; exact h.plan
  · rw [heap_setCell_same _ _ _ _ _ _ h.tasks]
    congr 2
    rw [List.setIfInBounds_toArray, tcells_set ts i f hi hf u t' hc]
  · rw [heap_setCell_other _ _ _ _ h.th.symm]; exact hr
  · intro t ht
    have hrows := rows_set h.rows hs
    rcases List.mem_or_eq_of_mem_set ht with ht | rfl
    · exact hrows t ht
    · have hg : ts.getD i zT ∈ ts := by rw [List.getD_eq_getElem?_getD, List.getElem?_eq_getElem hi]; exact List.getElem_mem hi
      have := hrows _ hg
      rw [← hA.1, ← hA.2.1, ← hA.2.2] at this
      exact this
theorem IsPlan.setH (h : IsPlan w P ts has picks left) (i : Nat) (hi : i < has.length) (n : Int) : IsPlan (w.setCell ⟨P.gh, i, none⟩ (.int .i64 n)) P ts (has.set i n) picks left := by
  have hs : Stp w (w.setCell ⟨P.gh, i, none⟩ (.int .i64 n)) P := (Stp.refl w P).setCell (.inr (.inr rfl)) _
  obtain ⟨rest, hr⟩ := h.hass
  refine ⟨h.pt, h.ph, h.th, ?_, ?_, ⟨rest, ?_⟩, by rw [List.length_set]; exact h.room, h.lent, by rw [List.length_set]; exact h.lenh, rows_set h.rows hs⟩
  · rw [List.length_set, heap_setCell_other _ _ _ _ h.ph]; exact h.plan
  · rw [heap_setCell_other _ _ _ _ h.th]; exact h.tasks
  · rw [heap_setCell_same _ _ _ _ _ _ hr]
    congr 2
    rw [List.setIfInBounds_toArray, List.set_append_left _ _ (by rw [nums_length]; exact hi)]
    simp [nums, List.map_set]
theorem IsPlan.setPicks (h : IsPlan w P ts has picks left) (n : Int) : IsPlan (w.setCell ⟨P.gp, 2, none⟩ (.int .i64 n)) P ts has n left := by
  have hs : Stp w (w.setCell ⟨P.gp, 2, none⟩ (.int .i64 n)) P := (Stp.refl w P).setCell (.inl rfl) _
  obtain ⟨rest, hr⟩ := h.hass
  refine ⟨h.pt, h.ph, h.th, ?_, ?_, ⟨rest, ?_⟩, h.room, h.lent, h.lenh, rows_set h.rows hs⟩
  · rw [heap_setCell_same _ _ _ _ _ _ h.plan]; rfl
  · rw [heap_setCell_other _ _ _ _ h.pt.symm]; exact h.tasks
  · rw [heap_setCell_other _ _ _ _ h.ph.symm]; exact hr
theorem IsPlan.setLeft (h : IsPlan w P ts has picks left) (n : Int) : IsPlan (w.setCell ⟨P.gp, 3, none⟩ (.int .i64 n)) P ts has picks n := by
  have hs : Stp w (w.setCell ⟨P.gp, 3, none⟩ (.int .i64 n)) P := (Stp.refl w P).setCell (.inl rfl) _
  obtain ⟨rest, hr⟩ := h.hass
  refine ⟨h.pt, h.ph, h.th, ?_, ?_, ⟨rest, ?_⟩, h.room, h.lent, h.lenh, rows_set h.rows hs⟩
  · rw [heap_setCell_same _ _ _ _ _ _ h.plan]; rfl
  · rw [heap_setCell_other _ _ _ _ h.pt.symm]; exact h.tasks
  · rw [heap_setCell_other _ _ _ _ h.ph.symm]; exact hr
end

/-- The same rows of those that wait. -/
def SameRows (ts us : List T) : Prop := us.length = ts.length ∧ ∀ j, (us.getD j zT).A = (ts.getD j zT).A ∧ (us.getD j zT).cap = (ts.getD j zT).cap ∧ (us.getD j zT).behind = (ts.getD j zT).behind
theorem SameRows.refl (ts : List T) : SameRows ts ts := ⟨rfl, fun _ => ⟨rfl, rfl, rfl⟩⟩
theorem SameRows.trans {a b c : List T} (h : SameRows a b) (k : SameRows b c) : SameRows a c :=
  ⟨k.1.trans h.1, fun j => ⟨(k.2 j).1.trans (h.2 j).1, (k.2 j).2.1.trans (h.2 j).2.1, (k.2 j).2.2.trans (h.2 j).2.2⟩⟩
theorem SameRows.set (ts : List T) (i : Nat) (t : T) (h : t.A = (ts.getD i zT).A ∧ t.cap = (ts.getD i zT).cap ∧ t.behind = (ts.getD i zT).behind) : SameRows ts (ts.set i t) := by
  refine ⟨by simp, fun j => ?_⟩
  by_cases hj : j = i
  · subst hj
    by_cases hl : j < ts.length
    · rw [show (ts.set j t).getD j zT = t by simp [List.getD_eq_getElem?_getD, hl]]; exact h
    · rw [List.set_eq_of_length_le (by omega)]; exact ⟨rfl, rfl, rfl⟩
  · rw [show (ts.set i t).getD j zT = ts.getD j zT by simp [List.getD_eq_getElem?_getD, List.getElem?_set_ne (Ne.symm hj)]]; exact ⟨rfl, rfl, rfl⟩
/-- A plan stands in whatever world its three blocks stand in, its rows being those of an elder world. -/
theorem IsPlan.rebuild {w w8 w9 : World} {P : Pl} {ts us : List T} {has has' : List Int} {picks left picks' left' : Int} (h : IsPlan w P ts has picks left) (hS : Stp w w9 P) (h8 : IsPlan w8 P us has' picks' left') (hr : SameRows ts us)
    (hb : ∀ k, k = P.gp ∨ k = P.gt ∨ k = P.gh → w9.heap[k]? = w8.heap[k]?) : IsPlan w9 P us has' picks' left' := by
  obtain ⟨rest, hrest⟩ := h8.hass
  refine ⟨h.pt, h.ph, h.th, by rw [hb _ (.inl rfl)]; exact h8.plan, by rw [hb _ (.inr (.inl rfl))]; exact h8.tasks, ⟨rest, by rw [hb _ (.inr (.inr rfl))]; exact hrest⟩, h8.room, h8.lent, h8.lenh, ?_⟩
  intro t ht
  obtain ⟨j, hj, rfl⟩ := List.mem_iff_getElem.1 ht
  have hj2 : j < ts.length := by rw [← hr.1]; exact hj
  have e : us.getD j zT = us[j] := by simp [List.getD_eq_getElem?_getD, hj]
  have e2 : ts.getD j zT ∈ ts := by rw [List.getD_eq_getElem?_getD, List.getElem?_eq_getElem hj2]; exact List.getElem_mem hj2
  have h3 := rows_set h.rows hS _ e2
  obtain ⟨s1, s2, s3⟩ := hr.2 j
  rw [← s1, ← s2, ← s3, e] at h3
  exact h3
theorem below_setRow (B : Nat) (w : World) {g : Nat} (cs : Array Value) (h : B ≤ g) : Below B w (w.setRow g cs) :=
  ⟨rfl, rfl, rfl, by simp, fun k hk => setRow_other _ _ _ _ (by omega)⟩
/-- Over a whole row that is none of what was there. -/
theorem Stp.setRow {w w1 : World} {P : Pl} (h : Stp w w1 P) {g : Nat} (cs : Array Value) (hg : w.heap.size ≤ g) : Stp w (w1.setRow g cs) P :=
  ⟨h.os, h.tape, h.output, by simpa using h.size, fun k hk h1 h2 h3 => (setRow_other _ _ _ _ (by omega)).trans (h.block k hk h1 h2 h3)⟩
theorem IsPlan.lts {w : World} {P : Pl} {ts : List T} {has : List Int} {picks left : Int} (h : IsPlan w P ts has picks left) : P.gp < w.heap.size ∧ P.gt < w.heap.size ∧ P.gh < w.heap.size := by
  obtain ⟨rest, hr⟩ := h.hass
  exact ⟨(Array.getElem?_eq_some_iff.1 h.plan).1, (Array.getElem?_eq_some_iff.1 h.tasks).1, (Array.getElem?_eq_some_iff.1 hr).1⟩
end Go.Proofs.Ytigpcfokmbnlaaa.Sched
