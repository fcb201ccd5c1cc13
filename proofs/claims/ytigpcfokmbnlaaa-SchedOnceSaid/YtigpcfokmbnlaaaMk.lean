/- A plan that is being made: its rows are the call's own. -/
import Derived.Test.YtigpcfokmbnlaaaReady
namespace Go.Proofs.Ytigpcfokmbnlaaa.Sched
open Go.RowKit Go.Proofs.YtigpcfokmbnlaaaW.PrintWords

def bv (t : T) : Value := .slice t.A t.behind.length t.cap
structure IsMk (w : World) (B gp gt : Nat) (ts : List T) (hv : Value) (has : List Int) (left : Int) : Prop where
  ne : gp ≠ gt
  bp : B ≤ gp
  bt : B ≤ gt
  plan : w.heap[gp]? = some (.cells #[.slice (some ⟨gt, 0, none⟩) ts.length ts.length, hv, .int .i64 0, .int .i64 left] 59)
  tasks : w.heap[gt]? = some (.cells (tcells ts).toArray 61)
  hass : w.ownsRow B 3 1 hv has.length (nums .i64 has)
  rows : ∀ j, j < ts.length → w.ownsRow B 3 1 (bv (ts.getD j zT)) (ts.getD j zT).behind.length (nums .i64 (ts.getD j zT).behind)
  apart : ∀ i j, i < ts.length → j < ts.length → i ≠ j → ∀ k, (bv (ts.getD i zT)).ownBlock = some k → (bv (ts.getD j zT)).ownBlock ≠ some k
  aparth : ∀ j, j < ts.length → ∀ k, (bv (ts.getD j zT)).ownBlock = some k → hv.ownBlock ≠ some k

section
variable {w w1 : World} {B gp gt : Nat} {ts : List T} {hv : Value} {has : List Int} {left : Int}
theorem own_ne_type {v : Value} {n : Nat} {xs : List Value} {g e : Nat} {cs : Array Value} (h : w.ownsRow B 3 1 v n xs) (hg : w.heap[g]? = some (.cells cs e)) (he : e ≠ 3) : v.ownBlock ≠ some g := by
  intro hk
  obtain ⟨c, hc⟩ := own_typed h g hk
  rw [hg] at hc
  injection hc with hc
  injection hc with _ ht
  exact he ht
theorem IsMk.grown (h : IsMk w B gp gt ts hv has left) (hg : w.grownBy w1 none) : IsMk w1 B gp gt ts hv has left := by
  have blk : ∀ {g : Nat} {o : Obj}, w.heap[g]? = some o → w1.heap[g]? = some o := fun {g o} h1 => by
    rw [hg.block g (Array.getElem?_eq_some_iff.1 h1).1 (by simp)]; exact h1
  have nn : ∀ v : Value, v.ownBlock = none ∨ v.ownBlock ≠ none := fun v => by cases v.ownBlock <;> simp
  exact ⟨h.ne, h.bp, h.bt, blk h.plan, blk h.tasks, h.hass.kept hg (nn _), fun j hj => (h.rows j hj).kept hg (nn _), h.apart, h.aparth⟩
theorem IsMk.alloc (h : IsMk w B gp gt ts hv has left) (o : Obj) : IsMk (w.alloc o) B gp gt ts hv has left := h.grown (World.grownBy_alloc w o none)
theorem IsMk.drewN (h : IsMk w B gp gt ts hv has left) (n : Nat) : IsMk (w.drewN n) B gp gt ts hv has left := h.grown ⟨rfl, rfl, rfl, Nat.le_refl _, fun _ _ _ => rfl⟩
theorem IsMk.cellP (h : IsMk w B gp gt ts hv has left) : w.cell? ⟨gp, 0, none⟩ = some (.slice (some ⟨gt, 0, none⟩) ts.length ts.length) ∧ w.cell? ⟨gp, 1, none⟩ = some hv := by
  refine ⟨?_, ?_⟩ <;> (rw [cell_of_row _ _ _ _ _ _ h.plan]; rfl)
theorem IsMk.frP (h : IsMk w B gp gt ts hv has left) (j : Nat) : w.frozen? ⟨gp, j, none⟩ = false := frozen_of_row _ _ _ _ _ h.plan
theorem IsMk.frT (h : IsMk w B gp gt ts hv has left) (j : Nat) : w.frozen? ⟨gt, j, none⟩ = false := frozen_of_row _ _ _ _ _ h.tasks
theorem IsMk.cellT (h : IsMk w B gp gt ts hv has left) (i f : Nat) (hi : i < ts.length) (hf : f < 4) : w.cell? ⟨gt, i * 4 + f, none⟩ = (ts.getD i zT).cells[f]? := by
  rw [cell_of_row _ _ _ _ _ _ h.tasks]
  simpa using tcells_at ts i f hi hf
theorem own_set {v : Value} {n : Nat} {xs : List Value} (h : w.ownsRow B 3 1 v n xs) (a : Addr) (u : Value) (hne : v.ownBlock ≠ some a.block) : (w.setCell a u).ownsRow B 3 1 v n xs := by
  refine own_move h fun k hk => Below.heap_setCell _ _ _ _ fun e => hne (by rw [hk, e])
theorem getD_set_ne (ts : List T) (i j : Nat) (t : T) (h : j ≠ i) : (ts.set i t).getD j zT = ts.getD j zT := by
  simp [List.getD_eq_getElem?_getD, List.getElem?_set_ne (Ne.symm h)]
/-- A number of one task is written. -/
theorem IsMk.setT (h : IsMk w B gp gt ts hv has left) (i f : Nat) (hi : i < ts.length) (hf : f < 4) (u : Value) (t' : T) (hc : (ts.getD i zT).cells.set f u = t'.cells) (hA : t'.A = (ts.getD i zT).A ∧ t'.cap = (ts.getD i zT).cap ∧ t'.behind = (ts.getD i zT).behind) :
    IsMk (w.setCell ⟨gt, i * 4 + f, none⟩ u) B gp gt (ts.set i t') hv has left := by
  have same : ∀ j, bv ((ts.set i t').getD j zT) = bv (ts.getD j zT) ∧ ((ts.set i t').getD j zT).behind = (ts.getD j zT).behind := by
    intro j
    have := (SameRows.set ts i t' hA).2 j
    exact ⟨by unfold bv; rw [this.1, this.2.1, this.2.2], this.2.2⟩
  refine ⟨h.ne, h.bp, h.bt, ?_, ?_, own_set h.hass _ _ (own_ne_type h.hass h.tasks (by decide)), ?_, ?_, ?_⟩
  · rw [List.length_set, heap_setCell_other _ _ _ _ h.ne]; exact h.plan
  · rw [heap_setCell_same _ _ _ _ _ _ h.tasks, List.setIfInBounds_toArray, tcells_set ts i f hi hf u t' hc]
  · intro j hj
    rw [List.length_set] at hj
    rw [(same j).1, (same j).2]
    exact own_set (h.rows j hj) _ _ (own_ne_type (h.rows j hj) h.tasks (by decide))
  · intro a b ha hb hab
    rw [List.length_set] at ha hb
    rw [(same a).1, (same b).1]
    exact h.apart a b ha hb hab
  · intro j hj
    rw [List.length_set] at hj
    rw [(same j).1]
    exact h.aparth j hj
/-- A row of those that wait is grown by one, and stored. -/
theorem IsMk.row (h : IsMk w B gp gt ts hv has left) (k : Nat) (hk : k < ts.length) (A1 : Option Addr) (c1 : Nat) (bs : List Int) (hg : w.grownBy w1 (bv (ts.getD k zT)).ownBlock)
    (ho : w1.ownsRow B 3 1 (.slice A1 bs.length c1) bs.length (nums .i64 bs)) (hat : (Value.slice A1 bs.length c1).ownBlock = (bv (ts.getD k zT)).ownBlock ∨ ∃ b, (Value.slice A1 bs.length c1).ownBlock = some b ∧ w.heap.size ≤ b) :
    IsMk (w1.setCell ⟨gt, k * 4 + 1, none⟩ (.slice A1 bs.length c1)) B gp gt (ts.set k { ts.getD k zT with A := A1, cap := c1, behind := bs }) hv has left := by
  have lt : ∀ {g : Nat} {o : Obj}, w.heap[g]? = some o → g < w.heap.size := fun h1 => (Array.getElem?_eq_some_iff.1 h1).1
  have hp : w1.heap[gp]? = _ := (hg.block gp (lt h.plan) (Ne.symm (own_ne_type (h.rows k hk) h.plan (by decide)))).trans h.plan
  have ht : w1.heap[gt]? = _ := (hg.block gt (lt h.tasks) (Ne.symm (own_ne_type (h.rows k hk) h.tasks (by decide)))).trans h.tasks
  have hnew : ∀ v : Value, (∀ q, v.ownBlock = some q → q < w.heap.size) → (∀ q, v.ownBlock = some q → (bv (ts.getD k zT)).ownBlock ≠ some q) → ∀ q, v.ownBlock = some q → (Value.slice A1 bs.length c1).ownBlock ≠ some q := by
    intro v h1 h2 q hq he
    rcases hat with hat | ⟨b, hb, hle⟩
    · exact h2 q hq (hat ▸ he)
    · rw [hb] at he
      injection he with he
      have := h1 q hq
      omega
  have kept : ∀ j, j < ts.length → j ≠ k → w1.ownsRow B 3 1 (bv (ts.getD j zT)) (ts.getD j zT).behind.length (nums .i64 (ts.getD j zT).behind) := by
    intro j hj hjk
    refine (h.rows j hj).kept hg ?_
    cases hb : (bv (ts.getD j zT)).ownBlock with
    | none => exact .inl rfl
    | some q => exact .inr fun e => h.apart j k hj hk hjk q hb e.symm
  have ekk : (ts.set k { ts.getD k zT with A := A1, cap := c1, behind := bs }).getD k zT = { ts.getD k zT with A := A1, cap := c1, behind := bs } := by simp [List.getD_eq_getElem?_getD, hk]
  refine ⟨h.ne, h.bp, h.bt, ?_, ?_, ?_, ?_, ?_, ?_⟩
  · rw [List.length_set, heap_setCell_other _ _ _ _ h.ne]; exact hp
  · rw [heap_setCell_same _ _ _ _ _ _ ht, List.setIfInBounds_toArray, tcells_set ts k 1 hk (by omega) _ { ts.getD k zT with A := A1, cap := c1, behind := bs } rfl]
  · have hh : w1.ownsRow B 3 1 hv has.length (nums .i64 has) := by
      refine h.hass.kept hg ?_
      cases hb : hv.ownBlock with
      | none => exact .inl rfl
      | some q => exact .inr fun e => h.aparth k hk q e.symm hb
    exact own_set hh _ _ (own_ne_type hh ht (by decide))
  · intro j hj
    rw [List.length_set] at hj
    by_cases hjk : j = k
    · subst hjk
      rw [ekk]
      exact own_set ho _ _ (own_ne_type ho ht (by decide))
    · rw [getD_set_ne _ _ _ _ hjk]
      exact own_set (kept j hj hjk) _ _ (own_ne_type (kept j hj hjk) ht (by decide))
  · intro a b ha hb hab q hq
    rw [List.length_set] at ha hb
    by_cases hak : a = k
    · subst hak
      rw [ekk] at hq
      rw [getD_set_ne _ _ _ _ (Ne.symm hab)]
      intro hb2
      exact hnew _ (fun q' h' => own_lt (h.rows b hb) q' h') (fun q' h' => fun e => h.apart a b ha hb hab q' e h') q hb2 hq
    · rw [getD_set_ne _ _ _ _ hak] at hq
      by_cases hbk : b = k
      · subst hbk
        rw [ekk]
        exact hnew _ (fun q' h' => own_lt (h.rows a ha) q' h') (fun q' h' => fun e => h.apart a b ha hb hab q' h' e) q hq
      · rw [getD_set_ne _ _ _ _ hbk]
        exact h.apart a b ha hb hab q hq
  · intro j hj q hq
    rw [List.length_set] at hj
    by_cases hjk : j = k
    · subst hjk
      rw [ekk] at hq
      intro he
      exact hnew hv (fun q' h' => own_lt h.hass q' h') (fun q' h' => fun e => h.aparth j hj q' e h') q he hq
    · rw [getD_set_ne _ _ _ _ hjk] at hq
      exact h.aparth j hj q hq
/-- The workers' row is grown, and stored. -/
theorem IsMk.hasRow (h : IsMk w B gp gt ts hv has left) (v1 : Value) (hs : List Int) (hg : w.grownBy w1 hv.ownBlock) (ho : w1.ownsRow B 3 1 v1 hs.length (nums .i64 hs)) (hat : v1.ownBlock = hv.ownBlock ∨ ∃ b, v1.ownBlock = some b ∧ w.heap.size ≤ b) :
    IsMk (w1.setCell ⟨gp, 1, none⟩ v1) B gp gt ts v1 hs left := by
  have lt : ∀ {g : Nat} {o : Obj}, w.heap[g]? = some o → g < w.heap.size := fun h1 => (Array.getElem?_eq_some_iff.1 h1).1
  have hp : w1.heap[gp]? = _ := (hg.block gp (lt h.plan) (Ne.symm (own_ne_type h.hass h.plan (by decide)))).trans h.plan
  have ht : w1.heap[gt]? = _ := (hg.block gt (lt h.tasks) (Ne.symm (own_ne_type h.hass h.tasks (by decide)))).trans h.tasks
  have kept : ∀ j, j < ts.length → w1.ownsRow B 3 1 (bv (ts.getD j zT)) (ts.getD j zT).behind.length (nums .i64 (ts.getD j zT).behind) := by
    intro j hj
    refine (h.rows j hj).kept hg ?_
    cases hb : (bv (ts.getD j zT)).ownBlock with
    | none => exact .inl rfl
    | some q => exact .inr fun e => h.aparth j hj q hb e.symm
  refine ⟨h.ne, h.bp, h.bt, ?_, ?_, own_set ho _ _ (own_ne_type ho hp (by decide)), fun j hj => own_set (kept j hj) _ _ (own_ne_type (kept j hj) hp (by decide)), h.apart, ?_⟩
  · rw [heap_setCell_same _ _ _ _ _ _ hp]; rfl
  · rw [heap_setCell_other _ _ _ _ h.ne.symm]; exact ht
  · intro j hj q hq he
    rcases hat with hat | ⟨b, hb, hle⟩
    · exact h.aparth j hj q hq (hat ▸ he)
    · rw [hb] at he
      injection he with he
      have := own_lt (h.rows j hj) q hq
      omega
/-- Made: it is a plan. -/
theorem IsMk.made (h : IsMk w B gp gt ts hv has left) (hpos : 0 < has.length) (hl : ts.length ≤ 1000000) (hl2 : has.length ≤ 1000000) : ∃ P : Pl, P.gp = gp ∧ B ≤ P.gp ∧ B ≤ P.gt ∧ B ≤ P.gh ∧ IsPlan w P ts has 0 left := by
  obtain ⟨gh, cap, rfl, hb, hlt⟩ := h.hass.form hpos
  rcases h.hass.2 with ⟨he, _⟩ | ⟨g, c, cur, he, _, hh, hnc, _, hcs, htake⟩
  · cases he
  · have hgg : gh = g ∧ cap = c := by
      injection he with e1 _ e3
      injection e1 with e1
      injection e1 with e1
      exact ⟨e1, e3⟩
    obtain ⟨rfl, rfl⟩ := hgg
    have n1 : gp ≠ gh := fun e => own_ne_type h.hass h.plan (by decide) (by simp [Value.ownBlock, e])
    have n2 : gt ≠ gh := fun e => own_ne_type h.hass h.tasks (by decide) (by simp [Value.ownBlock, e])
    refine ⟨⟨gp, gt, gh, cap⟩, rfl, h.bp, h.bt, hb, h.ne, n1, n2, h.plan, h.tasks, ⟨cur.toList.drop has.length, ?_⟩, hnc, hl, hl2, ?_⟩
    · rw [Nat.mul_one] at htake
      rw [← htake, List.take_append_drop]
      exact hh
    · intro t ht
      obtain ⟨j, hj, rfl⟩ := List.mem_iff_getElem.1 ht
      have e : ts.getD j zT = ts[j] := by simp [List.getD_eq_getElem?_getD, hj]
      have hr := h.rows j hj
      rw [e] at hr
      have hC := Kd.R_reads (Kd.R_of_own (enc := Value.int .i64) (h1 := fun _ => rfl) (ok := fun _ => True) hr (fun _ _ => trivial))
      obtain ⟨A', c', he', hle, hC⟩ := hC
      unfold bv at he'
      injection he' with e1 _ e3
      subst e1 e3
      refine ⟨hle, hC, fun ad hA hn => ?_⟩
      have hob : ∃ q, (bv ts[j]).ownBlock = some q ∧ ad.block = q := by
        rcases hr.2 with ⟨hbad, hz⟩ | ⟨q, cq, _, hv, _⟩
        · omega
        · unfold bv at hv
          injection hv with v1 _ _
          rw [hA] at v1
          injection v1 with v1
          subst v1
          exact ⟨q, by unfold bv; rw [hA]; rfl, rfl⟩
      obtain ⟨q, hq, rfl⟩ := hob
      refine ⟨fun e2 => own_ne_type hr h.plan (by decide) (by rw [hq, e2]), fun e2 => own_ne_type hr h.tasks (by decide) (by rw [hq, e2]), fun e2 => ?_⟩
      have := h.aparth j hj ad.block (by rw [e]; exact hq)
      exact this (by simp [Value.ownBlock, e2])
end
end Go.Proofs.Ytigpcfokmbnlaaa.Sched
