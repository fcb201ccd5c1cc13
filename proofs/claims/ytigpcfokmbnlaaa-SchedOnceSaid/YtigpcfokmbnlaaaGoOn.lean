/- The contract of (*Plan).goOn. -/
import Derived.Test.YtigpcfokmbnlaaaFirst
import Derived.Deep.WholeRow
namespace Go.Proofs.Ytigpcfokmbnlaaa.Sched
open Go.RowKit Go.Proofs.YtigpcfokmbnlaaaW.PrintWords

/-- An event as a value. -/
def evV (k i w : Int) : Value := .agg #[.int .i64 k, .int .i64 i, .int .i64 w]
def ev3 (k i w : Int) : Array Value := #[.int .i64 k, .int .i64 i, .int .i64 w]
theorem ev3_one (k i w : Int) : (ev3 k i w).all (·.oneCell') = true := by simp [ev3, Value.oneCell']
theorem z33 (w : World) : (zeroValue 33).run Try.prog w = .ok (.agg #[.int .i64 0, .int .i64 0, .int .i64 0]) w := by kernel_rfl
def setWorker (ts : List T) (i : Nat) (s : Int) : List T := ts.set i { ts.getD i zT with worker := s }
theorem setWorker_len (ts : List T) (i : Nat) (s : Int) : (setWorker ts i s).length = ts.length := by simp [setWorker]

theorem gate_store {P : Program} {ops : Array Oper} {rest : List Oper} {o : Oper} {a : Act} {Q : Exit → Act → World → Prop} {W : World} {ty : TypeId} {x y : Operand} (_ho : o.op = .store ty x y) (h : wpList P ops Q (o :: rest) a W) : wpList P ops Q (o :: rest) a W := h
/-- A block laid last, its cells written over, the plan's own having been written before. -/
theorem setRow_last (w : World) (a : Addr) (u : Value) (c c' : Array Value) (t : TypeId) : ((w.setCell a u).alloc (.cells c t)).setRow w.heap.size c' = (w.setCell a u).alloc (.cells c' t) := by
  have := World.setRow_alloc_new (w.setCell a u) c c' t
  simpa using this
set_option maxHeartbeats 1000000 in
theorem goOn_took (P : Pl) (ts : List T) (has : List Int) (picks left : Int) (i wk : Nat) (w : World) (h : IsPlan w P ts has picks left) (hi : i < ts.length) (hs : (ts.getD i zT).state = 1) (hw : (ts.getD i zT).worker = wk) :
    Calls Try.prog 24 #[.pointer (some ⟨P.gp, 0, none⟩), .int .i64 i] w fun e w' => e = .returned (evV 2 i wk) ∧ IsPlan w' P (setState ts i 2) has picks left ∧ Stp w w' P := by
  have z33 := z33
  obtain ⟨c0, -, -, -⟩ := (h.keep (below_alloc (Below.refl _ _) (.cells #[.int .i64 0, .int .i64 0, .int .i64 0] 33))).cellP
  have h2 := h.keep (below_alloc (Below.refl _ _) (.cells #[.int .i64 0, .int .i64 0, .int .i64 0] 33))
  have ft := h2.frT
  have t2 := h2.cellT i 2 hi (by omega)
  have t3 := h2.cellT i 3 hi (by omega)
  simp only [T.cells, List.getElem?_cons_zero, List.getElem?_cons_succ] at t2 t3
  rw [hw] at t2
  rw [hs] at t3
  have hq := (h.setT i 3 hi (by omega) (.int .i64 2) { ts.getD i zT with state := 2 } rfl ⟨rfl, rfl, rfl⟩)
  have t4 := hq.cellT i 3 (by rw [List.length_set]; exact hi) (by omega)
  rw [show ((ts.set i { ts.getD i zT with state := 2 }).getD i zT) = { ts.getD i zT with state := 2 } by simp [List.getD_eq_getElem?_getD, hi]] at t4
  simp only [T.cells, List.getElem?_cons_zero, List.getElem?_cons_succ] at t4
  have HQ := Aside0.mk hq
  clear hq
  have hlt : P.gt < w.heap.size := (Array.getElem?_eq_some_iff.1 h.tasks).1
  have hlt2 : P.gp < w.heap.size := (Array.getElem?_eq_some_iff.1 h.plan).1
  have HI := Aside0.mk h
  clear h hs hw
  go_enter Try.func24, Try.ntmps24
  go_wp2_with (refine wpList_store_row rfl 33 _ _ rfl w.heap.size (ev3 2 i wk) rfl rfl 33 #[.int .i64 0, .int .i64 0, .int .i64 0] (by have := heap_alloc_new (w.setCell ⟨P.gt, i * 4 + 3, none⟩ (.int .i64 2)) (.cells #[.int .i64 0, .int .i64 0, .int .i64 0] 33); simpa using this) (by kernel_rfl) rfl (by rfl) ?_; rw [setRow_last])
  have HG : ((w.setCell ⟨P.gt, i * 4 + 3, none⟩ (.int .i64 2)).alloc (.cells (ev3 2 i wk) 33)).heap[w.heap.size]? = some (.cells (ev3 2 i wk) 33 (0, 0)) := by have := heap_alloc_new (w.setCell ⟨P.gt, i * 4 + 3, none⟩ (.int .i64 2)) (.cells (ev3 2 i wk) 33); simpa using this
  refine bodyPost_ret (v := .agg (ev3 2 i wk)) (results_cell_row rfl _ _ w.heap.size 33 (ev3 2 i wk) (0, 0) _ rfl HG Try.underlying33 rfl (by kernel_rfl)) rfl ⟨rfl, HQ.out.keep (below_alloc (Below.refl _ _) _), ?_⟩
  exact ((Stp.refl w P).setCell (.inr (.inl rfl)) _).alloc _

/-- A task that was run is ended: the tasks, then. -/
def ranTs (ts : List T) (i : Nat) : List T := setState (endTs (setWorker ts i (-1)) i) i 3
theorem same_setWorker (ts : List T) (i : Nat) (s : Int) : SameRows ts (setWorker ts i s) := SameRows.set ts i _ ⟨rfl, rfl, rfl⟩
theorem same_ran (ts : List T) (i : Nat) : SameRows ts (ranTs ts i) := ((same_setWorker ts i (-1)).trans (same_end _ _)).trans (same_setState _ _ _)
theorem endTs_len (ts : List T) (i : Nat) : (endTs ts i).length = ts.length := by unfold endTs; rw [foldl_len, setState_len]
theorem getD_set (ts : List T) (i : Nat) (t : T) (hi : i < ts.length) : (ts.set i t).getD i zT = t := by simp [List.getD_eq_getElem?_getD, hi]

set_option maxHeartbeats 2000000 in
theorem goOn_ran (P : Pl) (ts : List T) (has : List Int) (picks left : Int) (i wk : Nat) (w : World) (h : IsPlan w P ts has picks left) (hi : i < ts.length) (hs : (ts.getD i zT).state = 2) (hw : (ts.getD i zT).worker = wk) (hwk : wk < has.length)
    (hb : ∀ k ∈ (ts.getD i zT).behind, 0 ≤ k ∧ k < ts.length) :
    Calls Try.prog 24 #[.pointer (some ⟨P.gp, 0, none⟩), .int .i64 i] w fun e w' => e = .returned (evV 3 i wk) ∧ IsPlan w' P (ranTs ts i) (has.set wk (-1)) picks (wrap64 (left - 1)) ∧ Stp w w' P := by
  have z33 := z33
  have h2 := h.keep (below_alloc (Below.refl _ _) (.cells #[.int .i64 0, .int .i64 0, .int .i64 0] 33))
  obtain ⟨c0, c1, -, -⟩ := h2.cellP
  have ft := h2.frT
  have fh := h2.frH
  have t2 := h2.cellT i 2 hi (by omega)
  have t3 := h2.cellT i 3 hi (by omega)
  have th := h2.cellH wk hwk
  have th0 := h.cellH wk hwk
  have fh0 := h.frH
  have ft0 := h.frT
  simp only [T.cells, List.getElem?_cons_zero, List.getElem?_cons_succ] at t2 t3
  rw [hw] at t2
  rw [hs] at t3
  have hA := (h.setT i 2 hi (by omega) (.int .i64 (-1)) { ts.getD i zT with worker := -1 } rfl ⟨rfl, rfl, rfl⟩)
  have hq := hA.setH wk hwk (-1)
  have hsA : Stp w ((w.setCell ⟨P.gt, i * 4 + 2, none⟩ (.int .i64 (-1))).setCell ⟨P.gh, wk, none⟩ (.int .i64 (-1))) P := ((Stp.refl w P).setCell (.inr (.inl rfl)) _).setCell (.inr (.inr rfl)) _
  have hbe : ((setWorker ts i (-1)).getD i zT).behind = (ts.getD i zT).behind := by unfold setWorker; rw [getD_set _ _ _ hi]
  have HQ := Aside0.mk (show IsPlan _ P (setWorker ts i (-1)) (has.set wk (-1)) picks left from hq)
  have HSA := Aside0.mk hsA
  have hlt : P.gt < w.heap.size := (Array.getElem?_eq_some_iff.1 h.tasks).1
  have hlt2 : P.gp < w.heap.size := (Array.getElem?_eq_some_iff.1 h.plan).1
  have hlt3 : P.gh < w.heap.size := by obtain ⟨rest, hr⟩ := h.hass; exact (Array.getElem?_eq_some_iff.1 hr).1
  have n1 := h.th
  have n2 := h.th.symm
  have hwk2 : (wk : Int) < (has.length : Int) := by omega
  have HI := Aside0.mk h
  have HBB := Aside0.mk hb
  have HBE := Aside0.mk hbe
  clear h hs hw hA hq hsA hb hbe
  go_enter Try.func24, Try.ntmps24
  go_wp2_with fail
  have hq2 := HQ.out.keep (below_alloc (Below.refl _ _) (.cells #[.int .i64 0, .int .i64 0, .int .i64 0] 33))
  refine (end_calls P _ _ _ _ i _ hq2 (by rw [setWorker_len]; exact hi) (by rw [HBE.out, setWorker_len]; exact HBB.out)).mono ?_
  rintro e w5 ⟨rfl, hP5, hS5⟩
  have hblk5 : w5.heap[w.heap.size]? = some (.cells #[.int .i64 0, .int .i64 0, .int .i64 0] 33 (0, 0)) := by
    rw [hS5.block w.heap.size (by simp) (by omega) (by omega) (by omega)]
    have := heap_alloc_new ((w.setCell ⟨P.gt, i * 4 + 2, none⟩ (.int .i64 (-1))).setCell ⟨P.gh, wk, none⟩ (.int .i64 (-1))) (.cells #[.int .i64 0, .int .i64 0, .int .i64 0] 33)
    simpa using this
  have hlen5 : (endTs (setWorker ts i (-1)) i).length = ts.length := by rw [endTs_len, setWorker_len]
  have u3 := hP5.cellT i 3 (by omega) (by omega)
  have fu := hP5.frT
  have hq6 := hP5.setT i 3 (by omega) (by omega) (.int .i64 3) { (endTs (setWorker ts i (-1)) i).getD i zT with state := 3 } rfl ⟨rfl, rfl, rfl⟩
  have u4 := hq6.cellT i 3 (by rw [List.length_set]; omega) (by omega)
  rw [getD_set _ _ _ (by omega)] at u4
  simp only [T.cells, List.getElem?_cons_zero, List.getElem?_cons_succ] at u3 u4
  generalize ((endTs (setWorker ts i (-1)) i).getD i zT).state = s5 at u3
  have HQ6 := Aside0.mk (show IsPlan _ P (ranTs ts i) (has.set wk (-1)) picks (wrap64 (left - 1)) from hq6)
  have HS6 := Aside0.mk ((((HSA.out.alloc _).trans hS5).setCell (p := ⟨P.gt, i * 4 + 3, none⟩) (.inr (.inl rfl)) (.int .i64 3)))
  have HK5 := Aside0.mk hblk5
  have hgw : P.gt ≠ w.heap.size := by omega
  clear hq2 hP5 hS5 hblk5 hq6 hlen5 c0 c1 ft fh t2 t3 th th0 fh0 ft0
  have HK6 : Aside0 ((w5.setCell ⟨P.gt, i * 4 + 3, none⟩ (.int .i64 3)).heap[w.heap.size]? = some (.cells #[.int .i64 0, .int .i64 0, .int .i64 0] 33 (0, 0))) := ⟨by rw [heap_setCell_other _ _ _ _ hgw.symm]; exact HK5.out⟩
  have H2 := Aside0.mk (ev3_one 3 i wk)
  go_wp2_with (refine wpList_store_row rfl 33 _ _ rfl w.heap.size (ev3 3 i wk) rfl rfl 33 #[.int .i64 0, .int .i64 0, .int .i64 0] HK6.out (by kernel_rfl) rfl H2.out ?_)
  have HG := setRow_heap _ w.heap.size #[.int .i64 0, .int .i64 0, .int .i64 0] (ev3 3 i wk) 33 (0, 0) HK6.out
  refine bodyPost_ret (v := .agg (ev3 3 i wk)) (results_cell_row rfl _ _ w.heap.size 33 (ev3 3 i wk) (0, 0) _ rfl HG Try.underlying33 rfl (by kernel_rfl)) rfl ⟨rfl, ?_, ?_⟩
  · exact HI.out.rebuild (HS6.out.setRow _ (Nat.le_refl _)) HQ6.out (same_ran ts i) (fun k hk => setRow_other _ _ _ _ (by rcases hk with hk | hk | hk <;> omega))
  · exact HS6.out.setRow _ (Nat.le_refl _)
end Go.Proofs.Ytigpcfokmbnlaaa.Sched
