/- The contract of (*Plan).Pick where a task is taken. -/
import Derived.Test.YtigpcfokmbnlaaaPick
namespace Go.Proofs.Ytigpcfokmbnlaaa.Sched
open Go.RowKit Go.Proofs.YtigpcfokmbnlaaaW.PrintWords

def takeTs (ts : List T) (i : Nat) (n : Int) : List T := setWorker (setState ts i 1) i n
theorem same_take (ts : List T) (i : Nat) (n : Int) : SameRows ts (takeTs ts i n) := (same_setState ts i 1).trans (same_setWorker _ _ _)

set_option maxHeartbeats 4000000 in
set_option maxRecDepth 100000 in
theorem pick_take (P : Pl) (ts : List T) (has : List Int) (picks left : Int) (w : World) (n i : Nat) (h : IsPlan w P ts has picks left) (hn : n < has.length) (hl : left ≠ 0) (hh : has.getD n 0 = -1) (hrd : firstI readyB ts = (i : Int)) (hi : i < ts.length) :
    Calls Try.prog 11 #[.pointer (some ⟨P.gp, 0, none⟩), .int .i64 n] w fun e w' => e = .returned (pickV 1 i n 0) ∧ IsPlan w' P (takeTs ts i n) (has.set n i) (wrap64 (picks + 1)) left ∧ Stp w w' P := by
  have z33 := z33
  have H2 := Aside0.mk (ev3_one 1 i n)
  have h2 := h.keep (below_alloc (Below.refl _ _) (.cells #[.int .i64 0, .int .i64 0, .int .i64 0] 33))
  obtain ⟨c0, c1, c2, c3⟩ := h2.cellP
  obtain ⟨d0, d1, d2, d3⟩ := h.cellP
  have fp := h2.frP
  have fp0 := h.frP
  have ch := h2.cellH n hn
  have ch0 := h.cellH n hn
  rw [hh] at ch ch0
  have b2 : decide (has.length ≤ n) = false := by simp; omega
  have b3 : (left == 0) = false := by rw [beq_eq_false_iff_ne]; exact hl
  have b4 : ((i : Int) != -1) = true := by rw [bne_iff_ne]; omega
  have n1 := h.ph
  have n2 := h.ph.symm
  obtain ⟨l1, l2, l3⟩ := h.lts
  have hq := h.setPicks (wrap64 (picks + 1))
  have HQ := Aside0.mk hq
  have HI := Aside0.mk h
  have HR := Aside0.mk hrd
  clear h h2 hh hq hrd
  go_enter Try.func11, Try.ntmps11
  go_wp2_with fail
  have hq2 := HQ.out.keep (below_alloc (Below.refl _ _) (.cells #[.int .i64 0, .int .i64 0, .int .i64 0] 33))
  refine (first_ready P ts has _ left _ hq2).mono ?_
  rintro e w3 ⟨rfl, ⟨nd3, rfl⟩⟩
  rw [HR.out]
  have hq3 := hq2.drewN nd3
  have hblk3 : (((w.setCell ⟨P.gp, 2, none⟩ (.int .i64 (wrap64 (picks + 1)))).alloc (.cells #[.int .i64 0, .int .i64 0, .int .i64 0] 33)).drewN nd3).heap[w.heap.size]? = some (.cells #[.int .i64 0, .int .i64 0, .int .i64 0] 33 (0, 0)) := by
    have := heap_alloc_new (w.setCell ⟨P.gp, 2, none⟩ (.int .i64 (wrap64 (picks + 1)))) (.cells #[.int .i64 0, .int .i64 0, .int .i64 0] 33)
    have this2 : ((w.setCell ⟨P.gp, 2, none⟩ (.int .i64 (wrap64 (picks + 1)))).alloc (.cells #[.int .i64 0, .int .i64 0, .int .i64 0] 33)).heap[w.heap.size]? = some (.cells #[.int .i64 0, .int .i64 0, .int .i64 0] 33 (0, 0)) := by simpa using this
    exact this2
  have hS3 : Stp w (((w.setCell ⟨P.gp, 2, none⟩ (.int .i64 (wrap64 (picks + 1)))).alloc (.cells #[.int .i64 0, .int .i64 0, .int .i64 0] 33)).drewN nd3) P := (((Stp.refl w P).setCell (p := ⟨P.gp, 2, none⟩) (.inl rfl) (.int .i64 (wrap64 (picks + 1)))).alloc _).drewN _
  generalize ((w.setCell ⟨P.gp, 2, none⟩ (.int .i64 (wrap64 (picks + 1)))).alloc (.cells #[.int .i64 0, .int .i64 0, .int .i64 0] 33)).drewN nd3 = w4 at hq3 hblk3 hS3 ⊢
  clear c0 c1 c2 c3 d0 d1 d2 d3 fp fp0 ch ch0 hq2
  obtain ⟨c0, c1, c2, c3⟩ := hq3.cellP
  have ft := hq3.frT
  have fh := hq3.frH
  have t2 := hq3.cellT i 2 hi (by omega)
  have t3 := hq3.cellT i 3 hi (by omega)
  have th := hq3.cellH n hn
  simp only [T.cells, List.getElem?_cons_zero, List.getElem?_cons_succ] at t2 t3
  have m1 := hq3.pt
  have m2 := hq3.pt.symm
  have m3 := hq3.th
  have m4 := hq3.th.symm
  have HQ3 := Aside0.mk hq3
  have HB3 := Aside0.mk hblk3
  have HS3 := Aside0.mk hS3
  have hn2 : (n : Int) < (has.length : Int) := by omega
  have hi2 : (i : Int) < (ts.length : Int) := by omega
  clear hq3 hblk3 hS3
  go_wp2
  go_region_held3 (fun w' => w'.cell? ⟨P.gp, 0, none⟩ = some (.slice (some ⟨P.gt, 0, none⟩) ts.length ts.length) ∧ w'.cell? ⟨P.gp, 1, none⟩ = some (.slice (some ⟨P.gh, 0, none⟩) has.length P.hcap)) (go_keep) (fail)
  have ha := HQ3.out.setT i 3 hi (by omega) (.int .i64 1) { ts.getD i zT with state := 1 } rfl ⟨rfl, rfl, rfl⟩
  have hb := ha.setT i 2 (by rw [List.length_set]; exact hi) (by omega) (.int .i64 n) { (setState ts i 1).getD i zT with worker := n } rfl ⟨rfl, rfl, rfl⟩
  have hc := hb.setH n hn i
  have hs5 := ((HS3.out.setCell (p := ⟨P.gt, i * 4 + 3, none⟩) (.inr (.inl rfl)) (.int .i64 1)).setCell (p := ⟨P.gt, i * 4 + 2, none⟩) (.inr (.inl rfl)) (.int .i64 n)).setCell (p := ⟨P.gh, n, none⟩) (.inr (.inr rfl)) (.int .i64 i)
  have hk5 : (((w4.setCell ⟨P.gt, i * 4 + 3, none⟩ (.int .i64 1)).setCell ⟨P.gt, i * 4 + 2, none⟩ (.int .i64 n)).setCell ⟨P.gh, n, none⟩ (.int .i64 i)).heap[w.heap.size]? = some (.cells #[.int .i64 0, .int .i64 0, .int .i64 0] 33 (0, 0)) := by
    rw [heap_setCell_other _ _ _ _ (by show w.heap.size ≠ P.gh; omega), heap_setCell_other _ _ _ _ (by show w.heap.size ≠ P.gt; omega), heap_setCell_other _ _ _ _ (by show w.heap.size ≠ P.gt; omega)]
    exact HB3.out
  have HC := Aside0.mk (show IsPlan _ P (takeTs ts i n) (has.set n i) (wrap64 (picks + 1)) left from hc.drewN 1)
  have HS5 := Aside0.mk (hs5.drewN 1)
  have HK5 := Aside0.mk (show ((((w4.setCell ⟨P.gt, i * 4 + 3, none⟩ (.int .i64 1)).setCell ⟨P.gt, i * 4 + 2, none⟩ (.int .i64 n)).setCell ⟨P.gh, n, none⟩ (.int .i64 i)).drewN 1).heap[w.heap.size]? = _ from hk5)
  clear ha hb hc hs5 hk5 c0 c1 c2 c3 ft fh t2 t3 th
  go_wp2_with (refine wpList_store_row rfl 33 _ _ rfl w.heap.size (ev3 1 i n) rfl rfl 33 #[.int .i64 0, .int .i64 0, .int .i64 0] HK5.out (by kernel_rfl) rfl H2.out ?_)
  have HGr := setRow_heap _ w.heap.size #[.int .i64 0, .int .i64 0, .int .i64 0] (ev3 1 i n) 33 (0, 0) HK5.out
  refine bodyPost_ret (v := pickV 1 i n 0) (results11 _ _ w.heap.size 1 i n 0 rfl rfl HGr) rfl ⟨rfl, ?_, HS5.out.setRow _ (Nat.le_refl _)⟩
  exact HI.out.rebuild (HS5.out.setRow _ (Nat.le_refl _)) HC.out (same_take ts i n) (fun k hk => setRow_other _ _ _ _ (by rcases hk with hk | hk | hk <;> omega))
end Go.Proofs.Ytigpcfokmbnlaaa.Sched
