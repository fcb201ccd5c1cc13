/- The contract of (*Plan).Pick, case by case. -/
import Derived.Test.YtigpcfokmbnlaaaGoOn
namespace Go.Proofs.Ytigpcfokmbnlaaa.Sched
open Go.RowKit Go.Proofs.YtigpcfokmbnlaaaW.PrintWords

/-- An error of package api as a value; 0: none. -/
def errV (n : Int) : Value := if n = 0 then .nilIface else .iface 43 (.int .i64 n)
/-- What Pick answers. -/
def pickV (k i w n : Int) : Value := .tuple #[.agg (ev3 k i w), errV n]

theorem results11 (tmps : Array Value) (W : World) (g : Nat) (k i w n : Int) (h4 : tmps.getD 4 undef = .pointer (some ⟨g, 0, none⟩)) (h5 : tmps.getD 5 undef = errV n) (hg : W.heap[g]? = some (.cells (ev3 k i w) 33 (0, 0))) :
    (results Try.f11 tmps).run Try.prog W = .ok (pickV k i w n) W := by
  have hl := run_loadVar_row (P := Try.prog) W g 33 33 (ev3 k i w) (0, 0) _ hg Try.underlying33 rfl (by kernel_rfl)
  have h4' : tmps[4]?.getD undef = .pointer (some ⟨g, 0, none⟩) := by simpa using h4
  have h5' : tmps[5]?.getD undef = errV n := by simpa using h5
  simp [results, Try.results11, h4', h5', asAddr, hl, pickV]

set_option maxHeartbeats 1000000 in
theorem pick_nil (n : Int) (w : World) :
    Calls Try.prog 11 #[.pointer none, .int .i64 n] w fun e w' => e = .returned (pickV 0 0 0 12) ∧ Below w.heap.size w w' := by
  have z33 := z33
  have H2 := Aside0.mk (ev3_one 0 0 0)
  go_enter Try.func11, Try.ntmps11
  go_wp2_with (refine wpList_store_row rfl 33 _ _ rfl w.heap.size (ev3 0 0 0) rfl rfl 33 #[.int .i64 0, .int .i64 0, .int .i64 0] (heap_alloc_new _ _) (by kernel_rfl) rfl H2.out ?_; rw [World.setRow_alloc_new])
  refine bodyPost_ret (v := pickV 0 0 0 12) (results11 _ _ w.heap.size 0 0 0 12 rfl rfl (heap_alloc_new _ _)) rfl ⟨rfl, below_alloc (Below.refl _ _) _⟩

section
variable (P : Pl) (ts : List T) (has : List Int) (picks left : Int) (w : World)
set_option maxHeartbeats 1000000 in
theorem pick_range (n : Int) (h : IsPlan w P ts has picks left) (hn : n < 0 ∨ has.length ≤ n) :
    Calls Try.prog 11 #[.pointer (some ⟨P.gp, 0, none⟩), .int .i64 n] w fun e w' => e = .returned (pickV 0 0 0 1) ∧ Below w.heap.size w w' := by
  have z33 := z33
  have H2 := Aside0.mk (ev3_one 0 0 0)
  have h2 := h.keep (below_alloc (Below.refl _ _) (.cells #[.int .i64 0, .int .i64 0, .int .i64 0] 33))
  obtain ⟨-, c1, -, -⟩ := h2.cellP
  clear h h2
  by_cases hneg : n < 0
  · have b1 : decide (n < 0) = true := by simp; omega
    clear hn
    go_enter Try.func11, Try.ntmps11
    go_wp2_with (refine wpList_store_row rfl 33 _ _ rfl w.heap.size (ev3 0 0 0) rfl rfl 33 #[.int .i64 0, .int .i64 0, .int .i64 0] (heap_alloc_new _ _) (by kernel_rfl) rfl H2.out ?_; rw [World.setRow_alloc_new])
    refine bodyPost_ret (v := pickV 0 0 0 1) (results11 _ _ w.heap.size 0 0 0 1 rfl rfl (heap_alloc_new _ _)) rfl ⟨rfl, below_alloc (Below.refl _ _) _⟩
  · have b1 : decide (n < 0) = false := by simp; omega
    have b2 : decide ((has.length : Int) ≤ n) = true := by simp; omega
    clear hn
    go_enter Try.func11, Try.ntmps11
    go_wp2_with (refine wpList_store_row rfl 33 _ _ rfl w.heap.size (ev3 0 0 0) rfl rfl 33 #[.int .i64 0, .int .i64 0, .int .i64 0] (heap_alloc_new _ _) (by kernel_rfl) rfl H2.out ?_; rw [World.setRow_alloc_new])
    refine bodyPost_ret (v := pickV 0 0 0 1) (results11 _ _ w.heap.size 0 0 0 1 rfl rfl (heap_alloc_new _ _)) rfl ⟨rfl, below_alloc (Below.refl _ _) _⟩

set_option maxHeartbeats 1000000 in
theorem pick_end (n : Nat) (h : IsPlan w P ts has picks left) (hn : n < has.length) (hl : left = 0) :
    Calls Try.prog 11 #[.pointer (some ⟨P.gp, 0, none⟩), .int .i64 n] w fun e w' => e = .returned (pickV 0 0 0 12) ∧ Below w.heap.size w w' := by
  subst hl
  have z33 := z33
  have H2 := Aside0.mk (ev3_one 0 0 0)
  have h2 := h.keep (below_alloc (Below.refl _ _) (.cells #[.int .i64 0, .int .i64 0, .int .i64 0] 33))
  obtain ⟨-, c1, -, c3⟩ := h2.cellP
  clear h h2
  have b2 : decide (has.length ≤ n) = false := by simp; omega
  go_enter Try.func11, Try.ntmps11
  go_wp2_with (refine wpList_store_row rfl 33 _ _ rfl w.heap.size (ev3 0 0 0) rfl rfl 33 #[.int .i64 0, .int .i64 0, .int .i64 0] (heap_alloc_new _ _) (by kernel_rfl) rfl H2.out ?_; rw [World.setRow_alloc_new])
  refine bodyPost_ret (v := pickV 0 0 0 12) (results11 _ _ w.heap.size 0 0 0 12 rfl rfl (heap_alloc_new _ _)) rfl ⟨rfl, below_alloc (Below.refl _ _) _⟩

set_option maxHeartbeats 2000000 in
theorem pick_goOn (n i : Nat) (k wk : Int) (us : List T) (has' : List Int) (left' : Int) (h : IsPlan w P ts has picks left) (hn : n < has.length) (hl : left ≠ 0) (hh : has.getD n 0 = (i : Int)) (hr : SameRows ts us)
    (hg : ∀ W, IsPlan W P ts has (wrap64 (picks + 1)) left → Calls Try.prog 24 #[.pointer (some ⟨P.gp, 0, none⟩), .int .i64 i] W fun e w' => e = .returned (evV k i wk) ∧ IsPlan w' P us has' (wrap64 (picks + 1)) left' ∧ Stp W w' P) :
    Calls Try.prog 11 #[.pointer (some ⟨P.gp, 0, none⟩), .int .i64 n] w fun e w' => e = .returned (pickV k i wk 0) ∧ IsPlan w' P us has' (wrap64 (picks + 1)) left' ∧ Stp w w' P := by
  have z33 := z33
  have H2 := Aside0.mk (ev3_one k i wk)
  have h2 := h.keep (below_alloc (Below.refl _ _) (.cells #[.int .i64 0, .int .i64 0, .int .i64 0] 33))
  obtain ⟨c0, c1, c2, c3⟩ := h2.cellP
  obtain ⟨d0, d1, d2, d3⟩ := h.cellP
  have fp := h2.frP
  have fp0 := h.frP
  have ch := h2.cellH n hn
  have ch0 := h.cellH n hn
  rw [hh] at ch ch0
  have b2 : decide (has.length ≤ n) = false := by simp; omega
  have b3 : (left == 0) = false := by rw [beq_eq_false_iff_ne]; exact hl
  have b4 : ((i : Int) != -1) = true := by rw [bne_iff_ne]; omega
  have n1 := h.ph
  have n2 := h.ph.symm
  obtain ⟨l1, l2, l3⟩ := h.lts
  have hq := h.setPicks (wrap64 (picks + 1))
  have HQ := Aside0.mk hq
  have HI := Aside0.mk h
  have HG := Aside0.mk hg
  clear h h2 hh hg hq
  go_enter Try.func11, Try.ntmps11
  go_wp2_with fail
  have hq2 := HQ.out.keep (below_alloc (Below.refl _ _) (.cells #[.int .i64 0, .int .i64 0, .int .i64 0] 33))
  refine (HG.out _ hq2).mono ?_
  rintro e w5 ⟨rfl, hP5, hS5⟩
  have hblk5 : w5.heap[w.heap.size]? = some (.cells #[.int .i64 0, .int .i64 0, .int .i64 0] 33 (0, 0)) := by
    rw [hS5.block w.heap.size (by simp) (by omega) (by omega) (by omega)]
    have := heap_alloc_new (w.setCell ⟨P.gp, 2, none⟩ (.int .i64 (wrap64 (picks + 1)))) (.cells #[.int .i64 0, .int .i64 0, .int .i64 0] 33)
    simpa using this
  have HK5 := Aside0.mk hblk5
  have HP5 := Aside0.mk hP5
  have HS5 := Aside0.mk ((((Stp.refl w P).setCell (p := ⟨P.gp, 2, none⟩) (.inl rfl) (.int .i64 (wrap64 (picks + 1)))).alloc (.cells #[.int .i64 0, .int .i64 0, .int .i64 0] 33)).trans hS5)
  clear hq2 hP5 hS5 hblk5 c0 c1 c2 c3 d0 d1 d2 d3 fp fp0 ch ch0
  unfold evV
  go_wp2_with (refine wpList_store_row rfl 33 _ _ rfl w.heap.size (ev3 k i wk) rfl rfl 33 #[.int .i64 0, .int .i64 0, .int .i64 0] HK5.out (by kernel_rfl) rfl H2.out ?_)
  have HGr := setRow_heap _ w.heap.size #[.int .i64 0, .int .i64 0, .int .i64 0] (ev3 k i wk) 33 (0, 0) HK5.out
  refine bodyPost_ret (v := pickV k i wk 0) (results11 _ _ w.heap.size k i wk 0 rfl rfl HGr) rfl ⟨rfl, ?_, HS5.out.setRow _ (Nat.le_refl _)⟩
  exact HI.out.rebuild (HS5.out.setRow _ (Nat.le_refl _)) HP5.out hr (fun k hk => setRow_other _ _ _ _ (by rcases hk with hk | hk | hk <;> omega))

set_option maxHeartbeats 2000000 in
theorem pick_help (n i : Nat) (k wk : Int) (us : List T) (has' : List Int) (left' : Int) (h : IsPlan w P ts has picks left) (hn : n < has.length) (hl : left ≠ 0) (hh : has.getD n 0 = -1) (hrd : firstI readyB ts = -1) (hhd : firstI heldB ts = (i : Int)) (hr : SameRows ts us)
    (hg : ∀ W, IsPlan W P ts has (wrap64 (picks + 1)) left → Calls Try.prog 24 #[.pointer (some ⟨P.gp, 0, none⟩), .int .i64 i] W fun e w' => e = .returned (evV k i wk) ∧ IsPlan w' P us has' (wrap64 (picks + 1)) left' ∧ Stp W w' P) :
    Calls Try.prog 11 #[.pointer (some ⟨P.gp, 0, none⟩), .int .i64 n] w fun e w' => e = .returned (pickV k i wk 0) ∧ IsPlan w' P us has' (wrap64 (picks + 1)) left' ∧ Stp w w' P := by
  have z33 := z33
  have H2 := Aside0.mk (ev3_one k i wk)
  have h2 := h.keep (below_alloc (Below.refl _ _) (.cells #[.int .i64 0, .int .i64 0, .int .i64 0] 33))
  obtain ⟨c0, c1, c2, c3⟩ := h2.cellP
  obtain ⟨d0, d1, d2, d3⟩ := h.cellP
  have fp := h2.frP
  have fp0 := h.frP
  have ch := h2.cellH n hn
  have ch0 := h.cellH n hn
  rw [hh] at ch ch0
  have b2 : decide (has.length ≤ n) = false := by simp; omega
  have b3 : (left == 0) = false := by rw [beq_eq_false_iff_ne]; exact hl
  have n1 := h.ph
  have n2 := h.ph.symm
  obtain ⟨l1, l2, l3⟩ := h.lts
  have hq := h.setPicks (wrap64 (picks + 1))
  have HQ := Aside0.mk hq
  have HI := Aside0.mk h
  have HG := Aside0.mk hg
  have HR := Aside0.mk hrd
  have HH := Aside0.mk hhd
  clear h h2 hh hg hq hrd hhd
  go_enter Try.func11, Try.ntmps11
  go_wp2_with fail
  have hq2 := HQ.out.keep (below_alloc (Below.refl _ _) (.cells #[.int .i64 0, .int .i64 0, .int .i64 0] 33))
  refine (first_ready P ts has _ left _ hq2).mono ?_
  rintro e w3 ⟨rfl, ⟨nd3, rfl⟩⟩
  rw [HR.out]
  go_wp2_with fail
  refine (first_held P ts has _ left _ (hq2.drewN nd3)).mono ?_
  rintro e w4 ⟨rfl, ⟨nd4, rfl⟩⟩
  rw [HH.out]
  go_wp2_with fail
  have hq4 : IsPlan (((w.setCell ⟨P.gp, 2, none⟩ (.int .i64 (wrap64 (picks + 1)))).alloc (.cells #[.int .i64 0, .int .i64 0, .int .i64 0] 33)).drewN (nd3 + nd4)) P ts has (wrap64 (picks + 1)) left := hq2.drewN _
  refine (HG.out _ hq4).mono ?_
  rintro e w5 ⟨rfl, hP5, hS5⟩
  have hblk5 : w5.heap[w.heap.size]? = some (.cells #[.int .i64 0, .int .i64 0, .int .i64 0] 33 (0, 0)) := by
    rw [hS5.block w.heap.size (by show w.heap.size < ((w.setCell ⟨P.gp, 2, none⟩ (.int .i64 (wrap64 (picks + 1)))).alloc (.cells #[.int .i64 0, .int .i64 0, .int .i64 0] 33)).heap.size; simp) (by omega) (by omega) (by omega)]
    have := heap_alloc_new (w.setCell ⟨P.gp, 2, none⟩ (.int .i64 (wrap64 (picks + 1)))) (.cells #[.int .i64 0, .int .i64 0, .int .i64 0] 33)
    have this2 : ((w.setCell ⟨P.gp, 2, none⟩ (.int .i64 (wrap64 (picks + 1)))).alloc (.cells #[.int .i64 0, .int .i64 0, .int .i64 0] 33)).heap[w.heap.size]? = some (.cells #[.int .i64 0, .int .i64 0, .int .i64 0] 33 (0, 0)) := by simpa using this
    exact this2
  have HK5 := Aside0.mk hblk5
  have HP5 := Aside0.mk hP5
  have HS5 := Aside0.mk (((((Stp.refl w P).setCell (p := ⟨P.gp, 2, none⟩) (.inl rfl) (.int .i64 (wrap64 (picks + 1)))).alloc (.cells #[.int .i64 0, .int .i64 0, .int .i64 0] 33)).drewN (nd3 + nd4)).trans hS5)
  clear hq2 hq4 hP5 hS5 hblk5 c0 c1 c2 c3 d0 d1 d2 d3 fp fp0 ch ch0
  unfold evV
  go_wp2_with (refine wpList_store_row rfl 33 _ _ rfl w.heap.size (ev3 k i wk) rfl rfl 33 #[.int .i64 0, .int .i64 0, .int .i64 0] HK5.out (by kernel_rfl) rfl H2.out ?_)
  have HGr := setRow_heap _ w.heap.size #[.int .i64 0, .int .i64 0, .int .i64 0] (ev3 k i wk) 33 (0, 0) HK5.out
  refine bodyPost_ret (v := pickV k i wk 0) (results11 _ _ w.heap.size k i wk 0 rfl rfl HGr) rfl ⟨rfl, ?_, HS5.out.setRow _ (Nat.le_refl _)⟩
  exact HI.out.rebuild (HS5.out.setRow _ (Nat.le_refl _)) HP5.out hr (fun k hk => setRow_other _ _ _ _ (by rcases hk with hk | hk | hk <;> omega))
end
end Go.Proofs.Ytigpcfokmbnlaaa.Sched
