/- sched.New: the walk where a plan is made. -/
import Derived.Test.YtigpcfokmbnlaaaPlaysC
import Derived.Deep.RegionLaw
namespace Go.Proofs.Ytigpcfokmbnlaaa.Sched
open Go.RowKit Go.Proofs.YtigpcfokmbnlaaaW.PrintWords Go.Proofs.Ytigpcfokmbnlaaa.PSchedPlays

/-- A plan laid into memory, nothing in it yet. -/
theorem isMk_new (w : World) (n : Nat) (B : Nat) (hB : B ≤ w.heap.size) :
    IsMk ((w.alloc (.cells (tcells (List.replicate n zT)).toArray 61)).alloc (.cells #[.slice (some ⟨w.heap.size, 0, none⟩) n n, .slice none 0 0, .int .i64 0, .int .i64 n] 59)) B (w.heap.size + 1) w.heap.size (List.replicate n zT) (.slice none 0 0) [] n := by
  have hz : ∀ j, (List.replicate n zT).getD j zT = zT := by
    intro j; simp [List.getD_eq_getElem?_getD, List.getElem?_replicate]; split <;> rfl
  refine ⟨by omega, by omega, hB, ?_, ?_, own_nil _ _ _ _, ?_, ?_, ?_⟩
  · rw [List.length_replicate]
    have := heap_alloc_new (w.alloc (.cells (tcells (List.replicate n zT)).toArray 61)) (.cells #[.slice (some ⟨w.heap.size, 0, none⟩) n n, .slice none 0 0, .int .i64 0, .int .i64 n] 59)
    simpa using this
  · rw [heap_alloc_old _ _ (by simp)]
    exact heap_alloc_new _ _
  · intro j hj
    rw [hz]
    exact own_nil _ _ _ _
  · intro a b _ _ _ k hk
    rw [hz] at hk
    cases hk
  · intro j _ k hk
    rw [hz] at hk
    cases hk

theorem IsMk.grown_row {w w1 : World} {B gp gt : Nat} {ts : List T} {hv : Value} {has : List Int} {left : Int} (h : IsMk w B gp gt ts hv has left) (k : Nat) (hk : k < ts.length) (hg : w.grownBy w1 (bv (ts.getD k zT)).ownBlock) :
    w1.cell? ⟨gp, 0, none⟩ = some (.slice (some ⟨gt, 0, none⟩) ts.length ts.length) ∧ w1.cell? ⟨gt, k * 4 + 1, none⟩ = some (bv (ts.getD k zT)) ∧ ∀ j, w1.frozen? ⟨gt, j, none⟩ = false := by
  have lt : ∀ {g : Nat} {o : Obj}, w.heap[g]? = some o → g < w.heap.size := fun h1 => (Array.getElem?_eq_some_iff.1 h1).1
  have hp : w1.heap[gp]? = w.heap[gp]? := hg.block gp (lt h.plan) (Ne.symm (own_ne_type (h.rows k hk) h.plan (by decide)))
  have ht : w1.heap[gt]? = w.heap[gt]? := hg.block gt (lt h.tasks) (Ne.symm (own_ne_type (h.rows k hk) h.tasks (by decide)))
  refine ⟨?_, ?_, fun j => ?_⟩
  · rw [World.cell?_of_block (a := ⟨gp, 0, none⟩) hp]; exact h.cellP.1
  · rw [World.cell?_of_block (a := ⟨gt, k * 4 + 1, none⟩) ht, h.cellT k 1 hk (by omega)]; rfl
  · rw [World.frozen?_of_block (a := ⟨gt, j, none⟩) ht]; exact h.frT j
theorem IsMk.head {w : World} {B gp gt : Nat} {ts : List T} {hv : Value} {has : List Int} {left : Int} (h : IsMk w B gp gt ts hv has left) (k n : Nat) (hk : k < ts.length) :
    IsMk ((w.setCell ⟨gt, k * 4 + 2, none⟩ (.int .i64 (-1))).setCell ⟨gt, k * 4, none⟩ (.int .i64 n)) B gp gt (headB ts k n) hv has left := by
  have h1 := h.setT k 2 hk (by omega) (.int .i64 (-1)) { ts.getD k zT with worker := -1 } rfl ⟨rfl, rfl, rfl⟩
  have h2 := h1.setT k 0 (by rw [List.length_set]; exact hk) (by omega) (.int .i64 n) { ts.getD k zT with worker := -1, waits := n } (by rw [getD_set _ _ _ hk]; rfl) (by rw [getD_set _ _ _ hk]; exact ⟨rfl, rfl, rfl⟩)
  rw [List.set_set] at h2
  exact h2
theorem IsMk.below_set {w w1 : World} {B gp gt : Nat} {ts : List T} {hv : Value} {has : List Int} {left : Int} (h : IsMk w1 B gp gt ts hv has left) (hB : Below B w w1) (j : Nat) (u : Value) : Below B w (w1.setCell ⟨gt, j, none⟩ u) :=
  hB.setCell h.bt u

theorem IsMk.append {w w5 : World} {B gp gt : Nat} {us : List T} {hv : Value} {has : List Int} {left : Int} (h : IsMk w B gp gt us hv has left) (q : Nat) (hq : q < us.length) (t : T) (ht : us.getD q zT = t) (i : Int) (A5 : Option Addr) (c5 : Nat)
    (hR : (Kd.int .i64).R 3 w5 B (fun _ => True) (.slice A5 (t.behind ++ [i]).length c5) (t.behind ++ [i])) (hg : w.grownBy w5 (bv t).ownBlock)
    (hat : (Value.slice A5 (t.behind ++ [i]).length c5).ownBlock = (bv t).ownBlock ∨ ∃ b, (Value.slice A5 (t.behind ++ [i]).length c5).ownBlock = some b ∧ w.heap.size ≤ b) :
    IsMk (w5.setCell ⟨gt, q * 4 + 1, none⟩ (.slice A5 (t.behind.length + 1) c5)) B gp gt (us.set q { us.getD q zT with A := A5, cap := c5, behind := (us.getD q zT).behind ++ [i] }) hv has left := by
  have h2 := h.row (w1 := w5) q hq A5 c5 (t.behind ++ [i]) (by rw [ht]; exact hg) (Kd.own_of_R (enc := Value.int .i64) (h1 := fun _ => rfl) hR) (by rw [ht]; exact hat)
  rw [List.length_append, List.length_singleton] at h2
  rw [ht] at h2 ⊢
  exact h2

theorem IsMk.grown_has {w w1 : World} {B gp gt : Nat} {ts : List T} {hv : Value} {has : List Int} {left : Int} (h : IsMk w B gp gt ts hv has left) (hg : w.grownBy w1 hv.ownBlock) :
    w1.cell? ⟨gp, 1, none⟩ = some hv ∧ w1.frozen? ⟨gp, 1, none⟩ = false := by
  have lt : ∀ {g : Nat} {o : Obj}, w.heap[g]? = some o → g < w.heap.size := fun h1 => (Array.getElem?_eq_some_iff.1 h1).1
  have hp : w1.heap[gp]? = w.heap[gp]? := hg.block gp (lt h.plan) (Ne.symm (own_ne_type h.hass h.plan (by decide)))
  exact ⟨by rw [World.cell?_of_block (a := ⟨gp, 1, none⟩) hp]; exact h.cellP.2, by rw [World.frozen?_of_block (a := ⟨gp, 1, none⟩) hp]; exact h.frP 1⟩
theorem below_trans {B : Nat} {w w1 w2 : World} (h : Below B w w1) (k : Below B w1 w2) : Below B w w2 :=
  ⟨k.os.trans h.os, k.tape.trans h.tape, k.output.trans h.output, Nat.le_trans h.size k.size, fun i hi => (k.block i hi).trans (h.block i hi)⟩
theorem IsMk.hasAppend {w w5 : World} {B gp gt : Nat} {us : List T} {hv : Value} {has : List Int} {left : Int} (h : IsMk w B gp gt us hv has left) (i : Int) (A5 : Option Addr) (c5 : Nat)
    (hR : (Kd.int .i64).R 3 w5 B (fun _ => True) (.slice A5 (has ++ [i]).length c5) (has ++ [i])) (hg : w.grownBy w5 hv.ownBlock)
    (hat : (Value.slice A5 (has ++ [i]).length c5).ownBlock = hv.ownBlock ∨ ∃ b, (Value.slice A5 (has ++ [i]).length c5).ownBlock = some b ∧ w.heap.size ≤ b) :
    IsMk (w5.setCell ⟨gp, 1, none⟩ (.slice A5 (has.length + 1) c5)) B gp gt us (.slice A5 (has.length + 1) c5) (has ++ [i]) left := by
  have h2 := h.hasRow (w1 := w5) (.slice A5 (has ++ [i]).length c5) (has ++ [i]) hg (Kd.own_of_R (enc := Value.int .i64) (h1 := fun _ => rfl) hR) hat
  rw [List.length_append, List.length_singleton] at h2
  exact h2

set_option maxHeartbeats 4000000 in
theorem new_good (A0 : Option Addr) (c0 : Nat) (L : List (List Int)) (A1 : Option Addr) (c1 : Nat) (idle : List Bool) (n : Nat) (w : World) (hL : L.length ≤ 1000) (hr : rowsAt L 1000) (hr0 : Kd.C (Kd.slice 3 (Kd.int .i64)) w A0 L.length L) (hc0 : L.length ≤ c0)
    (hr1 : Kd.C Kd.bool w A1 idle.length idle) (_hc1 : idle.length ≤ c1) (hg : goodB L = true) (hi : idle.length = L.length) (hn : 1 ≤ n ∧ n ≤ 64) :
    Calls Try.prog 10 #[.slice A0 L.length c0, .slice A1 idle.length c1, .int .i64 n] w fun e w' => ∃ P ts, e = .returned (.tuple #[.pointer (some ⟨P.gp, 0, none⟩), .nilIface]) ∧ ts.map bare = upB L L.length ∧
      w.heap.size ≤ P.gp ∧ w.heap.size ≤ P.gt ∧ w.heap.size ≤ P.gh ∧ IsPlan w' P (idleUp ts idle L.length) (List.replicate n (-1)) 0 (leftUp L.length idle L.length) ∧ Below w.heap.size w w' := by
  have HG := Aside0.mk (good_calls A0 c0 L w (by omega) (fun l hl => Nat.le_trans (hr l hl) (by omega)) hr0 hc0)
  rw [hg] at HG
  have HH := Aside0.mk (good_mem L hg)
  have b1 : decide ((n : Int) < 1) = false := by simp; omega
  have b2 : decide (64 < (n : Int)) = false := by simp; omega
  have bi : decide (((idle.length : Nat) : Int) = ((L.length : Nat) : Int)) = true := by simp [hi]
  have hmk := make57 L.length (by omega)
  have z59 := z59
  have HR0 := Aside0.mk hr0
  have HR1 := Aside0.mk hr1
  have HC := Aside0.mk (And.intro hL (And.intro hr (And.intro hi hn)))
  clear hr0 hr1 hg hn hL hr hc0
  go_enter Try.func10, Try.ntmps10
  go_wp2_with (go_at_call 22; refine HG.out.mono ?_; rintro e w1 ⟨rfl, ⟨m1, rfl⟩⟩)
  try (go_quiet (fail); go_wp2)
  have HM : Aside0 (IsMk (((w.drewN m1).alloc (.cells (tcells (List.replicate L.length zT)).toArray 61)).alloc (.cells #[.slice (some ⟨w.heap.size, 0, none⟩) L.length L.length, .slice none 0 0, .int .i64 0, .int .i64 L.length] 59)) w.heap.size (w.heap.size + 1) w.heap.size (List.replicate L.length zT) (.slice none 0 0) [] L.length) := ⟨isMk_new (w.drewN m1) L.length w.heap.size (Nat.le_refl _)⟩
  have HB : Aside0 (Below w.heap.size w (((w.drewN m1).alloc (.cells (tcells (List.replicate L.length zT)).toArray 61)).alloc (.cells #[.slice (some ⟨w.heap.size, 0, none⟩) L.length L.length, .slice none 0 0, .int .i64 0, .int .i64 L.length] 59))) := ⟨below_alloc (below_alloc (pw_below_drewN (Below.refl _ _) m1) _) _⟩
  have HU : Aside0 ((List.replicate L.length zT).map bare = upB L 0) := ⟨by rw [List.map_replicate]; rfl⟩
  have HLT : Aside0 (w.heap.size ≤ w.heap.size) := ⟨Nat.le_refl _⟩
  generalize hW : ((w.drewN m1).alloc (.cells (tcells (List.replicate L.length zT)).toArray 61)).alloc (.cells #[.slice (some ⟨w.heap.size, 0, none⟩) L.length L.length, .slice none 0 0, .int .i64 0, .int .i64 L.length] 59) = W at HM HB ⊢
  clear hW
  obtain ⟨B, hB⟩ : ∃ B, B = w.heap.size := ⟨_, rfl⟩
  rw [← hB] at HB
  obtain ⟨gp, hgp⟩ : ∃ g, g = w.heap.size + 1 := ⟨_, rfl⟩
  obtain ⟨gt, hgt⟩ : ∃ g, g = w.heap.size := ⟨_, rfl⟩
  have HM' : Aside0 (IsMk W B gp gt (List.replicate L.length zT) (.slice none 0 0) [] L.length) := ⟨by rw [hB, hgp, hgt]; exact HM.out⟩
  rw [← hgp, ← hgt]
  clear HM
  have n1 : gp ≠ gt := by omega
  have n2 : gt ≠ gp := by omega
  have HBB := Aside0.mk hB
  clear hgp hgt hmk z59 bi hB HLT hi
  go_loopw [44] (fun v wr => ∃ (k : Nat) (ts : List T), k ≤ L.length ∧ v = .int .i64 k ∧ Aside0 (IsMk wr B gp gt ts (.slice none 0 0) [] L.length) ∧ Aside0 (ts.map bare = upB L k) ∧ Aside0 (Below B w wr)) (fun v _ => L.length - (intOf v).toNat)
  case atStart => exact ⟨0, _, by omega, rfl, HM', HU, HB⟩
  case round =>
    clear HM' HU HB
    obtain ⟨k, ts, hk, rfl, HP, HU, HB⟩ := hrel
    have HLL : Aside0 (ts.length = L.length) := ⟨by have := congrArg List.length HU.out; rw [List.length_map, upB_len] at this; exact this⟩
    by_cases hlt : k < L.length
    · have hb : decide (k < L.length) = true := by simp; omega
      have hk2 : (k : Int) < (L.length : Int) := by omega
      obtain ⟨ad, A', c', hA, hx, hl, hC⟩ := at_L1 HR0.out (k : Int) (by omega) (by omega)
      rw [Int.toNat_natCast] at hx
      have hx1 := (HB.out.cell (by rw [HBB.out]; exact World.block_lt_of_cell? w _ hx)).trans hx
      rw [rd_L1_nat] at hx1 hl hC
      have HX := Aside0.mk hC
      have hrow := HH.out k hlt
      have HRW : Aside0 (upB L (k + 1) = (L.getD k []).foldl (fun ts q => addB k ts q.toNat) (headB (upB L k) k (L.getD k []).length)) := ⟨rfl⟩
      have hrl : (L.getD k []).length ≤ 1000 := by
        have e : L.getD k [] = L[k] := by simp [List.getD_eq_getElem?_getD, hlt]
        rw [e]; exact HC.out.2.1 _ (List.getElem_mem hlt)
      have HRM := Aside0.mk hrow
      have HRL := Aside0.mk hrl
      clear hx hl hC hrow hrl
      generalize L.getD k [] = row at hx1 HX HRW HRM HRL
      obtain ⟨c0, -⟩ := HP.out.cellP
      have ft := HP.out.frT
      have t2 := HP.out.cellT k 2 (by rw [HLL.out]; omega) (by omega)
      have t0 := HP.out.cellT k 0 (by rw [HLL.out]; omega) (by omega)
      simp only [T.cells, List.getElem?_cons_zero, List.getElem?_cons_succ, Nat.add_zero] at t2 t0
      rw [HLL.out] at c0
      rw [hA]
      have HP1 := Aside0.mk (HP.out.head k row.length (by rw [HLL.out]; exact hlt))
      have HB1 := Aside0.mk ((HB.out.setCell (p := ⟨gt, k * 4 + 2, none⟩) HP.out.bt (.int .i64 (-1))).setCell (p := ⟨gt, k * 4, none⟩) HP.out.bt (.int .i64 row.length))
      have HU1 : Aside0 ((headB ts k row.length).map bare = headB (upB L k) k row.length) := ⟨by rw [headB_bare, HU.out]⟩
      have HS1 : Aside0 (LenLe (headB (upB L k) k row.length) 1000000) := ⟨lenLe_mono (lenLe_headB (lenLe_upB L 1000 HC.out.2.1 k) _ _) (by have := HC.out.1; omega)⟩
      go_wp2
      generalize (wr.setCell ⟨gt, k * 4 + 2, none⟩ (.int .i64 (-1))).setCell ⟨gt, k * 4, none⟩ (.int .i64 row.length) = W1 at HP1 HB1 ⊢
      generalize headB ts k row.length = us1 at HP1 HU1
      clear c0 ft t2 t0 hx1 HP HU HB HLL
      generalize headB (upB L k) k row.length = vs1 at HU1 HRW HS1
      go_loopw [67] (fun v wr => ∃ (j : Nat) (us : List T), j ≤ row.length ∧ v = .int .i64 j ∧ Aside0 (IsMk wr B gp gt us (.slice none 0 0) [] L.length) ∧ Aside0 (us.map bare = (row.take j).foldl (fun ts q => addB k ts q.toNat) vs1) ∧ Aside0 (Below B w wr)) (fun v _ => row.length - (intOf v).toNat)
      case atStart => exact ⟨0, _, by omega, rfl, HP1, HU1, HB1⟩
      case round =>
        clear HP1 HU1 HB1
        obtain ⟨j, us, hj, rfl, HP, HU, HB⟩ := hrel
        by_cases hjt : j < row.length
        · have hb2 : decide (j < row.length) = true := by simp; omega
          have HLL : Aside0 (us.length = L.length) := ⟨by have := congrArg List.length HU.out; rw [List.length_map, addB_foldlen] at this; have h2 := congrArg List.length HRW.out; rw [upB_len, addB_foldlen] at h2; omega⟩
          have HLE : Aside0 (LenLe us (1000000 + 1000)) := ⟨by
            have h3 := lenLe_mono (lenLe_fold k (row.take j) vs1 _ HS1.out) (show 1000000 + (row.take j).length ≤ 1000000 + 1000 by rw [List.length_take]; have := HRL.out; omega)
            rw [← HU.out] at h3
            intro t ht
            exact h3 (bare t) (List.mem_map_of_mem ht)⟩
          obtain ⟨ad, hA, hcell⟩ := Kd.at_int HX.out (j : Int) (by omega) (by omega)
          rw [Int.toNat_natCast] at hcell
          replace hcell := (HB.out.cell (by rw [HBB.out]; exact World.block_lt_of_cell? w _ hcell)).trans hcell
          have hr : 0 ≤ rd row j ∧ rd row j < k := HRM.out _ (by unfold rd; rw [Int.toNat_natCast, List.getD_eq_getElem?_getD, List.getElem?_eq_getElem hjt]; exact List.getElem_mem hjt)
          have HF := Aside0.mk (add_take k row vs1 j hjt)
          generalize rd row j = q at hcell hr HF
          obtain ⟨q, rfl⟩ := Int.eq_ofNat_of_zero_le hr.1
          rw [Int.toNat_natCast] at HF
          have hq : q < L.length := by omega
          have hq2 : (q : Int) < (L.length : Int) := by omega
          have hqu : q < us.length := by rw [HLL.out]; exact hq
          obtain ⟨c0, -⟩ := HP.out.cellP
          have HP2 := Aside0.mk (HP.out.alloc (.cells #[.int .i64 k] 3))
          obtain ⟨d0, -⟩ := HP2.out.cellP
          have ft := HP.out.frT (q * 4 + 1)
          have ft2 := HP2.out.frT (q * 4 + 1)
          have t1 := HP.out.cellT q 1 hqu (by omega)
          have t2 := HP2.out.cellT q 1 hqu (by omega)
          simp only [T.cells, List.getElem?_cons_zero, List.getElem?_cons_succ] at t1 t2
          rw [HLL.out] at c0 d0
          have HQU := Aside0.mk hqu
          have HLQ := Aside0.mk (lenLe_getD HLE.out q)
          have HP3 : Aside0 (IsMk (wr.alloc (.cells #[.int .i64 k] 3)).drew B gp gt us (.slice none 0 0) [] L.length) := ⟨HP2.out.drewN 1⟩
          have HRQ := Aside0.mk (HP3.out.rows q hqu)
          have HSZ := Aside0.mk (show B ≤ (wr.alloc (.cells #[.int .i64 k] 3)).drew.heap.size by show B ≤ (wr.alloc (.cells #[.int .i64 k] 3)).heap.size; have := HB.out.size; rw [World.size_alloc, HBB.out]; omega)
          have HB2 : Aside0 (Below B w (wr.alloc (.cells #[.int .i64 k] 3)).drew) := ⟨by have h := HB.out; rw [HBB.out] at h ⊢; exact below_drew (below_alloc h _)⟩
          have HCL := Aside0.mk (Kd.C_drew (C_lit .i64 wr 3 [(k : Int)] (by simp)))
          clear hqu hr
          generalize hT : us.getD q zT = t at t1 t2 HLQ HRQ
          have HT := Aside0.mk hT
          clear hT
          rw [hA]
          go_wp2
          go_region_law ((refine Kd.R_append_rows_step (Kd.int .i64) (Rr := (Kd.int .i64).K _) B (by rfl) (.tmp 83) (.tmp 85) 38 3 (.int .i64 0) 8 rfl Try.underlying38 (by kernel_rfl) rfl (by decide) (by decide) _ t.behind [(k : Int)] (some ⟨wr.heap.size, 0, none⟩) 1 1 (fun _ => True) (fun _ => False) rfl rfl (Kd.R_of_own HRQ.out (fun _ _ => trivial)) HCL.out (fun _ _ h => h) (fun _ h => h.elim) (fun _ _ => trivial) HB2.out HSZ.out (by have := HLQ.out; simp; omega) ?_; intro v5 w5 hr5 hb5 hg5 hat5; obtain ⟨A5, c5, he5, hl5, hC5⟩ := Kd.R_reads hr5; subst he5; clear hl5 hC5; have HA5 := Aside0.mk hr5; have HB5 := Aside0.mk hb5; have HG5 := Aside0.mk hg5; have HT5 := Aside0.mk hat5; clear hr5 hb5 hg5 hat5; obtain ⟨e0, e1, ef⟩ := HP3.out.grown_row q HQU.out (by rw [HT.out]; exact HG5.out); rw [HLL.out] at e0; rw [HT.out] at e1; unfold bv at e1; have ef1 := ef (q * 4 + 1); clear ef))
          all_goals (
            have HN := Aside0.mk (HP3.out.append q HQU.out t HT.out k A5 c5 HA5.out HG5.out HT5.out)
            have HBN := Aside0.mk (HB5.out.setCell (p := ⟨gt, q * 4 + 1, none⟩) HP3.out.bt (.slice A5 (t.behind.length + 1) c5))
            have HUN : Aside0 ((us.set q { us.getD q zT with A := A5, cap := c5, behind := (us.getD q zT).behind ++ [(k : Int)] }).map bare = (row.take (j + 1)).foldl (fun ts q => addB k ts q.toNat) vs1) := ⟨by rw [addB_bare, HU.out, HF.out]⟩
            have hrl := HRL.out
            clear e0 e1 ef1 c0 d0 ft ft2 t1 t2
            go_wp2
            go_roundw
            case rel => exact ⟨j + 1, _, by omega, by go_num, HN, HUN, HBN⟩
            case measure => simp [intOf]; omega)
        · have hb2 : decide (j < row.length) = false := by simp; omega
          have HF : Aside0 (us.map bare = upB L (k + 1)) := ⟨by rw [HU.out, HRW.out, show j = row.length by omega, List.take_length]⟩
          have hmx := HC.out.1
          go_wp2
          go_roundw
          case rel => exact ⟨k + 1, us, by omega, by go_num, HP, HF, HB⟩
          case measure => simp [intOf]; omega
    · have hb : decide (k < L.length) = false := by simp; omega
      have HUL : Aside0 (ts.map bare = upB L L.length) := ⟨by rw [HU.out, show k = L.length by omega]⟩
      have hn9 := HC.out.2.2.2.2
      go_wp2
      clear HLL HU hlt hb hk
      go_loopw [92] (fun v wr => ∃ (m : Nat) (hv : Value), m ≤ n ∧ v = .int .i64 m ∧ Aside0 (IsMk wr B gp gt ts hv (List.replicate m (-1)) L.length) ∧ Aside0 (Below B w wr)) (fun v _ => n - (intOf v).toNat)
      case atStart => exact ⟨0, _, by omega, rfl, HP, HB⟩
      case round =>
        clear HP HB
        obtain ⟨m, hv, hm, rfl, HP, HB⟩ := hrel
        by_cases hmt : m < n
        · have hb : decide (m < n) = true := by simp; omega
          have HP2 := Aside0.mk (HP.out.alloc (.cells #[.int .i64 (-1)] 3))
          obtain ⟨-, c1⟩ := HP.out.cellP
          obtain ⟨-, d1⟩ := HP2.out.cellP
          have fp := HP.out.frP 1
          have HB2 : Aside0 (Below B w (wr.alloc (.cells #[.int .i64 (-1)] 3))) := ⟨by have h := HB.out; rw [HBB.out] at h ⊢; exact below_alloc h _⟩
          have HSZ := Aside0.mk (show B ≤ (wr.alloc (.cells #[.int .i64 (-1)] 3)).heap.size by have := HB.out.size; rw [World.size_alloc, HBB.out]; omega)
          go_wp2_with (at_builtin; refine Kd.R_append_row (Value.int .i64) 0 (h1 := fun _ => rfl) B rfl (.tmp 98) (.tmp 99) 38 3 (.int .i64 0) 8 rfl Try.underlying38 (by kernel_rfl) rfl (by omega) _ (List.replicate m (-1)) [(-1 : Int)] (some ⟨wr.heap.size, 0, none⟩) 1 1 (fun _ => True) rfl rfl (fun _ _ => trivial) (Kd.R_of_own HP2.out.hass (fun _ _ => trivial)) (C_lit .i64 wr 3 [(-1 : Int)] (by simp)) HB2.out HSZ.out (by simp; omega) ?_; intro v5 w5 hr5 hb5 hg5 hat5; obtain ⟨A5, c5, he5, hl5, hC5⟩ := Kd.R_reads hr5; subst he5; clear hl5 hC5; have HN5 := Aside0.mk (HP2.out.hasAppend (-1) A5 c5 hr5 hg5 hat5); obtain ⟨e1, ef1⟩ := HP2.out.grown_has hg5; have HB5 := Aside0.mk hb5; clear hr5 hb5 hg5 hat5)
          have HBN := Aside0.mk (HB5.out.setCell (p := ⟨gp, 1, none⟩) HP2.out.bp (.slice A5 (m + 1) c5))
          have HN : Aside0 (IsMk (w5.setCell ⟨gp, 1, none⟩ (.slice A5 (m + 1) c5)) B gp gt ts (.slice A5 (m + 1) c5) (List.replicate (m + 1) (-1)) L.length) := ⟨by have h := HN5.out; rw [List.length_replicate, ← List.replicate_succ'] at h; exact h⟩
          clear c1 d1 fp e1 ef1
          go_roundw
          case rel => exact ⟨m + 1, _, by omega, by go_num, HN, HBN⟩
          case measure => simp [intOf]; omega
        · have hb : decide (m < n) = false := by simp; omega
          have hmn : m = n := by omega
          subst hmn
          have hl9 := HC.out.1
          have hi9 := HC.out.2.2.1
          obtain ⟨P, hPg, hB1, hB2, hB3, hPl⟩ := HP.out.made (by rw [List.length_replicate]; exact HC.out.2.2.2.1) (by have := congrArg List.length HUL.out; rw [List.length_map, upB_len] at this; omega) (by rw [List.length_replicate]; omega)
          subst hPg
          have HPL : Aside0 (IsPlan wr P (idleUp ts idle 0) (List.replicate m (-1)) 0 (leftUp L.length idle 0)) := ⟨hPl⟩
          have HPB := Aside0.mk (And.intro hB1 (And.intro hB2 hB3))
          have HLEN : Aside0 (ts.length = L.length) := ⟨by have := congrArg List.length HUL.out; rw [List.length_map, upB_len] at this; exact this⟩
          have HSM : Aside0 (Small ts L.length) := ⟨by rw [← small_bare, HUL.out]; exact small_upB L _ (Nat.le_refl _)⟩
          clear hPl hB1 hB2 hB3 HP
          go_wp2
          clear hb
          go_loopw [106] (fun v wr => ∃ i : Nat, i ≤ L.length ∧ v = .int .i64 i ∧ Aside0 (IsPlan wr P (idleUp ts idle i) (List.replicate m (-1)) 0 (leftUp L.length idle i)) ∧ Aside0 (Below B w wr)) (fun v _ => L.length - (intOf v).toNat)
          case atStart => exact ⟨0, by omega, rfl, HPL, HB⟩
          case round =>
            clear HPL HB
            obtain ⟨i, hi, rfl, HP, HB⟩ := hrel
            by_cases hit : i < L.length
            · have hb : decide (i < idle.length) = true := by simp; omega
              obtain ⟨ad, hA, hcell⟩ := Kd.at_bool HR1.out (i : Int) (by omega) (by omega)
              rw [Int.toNat_natCast] at hcell
              replace hcell := (HB.out.cell (by rw [HBB.out]; exact World.block_lt_of_cell? w _ hcell)).trans hcell
              have hE : idle.getD i false = rdOf false idle i := by simp [rdOf]
              have HUP : Aside0 (idleUp ts idle (i + 1) = if idle.getD i false then endTs (idleUp ts idle i) i else idleUp ts idle i) := ⟨rfl⟩
              have HLU : Aside0 (leftUp L.length idle (i + 1) = if idle.getD i false then wrap64 (leftUp L.length idle i - 1) else leftUp L.length idle i) := ⟨rfl⟩
              rw [hE] at HUP HLU
              have HSB : Aside0 (∀ q ∈ ((idleUp ts idle i).getD i zT).behind, 0 ≤ q ∧ q < (idleUp ts idle i).length) := ⟨by
                have h2 := ((same_idle ts idle i).2 i).2.2
                rw [h2, idleUp_len, HLEN.out]
                exact small_getD HSM.out i⟩
              have HIL : Aside0 (i < (idleUp ts idle i).length) := ⟨by rw [idleUp_len, HLEN.out]; exact hit⟩
              clear hE
              have hi2 : (i : Int) < (idle.length : Int) := by omega
              generalize rdOf false idle i = bv at hcell HUP HLU
              rw [hA]
              clear hi9
              cases bv
              · go_wp2
                go_roundw
                case rel => exact ⟨i + 1, by omega, by go_num, ⟨by rw [HUP.out, HLU.out]; exact HP.out⟩, HB⟩
                case measure => simp [intOf]; omega
              · go_wp2_with (go_at_call 23; refine (end_calls P _ _ _ _ i _ HP.out HIL.out HSB.out).mono ?_; rintro e w5 ⟨rfl, hP5, hS5⟩)
                have HP5 := Aside0.mk hP5
                have HB5 : Aside0 (Below B w w5) := ⟨below_trans HB.out (hS5.below HPB.out.1 HPB.out.2.1 HPB.out.2.2 (by have := HB.out.size; have := HBB.out; omega))⟩
                clear hP5 hS5
                go_roundw
                case rel => exact ⟨i + 1, by omega, by go_num, ⟨by rw [HUP.out, HLU.out]; exact HP5.out⟩, HB5⟩
                case measure => simp [intOf]; omega
            · have hb : decide (i < idle.length) = false := by simp; omega
              have hiL : i = L.length := by omega
              subst hiL
              go_wp2
              go_ret2
              exact ⟨P, ts, rfl, HUL.out, by have := HPB.out; have := HBB.out; omega, by have := HPB.out; have := HBB.out; omega, by have := HPB.out; have := HBB.out; omega, HP.out, by have h := HB.out; rw [HBB.out] at h; exact h⟩
end Go.Proofs.Ytigpcfokmbnlaaa.Sched
