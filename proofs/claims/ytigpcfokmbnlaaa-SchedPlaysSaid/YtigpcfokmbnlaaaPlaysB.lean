/- The contracts of what is asked of a plan: Done, Picks, Left, Has, Ready; and of sluicewaynum.Num and Is. -/
import Derived.Test.YtigpcfokmbnlaaaPlaysA
import Derived.Test.YtigpcfokmbnlaaaPSchedPlaysx1
namespace Go.Proofs.Ytigpcfokmbnlaaa.Sched
open Go.RowKit Go.Proofs.YtigpcfokmbnlaaaW.PrintWords

section
variable (P : Pl) (ts : List T) (has : List Int) (picks left : Int) (w : World)
set_option maxHeartbeats 400000
theorem done_nil : Calls Try.prog 12 #[.pointer none] w fun e w' => e = .returned (.bool true) ∧ w' = w := by
  go_enter Try.func12, Try.ntmps12
  go_wp2
  go_ret
  exact ⟨rfl, rfl⟩
theorem picks_nil : Calls Try.prog 13 #[.pointer none] w fun e w' => e = .returned (.int .i64 0) ∧ w' = w := by
  go_enter Try.func13, Try.ntmps13
  go_wp2
  go_ret
  exact ⟨rfl, rfl⟩
theorem left_nil : Calls Try.prog 14 #[.pointer none] w fun e w' => e = .returned (.int .i64 0) ∧ w' = w := by
  go_enter Try.func14, Try.ntmps14
  go_wp2
  go_ret
  exact ⟨rfl, rfl⟩
theorem ready_nil : Calls Try.prog 15 #[.pointer none] w fun e w' => e = .returned (.slice none 0 0) ∧ w' = w := by
  go_enter Try.func15, Try.ntmps15
  go_wp2
  go_ret
  exact ⟨rfl, rfl⟩
theorem has_nil (n : Int) : Calls Try.prog 21 #[.pointer none, .int .i64 n] w fun e w' => e = .returned (.int .i64 (-1)) ∧ w' = w := by
  go_enter Try.func21, Try.ntmps21
  go_wp2
  go_ret
  exact ⟨rfl, rfl⟩
variable (h : IsPlan w P ts has picks left)
include h
theorem done_calls : Calls Try.prog 12 #[.pointer (some ⟨P.gp, 0, none⟩)] w fun e w' => e = .returned (.bool (left == 0)) ∧ w' = w := by
  obtain ⟨-, -, -, c3⟩ := h.cellP
  clear h
  go_enter Try.func12, Try.ntmps12
  go_wp2
  go_ret
  exact ⟨rfl, rfl⟩
theorem picks_calls : Calls Try.prog 13 #[.pointer (some ⟨P.gp, 0, none⟩)] w fun e w' => e = .returned (.int .i64 picks) ∧ w' = w := by
  obtain ⟨-, -, c2, -⟩ := h.cellP
  clear h
  go_enter Try.func13, Try.ntmps13
  go_wp2
  go_ret
  exact ⟨rfl, rfl⟩
theorem left_calls : Calls Try.prog 14 #[.pointer (some ⟨P.gp, 0, none⟩)] w fun e w' => e = .returned (.int .i64 left) ∧ w' = w := by
  obtain ⟨-, -, -, c3⟩ := h.cellP
  clear h
  go_enter Try.func14, Try.ntmps14
  go_wp2
  go_ret
  exact ⟨rfl, rfl⟩
/-- A worker's task; -1: it has none, or there is no such worker. -/
def hasOf (has : List Int) (n : Int) : Int := if n < 0 ∨ (has.length : Int) ≤ n then -1 else has.getD n.toNat 0
theorem has_calls (n : Int) : Calls Try.prog 21 #[.pointer (some ⟨P.gp, 0, none⟩), .int .i64 n] w fun e w' => e = .returned (.int .i64 (hasOf has n)) ∧ w' = w := by
  obtain ⟨-, c1, -, -⟩ := h.cellP
  unfold hasOf
  by_cases hneg : n < 0
  · rw [if_pos (.inl hneg)]
    have b1 : decide (n < 0) = true := by simp; omega
    clear h
    go_enter Try.func21, Try.ntmps21
    go_wp2
    go_ret
    exact ⟨rfl, rfl⟩
  · have b1 : decide (n < 0) = false := by simp; omega
    by_cases hfar : (has.length : Int) ≤ n
    · rw [if_pos (.inr hfar)]
      have b2 : decide ((has.length : Int) ≤ n) = true := by simp; omega
      clear h
      go_enter Try.func21, Try.ntmps21
      go_wp2
      go_ret
      exact ⟨rfl, rfl⟩
    · rw [if_neg (by omega)]
      obtain ⟨m, rfl⟩ := Int.eq_ofNat_of_zero_le (show 0 ≤ n by omega)
      have hm : m < has.length := by omega
      have b2 : decide (has.length ≤ m) = false := by simp; omega
      have ch := h.cellH m hm
      rw [Int.toNat_natCast]
      generalize has.getD m 0 = q at ch ⊢
      clear h b1 hneg hfar
      go_enter Try.func21, Try.ntmps21
      go_wp2
      go_ret
      exact ⟨rfl, rfl⟩
end

theorem assert43 (n : Int) (w : World) : (Instr.typeAssert (.iface 43 (.int .i64 n)) 28 43 true).run Try.prog w = .ok (.tuple #[.int .i64 n, .bool true]) w := by kernel_rfl
set_option maxHeartbeats 400000 in
/-- An error of package api, or none, as its number. -/
theorem num_calls (n : Int) (w : World) (hn : 0 ≤ n) : Calls Try.prog 18 #[errV n] w fun e w' => e = .returned (.int .i64 n) ∧ Drawn0 w w' := by
  unfold errV
  by_cases h0 : n = 0
  · subst h0
    rw [if_pos rfl]
    go_enter Try.func18, Try.ntmps18
    go_wp2
    refine wp_loop_rounds 1 ?_
    rw [rounds_succ]
    go_wp2
    go_ret
    exact ⟨rfl, by repeat (first | exact Drawn0.refl _ | apply Drawn0.step)⟩
  · rw [if_neg h0]
    have hta := fun w => assert43 n w
    have b0 : (n != 0) = true := by rw [bne_iff_ne]; exact h0
    have b1 : (n == 0) = false := by rw [beq_eq_false_iff_ne]; exact h0
    go_enter Try.func18, Try.ntmps18
    go_wp2
    refine wp_loop_rounds 1 ?_
    rw [rounds_succ]
    go_wp2
    go_ret
    exact ⟨rfl, by repeat (first | exact Drawn0.refl _ | apply Drawn0.step)⟩
set_option maxHeartbeats 400000 in
theorem is_calls (n m : Int) (w : World) (hn : 0 ≤ n) : Calls Try.prog 16 #[errV n, .int .i64 m] w fun e w' => e = .returned (.bool (n == m)) ∧ Drawn0 w w' := by
  have HC := Aside0.mk (fun w => num_calls n w hn)
  clear hn
  go_enter Try.func16, Try.ntmps16
  go_wp2_with (go_at_call 18; refine (HC.out _).mono ?_; rintro e w' ⟨rfl, ⟨nd, rfl⟩⟩)
  go_ret
  exact ⟨rfl, by repeat (first | exact Drawn0.refl _ | apply Drawn0.step)⟩
end Go.Proofs.Ytigpcfokmbnlaaa.Sched

/- The contract of (*Plan).Ready. -/
namespace Go.Proofs.Ytigpcfokmbnlaaa.Sched
open Go.RowKit Go.Proofs.YtigpcfokmbnlaaaW.PrintWords

/-- The tasks that are ready, of the first k. -/
def readyL (ts : List T) (k : Nat) : List Int := ((List.range k).filter fun i => readyB (ts.getD i zT)).map fun i : Nat => (i : Int)
theorem readyL_succ (ts : List T) (k : Nat) : readyL ts (k + 1) = if readyB (ts.getD k zT) then readyL ts k ++ [(k : Int)] else readyL ts k := by
  unfold readyL
  rw [List.range_succ, List.filter_append]
  by_cases h : readyB (ts.getD k zT) = true
  · rw [if_pos h, List.filter_cons_of_pos (p := fun i => readyB (ts.getD i zT)) h, List.map_append]; rfl
  · rw [if_neg h, List.filter_cons_of_neg (p := fun i => readyB (ts.getD i zT)) h, List.filter_nil, List.append_nil]
theorem readyL_len (ts : List T) (k : Nat) : (readyL ts k).length ≤ k := by
  unfold readyL
  rw [List.length_map]
  have := List.length_filter_le (fun i => readyB (ts.getD i zT)) (List.range k)
  simpa using this
theorem C_lit (k : IntKind) (W : World) (e : TypeId) (xs : List Int) (hm : xs.length ≤ 9223372036854775807) :
    (Kd.int k).C (W.alloc (.cells (nums k xs).toArray e)) (some ⟨W.heap.size, 0, none⟩) xs.length xs := by
  refine ⟨rfl, hm, fun _ => ⟨_, rfl, fun j p hp => ⟨[.int k p], rfl, rfl, fun i u hu => ?_⟩⟩⟩
  cases i with
  | succ i => simp at hu
  | zero =>
    simp at hu
    subst hu
    rw [add_plain, cell_of_row _ _ _ _ _ _ (heap_alloc_new W _)]
    simp [Kd.int, Kd.scalar, nums, hp]

set_option maxHeartbeats 1000000 in
theorem readyAll_calls (P : Pl) (ts : List T) (has : List Int) (picks left : Int) (w : World) (h : IsPlan w P ts has picks left) :
    Calls Try.prog 15 #[.pointer (some ⟨P.gp, 0, none⟩)] w fun e w' => ∃ v, e = .returned v ∧ (Kd.int .i64).R 3 w' w.heap.size (fun _ => True) v (readyL ts ts.length) ∧ Below w.heap.size w w' := by
  obtain ⟨c0, -, -, -⟩ := h.cellP
  have HI := Aside0.mk h
  have hlen := h.lent
  clear h
  go_enter Try.func15, Try.ntmps15
  go_wp2
  clear c0
  go_loopw [3, 12] (fun v i wr => ∃ k : Nat, k ≤ ts.length ∧ i = .int .i64 k ∧ Aside0 ((Kd.int .i64).R 3 wr w.heap.size (fun _ => True) v (readyL ts k)) ∧ Aside0 (Below w.heap.size w wr)) (fun _ i _ => ts.length - (intOf i).toNat)
  case atStart => exact ⟨0, by omega, rfl, ⟨Kd.R_nil _ _ _ _ _⟩, ⟨Below.refl _ _⟩⟩
  case round =>
    obtain ⟨k, hk, rfl, HR, HB⟩ := hrel
    by_cases hlt : k < ts.length
    · have hb : decide (k < ts.length) = true := by simp; omega
      have hlt2 : (k : Int) < (ts.length : Int) := by omega
      have hI2 := HI.out.keep HB.out
      obtain ⟨c0, -, -, -⟩ := hI2.cellP
      have t0 := hI2.cellT k 0 hlt (by omega)
      have t3 := hI2.cellT k 3 hlt (by omega)
      simp only [T.cells, List.getElem?_cons_zero, List.getElem?_cons_succ, Nat.add_zero] at t0 t3
      have HT := Aside0.mk (readyL_succ ts k)
      have HL := Aside0.mk (readyL_len ts k)
      generalize ts.getD k zT = t at t0 t3 HT
      have HC := Aside0.mk (ready_calls P.gt (k * 4) t wr t0 t3)
      clear hI2
      cases hr : readyB t
      · rw [hr] at HC HT
        clear hr
        go_wp2_with (go_at_call 26; refine HC.out.mono ?_; rintro e w' ⟨rfl, ⟨nd, rfl⟩⟩)
        go_roundw
        case rel => exact ⟨k + 1, by omega, by go_num, ⟨by rw [HT.out, if_neg (by simp)]; exact Kd.R_drewN HR.out nd⟩, ⟨pw_below_drewN HB.out nd⟩⟩
        case measure => simp [intOf]; omega
      · rw [hr] at HC HT
        clear hr
        go_wp2_with (first | (go_at_call 26; refine HC.out.mono ?_; rintro e w' ⟨rfl, ⟨nd, rfl⟩⟩) | (at_builtin; refine Kd.R_append_row (Value.int .i64) 0 (h1 := fun _ => rfl) w.heap.size rfl (.tmp 22) (.tmp 24) 38 3 (.int .i64 0) 8 rfl Try.underlying38 (by kernel_rfl) rfl (by omega) _ (readyL ts k) [(k : Int)] (some ⟨wr.heap.size, 0, none⟩) 1 1 (fun _ => True) rfl rfl (fun _ _ => trivial) (Kd.R_alloc (Kd.R_drewN HR.out nd) _) (C_lit .i64 (wr.drewN nd) 3 [(k : Int)] (by simp)) (below_alloc (pw_below_drewN HB.out nd) _) (by have := HB.out.size; show w.heap.size ≤ ((wr.drewN nd).alloc _).heap.size; rw [World.size_alloc]; show w.heap.size ≤ wr.heap.size + 1; omega) (by have := HL.out; simp; omega) ?_; intro v3 w3 hr3 hb3 hg3 hat3; clear hg3 hat3))
        go_roundw
        case rel => exact ⟨k + 1, by omega, by go_num, ⟨by rw [HT.out, if_pos trivial]; exact hr3⟩, ⟨hb3⟩⟩
        case measure => simp [intOf]; omega
    · have hb : decide (k < ts.length) = false := by simp; omega
      have HF := Aside0.mk (show readyL ts k = readyL ts ts.length by rw [show k = ts.length by omega])
      obtain ⟨Av, cv, hv⟩ := Kd.R_slice HR.out
      go_wp2
      go_ret
      exact ⟨_, rfl, by rw [← HF.out]; exact HR.out, HB.out⟩
end Go.Proofs.Ytigpcfokmbnlaaa.Sched

/- A plan that is being made: its rows are the call's own. -/
namespace Go.Proofs.Ytigpcfokmbnlaaa.Sched
open Go.RowKit Go.Proofs.YtigpcfokmbnlaaaW.PrintWords

def bv (t : T) : Value := .slice t.A t.behind.length t.cap
structure IsMk (w : World) (B gp gt : Nat) (ts : List T) (hv : Value) (has : List Int) (left : Int) : Prop where
  ne : gp ≠ gt
  bp : B ≤ gp
  bt : B ≤ gt
  plan : w.heap[gp]? = some (.cells #[.slice (some ⟨gt, 0, none⟩) ts.length ts.length, hv, .int .i64 0, .int .i64 left] 59)
  tasks : w.heap[gt]? = some (.cells (tcells ts).toArray 61)
  hass : w.ownsRow B 3 1 hv has.length (nums .i64 has)
  rows : ∀ j, j < ts.length → w.ownsRow B 3 1 (bv (ts.getD j zT)) (ts.getD j zT).behind.length (nums .i64 (ts.getD j zT).behind)
  apart : ∀ i j, i < ts.length → j < ts.length → i ≠ j → ∀ k, (bv (ts.getD i zT)).ownBlock = some k → (bv (ts.getD j zT)).ownBlock ≠ some k
  aparth : ∀ j, j < ts.length → ∀ k, (bv (ts.getD j zT)).ownBlock = some k → hv.ownBlock ≠ some k

section
variable {w w1 : World} {B gp gt : Nat} {ts : List T} {hv : Value} {has : List Int} {left : Int}
theorem own_ne_type {v : Value} {n : Nat} {xs : List Value} {g e : Nat} {cs : Array Value} (h : w.ownsRow B 3 1 v n xs) (hg : w.heap[g]? = some (.cells cs e)) (he : e ≠ 3) : v.ownBlock ≠ some g := by
  intro hk
  obtain ⟨c, hc⟩ := own_typed h g hk
  rw [hg] at hc
  injection hc with hc
  injection hc with _ ht
  exact he ht
theorem IsMk.grown (h : IsMk w B gp gt ts hv has left) (hg : w.grownBy w1 none) : IsMk w1 B gp gt ts hv has left := by
  have blk : ∀ {g : Nat} {o : Obj}, w.heap[g]? = some o → w1.heap[g]? = some o := fun {g o} h1 => by
    rw [hg.block g (Array.getElem?_eq_some_iff.1 h1).1 (by simp)]; exact h1
  have nn : ∀ v : Value, v.ownBlock = none ∨ v.ownBlock ≠ none := fun v => by cases v.ownBlock <;> simp
  exact ⟨h.ne, h.bp, h.bt, blk h.plan, blk h.tasks, h.hass.kept hg (nn _), fun j hj => (h.rows j hj).kept hg (nn _), h.apart, h.aparth⟩
theorem IsMk.alloc (h : IsMk w B gp gt ts hv has left) (o : Obj) : IsMk (w.alloc o) B gp gt ts hv has left := h.grown (World.grownBy_alloc w o none)
theorem IsMk.drewN (h : IsMk w B gp gt ts hv has left) (n : Nat) : IsMk (w.drewN n) B gp gt ts hv has left := h.grown ⟨rfl, rfl, rfl, Nat.le_refl _, fun _ _ _ => rfl⟩
theorem IsMk.cellP (h : IsMk w B gp gt ts hv has left) : w.cell? ⟨gp, 0, none⟩ = some (.slice (some ⟨gt, 0, none⟩) ts.length ts.length) ∧ w.cell? ⟨gp, 1, none⟩ = some hv := by
  refine ⟨?_, ?_⟩ <;> (rw [cell_of_row _ _ _ _ _ _ h.plan]; rfl)
theorem IsMk.frP (h : IsMk w B gp gt ts hv has left) (j : Nat) : w.frozen? ⟨gp, j, none⟩ = false := frozen_of_row _ _ _ _ _ h.plan
theorem IsMk.frT (h : IsMk w B gp gt ts hv has left) (j : Nat) : w.frozen? ⟨gt, j, none⟩ = false := frozen_of_row _ _ _ _ _ h.tasks
theorem IsMk.cellT (h : IsMk w B gp gt ts hv has left) (i f : Nat) (hi : i < ts.length) (hf : f < 4) : w.cell? ⟨gt, i * 4 + f, none⟩ = (ts.getD i zT).cells[f]? := by
  rw [cell_of_row _ _ _ _ _ _ h.tasks]
  simpa using tcells_at ts i f hi hf
theorem own_set {v : Value} {n : Nat} {xs : List Value} (h : w.ownsRow B 3 1 v n xs) (a : Addr) (u : Value) (hne : v.ownBlock ≠ some a.block) : (w.setCell a u).ownsRow B 3 1 v n xs := by
  refine own_move h fun k hk => Below.heap_setCell _ _ _ _ fun e => hne (by rw [hk, e])
theorem getD_set_ne (ts : List T) (i j : Nat) (t : T) (h : j ≠ i) : (ts.set i t).getD j zT = ts.getD j zT := by
  simp [List.getD_eq_getElem?_getD, List.getElem?_set_ne (Ne.symm h)]
/-- A number of one task is written. -/
theorem IsMk.setT (h : IsMk w B gp gt ts hv has left) (i f : Nat) (hi : i < ts.length) (hf : f < 4) (u : Value) (t' : T) (hc : (ts.getD i zT).cells.set f u = t'.cells) (hA : t'.A = (ts.getD i zT).A ∧ t'.cap = (ts.getD i zT).cap ∧ t'.behind = (ts.getD i zT).behind) :
    IsMk (w.setCell ⟨gt, i * 4 + f, none⟩ u) B gp gt (ts.set i t') hv has left := by
  have same : ∀ j, bv ((ts.set i t').getD j zT) = bv (ts.getD j zT) ∧ ((ts.set i t').getD j zT).behind = (ts.getD j zT).behind := by
    intro j
    have := (SameRows.set ts i t' hA).2 j
    exact ⟨by unfold bv; rw [this.1, this.2.1, this.2.2], this.2.2⟩
  refine ⟨h.ne, h.bp, h.bt, ?_, ?_, own_set h.hass _ _ (own_ne_type h.hass h.tasks (by decide)), ?_, ?_, ?_⟩
  · rw [List.length_set, heap_setCell_other _ _ _ _ h.ne]; exact h.plan
  · rw [heap_setCell_same _ _ _ _ _ _ h.tasks, List.setIfInBounds_toArray, tcells_set ts i f hi hf u t' hc]
  · intro j hj
    rw [List.length_set] at hj
    rw [(same j).1, (same j).2]
    exact own_set (h.rows j hj) _ _ (own_ne_type (h.rows j hj) h.tasks (by decide))
  · intro a b ha hb hab
    rw [List.length_set] at ha hb
    rw [(same a).1, (same b).1]
    exact h.apart a b ha hb hab
  · intro j hj
    rw [List.length_set] at hj
    rw [(same j).1]
    exact h.aparth j hj
/-- A row of those that wait is grown by one, and stored. -/
theorem IsMk.row (h : IsMk w B gp gt ts hv has left) (k : Nat) (hk : k < ts.length) (A1 : Option Addr) (c1 : Nat) (bs : List Int) (hg : w.grownBy w1 (bv (ts.getD k zT)).ownBlock)
    (ho : w1.ownsRow B 3 1 (.slice A1 bs.length c1) bs.length (nums .i64 bs)) (hat : (Value.slice A1 bs.length c1).ownBlock = (bv (ts.getD k zT)).ownBlock ∨ ∃ b, (Value.slice A1 bs.length c1).ownBlock = some b ∧ w.heap.size ≤ b) :
    IsMk (w1.setCell ⟨gt, k * 4 + 1, none⟩ (.slice A1 bs.length c1)) B gp gt (ts.set k { ts.getD k zT with A := A1, cap := c1, behind := bs }) hv has left := by
  have lt : ∀ {g : Nat} {o : Obj}, w.heap[g]? = some o → g < w.heap.size := fun h1 => (Array.getElem?_eq_some_iff.1 h1).1
  have hp : w1.heap[gp]? = _ := (hg.block gp (lt h.plan) (Ne.symm (own_ne_type (h.rows k hk) h.plan (by decide)))).trans h.plan
  have ht : w1.heap[gt]? = _ := (hg.block gt (lt h.tasks) (Ne.symm (own_ne_type (h.rows k hk) h.tasks (by decide)))).trans h.tasks
  have hnew : ∀ v : Value, (∀ q, v.ownBlock = some q → q < w.heap.size) → (∀ q, v.ownBlock = some q → (bv (ts.getD k zT)).ownBlock ≠ some q) → ∀ q, v.ownBlock = some q → (Value.slice A1 bs.length c1).ownBlock ≠ some q := by
    intro v h1 h2 q hq he
    rcases hat with hat | ⟨b, hb, hle⟩
    · exact h2 q hq (hat ▸ he)
    · rw [hb] at he
      injection he with he
      have := h1 q hq
      omega
  have kept : ∀ j, j < ts.length → j ≠ k → w1.ownsRow B 3 1 (bv (ts.getD j zT)) (ts.getD j zT).behind.length (nums .i64 (ts.getD j zT).behind) := by
    intro j hj hjk
    refine (h.rows j hj).kept hg ?_
    cases hb : (bv (ts.getD j zT)).ownBlock with
    | none => exact .inl rfl
    | some q => exact .inr fun e => h.apart j k hj hk hjk q hb e.symm
  have ekk : (ts.set k { ts.getD k zT with A := A1, cap := c1, behind := bs }).getD k zT = { ts.getD k zT with A := A1, cap := c1, behind := bs } := by simp [List.getD_eq_getElem?_getD, hk]
  refine ⟨h.ne, h.bp, h.bt, ?_, ?_, ?_, ?_, ?_, ?_⟩
  · rw [List.length_set, heap_setCell_other _ _ _ _ h.ne]; exact hp
  · rw [heap_setCell_same _ _ _ _ _ _ ht, List.setIfInBounds_toArray, tcells_set ts k 1 hk (by omega) _ { ts.getD k zT with A := A1, cap := c1, behind := bs } rfl]
  · have hh : w1.ownsRow B 3 1 hv has.length (nums .i64 has) := by
      refine h.hass.kept hg ?_
      cases hb : hv.ownBlock with
      | none => exact .inl rfl
      | some q => exact .inr fun e => h.aparth k hk q e.symm hb
    exact own_set hh _ _ (own_ne_type hh ht (by decide))
  · intro j hj
    rw [List.length_set] at hj
    by_cases hjk : j = k
    · subst hjk
      rw [ekk]
      exact own_set ho _ _ (own_ne_type ho ht (by decide))
    · rw [getD_set_ne _ _ _ _ hjk]
      exact own_set (kept j hj hjk) _ _ (own_ne_type (kept j hj hjk) ht (by decide))
  · intro a b ha hb hab q hq
    rw [List.length_set] at ha hb
    by_cases hak : a = k
    · subst hak
      rw [ekk] at hq
      rw [getD_set_ne _ _ _ _ (Ne.symm hab)]
      intro hb2
      exact hnew _ (fun q' h' => own_lt (h.rows b hb) q' h') (fun q' h' => fun e => h.apart a b ha hb hab q' e h') q hb2 hq
    · rw [getD_set_ne _ _ _ _ hak] at hq
      by_cases hbk : b = k
      · subst hbk
        rw [ekk]
        exact hnew _ (fun q' h' => own_lt (h.rows a ha) q' h') (fun q' h' => fun e => h.apart a b ha hb hab q' h' e) q hq
      · rw [getD_set_ne _ _ _ _ hbk]
        exact h.apart a b ha hb hab q hq
  · intro j hj q hq
    rw [List.length_set] at hj
    by_cases hjk : j = k
    · subst hjk
      rw [ekk] at hq
      intro he
      exact hnew hv (fun q' h' => own_lt h.hass q' h') (fun q' h' => fun e => h.aparth j hj q' e h') q he hq
    · rw [getD_set_ne _ _ _ _ hjk] at hq
      exact h.aparth j hj q hq
/-- The workers' row is grown, and stored. -/
theorem IsMk.hasRow (h : IsMk w B gp gt ts hv has left) (v1 : Value) (hs : List Int) (hg : w.grownBy w1 hv.ownBlock) (ho : w1.ownsRow B 3 1 v1 hs.length (nums .i64 hs)) (hat : v1.ownBlock = hv.ownBlock ∨ ∃ b, v1.ownBlock = some b ∧ w.heap.size ≤ b) :
    IsMk (w1.setCell ⟨gp, 1, none⟩ v1) B gp gt ts v1 hs left := by
  have lt : ∀ {g : Nat} {o : Obj}, w.heap[g]? = some o → g < w.heap.size := fun h1 => (Array.getElem?_eq_some_iff.1 h1).1
  have hp : w1.heap[gp]? = _ := (hg.block gp (lt h.plan) (Ne.symm (own_ne_type h.hass h.plan (by decide)))).trans h.plan
  have ht : w1.heap[gt]? = _ := (hg.block gt (lt h.tasks) (Ne.symm (own_ne_type h.hass h.tasks (by decide)))).trans h.tasks
  have kept : ∀ j, j < ts.length → w1.ownsRow B 3 1 (bv (ts.getD j zT)) (ts.getD j zT).behind.length (nums .i64 (ts.getD j zT).behind) := by
    intro j hj
    refine (h.rows j hj).kept hg ?_
    cases hb : (bv (ts.getD j zT)).ownBlock with
    | none => exact .inl rfl
    | some q => exact .inr fun e => h.aparth j hj q hb e.symm
  refine ⟨h.ne, h.bp, h.bt, ?_, ?_, own_set ho _ _ (own_ne_type ho hp (by decide)), fun j hj => own_set (kept j hj) _ _ (own_ne_type (kept j hj) hp (by decide)), h.apart, ?_⟩
  · rw [heap_setCell_same _ _ _ _ _ _ hp]; rfl
  · rw [heap_setCell_other _ _ _ _ h.ne.symm]; exact ht
  · intro j hj q hq he
    rcases hat with hat | ⟨b, hb, hle⟩
    · exact h.aparth j hj q hq (hat ▸ he)
    · rw [hb] at he
      injection he with he
      have := own_lt (h.rows j hj) q hq
      omega
/-- Made: it is a plan. -/
theorem IsMk.made (h : IsMk w B gp gt ts hv has left) (hpos : 0 < has.length) (hl : ts.length ≤ 1000000) (hl2 : has.length ≤ 1000000) : ∃ P : Pl, P.gp = gp ∧ B ≤ P.gp ∧ B ≤ P.gt ∧ B ≤ P.gh ∧ IsPlan w P ts has 0 left := by
  obtain ⟨gh, cap, rfl, hb, hlt⟩ := h.hass.form hpos
  rcases h.hass.2 with ⟨he, _⟩ | ⟨g, c, cur, he, _, hh, hnc, _, hcs, htake⟩
  · cases he
  · have hgg : gh = g ∧ cap = c := by
      injection he with e1 _ e3
      injection e1 with e1
      injection e1 with e1
      exact ⟨e1, e3⟩
    obtain ⟨rfl, rfl⟩ := hgg
    have n1 : gp ≠ gh := fun e => own_ne_type h.hass h.plan (by decide) (by simp [Value.ownBlock, e])
    have n2 : gt ≠ gh := fun e => own_ne_type h.hass h.tasks (by decide) (by simp [Value.ownBlock, e])
    refine ⟨⟨gp, gt, gh, cap⟩, rfl, h.bp, h.bt, hb, h.ne, n1, n2, h.plan, h.tasks, ⟨cur.toList.drop has.length, ?_⟩, hnc, hl, hl2, ?_⟩
    · rw [Nat.mul_one] at htake
      rw [← htake, List.take_append_drop]
      exact hh
    · intro t ht
      obtain ⟨j, hj, rfl⟩ := List.mem_iff_getElem.1 ht
      have e : ts.getD j zT = ts[j] := by simp [List.getD_eq_getElem?_getD, hj]
      have hr := h.rows j hj
      rw [e] at hr
      have hC := Kd.R_reads (Kd.R_of_own (enc := Value.int .i64) (h1 := fun _ => rfl) (ok := fun _ => True) hr (fun _ _ => trivial))
      obtain ⟨A', c', he', hle, hC⟩ := hC
      unfold bv at he'
      injection he' with e1 _ e3
      subst e1 e3
      refine ⟨hle, hC, fun ad hA hn => ?_⟩
      have hob : ∃ q, (bv ts[j]).ownBlock = some q ∧ ad.block = q := by
        rcases hr.2 with ⟨hbad, hz⟩ | ⟨q, cq, _, hv, _⟩
        · omega
        · unfold bv at hv
          injection hv with v1 _ _
          rw [hA] at v1
          injection v1 with v1
          subst v1
          exact ⟨q, by unfold bv; rw [hA]; rfl, rfl⟩
      obtain ⟨q, hq, rfl⟩ := hob
      refine ⟨fun e2 => own_ne_type hr h.plan (by decide) (by rw [hq, e2]), fun e2 => own_ne_type hr h.tasks (by decide) (by rw [hq, e2]), fun e2 => ?_⟩
      have := h.aparth j hj ad.block (by rw [e]; exact hq)
      exact this (by simp [Value.ownBlock, e2])
end
end Go.Proofs.Ytigpcfokmbnlaaa.Sched

/- sched.New, the part ahead of its loops; how graph.Good answers. -/
namespace Go.Proofs.Ytigpcfokmbnlaaa.Sched
open Go.RowKit Go.Proofs.YtigpcfokmbnlaaaW.PrintWords Go.Proofs.Ytigpcfokmbnlaaa.PSchedPlays

def okRow (i : Int) : Int → List Int → Bool
  | _, [] => true
  | b, k :: ks => decide (b < k) && (decide (k < i) && okRow i k ks)
def okFrom : Int → List (List Int) → Bool
  | _, [] => true
  | i, l :: ls => okRow i (-1) l && okFrom (i + 1) ls
def goodB (L : List (List Int)) : Bool := okFrom 0 L
def rowsAt (L : List (List Int)) (m : Nat) : Prop := ∀ l ∈ L, l.length ≤ m

theorem rd_L1_nat (L : List (List Int)) (i : Nat) : rd_L1 L (i : Int) = L.getD i [] := by simp [rd_L1]
theorem wrap_succ (n : Nat) (h : n < 1000000000) : wrap64 ((n : Int) + 1) = ((n + 1 : Nat) : Int) := by
  unfold wrap64; omega
theorem rd_get (l : List Int) (j : Nat) (h : j < l.length) : rd l (j : Int) = l[j] := by
  simp [rd, List.getD_eq_getElem?_getD, h]

theorem good_row (L : List (List Int)) (n : Int) (i : Nat) (row : List Int) (hrow : row.length ≤ 1000000) (hi : i < 1000000) (r : Bool) (hn : ∃ k, graph_Good.l0 k L n ((i + 1 : Nat) : Int) = some r) :
    ∀ (m j : Nat) (b : Int), j + m = row.length → ∃ k, graph_Good.l1 k i b L n i row row.length j = some (okRow i b (row.drop j) && r) := by
  intro m
  induction m with
  | zero =>
    intro j b hj
    obtain ⟨k, hk⟩ := hn
    refine ⟨k + 1, ?_⟩
    have e : ¬ ((j : Int) < (row.length : Int)) := by omega
    simp only [graph_Good.l1, e, if_false, wrap_succ i (by omega), hk]
    rw [List.drop_of_length_le (by omega)]
    simp [okRow]
  | succ m ih =>
    intro j b hj
    have hlt : j < row.length := by omega
    have e : ((j : Int) < (row.length : Int)) := by omega
    have e0 : (0 : Int) ≤ (j : Int) := by omega
    obtain ⟨k, hk⟩ := ih (j + 1) row[j] (by omega)
    refine ⟨k + 1, ?_⟩
    simp only [graph_Good.l1, e, e0, if_true, rd_get row j hlt, wrap_succ j (by omega), hk]
    rw [List.drop_eq_getElem_cons hlt]
    simp only [okRow]
    generalize row[j] = q
    by_cases h1 : q ≤ b
    · simp [h1, show ¬ b < q by omega]
    · by_cases h2 : q ≥ (i : Int)
      · simp [h1, h2, show ¬ q < (i : Int) by omega]
      · simp [h1, h2, show q < (i : Int) by omega, show b < q by omega]

theorem good_from (L : List (List Int)) (hL : L.length ≤ 1000000) (hr : rowsAt L 1000000) : ∀ (m i : Nat), i + m = L.length → ∃ k, graph_Good.l0 k L (L.length : Int) i = some (okFrom i (L.drop i)) := by
  intro m
  induction m with
  | zero =>
    intro i hi
    refine ⟨1, ?_⟩
    have e : ¬ ((i : Int) < (L.length : Int)) := by omega
    simp only [graph_Good.l0, e, if_false]
    rw [List.drop_of_length_le (by omega)]
    simp [okFrom]
  | succ m ih =>
    intro i hi
    have hlt : i < L.length := by omega
    have e : ((i : Int) < (L.length : Int)) := by omega
    have e0 : (0 : Int) ≤ (i : Int) := by omega
    have hg : L.getD i [] = L[i] := by simp [List.getD_eq_getElem?_getD, hlt]
    obtain ⟨k, hk⟩ := good_row L L.length i L[i] (hr _ (List.getElem_mem hlt)) (by omega) _ (ih (i + 1) (by omega)) L[i].length 0 (-1) (by omega)
    refine ⟨k + 1, ?_⟩
    simp only [graph_Good.l0, e, e0, if_true, rd_L1_nat, hg]
    rw [List.drop_eq_getElem_cons hlt]
    simpa [okFrom] using hk
theorem good_f (L : List (List Int)) (hL : L.length ≤ 1000000) (hr : rowsAt L 1000000) : ∃ k, graph_Good.f k L = some (goodB L) := by
  obtain ⟨k, hk⟩ := good_from L hL hr L.length 0 (by omega)
  exact ⟨k, by simpa [graph_Good.f, goodB] using hk⟩
theorem good_calls (A0 : Option Addr) (c0 : Nat) (L : List (List Int)) (w : World) (hL : L.length ≤ 1000000) (hr : rowsAt L 1000000) (hr0 : Kd.C (Kd.slice 3 (Kd.int .i64)) w A0 L.length L) (hc0 : L.length ≤ c0) :
    Calls Try.prog 22 #[.slice A0 L.length c0] w fun e w' => e = .returned (.bool (goodB L)) ∧ Drawn0 w w' := by
  obtain ⟨k, hk⟩ := good_f L hL hr
  exact graph_Good.calls k A0 c0 L _ w hr0 hc0 hk

theorem zeros_tcells (n : Nat) : (tcells (List.replicate n zT)).toArray = madeCells #[.int .i64 0, .slice none 0 0, .int .i64 0, .int .i64 0] (n * 4) := by
  apply Array.ext'
  apply List.ext_getElem
  · simp [tcells_len, madeCells]
  · intro i h1 h2
    simp only [tcells_len, List.length_replicate] at h1
    have ha := tcells_at (List.replicate n zT) (i / 4) (i % 4) (by simp; omega) (by omega)
    rw [show i / 4 * 4 + i % 4 = i by omega] at ha
    have hz : (List.replicate n zT).getD (i / 4) zT = zT := by simp [List.getD_eq_getElem?_getD, List.getElem?_replicate]; split <;> rfl
    rw [hz] at ha
    have hl : i < (tcells (List.replicate n zT)).length := by simp [tcells_len]; omega
    rw [List.getElem?_eq_getElem hl] at ha
    have hm : i % 4 = 0 ∨ i % 4 = 1 ∨ i % 4 = 2 ∨ i % 4 = 3 := by omega
    simp only [madeCells, Array.toList_map, Array.toList_range, List.getElem_map, List.getElem_range]
    injection ha.trans (List.getElem?_eq_getElem (by rw [T.cells_len]; omega)) with ha
    rw [ha]
    rcases hm with hm | hm | hm | hm <;> simp [T.cells, zT, hm]
theorem info61 : (Try.prog.info? 61).map (fun i => (i.zero, i.size, i.bytes)) = some (some (.agg #[.int .i64 0, .slice none 0 0, .int .i64 0, .int .i64 0]), 4, 48) := by kernel_rfl
theorem make57 (n : Nat) (hn : n ≤ 1000000) (W : World) : (Instr.makeSlice 57 (.int .i64 (n : Int)) (.int .i64 (n : Int))).run Try.prog W = .ok (.slice (some ⟨W.heap.size, 0, none⟩) n n) (W.alloc (.cells (tcells (List.replicate n zT)).toArray 61)) := by
  obtain ⟨i0, hi, hzz⟩ := Option.map_eq_some_iff.1 info61
  simp only [Prod.mk.injEq] at hzz
  obtain ⟨hz0, hz1, hz2⟩ := hzz
  have hr := run_make (P := Try.prog) W 57 61 i0 _ Try.underlying57 hi hz0 .i64 .i64 (n : Int) (n : Int) (by omega) (by omega) (by rw [hz2]; omega) (by omega)
  simp only [Int.toNat_natCast] at hr
  rw [hr, hz1, zeros_tcells]
  rfl
theorem z59 (w : World) : (zeroValue 59).run Try.prog w = .ok (.agg #[.slice none 0 0, .slice none 0 0, .int .i64 0, .int .i64 0]) w := by kernel_rfl
end Go.Proofs.Ytigpcfokmbnlaaa.Sched

/- sched.New: what its loops come to. -/
namespace Go.Proofs.Ytigpcfokmbnlaaa.Sched
open Go.RowKit Go.Proofs.YtigpcfokmbnlaaaW.PrintWords Go.Proofs.Ytigpcfokmbnlaaa.PSchedPlays

def bare (t : T) : T := { t with A := none, cap := 0 }
def addB (i : Int) (ts : List T) (k : Nat) : List T := ts.set k { ts.getD k zT with behind := (ts.getD k zT).behind ++ [i] }
def headB (ts : List T) (i n : Nat) : List T := ts.set i { ts.getD i zT with worker := -1, waits := n }
def rowB (ts : List T) (i : Nat) (l : List Int) : List T := l.foldl (fun ts k => addB i ts k.toNat) (headB ts i l.length)
def upB (L : List (List Int)) : Nat → List T
  | 0 => List.replicate L.length zT
  | i + 1 => rowB (upB L i) i (L.getD i [])

theorem bare_getD (ts : List T) (k : Nat) : (ts.map bare).getD k zT = bare (ts.getD k zT) := by
  simp only [List.getD_eq_getElem?_getD, List.getElem?_map]
  cases ts[k]? <;> rfl
theorem addB_bare (i : Int) (ts : List T) (k : Nat) (A1 : Option Addr) (c1 : Nat) : (ts.set k { ts.getD k zT with A := A1, cap := c1, behind := (ts.getD k zT).behind ++ [i] }).map bare = addB i (ts.map bare) k := by
  rw [List.map_set, addB, bare_getD]; rfl
theorem headB_bare (ts : List T) (i n : Nat) : (headB ts i n).map bare = headB (ts.map bare) i n := by
  rw [headB, List.map_set, headB, bare_getD]; rfl
theorem headB_len (ts : List T) (i n : Nat) : (headB ts i n).length = ts.length := by simp [headB]
theorem addB_len (i : Int) (ts : List T) (k : Nat) : (addB i ts k).length = ts.length := by simp [addB]
theorem addB_foldlen (i : Int) (l : List Int) (ts : List T) : (l.foldl (fun ts k => addB i ts k.toNat) ts).length = ts.length := by
  induction l generalizing ts with
  | nil => rfl
  | cons k l ih => rw [List.foldl_cons, ih, addB_len]
theorem upB_len (L : List (List Int)) (i : Nat) : (upB L i).length = L.length := by
  induction i with
  | zero => simp [upB]
  | succ i ih => rw [upB, rowB, addB_foldlen, headB_len, ih]
theorem add_take (i : Int) (l : List Int) (ts : List T) (k : Nat) (h : k < l.length) : (l.take (k + 1)).foldl (fun ts k => addB i ts k.toNat) ts = addB i ((l.take k).foldl (fun ts k => addB i ts k.toNat) ts) (rd l k).toNat := by
  rw [List.take_succ_eq_append_getElem h, List.foldl_append]
  simp [rd, h]
theorem okRow_mem (i : Int) (l : List Int) : ∀ b, okRow i b l = true → ∀ k ∈ l, b < k ∧ k < i := by
  induction l with
  | nil => intro b _ k hk; cases hk
  | cons q l ih =>
    intro b h k hk
    simp only [okRow, Bool.and_eq_true, decide_eq_true_eq] at h
    rcases List.mem_cons.1 hk with rfl | hk
    · exact ⟨h.1, h.2.1⟩
    · have := ih q h.2.2 k hk
      omega
theorem okFrom_row (L : List (List Int)) : ∀ (s : Int) (i : Nat), okFrom s L = true → i < L.length → okRow (s + i) (-1) (L.getD i []) = true := by
  induction L with
  | nil => intro s i _ h; simp at h
  | cons l L ih =>
    intro s i h hi
    simp only [okFrom, Bool.and_eq_true] at h
    cases i with
    | zero => simpa using h.1
    | succ i =>
      have := ih (s + 1) i h.2 (by simpa using hi)
      rw [show s + ((i + 1 : Nat) : Int) = s + 1 + i by omega]
      simpa using this
theorem good_mem (L : List (List Int)) (h : goodB L = true) (i : Nat) (hi : i < L.length) : ∀ k ∈ L.getD i [], 0 ≤ k ∧ k < i := by
  intro k hk
  have := okRow_mem _ _ _ (okFrom_row L 0 i h hi) k hk
  omega
/-- All rows behind tell numbers below n, and are no longer than m. -/
def Small (ts : List T) (n : Int) : Prop := ∀ t ∈ ts, ∀ k ∈ t.behind, 0 ≤ k ∧ k < n
theorem small_bare {ts : List T} {n : Int} : Small (ts.map bare) n ↔ Small ts n := by
  unfold Small
  constructor
  · intro h t ht; exact h (bare t) (List.mem_map_of_mem ht)
  · intro h t ht
    obtain ⟨u, hu, rfl⟩ := List.mem_map.1 ht
    exact h u hu
theorem getD_mem_or (ts : List T) (k : Nat) : ts.getD k zT ∈ ts ∨ ts.getD k zT = zT := by
  by_cases h : k < ts.length
  · left; simp [List.getD_eq_getElem?_getD, h]
  · right; simp [List.getD_eq_getElem?_getD, List.getElem?_eq_none (Nat.le_of_not_lt h)]
theorem small_getD {ts : List T} {n : Int} (h : Small ts n) (k : Nat) : ∀ q ∈ (ts.getD k zT).behind, 0 ≤ q ∧ q < n := by
  rcases getD_mem_or ts k with hm | hm
  · exact h _ hm
  · rw [hm]; intro q hq; cases hq
theorem small_set {ts : List T} {n : Int} (h : Small ts n) (k : Nat) (t : T) (ht : ∀ q ∈ t.behind, 0 ≤ q ∧ q < n) : Small (ts.set k t) n := by
  intro u hu
  rcases List.mem_or_eq_of_mem_set hu with hu | rfl
  · exact h u hu
  · exact ht
theorem small_addB {ts : List T} {n : Int} (h : Small ts n) (i : Int) (hi : 0 ≤ i ∧ i < n) (k : Nat) : Small (addB i ts k) n := by
  refine small_set h k _ fun q hq => ?_
  rcases List.mem_append.1 hq with hq | hq
  · exact small_getD h k q hq
  · rw [List.mem_singleton.1 hq]; exact hi
theorem small_fold {n : Int} (i : Int) (hi : 0 ≤ i ∧ i < n) (l : List Int) : ∀ ts, Small ts n → Small (l.foldl (fun ts k => addB i ts k.toNat) ts) n := by
  induction l with
  | nil => intro ts h; exact h
  | cons k l ih => intro ts h; exact ih _ (small_addB h i hi _)
theorem small_upB (L : List (List Int)) (i : Nat) (hi : i ≤ L.length) : Small (upB L i) L.length := by
  induction i with
  | zero =>
    intro t ht
    rw [(List.mem_replicate.1 ht).2]
    intro k hk; cases hk
  | succ i ih =>
    refine small_fold _ ⟨by omega, by omega⟩ _ _ (small_set (ih (by omega)) i _ (small_getD (ih (by omega)) i))
/-- How long rows behind may grow. -/
def LenLe (ts : List T) (m : Nat) : Prop := ∀ t ∈ ts, t.behind.length ≤ m
theorem lenLe_getD {ts : List T} {m : Nat} (h : LenLe ts m) (k : Nat) : (ts.getD k zT).behind.length ≤ m := by
  rcases getD_mem_or ts k with hm | hm
  · exact h _ hm
  · rw [hm]; exact Nat.zero_le _
theorem lenLe_set {ts : List T} {m : Nat} (h : LenLe ts m) (k : Nat) (t : T) (ht : t.behind.length ≤ m) : LenLe (ts.set k t) m := by
  intro u hu
  rcases List.mem_or_eq_of_mem_set hu with hu | rfl
  · exact h u hu
  · exact ht
theorem lenLe_mono {ts : List T} {m m' : Nat} (h : LenLe ts m) (hm : m ≤ m') : LenLe ts m' := fun t ht => Nat.le_trans (h t ht) hm
theorem lenLe_addB {ts : List T} {m : Nat} (h : LenLe ts m) (i : Int) (k : Nat) : LenLe (addB i ts k) (m + 1) :=
  lenLe_set (lenLe_mono h (Nat.le_succ _)) k _ (by simpa using lenLe_getD h k)
theorem lenLe_fold (i : Int) (l : List Int) : ∀ ts m, LenLe ts m → LenLe (l.foldl (fun ts k => addB i ts k.toNat) ts) (m + l.length) := by
  induction l with
  | nil => intro ts m h; exact h
  | cons k l ih =>
    intro ts m h
    have := ih _ _ (lenLe_addB h i k.toNat)
    rw [List.foldl_cons, List.length_cons]
    exact lenLe_mono this (by omega)
theorem lenLe_headB {ts : List T} {m : Nat} (h : LenLe ts m) (i n : Nat) : LenLe (headB ts i n) m := lenLe_set h i _ (lenLe_getD h i)
theorem lenLe_upB (L : List (List Int)) (r : Nat) (hr : rowsAt L r) (i : Nat) : LenLe (upB L i) (i * r) := by
  induction i with
  | zero =>
    intro t ht
    rw [(List.mem_replicate.1 ht).2]
    exact Nat.zero_le _
  | succ i ih =>
    have := lenLe_fold i (L.getD i []) _ _ (lenLe_headB ih i (L.getD i []).length)
    refine lenLe_mono this ?_
    have hl : (L.getD i []).length ≤ r := by
      by_cases h : i < L.length
      · have e : L.getD i [] = L[i] := by simp [List.getD_eq_getElem?_getD, h]
        rw [e]; exact hr _ (List.getElem_mem h)
      · simp [List.getD_eq_getElem?_getD, List.getElem?_eq_none (Nat.le_of_not_lt h)]
    rw [Nat.succ_mul]; omega
def idleUp (ts : List T) (idle : List Bool) : Nat → List T
  | 0 => ts
  | i + 1 => if idle.getD i false then endTs (idleUp ts idle i) i else idleUp ts idle i
def leftUp (left : Int) (idle : List Bool) : Nat → Int
  | 0 => left
  | i + 1 => if idle.getD i false then wrap64 (leftUp left idle i - 1) else leftUp left idle i
theorem idleUp_len (ts : List T) (idle : List Bool) (i : Nat) : (idleUp ts idle i).length = ts.length := by
  induction i with
  | zero => rfl
  | succ i ih => simp only [idleUp]; split <;> simp [endTs_len, ih]
theorem same_idle (ts : List T) (idle : List Bool) (i : Nat) : SameRows ts (idleUp ts idle i) := by
  induction i with
  | zero => exact SameRows.refl _
  | succ i ih => simp only [idleUp]; split <;> first | exact ih.trans (same_end _ _) | exact ih
end Go.Proofs.Ytigpcfokmbnlaaa.Sched
