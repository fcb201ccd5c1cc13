/- Plain law: what the document's Left, holder and Ready answer of a plan that stands as it should. -/
import Derived.Test.YtigpcfokmbnlaaaPlaysC
import Derived.Test.YtigpcfokmbnlaaaPlaysB
import Derived.Test.YtigpcfokmbnlaaaPSchedPlaysx3
import Derived.Test.YtigpcfokmbnlaaaPSchedPlaysx4
import Derived.Deep.RegionHeld3
namespace Go.Proofs.Ytigpcfokmbnlaaa.Sched
open Go.RowKit Go.Proofs.YtigpcfokmbnlaaaW.PrintWords Go.Proofs.Ytigpcfokmbnlaaa.PSchedPlays

/-- A plan and the document's: what has ended, what was run. -/
structure Mod (L : List (List Int)) (ts : List T) (has : List Int) (left : Int) (E R : List Bool) : Prop where
  pinv : Pinv L ts has left
  ended : E = ts.map (fun t => t.state == 3)
  ranLen : R.length = has.length
  ran : ∀ w, w < has.length → ∀ i : Nat, has.getD w 0 = i → R.getD w false = ((ts.getD i zT).state == 2)
theorem getD_mapB (ts : List T) (i : Nat) (hi : i < ts.length) : (ts.map (fun t => t.state == 3)).getD i false = ((ts.getD i zT).state == 3) := by
  simp [List.getD_eq_getElem?_getD, hi]
section
variable {L : List (List Int)} {ts : List T} {has : List Int} {left : Int} {E R : List Bool} (p : Int)

theorem left_from (E : List Bool) (hE : E.length ≤ 1000) : ∀ (m i acc : Nat), i + m = E.length → acc ≤ i → ∃ K, ∀ k, K ≤ k → sluicewayref21_Left.l0 k acc i L E has R p = some ((acc + (E.drop i).countP (fun b => !b) : Nat) : Int) := by
  intro m
  induction m with
  | zero =>
    intro i acc hi _
    refine ⟨1, fun k hk => ?_⟩
    obtain ⟨k, rfl⟩ : ∃ j, k = j + 1 := ⟨k - 1, by omega⟩
    have e : ¬ (i : Int) < (E.length : Int) := by omega
    simp only [sluicewayref21_Left.l0, e, if_false]
    rw [List.drop_of_length_le (by omega)]; simp
  | succ m ih =>
    intro i acc hi ha
    have hlt : i < E.length := by omega
    have e : (i : Int) < (E.length : Int) := by omega
    have e0 : (0 : Int) ≤ (i : Int) := by omega
    have hr : rdOf false E (i : Int) = E[i] := by simp [rdOf, hlt]
    rw [List.drop_eq_getElem_cons hlt, List.countP_cons]
    cases hb : E[i] with
    | true =>
      obtain ⟨K, hK⟩ := ih (i + 1) acc (by omega) (by omega)
      refine ⟨K + 1, fun k hk => ?_⟩
      obtain ⟨k, rfl⟩ : ∃ j, k = j + 1 := ⟨k - 1, by omega⟩
      simp only [sluicewayref21_Left.l0, e, e0, hr, hb, if_true, wrap_succ i (by omega), hK k (by omega)]
      simp
    | false =>
      obtain ⟨K, hK⟩ := ih (i + 1) (acc + 1) (by omega) (by omega)
      refine ⟨K + 1, fun k hk => ?_⟩
      obtain ⟨k, rfl⟩ : ∃ j, k = j + 1 := ⟨k - 1, by omega⟩
      simp only [sluicewayref21_Left.l0, e, e0, hr, hb, if_true, wrap_succ i (by omega), wrap_succ acc (by omega), hK k (by omega)]
      simp; omega
theorem ended_count (ts : List T) : (ts.map (fun t => t.state == 3)).countP (fun b => !b) = nLeft (ts.map T.state) := by
  unfold nLeft
  rw [List.countP_map, List.countP_map]
  rfl
theorem left_f (h : Mod L ts has left E R) (hsz : L.length ≤ 1000) : ∃ K, ∀ k, K ≤ k → sluicewayref21_Left.f k L E has R p = some left := by
  have hlen : E.length = L.length := by rw [h.ended, List.length_map, h.pinv.inv.len]
  obtain ⟨K, hK⟩ := left_from (L := L) (has := has) (R := R) p E (by omega) E.length 0 0 (by omega) (by omega)
  refine ⟨K, fun k hk => ?_⟩
  unfold sluicewayref21_Left.f
  have := hK k hk
  rw [List.drop_zero, Nat.zero_add] at this
  rw [show ((0 : Nat) : Int) = 0 from rfl] at this
  rw [this, h.ended, ended_count, h.pinv.left]

theorem hold_some (has : List Int) (x : Int) (w : Nat) (hw : w < has.length) (hx : has.getD w 0 = x) (hb : ∀ v, v < w → has.getD v 0 ≠ x) (hsz : has.length ≤ 1000) : ∀ (m i : Nat), i + m = w → ∃ K, ∀ k, K ≤ k → sluicewayref21_holder.l0 k x i L E has R p = some (w : Int) := by
  intro m
  have rdn : ∀ j : Nat, rd has (j : Int) = has.getD j 0 := fun j => by unfold rd; rw [Int.toNat_natCast]
  induction m with
  | zero =>
    intro i hi
    have : i = w := by omega
    subst this
    refine ⟨1, fun k hk => ?_⟩
    obtain ⟨k, rfl⟩ : ∃ j, k = j + 1 := ⟨k - 1, by omega⟩
    have e : (i : Int) < (has.length : Int) := by omega
    have e0 : (0 : Int) ≤ (i : Int) := by omega
    simp only [sluicewayref21_holder.l0, e, e0, rdn, hx, if_true]
  | succ m ih =>
    intro i hi
    obtain ⟨K, hK⟩ := ih (i + 1) (by omega)
    refine ⟨K + 1, fun k hk => ?_⟩
    obtain ⟨k, rfl⟩ : ∃ j, k = j + 1 := ⟨k - 1, by omega⟩
    have e : (i : Int) < (has.length : Int) := by omega
    have e0 : (0 : Int) ≤ (i : Int) := by omega
    have e1 := hb i (by omega)
    simp only [sluicewayref21_holder.l0, e, e0, rdn, e1, if_true, if_false, wrap_succ i (by omega), hK k (by omega)]
theorem hold_none (has : List Int) (x : Int) (hb : ∀ v, v < has.length → has.getD v 0 ≠ x) (hsz : has.length ≤ 1000) : ∀ (m i : Nat), i + m = has.length → ∃ K, ∀ k, K ≤ k → sluicewayref21_holder.l0 k x i L E has R p = some (-1) := by
  intro m
  have rdn : ∀ j : Nat, rd has (j : Int) = has.getD j 0 := fun j => by unfold rd; rw [Int.toNat_natCast]
  induction m with
  | zero =>
    intro i hi
    refine ⟨1, fun k hk => ?_⟩
    obtain ⟨k, rfl⟩ : ∃ j, k = j + 1 := ⟨k - 1, by omega⟩
    have e : ¬ (i : Int) < (has.length : Int) := by omega
    simp only [sluicewayref21_holder.l0, e, if_false]
  | succ m ih =>
    intro i hi
    obtain ⟨K, hK⟩ := ih (i + 1) (by omega)
    refine ⟨K + 1, fun k hk => ?_⟩
    obtain ⟨k, rfl⟩ : ∃ j, k = j + 1 := ⟨k - 1, by omega⟩
    have e : (i : Int) < (has.length : Int) := by omega
    have e0 : (0 : Int) ≤ (i : Int) := by omega
    have e1 := hb i (by omega)
    simp only [sluicewayref21_holder.l0, e, e0, rdn, e1, if_true, if_false, wrap_succ i (by omega), hK k (by omega)]
/-- Whose a task is. -/
theorem holder_f (h : Pinv L ts has left) (hsz : has.length ≤ 1000) (i : Nat) (hi : i < L.length) : ∃ K, ∀ k, K ≤ k → sluicewayref21_holder.f k L E has R p i = some (ts.getD i zT).worker := by
  unfold sluicewayref21_holder.f
  rcases h.tsOk i hi with ⟨hw, hs⟩ | ⟨w, hwl, hw, hh, hs⟩
  · rw [hw]
    refine hold_none (L := L) (E := E) (R := R) p has i (fun v hv hx => ?_) hsz has.length 0 (by omega)
    rcases h.hasOk v hv with q | ⟨j, _, q1, q2, _⟩
    · omega
    · have : j = i := by omega
      subst this
      omega
  · rw [hw]
    refine hold_some (L := L) (E := E) (R := R) p has i w hwl hh (fun v hv hx => ?_) hsz w 0 (by omega)
    rcases h.hasOk v (by omega) with q | ⟨j, _, q1, q2, _⟩
    · omega
    · have : j = i := by omega
      subst this
      omega

theorem ready_row (L : List (List Int)) (E : List Bool) (hE : E.length = L.length) (i : Nat) (row : List Int) (hrow : L.getD i [] = row) (hi : i < L.length) (hsz : L.length ≤ 1000) (hrl : row.length ≤ 1000) (hm : ∀ q ∈ row, 0 ≤ q ∧ q < L.length)
    (acc : List Int) (hacc : acc.length ≤ i) (rT rF : List Int) (K0 : Nat) (hT : ∀ k, K0 ≤ k → sluicewayref21_Ready.l0 k (acc ++ [(i : Int)]) ((i + 1 : Nat) : Int) L E has R p = some rT) (hF : ∀ k, K0 ≤ k → sluicewayref21_Ready.l0 k acc ((i + 1 : Nat) : Int) L E has R p = some rF) :
    ∀ (m u : Nat) (b : Bool), u + m = row.length → ∃ K, ∀ k, K ≤ k → sluicewayref21_Ready.l1 k acc i b u L E has R p = some (if (b && (row.drop u).all (fun q => E.getD q.toNat false)) = true then rT else rF) := by
  intro m
  have rL1 : rd_L1 L (i : Int) = row := by rw [rd_L1_nat, hrow]
  have e0 : (0 : Int) ≤ (i : Int) := by omega
  have e1 : (i : Int) < (L.length : Int) := by omega
  have eacc : acc.length < 17592186044416 := by omega
  induction m with
  | zero =>
    intro u b hu
    refine ⟨K0 + 1, fun k hk => ?_⟩
    obtain ⟨k, rfl⟩ : ∃ j, k = j + 1 := ⟨k - 1, by omega⟩
    have e2 : ¬ (u : Int) < (row.length : Int) := by omega
    rw [List.drop_of_length_le (by omega)]
    cases b with
    | true => simp only [sluicewayref21_Ready.l1, rL1, e0, e1, e2, eacc, if_true, if_false, wrap_succ i (by omega), hT k (by omega)]; simp
    | false => simp only [sluicewayref21_Ready.l1, rL1, e0, e1, e2, if_true, if_false, wrap_succ i (by omega), hF k (by omega)]; simp
  | succ m ih =>
    intro u b hu
    have hlt : u < row.length := by omega
    have e2 : (u : Int) < (row.length : Int) := by omega
    have e3 : (0 : Int) ≤ (u : Int) := by omega
    rw [List.drop_eq_getElem_cons hlt, List.all_cons]
    have hg := hm row[u] (List.getElem_mem hlt)
    have e6 : row[u] < (E.length : Int) := by omega
    have e5 := hg.1
    cases b with
    | true =>
      obtain ⟨K, hK⟩ := ih (u + 1) (E.getD row[u].toNat false) (by omega)
      refine ⟨K + 1, fun k hk => ?_⟩
      obtain ⟨k, rfl⟩ : ∃ j, k = j + 1 := ⟨k - 1, by omega⟩
      simp only [sluicewayref21_Ready.l1, rL1, e0, e1, e2, e3, rd_get row u hlt, e5, e6, if_true, wrap_succ u (by omega), rdOf, hK k (by omega), Bool.true_and]
    | false =>
      obtain ⟨K, hK⟩ := ih (u + 1) false (by omega)
      refine ⟨K + 1, fun k hk => ?_⟩
      obtain ⟨k, rfl⟩ : ∃ j, k = j + 1 := ⟨k - 1, by omega⟩
      simp only [sluicewayref21_Ready.l1, rL1, e0, e1, e2, if_true, wrap_succ u (by omega), hK k (by omega), Bool.false_and]
      rfl
/-- A task is ready: its state, and those on which it leans. -/
theorem ready_iff (h : Mod L ts has left E R) (hL : goodB L = true) (i : Nat) (hi : i < L.length) :
    (((!E.getD i false && decide ((ts.getD i zT).worker < 0)) && ((L.getD i []).drop 0).all (fun q => E.getD q.toNat false))) = readyB (ts.getD i zT) := by
  have hlen := h.pinv.inv.len
  have hEi : E.getD i false = ((ts.getD i zT).state == 3) := by rw [h.ended, getD_mapB ts i (by omega)]
  have hall : (L.getD i []).all (fun q => E.getD q.toNat false) = ((ts.getD i zT).waits == 0) := by
    rw [h.pinv.inv.waits i hi, Bool.eq_iff_iff, List.all_eq_true, beq_iff_eq]
    have key : ∀ q ∈ L.getD i [], E.getD q.toNat false = (st ts q == 3) := by
      intro q hq
      have := good_mem L hL i hi q hq
      rw [h.ended, getD_mapB ts q.toNat (by omega)]; rfl
    constructor
    · intro ha
      have : wt L (st ts) i = 0 := List.countP_eq_zero.2 fun q hq => by have := ha q hq; rw [key q hq] at this; simpa using this
      omega
    · intro h0 q hq
      have : wt L (st ts) i = 0 := by omega
      have := List.countP_eq_zero.1 this q hq
      rw [key q hq]; simpa using this
  rw [List.drop_zero, hall, hEi]
  unfold readyB
  congr 1
  rcases h.pinv.tsOk i hi with ⟨hw, hs | hs⟩ | ⟨w, _, hw, _, hs | hs⟩ <;> (rw [hw, hs]; simp)
theorem readyL_step (ts : List T) (i N : Nat) (hi : i < N) : (((List.range N).drop i).filter fun i => readyB (ts.getD i zT)) = (if readyB (ts.getD i zT) then [i] else []) ++ (((List.range N).drop (i + 1)).filter fun i => readyB (ts.getD i zT)) := by
  rw [List.drop_eq_getElem_cons (by simpa using hi), List.filter_cons]
  simp only [List.getElem_range]
  cases readyB (ts.getD i zT) <;> simp
theorem ready_f (h : Mod L ts has left E R) (hL : goodB L = true) (hr : rowsAt L 1000) (hsz : L.length ≤ 1000) (hw : has.length ≤ 1000) : ∃ K, ∀ k, K ≤ k → sluicewayref21_Ready.f k L E has R p = some (readyL ts ts.length) := by
  have hlen := h.pinv.inv.len
  have hE : E.length = L.length := by rw [h.ended, List.length_map, hlen]
  have key : ∀ (m i : Nat) (acc : List Int), i + m = L.length → acc.length ≤ i → ∃ K, ∀ k, K ≤ k → sluicewayref21_Ready.l0 k acc i L E has R p = some (acc ++ (((List.range L.length).drop i).filter fun i => readyB (ts.getD i zT)).map fun i : Nat => (i : Int)) := by
    intro m
    induction m with
    | zero =>
      intro i acc hi _
      refine ⟨1, fun k hk => ?_⟩
      obtain ⟨k, rfl⟩ : ∃ j, k = j + 1 := ⟨k - 1, by omega⟩
      have e : ¬ (i : Int) < (L.length : Int) := by omega
      simp only [sluicewayref21_Ready.l0, e, if_false]
      rw [List.drop_of_length_le (by simp; omega)]
      simp
    | succ m ih =>
      intro i acc hi ha
      have hil : i < L.length := by omega
      obtain ⟨K1, h1⟩ := ih (i + 1) (acc ++ [(i : Int)]) (by omega) (by simp; omega)
      obtain ⟨K2, h2⟩ := ih (i + 1) acc (by omega) (by omega)
      have hrl : (L.getD i []).length ≤ 1000 := by
        have e : L.getD i [] = L[i] := by simp [List.getD_eq_getElem?_getD, hil]
        rw [e]; exact hr _ (List.getElem_mem hil)
      obtain ⟨K3, h3⟩ := holder_f (L := L) (E := E) (R := R) p h.pinv hw i hil
      obtain ⟨K4, h4⟩ := ready_row p L E hE i (L.getD i []) rfl hil hsz hrl (fun q hq => by have := good_mem L hL i hil q hq; omega) acc (by omega) _ _ (K1 + K2) (fun k hk => h1 k (by omega)) (fun k hk => h2 k (by omega)) (L.getD i []).length 0 (!E.getD i false && decide ((ts.getD i zT).worker < 0)) (by omega)
      rw [ready_iff h hL i hil] at h4
      refine ⟨K3 + K4 + 2, fun k hk => ?_⟩
      obtain ⟨k, rfl⟩ : ∃ j, k = j + 1 := ⟨k - 1, by omega⟩
      have e : (i : Int) < (L.length : Int) := by omega
      have e0 : (0 : Int) ≤ (i : Int) := by omega
      have e1 : (i : Int) < (E.length : Int) := by omega
      have hb : rdOf false E (i : Int) = E.getD i false := by unfold rdOf; rw [Int.toNat_natCast]
      have fin : sluicewayref21_Ready.j1 k acc i (!E.getD i false && decide ((ts.getD i zT).worker < 0)) L E has R p = some (acc ++ (((List.range L.length).drop i).filter fun i => readyB (ts.getD i zT)).map fun i : Nat => (i : Int)) := by
        obtain ⟨k', rfl⟩ : ∃ j, k = j + 1 := ⟨k - 1, by omega⟩
        simp only [sluicewayref21_Ready.j1]
        have := h4 k' (by omega)
        rw [show ((0 : Nat) : Int) = 0 from rfl] at this
        rw [this, readyL_step ts i L.length hil]
        cases readyB (ts.getD i zT) <;> simp
      cases hEi : E.getD i false with
      | true =>
        rw [hEi] at fin hb
        simp only [sluicewayref21_Ready.l0, e, e0, e1, hb, if_true]
        simpa using fin
      | false =>
        rw [hEi] at fin hb
        simp only [sluicewayref21_Ready.l0, e, e0, e1, hb, if_true, h3 k (by omega), Option.bind_some]
        simpa using fin
  obtain ⟨K, hK⟩ := key L.length 0 [] (by omega) (by simp)
  refine ⟨K, fun k hk => ?_⟩
  have := hK k hk
  unfold sluicewayref21_Ready.f readyL
  rw [show ((0 : Nat) : Int) = 0 from rfl, List.drop_zero, List.nil_append] at this
  rw [this, hlen]
end
end Go.Proofs.Ytigpcfokmbnlaaa.Sched

/- A region whose order is drawn, by an invariant over what is listed. -/
namespace Go.Proofs.Ytigpcfokmbnlaaa.Ord
open Go
variable {P : Program} {ops : Array Oper} {Q : Exit → Act → World → Prop} {md : Region.Mode} {S : World → Prop}

/-- What comes after another has the greater number. -/
def backB (ops : Array Oper) : Bool := (List.range ops.size).all fun i => match ops[i]? with
  | some o => o.after.all fun e => decide (e.on < i)
  | none => true
theorem back_spec (h : backB ops = true) (i : Nat) (o : Oper) (ho : ops[i]? = some o) (e) (he : e ∈ o.after) : e.on < i := by
  have hi := (Array.getElem?_eq_some_iff.1 ho).1
  have h1 := List.all_eq_true.1 h i (List.mem_range.2 hi)
  rw [ho] at h1
  have h2 := Array.all_eq_true_iff_forall_mem.1 h1 e he
  simpa using h2
theorem all_listed {l : Array Bool} (hb : backB ops = true) (hr : Region.ready md ops l = []) : ∀ i, i < ops.size → l.getD i true = true := by
  intro i
  induction i using Nat.strongRecOn with
  | ind i ih =>
    intro hi
    cases hl : l.getD i true with
    | true => rfl
    | false =>
      exfalso
      have ho : ops[i]? = some ops[i] := Array.getElem?_eq_some_iff.2 ⟨hi, rfl⟩
      have : i ∈ Region.ready md ops l := by
        refine mem_ready.2 ⟨hl, ops[i], ho, fun e he _ => ?_⟩
        have h1 := back_spec hb i _ ho e he
        have h2 := ih e.on h1 (by omega)
        have hsz : i < l.size := by
          rcases Nat.lt_or_ge i l.size with h | h
          · exact h
          · simp [Array.getElem?_eq_none h] at hl
        have h3 : e.on < l.size := by omega
        simp [h3] at h2 ⊢
        exact h2
      rw [hr] at this
      cases this
def openN (l : Array Bool) : Nat := l.toList.countP (fun b => !b)
theorem openN_set {l : Array Bool} {i : Nat} (h : l.getD i true = false) : openN (l.setIfInBounds i true) + 1 = openN l := by
  have hsz : i < l.size := by
    rcases Nat.lt_or_ge i l.size with h' | h'
    · exact h'
    · simp [Array.getElem?_eq_none h'] at h
  have e : l.toList[i]'(by simpa using hsz) = false := by simpa [hsz] using h
  unfold openN
  rw [Array.toList_setIfInBounds, List.countP_set (by simpa using hsz), e]
  have hp : 0 < l.toList.countP (fun b => !b) := List.countP_pos_iff.2 ⟨false, by rw [← e]; exact List.getElem_mem _, rfl⟩
  simp only [Bool.not_false, Bool.not_true, if_true, Bool.false_eq_true, if_false]
  omega
theorem wpAnyH_inv (I : Array Bool → Act → World → Prop) (hb : backB ops = true)
    (hstep : ∀ l a w i, I l a w → i ∈ Region.ready md ops l → wpOp P ops Q i (fun a' w' => S w' ∧ I (l.setIfInBounds i true) a' w') a w)
    (hdone : ∀ l a w, I l a w → (∀ i, i < ops.size → l.getD i true = true) → Q .normal a w) :
    ∀ fuel l a w, openN l ≤ fuel → I l a w → wpAnyH P md ops Q S fuel l a w := by
  intro fuel
  induction fuel with
  | zero =>
    intro l a w hn hI
    have hr : Region.ready md ops l = [] := by
      apply List.eq_nil_iff_forall_not_mem.2
      intro i hi
      have := openN_set (mem_ready.1 hi).1
      omega
    exact ⟨hr, hdone l a w hI (all_listed hb hr)⟩
  | succ fuel ih =>
    intro l a w hn hI
    refine ⟨fun hr => hdone l a w hI (all_listed hb hr), fun i hi => ?_⟩
    have h2 := openN_set (mem_ready.1 hi).1
    exact wpOp_mono (fun a' w' h => ⟨h.1, ih _ a' w' (by omega) h.2⟩) (hstep l a w i hI hi)
/-- Number i comes after number j. -/
def depB (md : Region.Mode) (ops : Array Oper) (i j : Nat) : Bool := match ops[i]? with
  | some o => o.after.any fun e => Region.binds md e && e.on == j
  | none => false
theorem dep_of {l : Array Bool} {i : Nat} (hi : i ∈ Region.ready md ops l) (j : Nat) (h : depB md ops i j = true) : l.getD j false = true := by
  obtain ⟨_, o, ho, hall⟩ := mem_ready.1 hi
  unfold depB at h
  rw [ho] at h
  obtain ⟨e, he, h1⟩ := Array.any_eq_true'.1 h
  simp only [Bool.and_eq_true, beq_iff_eq] at h1
  rw [← h1.2]
  exact hall e he h1.1
end Go.Proofs.Ytigpcfokmbnlaaa.Ord
