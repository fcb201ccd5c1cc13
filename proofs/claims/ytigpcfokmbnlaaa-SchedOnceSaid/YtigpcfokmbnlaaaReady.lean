/- The contract of (*Plan).Ready. -/
import Derived.Test.YtigpcfokmbnlaaaAsk
namespace Go.Proofs.Ytigpcfokmbnlaaa.Sched
open Go.RowKit Go.Proofs.YtigpcfokmbnlaaaW.PrintWords

/-- The tasks that are ready, of the first k. -/
def readyL (ts : List T) (k : Nat) : List Int := ((List.range k).filter fun i => readyB (ts.getD i zT)).map fun i : Nat => (i : Int)
theorem readyL_succ (ts : List T) (k : Nat) : readyL ts (k + 1) = if readyB (ts.getD k zT) then readyL ts k ++ [(k : Int)] else readyL ts k := by
  unfold readyL
  rw [List.range_succ, List.filter_append]
  by_cases h : readyB (ts.getD k zT) = true
  · rw [if_pos h, List.filter_cons_of_pos (p := fun i => readyB (ts.getD i zT)) h, List.map_append]; rfl
  · rw [if_neg h, List.filter_cons_of_neg (p := fun i => readyB (ts.getD i zT)) h, List.filter_nil, List.append_nil]
theorem readyL_len (ts : List T) (k : Nat) : (readyL ts k).length ≤ k := by
  unfold readyL
  rw [List.length_map]
  have := List.length_filter_le (fun i => readyB (ts.getD i zT)) (List.range k)
  simpa using this
theorem C_lit (k : IntKind) (W : World) (e : TypeId) (xs : List Int) (hm : xs.length ≤ 9223372036854775807) :
    (Kd.int k).C (W.alloc (.cells (nums k xs).toArray e)) (some ⟨W.heap.size, 0, none⟩) xs.length xs := by
  refine ⟨rfl, hm, fun _ => ⟨_, rfl, fun j p hp => ⟨[.int k p], rfl, rfl, fun i u hu => ?_⟩⟩⟩
  cases i with
  | succ i => simp at hu
  | zero =>
    simp at hu
    subst hu
    rw [add_plain, cell_of_row _ _ _ _ _ _ (heap_alloc_new W _)]
    simp [Kd.int, Kd.scalar, nums, hp]

set_option maxHeartbeats 1000000 in
theorem readyAll_calls (P : Pl) (ts : List T) (has : List Int) (picks left : Int) (w : World) (h : IsPlan w P ts has picks left) :
    Calls Try.prog 15 #[.pointer (some ⟨P.gp, 0, none⟩)] w fun e w' => ∃ v, e = .returned v ∧ (Kd.int .i64).R 3 w' w.heap.size (fun _ => True) v (readyL ts ts.length) ∧ Below w.heap.size w w' := by
  obtain ⟨c0, -, -, -⟩ := h.cellP
  have HI := Aside0.mk h
  have hlen := h.lent
  clear h
  go_enter Try.func15, Try.ntmps15
  go_wp2
  clear c0
  go_loopw [3, 12] (fun v i wr => ∃ k : Nat, k ≤ ts.length ∧ i = .int .i64 k ∧ Aside0 ((Kd.int .i64).R 3 wr w.heap.size (fun _ => True) v (readyL ts k)) ∧ Aside0 (Below w.heap.size w wr)) (fun _ i _ => ts.length - (intOf i).toNat)
  case atStart => exact ⟨0, by omega, rfl, ⟨Kd.R_nil _ _ _ _ _⟩, ⟨Below.refl _ _⟩⟩
  case round =>
    obtain ⟨k, hk, rfl, HR, HB⟩ := hrel
    by_cases hlt : k < ts.length
    · have hb : decide (k < ts.length) = true := by simp; omega
      have hlt2 : (k : Int) < (ts.length : Int) := by omega
      have hI2 := HI.out.keep HB.out
      obtain ⟨c0, -, -, -⟩ := hI2.cellP
      have t0 := hI2.cellT k 0 hlt (by omega)
      have t3 := hI2.cellT k 3 hlt (by omega)
      simp only [T.cells, List.getElem?_cons_zero, List.getElem?_cons_succ, Nat.add_zero] at t0 t3
      have HT := Aside0.mk (readyL_succ ts k)
      have HL := Aside0.mk (readyL_len ts k)
      generalize ts.getD k zT = t at t0 t3 HT
      have HC := Aside0.mk (ready_calls P.gt (k * 4) t wr t0 t3)
      clear hI2
      cases hr : readyB t
      · rw [hr] at HC HT
        clear hr
        go_wp2_with (go_at_call 26; refine HC.out.mono ?_; rintro e w' ⟨rfl, ⟨nd, rfl⟩⟩)
        go_roundw
        case rel => exact ⟨k + 1, by omega, by go_num, ⟨by rw [HT.out, if_neg (by simp)]; exact Kd.R_drewN HR.out nd⟩, ⟨pw_below_drewN HB.out nd⟩⟩
        case measure => simp [intOf]; omega
      · rw [hr] at HC HT
        clear hr
        go_wp2_with (first | (go_at_call 26; refine HC.out.mono ?_; rintro e w' ⟨rfl, ⟨nd, rfl⟩⟩) | (at_builtin; refine Kd.R_append_row (Value.int .i64) 0 (h1 := fun _ => rfl) w.heap.size rfl (.tmp 22) (.tmp 24) 38 3 (.int .i64 0) 8 rfl Try.underlying38 (by kernel_rfl) rfl (by omega) _ (readyL ts k) [(k : Int)] (some ⟨wr.heap.size, 0, none⟩) 1 1 (fun _ => True) rfl rfl (fun _ _ => trivial) (Kd.R_alloc (Kd.R_drewN HR.out nd) _) (C_lit .i64 (wr.drewN nd) 3 [(k : Int)] (by simp)) (below_alloc (pw_below_drewN HB.out nd) _) (by have := HB.out.size; show w.heap.size ≤ ((wr.drewN nd).alloc _).heap.size; rw [World.size_alloc]; show w.heap.size ≤ wr.heap.size + 1; omega) (by have := HL.out; simp; omega) ?_; intro v3 w3 hr3 hb3 hg3 hat3; clear hg3 hat3))
        go_roundw
        case rel => exact ⟨k + 1, by omega, by go_num, ⟨by rw [HT.out, if_pos trivial]; exact hr3⟩, ⟨hb3⟩⟩
        case measure => simp [intOf]; omega
    · have hb : decide (k < ts.length) = false := by simp; omega
      have HF := Aside0.mk (show readyL ts k = readyL ts ts.length by rw [show k = ts.length by omega])
      obtain ⟨Av, cv, hv⟩ := Kd.R_slice HR.out
      go_wp2
      go_ret
      exact ⟨_, rfl, by rw [← HF.out]; exact HR.out, HB.out⟩
end Go.Proofs.Ytigpcfokmbnlaaa.Sched
