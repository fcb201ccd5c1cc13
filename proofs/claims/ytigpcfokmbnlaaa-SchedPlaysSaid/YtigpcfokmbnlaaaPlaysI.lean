/- The document's New, where it refuses. -/
import Derived.Test.YtigpcfokmbnlaaaPlaysH
namespace Go.Proofs.Ytigpcfokmbnlaaa.Sched
open Go.RowKit Go.Proofs.YtigpcfokmbnlaaaW.PrintWords Go.Proofs.Ytigpcfokmbnlaaa.PSchedPlays

set_option maxHeartbeats 4000000 in
set_option maxRecDepth 100000 in
theorem refNew_bad (A0 : Option Addr) (c0 : Nat) (L : List (List Int)) (A1 : Option Addr) (c1 : Nat) (idle : List Bool) (n : Int) (W : World) (hL : L.length ≤ 1000000) (hr : rowsAt L 1000000) (hr0 : Kd.C (Kd.slice 3 (Kd.int .i64)) W A0 L.length L) (hc0 : L.length ≤ c0)
    (hbad : newBad L idle n ≠ 0) :
    Calls Try.prog 17 #[.slice A0 L.length c0, .slice A1 idle.length c1, .int .i64 n] W fun e w' => e = .returned (.tuple #[.agg #[.slice none 0 0, .slice none 0 0, .slice none 0 0, .slice none 0 0, .int .i64 0], .int .i64 (newBad L idle n)]) ∧ Below W.heap.size W w' := by
  have hu46 := Try.underlying46
  have HG : Aside0 (Calls Try.prog 9 #[.slice A0 L.length c0] (W.alloc (.cells #[.slice none 0 0, .slice none 0 0, .slice none 0 0, .slice none 0 0, .int .i64 0] 46)) fun e w' => e = .returned (.bool (goodB L)) ∧ Drawn0 (W.alloc (.cells #[.slice none 0 0, .slice none 0 0, .slice none 0 0, .slice none 0 0, .int .i64 0] 46)) w') := ⟨r19_calls A0 c0 L _ hL hr (Kd.C_below hr0 (below_alloc (Below.refl _ _) _)) hc0⟩
  have HB : Aside0 (Below W.heap.size W (W.alloc (.cells #[.slice none 0 0, .slice none 0 0, .slice none 0 0, .slice none 0 0, .int .i64 0] 46))) := ⟨below_alloc (Below.refl _ _) _⟩
  have HN : Aside0 ((W.alloc (.cells #[.slice none 0 0, .slice none 0 0, .slice none 0 0, .slice none 0 0, .int .i64 0] 46)).heap[W.heap.size]? = some (.cells #[.slice none 0 0, .slice none 0 0, .slice none 0 0, .slice none 0 0, .int .i64 0] 46 (0, 0))) := ⟨heap_alloc_new _ _⟩
  have HO : Aside0 ((#[.slice none 0 0, .slice none 0 0, .slice none 0 0, .slice none 0 0, .int .i64 0] : Array Value).all (·.oneCell') = true) := ⟨by simp [Value.oneCell']⟩
  unfold newBad at hbad ⊢
  clear hL hr hr0 hc0
  cases hg : goodB L
  · have HH := Aside0.mk hg
    clear hg hbad
    go_enter Try.func17, Try.ntmps17
    go_wp2_with fail
    refine HG.out.mono ?_
    rintro e w1 ⟨rfl, hd⟩
    rw [HH.out]
    obtain ⟨nd, rfl⟩ := hd
    have HB1 := Aside0.mk (below_drewN HB.out nd)
    have HN1 := Aside0.mk (show ((W.alloc (.cells #[.slice none 0 0, .slice none 0 0, .slice none 0 0, .slice none 0 0, .int .i64 0] 46)).drewN nd).heap[W.heap.size]? = some (.cells #[.slice none 0 0, .slice none 0 0, .slice none 0 0, .slice none 0 0, .int .i64 0] 46 (0, 0)) from HN.out)
    clear HG HB HN HH
    generalize (W.alloc (.cells #[.slice none 0 0, .slice none 0 0, .slice none 0 0, .slice none 0 0, .int .i64 0] 46)).drewN nd = w1 at HB1 HN1 ⊢
    go_wp2_with (refine wpList_store_row rfl 46 _ _ rfl _ #[.slice none 0 0, .slice none 0 0, .slice none 0 0, .slice none 0 0, .int .i64 0] rfl rfl 46 #[.slice none 0 0, .slice none 0 0, .slice none 0 0, .slice none 0 0, .int .i64 0] HN1.out (by kernel_rfl) rfl HO.out ?_)
    (try simp only [Exit.inBlock, Exit.then]); refine bodyPost_ret (results_list (rs := [.cell 6 46, .tmp 7]) rfl (by simp) (.cell W.heap.size 46 #[.slice none 0 0, .slice none 0 0, .slice none 0 0, .slice none 0 0, .int .i64 0] (0, 0) _ rfl (setRow_heap _ _ _ _ _ _ HN1.out) Try.underlying46 rfl (by kernel_rfl) (.tmp .nil))) rfl ?_
    exact ⟨rfl, below_trans HB1.out (below_setRow _ _ _ (Nat.le_refl _))⟩
  · have HH := Aside0.mk hg
    by_cases hi : idle.length = L.length
    · simp only [hg, hi] at hbad
      have bi : (((idle.length : Nat) : Int) != ((L.length : Nat) : Int)) = false := by simp [hi]
      have bi2 : (idle.length != L.length) = false := by simp [hi]
      by_cases h1 : n < 1
      · have b1 : decide (n < 1) = true := by simp; omega
        have e : (if (!true || decide (idle.length ≠ L.length)) = true then (2 : Int) else if n < 1 ∨ 64 < n then 1 else 0) = 1 := by simp [hi, h1]
        rw [e]
        clear hg hbad e h1 hi
        go_enter Try.func17, Try.ntmps17
        go_wp2_with fail
        refine HG.out.mono ?_
        rintro e w1 ⟨rfl, hd⟩
        rw [HH.out]
        obtain ⟨nd, rfl⟩ := hd
        have HB1 := Aside0.mk (below_drewN HB.out nd)
        have HN1 := Aside0.mk (show ((W.alloc (.cells #[.slice none 0 0, .slice none 0 0, .slice none 0 0, .slice none 0 0, .int .i64 0] 46)).drewN nd).heap[W.heap.size]? = some (.cells #[.slice none 0 0, .slice none 0 0, .slice none 0 0, .slice none 0 0, .int .i64 0] 46 (0, 0)) from HN.out)
        clear HG HB HN HH
        generalize (W.alloc (.cells #[.slice none 0 0, .slice none 0 0, .slice none 0 0, .slice none 0 0, .int .i64 0] 46)).drewN nd = w1 at HB1 HN1 ⊢
        go_wp2_with (refine wpList_store_row rfl 46 _ _ rfl _ #[.slice none 0 0, .slice none 0 0, .slice none 0 0, .slice none 0 0, .int .i64 0] rfl rfl 46 #[.slice none 0 0, .slice none 0 0, .slice none 0 0, .slice none 0 0, .int .i64 0] HN1.out (by kernel_rfl) rfl HO.out ?_)
        (try simp only [Exit.inBlock, Exit.then]); refine bodyPost_ret (results_list (rs := [.cell 6 46, .tmp 7]) rfl (by simp) (.cell W.heap.size 46 #[.slice none 0 0, .slice none 0 0, .slice none 0 0, .slice none 0 0, .int .i64 0] (0, 0) _ rfl (setRow_heap _ _ _ _ _ _ HN1.out) Try.underlying46 rfl (by kernel_rfl) (.tmp .nil))) rfl ?_
        exact ⟨rfl, below_trans HB1.out (below_setRow _ _ _ (Nat.le_refl _))⟩
      · have h2 : 64 < n := by
          refine Classical.byContradiction fun h2 => hbad ?_
          simp [h1, h2]
        have b1 : decide (n < 1) = false := by simp; omega
        have b2 : decide (64 < n) = true := by simp; omega
        have e : (if (!true || decide (idle.length ≠ L.length)) = true then (2 : Int) else if n < 1 ∨ 64 < n then 1 else 0) = 1 := by simp [hi, h2]
        rw [e]
        clear hg hbad e h1 h2 hi
        go_enter Try.func17, Try.ntmps17
        go_wp2_with fail
        refine HG.out.mono ?_
        rintro e w1 ⟨rfl, hd⟩
        rw [HH.out]
        obtain ⟨nd, rfl⟩ := hd
        have HB1 := Aside0.mk (below_drewN HB.out nd)
        have HN1 := Aside0.mk (show ((W.alloc (.cells #[.slice none 0 0, .slice none 0 0, .slice none 0 0, .slice none 0 0, .int .i64 0] 46)).drewN nd).heap[W.heap.size]? = some (.cells #[.slice none 0 0, .slice none 0 0, .slice none 0 0, .slice none 0 0, .int .i64 0] 46 (0, 0)) from HN.out)
        clear HG HB HN HH
        generalize (W.alloc (.cells #[.slice none 0 0, .slice none 0 0, .slice none 0 0, .slice none 0 0, .int .i64 0] 46)).drewN nd = w1 at HB1 HN1 ⊢
        go_wp2_with (refine wpList_store_row rfl 46 _ _ rfl _ #[.slice none 0 0, .slice none 0 0, .slice none 0 0, .slice none 0 0, .int .i64 0] rfl rfl 46 #[.slice none 0 0, .slice none 0 0, .slice none 0 0, .slice none 0 0, .int .i64 0] HN1.out (by kernel_rfl) rfl HO.out ?_)
        (try simp only [Exit.inBlock, Exit.then]); refine bodyPost_ret (results_list (rs := [.cell 6 46, .tmp 7]) rfl (by simp) (.cell W.heap.size 46 #[.slice none 0 0, .slice none 0 0, .slice none 0 0, .slice none 0 0, .int .i64 0] (0, 0) _ rfl (setRow_heap _ _ _ _ _ _ HN1.out) Try.underlying46 rfl (by kernel_rfl) (.tmp .nil))) rfl ?_
        exact ⟨rfl, below_trans HB1.out (below_setRow _ _ _ (Nat.le_refl _))⟩
    · have bi : (((idle.length : Nat) : Int) != ((L.length : Nat) : Int)) = true := by simp; omega
      have bi2 : (idle.length != L.length) = true := by simp; omega
      have e : (if (!true || decide (idle.length ≠ L.length)) = true then (2 : Int) else if n < 1 ∨ 64 < n then 1 else 0) = 2 := by simp [hi]
      rw [e]
      clear hg hbad e hi
      go_enter Try.func17, Try.ntmps17
      go_wp2_with fail
      refine HG.out.mono ?_
      rintro e w1 ⟨rfl, hd⟩
      rw [HH.out]
      obtain ⟨nd, rfl⟩ := hd
      have HB1 := Aside0.mk (below_drewN HB.out nd)
      have HN1 := Aside0.mk (show ((W.alloc (.cells #[.slice none 0 0, .slice none 0 0, .slice none 0 0, .slice none 0 0, .int .i64 0] 46)).drewN nd).heap[W.heap.size]? = some (.cells #[.slice none 0 0, .slice none 0 0, .slice none 0 0, .slice none 0 0, .int .i64 0] 46 (0, 0)) from HN.out)
      clear HG HB HN HH
      generalize (W.alloc (.cells #[.slice none 0 0, .slice none 0 0, .slice none 0 0, .slice none 0 0, .int .i64 0] 46)).drewN nd = w1 at HB1 HN1 ⊢
      go_wp2_with (refine wpList_store_row rfl 46 _ _ rfl _ #[.slice none 0 0, .slice none 0 0, .slice none 0 0, .slice none 0 0, .int .i64 0] rfl rfl 46 #[.slice none 0 0, .slice none 0 0, .slice none 0 0, .slice none 0 0, .int .i64 0] HN1.out (by kernel_rfl) rfl HO.out ?_)
      (try simp only [Exit.inBlock, Exit.then]); refine bodyPost_ret (results_list (rs := [.cell 6 46, .tmp 7]) rfl (by simp) (.cell W.heap.size 46 #[.slice none 0 0, .slice none 0 0, .slice none 0 0, .slice none 0 0, .int .i64 0] (0, 0) _ rfl (setRow_heap _ _ _ _ _ _ HN1.out) Try.underlying46 rfl (by kernel_rfl) (.tmp .nil))) rfl ?_
      exact ⟨rfl, below_trans HB1.out (below_setRow _ _ _ (Nat.le_refl _))⟩
end Go.Proofs.Ytigpcfokmbnlaaa.Sched

/- The document's New, where it makes a plan. -/
namespace Go.Proofs.Ytigpcfokmbnlaaa.Sched
open Go.RowKit Go.Proofs.YtigpcfokmbnlaaaW.PrintWords Go.Proofs.Ytigpcfokmbnlaaa.PSchedPlays

set_option maxHeartbeats 4000000 in
set_option maxRecDepth 100000 in
theorem refNew_good (A0 : Option Addr) (c0 : Nat) (L : List (List Int)) (A1 : Option Addr) (c1 : Nat) (idle : List Bool) (n : Nat) (W : World) (hL : L.length ≤ 1000) (hr : rowsAt L 1000) (hr0 : Kd.C (Kd.slice 3 (Kd.int .i64)) W A0 L.length L) (hc0 : L.length ≤ c0)
    (hr1 : Kd.C Kd.bool W A1 idle.length idle) (hc1 : idle.length ≤ c1) (hg : goodB L = true) (hi : idle.length = L.length) (hn : 1 ≤ n ∧ n ≤ 64) :
    Calls Try.prog 17 #[.slice A0 L.length c0, .slice A1 idle.length c1, .int .i64 n] W fun e w' => ∃ v : MV, e = .returned (.tuple #[.agg (v.cells L idle (List.replicate n (-1)) (List.replicate n false) 0), .int .i64 0]) ∧ MCnew W.heap.size v ∧ v.A = A0 ∧ MC w' v L idle (List.replicate n (-1)) (List.replicate n false) ∧ Below W.heap.size W w' := by
  have hu46 := Try.underlying46
  have HG : Aside0 (Calls Try.prog 9 #[.slice A0 L.length c0] (W.alloc (.cells #[.slice none 0 0, .slice none 0 0, .slice none 0 0, .slice none 0 0, .int .i64 0] 46)) fun e w' => e = .returned (.bool (goodB L)) ∧ Drawn0 (W.alloc (.cells #[.slice none 0 0, .slice none 0 0, .slice none 0 0, .slice none 0 0, .int .i64 0] 46)) w') := ⟨r19_calls A0 c0 L _ (by omega) (fun l hl => Nat.le_trans (hr l hl) (by omega)) (Kd.C_below hr0 (below_alloc (Below.refl _ _) _)) hc0⟩
  have HB : Aside0 (Below W.heap.size W (W.alloc (.cells #[.slice none 0 0, .slice none 0 0, .slice none 0 0, .slice none 0 0, .int .i64 0] 46))) := ⟨below_alloc (Below.refl _ _) _⟩
  have HN : Aside0 ((W.alloc (.cells #[.slice none 0 0, .slice none 0 0, .slice none 0 0, .slice none 0 0, .int .i64 0] 46)).heap[W.heap.size]? = some (.cells #[.slice none 0 0, .slice none 0 0, .slice none 0 0, .slice none 0 0, .int .i64 0] 46 (0, 0))) := ⟨heap_alloc_new _ _⟩
  have HL0 := Aside0.mk hr0
  have HI0 := Aside0.mk hr1
  have HSZ : Aside0 (idle.length ≤ 1000 ∧ n ≤ 64 ∧ L.length ≤ c0 ∧ idle.length ≤ c1 ∧ 1 ≤ n) := ⟨by omega, hn.2, hc0, hc1, hn.1⟩
  have HH := Aside0.mk hg
  have bi : (((idle.length : Nat) : Int) != ((L.length : Nat) : Int)) = false := by simp [hi]
  have bi2 : (idle.length != L.length) = false := by simp [hi]
  have b1 : decide ((n : Int) < 1) = false := by simp; omega
  have b2 : decide (64 < (n : Int)) = false := by simp; omega
  have b3 : decide (64 < n) = false := by simp; omega
  have b4 : decide (n < 1) = false := by simp; omega
  clear hL hr hr0 hc0 hg hi hn hc1 hr1
  go_enter Try.func17, Try.ntmps17
  go_wp2_with fail
  refine HG.out.mono ?_
  rintro e w1 ⟨rfl, hd⟩
  rw [HH.out]
  obtain ⟨nd, rfl⟩ := hd
  have HB1 := Aside0.mk (below_drewN HB.out nd)
  have HN1 := Aside0.mk (show ((W.alloc (.cells #[.slice none 0 0, .slice none 0 0, .slice none 0 0, .slice none 0 0, .int .i64 0] 46)).drewN nd).heap[W.heap.size]? = some (.cells #[.slice none 0 0, .slice none 0 0, .slice none 0 0, .slice none 0 0, .int .i64 0] 46 (0, 0)) from HN.out)
  clear HG HB HN HH
  generalize (W.alloc (.cells #[.slice none 0 0, .slice none 0 0, .slice none 0 0, .slice none 0 0, .int .i64 0] 46)).drewN nd = w1 at HB1 HN1 ⊢
  have HO1 : Aside0 (O Kd.bool 4 (w1.alloc (.cells #[] 4)) w1.heap.size (.slice (some ⟨w1.heap.size, 0, none⟩) 0 0) []) := ⟨O_lit w1 w1.heap.size (Nat.le_refl _)⟩
  have HI1 : Aside0 (Kd.C Kd.bool (w1.alloc (.cells #[] 4)) A1 idle.length idle) := ⟨Kd.C_below HI0.out (below_alloc HB1.out _)⟩
  have HB2 : Aside0 (Below w1.heap.size w1 (w1.alloc (.cells #[] 4))) := ⟨below_alloc (Below.refl _ _) _⟩
  have HS2 := HSZ.out.1
  have HB3 := Aside0.mk HB2.out.size
  go_wp2_with (at_builtin; refine Kd.R_append_rows Kd.bool (Rr := Kd.bool.K _) (w0 := w1) w1.heap.size rfl (.tmp 29) (.tmp 30) 31 4 (.bool false) 1 rfl Try.underlying31 (by kernel_rfl) rfl (by decide) (by decide) _ [] idle A1 idle.length c1 (fun _ => True) (fun _ => False) rfl rfl (O_R HO1.out) HI1.out (fun _ _ h => h) (fun _ h => h.elim) (fun _ _ => trivial) HB2.out HB3.out (by simp; omega) ?_; intro v1 w3 hr3 hb3 hg3 hat3; refine Shut.out ?_)
  delta Shut
  rw [List.nil_append] at hr3
  obtain ⟨AE, cE, he5, -, -⟩ := Kd.R_reads hr3
  subst he5
  have HE3 : Aside0 (O Kd.bool 4 w3 w1.heap.size (.slice AE idle.length cE) idle) := ⟨O_of hr3⟩
  have HB4 := Aside0.mk hb3
  have HN3 : Aside0 (w3.heap[W.heap.size]? = some (.cells #[.slice none 0 0, .slice none 0 0, .slice none 0 0, .slice none 0 0, .int .i64 0] 46 (0, 0))) := ⟨by rw [hb3.block _ (Array.getElem?_eq_some_iff.1 HN1.out).1]; exact HN1.out⟩
  have HLT : Aside0 (W.heap.size < w1.heap.size) := ⟨(Array.getElem?_eq_some_iff.1 HN1.out).1⟩
  have HO2 : Aside0 ((#[.slice A0 L.length c0, .slice AE idle.length cE, .slice none 0 0, .slice none 0 0, .int .i64 0] : Array Value).all (·.oneCell') = true) := ⟨by simp [Value.oneCell']⟩
  have HN4 : Aside0 ((w3.alloc (.cells #[.slice none 0 0, .slice none 0 0, .slice none 0 0, .slice none 0 0, .int .i64 0] 46)).heap[w3.heap.size]? = some (.cells #[.slice none 0 0, .slice none 0 0, .slice none 0 0, .slice none 0 0, .int .i64 0] 46 (0, 0))) := ⟨heap_alloc_new _ _⟩
  have HD0 : Aside0 (DM w1 ((w3.alloc (.cells #[.slice none 0 0, .slice none 0 0, .slice none 0 0, .slice none 0 0, .int .i64 0] 46)).setRow w3.heap.size #[.slice A0 L.length c0, .slice AE idle.length cE, .slice none 0 0, .slice none 0 0, .int .i64 0]) A0 c0 w3.heap.size (.slice AE idle.length cE) (.slice none 0 0) (.slice none 0 0) L idle [] []) := ⟨by
    have hs := hb3.size
    refine ⟨below_trans (below_alloc hb3 _) (below_setRow _ _ _ hs), setRow_heap _ _ _ _ _ _ HN4.out, ?_, O_nil _ _, O_nil _ _, fun k _ hk' => by simp [Value.ownBlock] at hk', hs⟩
    exact O_keep (w1 := (w3.alloc (.cells #[.slice none 0 0, .slice none 0 0, .slice none 0 0, .slice none 0 0, .int .i64 0] 46)).setRow w3.heap.size #[.slice A0 L.length c0, .slice AE idle.length cE, .slice none 0 0, .slice none 0 0, .int .i64 0]) HE3.out (fun k hk hl => by rw [setRow_other _ _ _ _ (by omega)]; exact heap_alloc_old _ _ hl)⟩
  clear hr3 hb3 hg3 hat3 HO1 HI1 HB2 HB3 HE3 HB4 HN3
  go_wp2_with (refine wpList_store_row rfl 46 _ _ rfl _ #[.slice A0 L.length c0, .slice AE idle.length cE, .slice none 0 0, .slice none 0 0, .int .i64 0] rfl rfl 46 #[.slice none 0 0, .slice none 0 0, .slice none 0 0, .slice none 0 0, .int .i64 0] HN4.out (by kernel_rfl) rfl HO2.out ?_; refine Shut.out ?_)
  delta Shut
  have HB1' := Aside0.mk HB1.out
  clear HN4 HO2 HI0
  generalize (w3.alloc (.cells #[.slice none 0 0, .slice none 0 0, .slice none 0 0, .slice none 0 0, .int .i64 0] 46)).setRow w3.heap.size #[.slice A0 L.length c0, .slice AE idle.length cE, .slice none 0 0, .slice none 0 0, .int .i64 0] = w5 at HD0 ⊢
  generalize w3.heap.size = g8 at HD0 ⊢
  have HN := Aside0.mk (And.intro HSZ.out.2.1 HSZ.out.2.2.2.2)
  go_wp2
  go_loopw [9] (fun s wr => ∃ (m : Nat) (hv rv : Value), m ≤ n ∧ s = .int .i64 m ∧ Aside0 (DM w1 wr A0 c0 g8 (.slice AE idle.length cE) hv rv L idle (List.replicate m (-1)) (List.replicate m false))) (fun s _ => n - (intOf s).toNat)
  case atStart => exact ⟨0, _, _, by omega, rfl, HD0⟩
  case round =>
    clear HD0
    obtain ⟨m, hv, rv, hm, rfl, HD⟩ := hrel
    by_cases hmt : m < n
    · have hb : decide (m < n) = true := by simp; omega
      obtain ⟨d2, -, -, -⟩ := HD.out.cells
      have hm64 : m < 64 := by have := HN.out.1; omega
      have HSB := Aside0.mk HD.out.bel.size
      go_wp2_with (at_builtin; refine Kd.R_append (Kd.int .i64) (w0 := w1) w1.heap.size rfl (.tmp 39) (.tmp 40) 38 3 (.int .i64 0) 8 rfl Try.underlying38 (by kernel_rfl) rfl (by decide) (by decide) hv (List.replicate m (-1)) (-1 : Int) [.int .i64 (-1)] (fun _ => True) (fun _ => False) rfl rfl rfl (fun _ h => h.elim) (fun _ _ => trivial) (O_R HD.out.h) HD.out.bel HSB.out (by simp; omega) ?_; intro v1 w6 hr6 hb6 hg6 hat6; refine Shut.out ?_)
      delta Shut
      have HD2 : Aside0 (DM w1 (w6.setCell ⟨g8, 2, none⟩ v1) A0 c0 g8 (.slice AE idle.length cE) v1 rv L idle (List.replicate (m + 1) (-1)) (List.replicate m false)) := ⟨by have h := HD.out.appH hr6 hb6 hg6; rw [← List.replicate_succ'] at h; exact h⟩
      have hp6 := HD.out.grownH hg6
      have f2 : w6.frozen? ⟨g8, 2, none⟩ = false := frozen_of_row _ _ _ _ _ hp6
      have c2 : w6.cell? ⟨g8, 2, none⟩ = some hv := (cells5 hp6).2.2.1
      obtain ⟨A2, c2', he2, -, -⟩ := Kd.R_reads hr6
      have hlen2 : (List.replicate m (-1 : Int) ++ [-1]).length = m + 1 := by simp
      rw [hlen2] at he2
      subst he2
      clear hlen2
      clear hr6 hb6 hg6 hat6 hp6 HD d2 HSB
      obtain ⟨-, d3, -, -⟩ := HD2.out.cells
      have HSB := Aside0.mk HD2.out.bel.size
      have HX7 : Aside0 (Value.slice (some ⟨w6.heap.size, 0, none⟩) 1 1 = Value.slice (some ⟨(w6.setCell ⟨g8, 2, none⟩ (.slice A2 (m + 1) c2')).heap.size, 0, none⟩) 1 1) := ⟨by simp⟩
      go_wp2_with (at_builtin; refine Kd.R_append Kd.bool (w0 := w1) w1.heap.size rfl (.tmp 44) (.tmp 45) 31 4 (.bool false) 1 rfl Try.underlying31 (by kernel_rfl) rfl (by decide) (by decide) rv (List.replicate m false) false [.bool false] (fun _ => True) (fun _ => False) rfl HX7.out rfl (fun _ h => h.elim) (fun _ _ => trivial) (O_R HD2.out.r) HD2.out.bel HSB.out (by simp; omega) ?_; intro v8 w8 hr8 hb8 hg8 hat8; refine Shut.out ?_)
      delta Shut
      have HD3 : Aside0 (DM w1 (w8.setCell ⟨g8, 3, none⟩ v8) A0 c0 g8 (.slice AE idle.length cE) (.slice A2 (m + 1) c2') v8 L idle (List.replicate (m + 1) (-1)) (List.replicate (m + 1) false)) := ⟨by have h := HD2.out.appR hr8 hb8 hg8 hat8; rw [← List.replicate_succ'] at h; exact h⟩
      have hp8 := HD2.out.grownR hg8
      have f3 : w8.frozen? ⟨g8, 3, none⟩ = false := frozen_of_row _ _ _ _ _ hp8
      have c3 : w8.cell? ⟨g8, 3, none⟩ = some rv := (cells5 hp8).2.2.2.1
      obtain ⟨A3, c3', he3, -, -⟩ := Kd.R_reads hr8
      have hlen3 : (List.replicate m false ++ [false]).length = m + 1 := by simp
      rw [hlen3] at he3
      subst he3
      clear hr8 hb8 hg8 hat8 hp8 HD2 d3 HSB f2 c2 hlen3 HX7
      go_wp2_with fail
      go_roundw
      case rel => exact ⟨m + 1, _, _, by omega, by go_num, HD3⟩
      case measure => simp [intOf]; omega
    · have hb : decide (m < n) = false := by simp; omega
      have hmn : m = n := by omega
      subst hmn
      have HN6 : Aside0 (wr.heap[W.heap.size]? = some (.cells #[.slice none 0 0, .slice none 0 0, .slice none 0 0, .slice none 0 0, .int .i64 0] 46 (0, 0))) := ⟨by rw [HD.out.bel.block _ HLT.out]; exact HN1.out⟩
      obtain ⟨v, hv1, HMC⟩ := HD.out.fin (cs := #[.slice A0 L.length c0, (.slice AE idle.length cE), hv, rv, .int .i64 0]) HL0.out HSZ.out.2.2.1 HB1.out (g6 := W.heap.size) ⟨Nat.le_refl _, HLT.out⟩
      have HV := Aside0.mk hv1
      have HM := Aside0.mk HMC
      have h1 := cells5 HD.out.plan
      obtain ⟨d0, d1, d2, d3, d4⟩ := h1
      obtain ⟨A2, c2, rfl, -, -⟩ := Kd.R_reads (O_R HD.out.h)
      obtain ⟨A3, c3, rfl, -, -⟩ := Kd.R_reads (O_R HD.out.r)
      simp only [List.length_replicate] at d0 d1 d2 d3 d4 HV HM ⊢
      have HO3 : Aside0 ((#[.slice A0 L.length c0, (.slice AE idle.length cE), .slice A2 m c2, .slice A3 m c3, .int .i64 0] : Array Value).all (·.oneCell') = true) := ⟨by simp [Value.oneCell']⟩
      clear hv1 HMC HD hm hmt
      go_wp2_with (refine wpList_store_row rfl 46 _ _ rfl _ #[.slice A0 L.length c0, (.slice AE idle.length cE), .slice A2 m c2, .slice A3 m c3, .int .i64 0] rfl rfl 46 #[.slice none 0 0, .slice none 0 0, .slice none 0 0, .slice none 0 0, .int .i64 0] ?hg (by kernel_rfl) rfl HO3.out ?_; (exact HN6.out); refine Shut.out ?_)
      delta Shut
      have HGr := setRow_heap wr W.heap.size #[.slice none 0 0, .slice none 0 0, .slice none 0 0, .slice none 0 0, .int .i64 0] #[.slice A0 L.length c0, (.slice AE idle.length cE), .slice A2 m c2, .slice A3 m c3, .int .i64 0] 46 (0, 0) HN6.out
      go_wp2_with fail
      (try simp only [Exit.inBlock, Exit.then]); refine bodyPost_ret (results_list (rs := [.cell 6 46, .tmp 7]) rfl (by simp) (.cell W.heap.size 46 #[.slice A0 L.length c0, .slice AE idle.length cE, .slice A2 m c2, .slice A3 m c3, .int .i64 0] (0, 0) _ rfl HGr Try.underlying46 rfl (by kernel_rfl) (.tmp .nil))) rfl ?_
      refine ⟨v, ?_, HM.out⟩
      rw [← HV.out]
      rfl
end Go.Proofs.Ytigpcfokmbnlaaa.Sched

/- The document's Pick: words for what is copied in whatever order. -/
namespace Go.Proofs.Ytigpcfokmbnlaaa.Sched
open Go.RowKit Go.Proofs.YtigpcfokmbnlaaaW.PrintWords Go.Proofs.Ytigpcfokmbnlaaa.PSchedPlays Go.Proofs.Ytigpcfokmbnlaaa.Ord

theorem takeH {P : Program} {ops : Array Oper} {Q : Exit → Act → World → Prop} {md : Region.Mode} {S : World → Prop} (i : Nat) {oi : Oper} (N : Option Tmp) (v : Value) {fuel : Nat} {listed : Array Bool} {a : Act} {w : World} (hi : ops[i]? = some oi) (hN : oi.dst = N)
    (hs : Region.noSelect ops = true) (hf : Region.free md ops listed i = true) (hr : (Region.ready md ops listed).contains i = true)
    (hQ : ∀ c a w, Q (.panic c) (a.put N v) w → Q (.panic c) a w) (hw : Region.wanted oi (yielded ops a.tmps) = true) (hy : ∀ w, S w → (execOp a.eval oi).run P w = .ok (.value v) w) (hS : S w)
    (h : wpAnyH P md ops Q S fuel (listed.setIfInBounds i true) (a.put N v) w) : wpAnyH P md ops Q S (fuel + 1) listed a w := by
  subst hN
  exact wpAnyH_take hi hs hf hr hQ (.inl ⟨hw, hy⟩) hS h
theorem nameAct {P : Program} {ops : Array Oper} {Q : Exit → Act → World → Prop} {md : Region.Mode} {S : World → Prop} {fuel : Nat} {listed : Array Bool} {a : Act} {w : World} (h : ∀ a1, a = a1 → wpAnyH P md ops Q S fuel listed a1 w) : wpAnyH P md ops Q S fuel listed a w := h a rfl
/-- The slots that are filled in whatever order. -/
def can (a : Act) (s7 s30 s33 s34 s37 s38 s41 s45 : Value) : Act := (((((((a.put (some 7) s7).put (some 30) s30).put (some 33) s33).put (some 34) s34).put (some 37) s37).put (some 38) s38).put (some 41) s41).put (some 45) s45
theorem store_ {P : Program} {ops : Array Oper} {Q : Exit → Act → World → Prop} {oi : Oper} {a : Act} {w : World} {K : Act → World → Prop} (ty : TypeId) (x y : Operand) (hw : Region.wanted oi (yielded ops a.tmps) = true) (hN : oi.dst = none) (ho : oi.op = .store ty x y)
    (g : Nat) (cells : Array Value) (hx : a.eval x = .pointer (some ⟨g, 0, none⟩)) (hy : a.eval y = .agg cells)
    (t : TypeId) (old : Array Value) (hg : w.heap[g]? = some (.cells old t (0, 0))) (hi : (P.info? ty).map (·.size) = some cells.size)
    (hold : old.size = cells.size) (h1 : cells.all (·.oneCell') = true)
    (h : K a (w.setRow g cells)) : if Region.wanted oi (yielded ops a.tmps) = true then Oper.wp P oi a w K Q else K (a.put oi.dst undef) w := by
  rw [if_pos hw]
  refine wp_store_row ty x y ho g cells hx hy t old hg hi hold h1 ?_
  rw [hN]
  exact h
theorem op_is {ops : Array Oper} {i : Nat} {o : Oper} {ty : TypeId} {x y : Operand} (ho : ops[i]? = some o) (h1 : (ops[i]?).map (fun o => o.op) = some (.store ty x y)) (h2 : (ops[i]?).map (fun o => o.dst) = some none) (h3 : (ops[i]?).map (fun o => o.guard) = some none) : o.op = .store ty x y ∧ o.dst = none ∧ o.guard = none := by
  rw [ho] at h1 h2 h3
  exact ⟨Option.some.inj h1, Option.some.inj h2, Option.some.inj h3⟩
theorem put_none (a : Act) : a.put none undef = a := rfl
theorem cases20 (i : Nat) (h : i < 20) : i = 0 ∨ i = 1 ∨ i = 2 ∨ i = 3 ∨ i = 4 ∨ i = 5 ∨ i = 6 ∨ i = 7 ∨ i = 8 ∨ i = 9 ∨ i = 10 ∨ i = 11 ∨ i = 12 ∨ i = 13 ∨ i = 14 ∨ i = 15 ∨ i = 16 ∨ i = 17 ∨ i = 18 ∨ i = 19 := by omega
theorem value_ {P : Program} {ops : Array Oper} {Q : Exit → Act → World → Prop} {oi : Oper} (N : Option Tmp) {a : Act} {w : World} (w1 : World) (v : Value) {K : Act → World → Prop} (hw : Region.wanted oi (yielded ops a.tmps) = true) (hN : oi.dst = N) (hrun : (execOp a.eval oi).run P w = .ok (.value v) w1)
    (h : K (a.put N v) w1) : if Region.wanted oi (yielded ops a.tmps) = true then Oper.wp P oi a w K Q else K (a.put oi.dst undef) w := by
  rw [if_pos hw]
  subst hN
  unfold Oper.wp
  rw [hrun]
  exact h
/-- What is stored of the copy. -/
def cp (v : MV) (L : List (List Int)) (q : Int) (x y z : Value) : Array Value := #[.slice v.A L.length v.c, x, y, z, .int .i64 q]
theorem cp_size (v : MV) (L : List (List Int)) (q : Int) (x y z : Value) : (cp v L q x y z).size = 5 := rfl
theorem cp_one (v : MV) (L : List (List Int)) (q : Int) (A3 A4 A5 : Option Addr) (n3 n4 n5 c3 c4 c5 : Nat) : (cp v L q (.slice A3 n3 c3) (.slice A4 n4 c4) (.slice A5 n5 c5)).all (·.oneCell') = true := by simp [cp, Value.oneCell']
theorem i46 : (Try.prog.info? 46).map (·.size) = some 5 := by kernel_rfl
theorem pos_left {L : List (List Int)} {ts : List T} {has : List Int} {left : Int} (h : Pinv L ts has left) (hl : left ≠ 0) : 0 < ts.length := by
  rcases Nat.eq_zero_or_pos ts.length with e | e
  · exfalso
    apply hl
    rw [h.left, List.length_eq_zero_iff.1 e]
    rfl
  · exact e
end Go.Proofs.Ytigpcfokmbnlaaa.Sched
