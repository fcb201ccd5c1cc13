/- The contract of graph.Keeps. -/
import Derived.Test.YtnjpbfljecmoiaaReach
namespace Go.Proofs.Ytnjpbfljecmoiaa.Graph
open Go.RowKit Go.Proofs.YtnjpbfljecmoiaaW.PrintWords Go.Proofs.Ytnjpbfljecmoiaa.PGraphLeans

/-- Do those that come keep the list, behind those that have come? -/
def keepRun (L : List (List Int)) : List Int → List Int → Bool
  | _, [] => true
  | pre, i :: rest => decide (0 ≤ i) && (decide (i < L.length) && (decide (i ∉ pre) && ((L.getD i.toNat []).all (fun k => decide (k ∈ pre)) && keepRun L (pre ++ [i]) rest)))
def keepsB (L : List (List Int)) (order : List Int) : Bool := goodB L && (decide (order.length = L.length) && keepRun L [] order)
def doneB (n : Nat) (pre : List Int) : List Bool := (List.range n).map fun t : Nat => decide ((t : Int) ∈ pre)
theorem doneB_len (n : Nat) (pre : List Int) : (doneB n pre).length = n := by simp [doneB]
theorem doneB_get (n : Nat) (pre : List Int) (t : Nat) (h : t < n) : (doneB n pre).getD t false = decide ((t : Int) ∈ pre) := by
  unfold doneB
  rw [List.getD_eq_getElem?_getD, List.getElem?_map, List.getElem?_range h]; rfl
theorem doneB_nil (n : Nat) : doneB n [] = List.replicate n false := by
  refine bools_ext (by simp [doneB]) fun t ht => ?_
  rw [doneB_len] at ht
  rw [doneB_get _ _ _ ht]
  simp [List.getD_eq_getElem?_getD, ht]
theorem doneB_set (n : Nat) (pre : List Int) (k : Nat) (hk : k < n) : (doneB n pre).set k true = doneB n (pre ++ [(k : Int)]) := by
  refine bools_ext (by simp [doneB]) fun t ht => ?_
  rw [List.length_set, doneB_len] at ht
  rw [doneB_get _ _ _ ht]
  by_cases e : k = t
  · subst e
    rw [List.getD_eq_getElem?_getD, List.getElem?_set_self (by rw [doneB_len]; exact hk)]
    simp
  · rw [List.getD_eq_getElem?_getD, List.getElem?_set_ne e, ← List.getD_eq_getElem?_getD, doneB_get _ _ _ ht]
    rw [decide_eq_decide, List.mem_append, List.mem_singleton]
    exact ⟨.inl, fun h => h.resolve_right (by omega)⟩
set_option maxHeartbeats 1000000 in
/-- graph.Keeps's closure. -/
theorem keeps1_calls (k g6 gs : Nat) (s : List Bool) (w : World) (h6 : w.cell? ⟨g6, 0, none⟩ = some (.slice (some ⟨gs, 0, none⟩) s.length s.length)) (hs : IsBools w gs s) (hk : k < s.length) :
    Calls Try.prog 29 #[.int .i64 k, .pointer (some ⟨g6, 0, none⟩)] w fun e w' => e = .returned (.bool (!s.getD k false)) ∧ Drawn0 w w' := by
  have ck := hs.cell k hk
  have hk2 : (k : Int) < (s.length : Int) := by omega
  generalize s.getD k false = b at ck ⊢
  clear hs
  go_enter Try.func29, Try.ntmps29
  go_wp2
  try (go_quiet (fail); go_wp2)
  go_ret
  exact ⟨rfl, 0, rfl⟩
set_option maxHeartbeats 8000000 in
set_option maxRecDepth 100000 in
theorem keeps_calls (A0 : Option Addr) (c0 : Nat) (L : List (List Int)) (A1 : Option Addr) (c1 : Nat) (order : List Int) (w : World) (hx : Kd.C (Kd.slice 3 (Kd.int .i64)) w A0 L.length L) (hc0 : L.length ≤ c0) (hsz : L.length ≤ 1000000) (hr : rowsAt L 1000000) (hy : Kd.C (Kd.int .i64) w A1 order.length order) :
    Calls Try.prog 17 #[.slice A0 L.length c0, .slice A1 order.length c1] w fun e w' => e = .returned (.bool (keepsB L order)) ∧ Below w.heap.size w w' := by
  have HC := Aside0.mk (good_calls A0 c0 L w hsz hr hx hc0)
  unfold keepsB
  cases hgd : goodB L with
  | false =>
    rw [hgd] at HC
    clear hx hr hy hgd
    go_enter Try.func17, Try.ntmps17
    go_wp2_with (go_at_call 11; refine HC.out.mono ?_; rintro e w1 ⟨rfl, ⟨m1, rfl⟩⟩)
    go_ret
    exact ⟨rfl, pw_below_drewN (Below.refl _ _) _⟩
  | true =>
    rw [hgd] at HC
    by_cases hlen : order.length = L.length
    · have bi : decide (((order.length : Nat) : Int) = ((L.length : Nat) : Int)) = true := by simp [hlen]
      rw [decide_eq_true hlen, Bool.true_and, Bool.true_and]
      have HX := Aside0.mk hx
      have HY := Aside0.mk hy
      have HRL := Aside0.mk (row_lt hgd)
      have HLEN := Aside0.mk hlen
      have hmk := make48 L.length hsz
      have hymax := Kd.C_max hy
      have bi2 : (order.length == L.length) = true := by simp [hlen]
      have bi3 : (((order.length : Nat) : Int) != ((L.length : Nat) : Int)) = false := by simp [hlen]
      clear hx hr hy hgd hlen
      have HK0 : Aside0 (keepRun L (order.take 0) (order.drop 0) = keepRun L [] order) := ⟨rfl⟩
      generalize keepRun L [] order = res at HK0 ⊢
      go_enter Try.func17, Try.ntmps17
      go_wp2_with (go_at_call 11; refine HC.out.mono ?_; rintro e w1 ⟨rfl, ⟨m1, rfl⟩⟩)
      have HS5 : Aside0 (IsBools (((w.drewN m1).alloc (.cells (bools (List.replicate L.length false)).toArray 4)).alloc (.cells #[.slice (some ⟨w.heap.size, 0, none⟩) L.length L.length] 48)) w.heap.size (doneB L.length (order.take 0))) := ⟨by rw [List.take_zero, doneB_nil]; exact IsBools.keep (heap_alloc_new (w.drewN m1) _) (below_alloc (Below.refl _ _) _)⟩
      have H65 : Aside0 ((((w.drewN m1).alloc (.cells (bools (List.replicate L.length false)).toArray 4)).alloc (.cells #[.slice (some ⟨w.heap.size, 0, none⟩) L.length L.length] 48)).heap[w.heap.size + 1]? = some (.cells #[.slice (some ⟨w.heap.size, 0, none⟩) L.length L.length] 48 (0, 0))) := ⟨by have := heap_alloc_new ((w.drewN m1).alloc (.cells (bools (List.replicate L.length false)).toArray 4)) (.cells #[.slice (some ⟨w.heap.size, 0, none⟩) L.length L.length] 48); simpa using this⟩
      have HB5 : Aside0 (Below w.heap.size w (((w.drewN m1).alloc (.cells (bools (List.replicate L.length false)).toArray 4)).alloc (.cells #[.slice (some ⟨w.heap.size, 0, none⟩) L.length L.length] 48))) := ⟨below_alloc (below_alloc (pw_below_drewN (Below.refl _ _) m1) _) _⟩
      generalize (((w.drewN m1).alloc (.cells (bools (List.replicate L.length false)).toArray 4)).alloc (.cells #[.slice (some ⟨w.heap.size, 0, none⟩) L.length L.length] 48)) = w5 at HS5 H65 HB5 ⊢
      clear hmk HC
      go_loopw [25] (fun v wr => ∃ u : Nat, u ≤ order.length ∧ v = .int .i64 u ∧ Aside0 (keepRun L (order.take u) (order.drop u) = res) ∧ Aside0 (IsBools wr w.heap.size (doneB L.length (order.take u))) ∧ Aside0 (w5.grownBy wr (some w.heap.size))) (fun v _ => order.length - (intOf v).toNat)
      case atStart => exact ⟨0, by omega, rfl, HK0, HS5, ⟨grown_refl _ _⟩⟩
      case round =>
        clear HK0
        obtain ⟨u, hu, rfl, HK, HS, HG⟩ := hrel
        have HBR : Aside0 (Below w.heap.size w wr) := ⟨HB5.out.trans (grown_below HG.out (Nat.le_refl _) HB5.out.size)⟩
        by_cases hut : u < order.length
        · have hb3 : decide (u < order.length) = true := by simp; omega
          have hut2 : (u : Int) < (order.length : Int) := by omega
          obtain ⟨ad5, hA5, e5⟩ := Kd.at_int (Kd.C_below HY.out HBR.out) (u : Int) (by omega) (by omega)
          rw [Int.toNat_natCast, rd_nat order u hut] at e5
          have HK2 := HK.out
          rw [List.drop_eq_getElem_cons hut] at HK2
          have HTK : Aside0 (order.take (u + 1) = order.take u ++ [order[u]]) := ⟨List.take_succ_eq_append_getElem hut⟩
          generalize order[u] = x at e5 HK2 HTK
          generalize hpre : order.take u = pre at HK2 HTK HS
          generalize hrst : order.drop (u + 1) = rest at HK2
          have HRST := Aside0.mk hrst
          clear hrst
          have HKK := Aside0.mk HK2
          have HPRE := Aside0.mk hpre
          clear HK HK2 hpre
          have c6 : wr.cell? ⟨w.heap.size + 1, 0, none⟩ = some (.slice (some ⟨w.heap.size, 0, none⟩) L.length L.length) := by
            rw [cell_of_row wr _ _ _ _ _ ((HG.out.block (w.heap.size + 1) (Array.getElem?_eq_some_iff.1 H65.out).1 (by simp)).trans H65.out)]; rfl
          rw [hA5]
          by_cases hx0 : x < 0
          · have d0 : decide (x < 0) = true := by simp; omega
            have HF : Aside0 (res = false) := ⟨by rw [← HKK.out]; simp only [keepRun]; rw [decide_eq_false (by omega : ¬ 0 ≤ x), Bool.false_and]⟩
            go_wp2
            go_ret
            exact ⟨by rw [HF.out]; rfl, HBR.out⟩
          · have d0 : decide (x < 0) = false := by simp; omega
            by_cases hxN : (L.length : Int) ≤ x
            · have d1 : decide ((L.length : Int) ≤ x) = true := by simp; omega
              have HF : Aside0 (res = false) := ⟨by rw [← HKK.out]; simp only [keepRun]; rw [decide_eq_false (by omega : ¬ x < L.length)]; simp⟩
              go_wp2
              go_ret
              exact ⟨by rw [HF.out]; rfl, HBR.out⟩
            · obtain ⟨i, rfl⟩ := Int.eq_ofNat_of_zero_le (show 0 ≤ x by omega)
              have hiL : i < L.length := by omega
              have hi2 : (i : Int) < (L.length : Int) := by omega
              have d1 : decide ((L.length : Int) ≤ (i : Int)) = false := by simp; omega
              have d1' : decide (L.length ≤ i) = false := by simp; omega
              have ck := HS.out.cell i (by rw [doneB_len]; exact hiL)
              have fk := HS.out.fr i
              rw [doneB_get _ _ _ hiL] at ck
              by_cases hin : (i : Int) ∈ pre
              · rw [decide_eq_true hin] at ck
                have HF : Aside0 (res = false) := ⟨by rw [← HKK.out]; simp only [keepRun]; rw [decide_eq_false (fun h => h hin : ¬ (i : Int) ∉ pre)]; simp⟩
                clear hin
                go_wp2
                go_ret
                exact ⟨by rw [HF.out]; rfl, HBR.out⟩
              · rw [decide_eq_false hin] at ck
                obtain ⟨ad, A', c', hA, e0, hl0, hC0⟩ := at_L6 (Kd.C_below HX.out HBR.out) (i : Int) (by omega) (by omega)
                rw [Int.toNat_natCast] at e0
                rw [rd_L6_nat] at e0 hl0 hC0
                have HKE : Aside0 (res = ((L.getD i []).all (fun k => decide (k ∈ pre)) && keepRun L (pre ++ [(i : Int)]) rest)) := ⟨by
                  rw [← HKK.out]
                  simp only [keepRun]
                  rw [decide_eq_true (by omega : (0 : Int) ≤ i), decide_eq_true (by omega : (i : Int) < L.length), decide_eq_true hin, Int.toNat_natCast]
                  simp⟩
                have HRI := Aside0.mk (HRL.out i)
                clear hin
                generalize L.getD i [] = row at e0 hl0 hC0 HKE HRI
                have HCT := Aside0.mk (ctnInt_calls 29 eg29 (.pointer (some ⟨w.heap.size + 1, 0, none⟩)) (fun k => !decide (k ∈ pre)) A' c' row wr hC0 (fun x hxm m => by
                  have hkl := HRI.out x hxm
                  obtain ⟨k, rfl⟩ := Int.eq_ofNat_of_zero_le hkl.1
                  rw [Int.toNat_natCast] at hkl
                  have hc := keeps1_calls k (w.heap.size + 1) w.heap.size (doneB L.length pre) (wr.drewN m) (by rw [doneB_len]; exact c6) HS.out (by rw [doneB_len]; exact hkl.2.2)
                  rw [doneB_get _ _ _ hkl.2.2] at hc
                  refine hc.mono ?_
                  rintro e w' ⟨he, ⟨q, rfl⟩⟩
                  exact ⟨he, ⟨m + q, by simp [World.drewN, Nat.add_assoc]⟩⟩))
                have hall : row.all (fun k => decide (k ∈ pre)) = !row.any (fun k => !decide (k ∈ pre)) := by
                  rw [List.all_eq_not_any_not]
                rw [hall] at HKE
                clear hall hC0 hl0
                rw [hA]
                cases hct : row.any (fun k => !decide (k ∈ pre)) with
                | true =>
                  rw [hct] at HCT HKE
                  clear hct
                  have HF : Aside0 (res = false) := ⟨by rw [HKE.out]; rfl⟩
                  go_wp2_with (go_at_call 30; refine HCT.out.mono ?_; rintro e w7 ⟨rfl, ⟨m7, rfl⟩⟩)
                  go_ret
                  exact ⟨by rw [HF.out]; rfl, pw_below_drewN HBR.out m7⟩
                | false =>
                  rw [hct] at HCT HKE
                  clear hct
                  have HKR : Aside0 (keepRun L (pre ++ [(i : Int)]) (order.drop (u + 1)) = res) := ⟨by rw [HKE.out, HRST.out]; rfl⟩
                  have HSN : Aside0 (IsBools (wr.setCell ⟨w.heap.size, i, none⟩ (.bool true)) w.heap.size (doneB L.length (pre ++ [(i : Int)]))) := ⟨by rw [← doneB_set _ _ _ hiL]; exact HS.out.set i true⟩
                  go_wp2_with (go_at_call 30; refine HCT.out.mono ?_; rintro e w7 ⟨rfl, ⟨m7, rfl⟩⟩)
                  go_roundw
                  case rel => exact ⟨u + 1, by omega, by go_num, ⟨by rw [HTK.out]; exact HKR.out⟩, ⟨by rw [HTK.out]; exact HSN.out⟩, ⟨grown_trans (grown_drewN HG.out m7) (grown_setCell _ _ _ _)⟩⟩
                  case measure => simp [intOf]; omega
        · have hb3 : decide (u < order.length) = false := by simp; omega
          have HF : Aside0 (res = true) := ⟨by rw [← HK.out, List.drop_of_length_le (by omega)]; rfl⟩
          go_wp2
          go_ret
          exact ⟨by rw [HF.out]; rfl, HBR.out⟩
    · have bi : decide (((order.length : Nat) : Int) = ((L.length : Nat) : Int)) = false := by simp; omega
      have bi2 : (order.length == L.length) = false := by simp [hlen]
      rw [decide_eq_false hlen, Bool.false_and, Bool.and_false]
      clear hx hr hy hgd
      go_enter Try.func17, Try.ntmps17
      go_wp2_with (go_at_call 11; refine HC.out.mono ?_; rintro e w1 ⟨rfl, ⟨m1, rfl⟩⟩)
      go_ret
      exact ⟨rfl, pw_below_drewN (Below.refl _ _) _⟩
end Go.Proofs.Ytnjpbfljecmoiaa.Graph
