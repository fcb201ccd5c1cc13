/- The contract of graph.Least. -/
import Derived.Test.YtnjpbfljecmoiaaReach
namespace Go.Proofs.Ytnjpbfljecmoiaa.Graph
open Go.RowKit Go.Proofs.YtnjpbfljecmoiaaW.PrintWords Go.Proofs.Ytnjpbfljecmoiaa.PGraphLeans

def leastRow (L : List (List Int)) (i : Nat) : List Int := (L.getD i []).filter fun n => !((L.getD i []).any fun k => reachB L k.toNat n.toNat)
def leastK (L : List (List Int)) (n : Nat) : List (List Int) := (List.range n).map fun i => leastRow L i
theorem leastK_succ (L : List (List Int)) (n : Nat) : leastK L (n + 1) = leastK L n ++ [leastRow L n] := by
  unfold leastK; rw [List.range_succ, List.map_append]; rfl
theorem leastK_len (L : List (List Int)) (n : Nat) : (leastK L n).length = n := by simp [leastK]
set_option maxHeartbeats 1000000 in
/-- graph.Least's closure. -/
theorem least1_calls (k g6 gs : Nat) (s : List Bool) (w : World) (h6 : w.cell? ⟨g6, 0, none⟩ = some (.slice (some ⟨gs, 0, none⟩) s.length s.length)) (hs : IsBools w gs s) (hk : k < s.length) :
    Calls Try.prog 27 #[.int .i64 k, .pointer (some ⟨g6, 0, none⟩)] w fun e w' => e = .returned (.bool (s.getD k false)) ∧ Drawn0 w w' := by
  have ck := hs.cell k hk
  have hk2 : (k : Int) < (s.length : Int) := by omega
  generalize s.getD k false = b at ck ⊢
  clear hs
  go_enter Try.func27, Try.ntmps27
  go_wp2
  try (go_quiet (fail); go_wp2)
  go_ret
  exact ⟨rfl, 0, rfl⟩
set_option maxHeartbeats 1000000 in
theorem least_bad (A0 : Option Addr) (c0 : Nat) (L : List (List Int)) (w : World) (hx : Kd.C (Kd.slice 3 (Kd.int .i64)) w A0 L.length L) (hc0 : L.length ≤ c0) (hsz : L.length ≤ 1000000) (hr : rowsAt L 1000000) (hg : goodB L = false) :
    Calls Try.prog 13 #[.slice A0 L.length c0] w fun e w' => e = .returned (.slice none 0 0) ∧ Drawn0 w w' := by
  have HC := Aside0.mk (good_calls A0 c0 L w hsz hr hx hc0)
  rw [hg] at HC
  clear hx hg
  go_enter Try.func13, Try.ntmps13
  go_wp2_with (go_at_call 11; refine HC.out.mono ?_; rintro e w1 ⟨rfl, ⟨m1, rfl⟩⟩)
  go_ret
  exact ⟨rfl, _, rfl⟩
set_option maxHeartbeats 4000000 in
set_option maxRecDepth 100000 in
theorem least_good (A0 : Option Addr) (c0 : Nat) (L : List (List Int)) (w : World) (hx : Kd.C (Kd.slice 3 (Kd.int .i64)) w A0 L.length L) (hc0 : L.length ≤ c0) (hsz : L.length ≤ 1000000) (hr : rowsAt L 1000000) (hg : goodB L = true) :
    Calls Try.prog 13 #[.slice A0 L.length c0] w fun e w' => ∃ v, e = .returned v ∧ Kd.S (Kd.slice 3 (Kd.int .i64)) 32 w' w.heap.size (fun _ => True) v (leastK L L.length) ∧ Below w.heap.size w w' := by
  have HC := Aside0.mk (good_calls A0 c0 L w hsz hr hx hc0)
  rw [hg] at HC
  have HX := Aside0.mk hx
  have HGD := Aside0.mk hg
  have HRW := Aside0.mk hr
  have hmk := make48 L.length hsz
  clear hx hg hr
  go_enter Try.func13, Try.ntmps13
  go_wp2_with (go_at_call 11; refine HC.out.mono ?_; rintro e w1 ⟨rfl, ⟨m1, rfl⟩⟩)
  have HB1 : Aside0 (Below w.heap.size w (w.drewN m1)) := ⟨pw_below_drewN (Below.refl _ _) m1⟩
  generalize w.drewN m1 = w1 at HB1 ⊢
  go_loopw [3, 14] (fun v3 v wr => ∃ i : Nat, i ≤ L.length ∧ v = .int .i64 i ∧ Aside0 (Kd.S (Kd.slice 3 (Kd.int .i64)) 32 wr w.heap.size (fun _ => True) v3 (leastK L i)) ∧ Aside0 (Below w.heap.size w wr)) (fun _ v _ => L.length - (intOf v).toNat)
  case atStart => exact ⟨0, by omega, rfl, ⟨Kd.S_nil _ _ _ _ _⟩, HB1⟩
  case round =>
    clear HB1 HC
    obtain ⟨i, hi, rfl, HO, HB⟩ := hrel
    by_cases hlt : i < L.length
    · have hb : decide (i < L.length) = true := by simp; omega
      have hlt2 : (i : Int) < (L.length : Int) := by omega
      obtain ⟨ad, A', c', hA, e0, hl0, hC0⟩ := at_L6 HX.out (i : Int) (by omega) (by omega)
      rw [Int.toNat_natCast] at e0
      rw [rd_L6_nat] at e0 hl0 hC0
      replace e0 := (HB.out.cell (World.block_lt_of_cell? w _ e0)).trans e0
      have HC0 := Aside0.mk hC0
      have HCAP := Aside0.mk hl0
      have HRL := Aside0.mk (row_lt HGD.out i)
      have HRM : Aside0 ((L.getD i []).length ≤ 1000000) := ⟨by
        have e : L.getD i [] = L[i] := by simp [List.getD_eq_getElem?_getD, hlt]
        rw [e]; exact HRW.out _ (List.getElem_mem hlt)⟩
      have HLS := Aside0.mk (leastK_succ L i)
      have HLL := Aside0.mk (leastK_len L i)
      have HLR : Aside0 (leastRow L i = (L.getD i []).filter fun n => !((L.getD i []).any fun k => reachB L k.toNat n.toNat)) := ⟨rfl⟩
      clear hC0 hl0
      generalize L.getD i [] = row at e0 HC0 HCAP HRL HRM HLR
      have hrmax := Kd.C_max HC0.out
      have HA := Aside0.mk hA
      rw [hA]
      go_wp2
      have HS5 : Aside0 (IsBools ((wr.alloc (.cells (bools (List.replicate L.length false)).toArray 4)).alloc (.cells #[.slice (some ⟨wr.heap.size, 0, none⟩) L.length L.length] 48)) wr.heap.size (List.replicate L.length false)) := ⟨IsBools.keep (heap_alloc_new _ _) (below_alloc (Below.refl _ _) _)⟩
      have H65 : Aside0 (((wr.alloc (.cells (bools (List.replicate L.length false)).toArray 4)).alloc (.cells #[.slice (some ⟨wr.heap.size, 0, none⟩) L.length L.length] 48)).heap[wr.heap.size + 1]? = some (.cells #[.slice (some ⟨wr.heap.size, 0, none⟩) L.length L.length] 48 (0, 0))) := ⟨by have := heap_alloc_new (wr.alloc (.cells (bools (List.replicate L.length false)).toArray 4)) (.cells #[.slice (some ⟨wr.heap.size, 0, none⟩) L.length L.length] 48); simpa using this⟩
      have HO5 : Aside0 (Kd.S (Kd.slice 3 (Kd.int .i64)) 32 ((wr.alloc (.cells (bools (List.replicate L.length false)).toArray 4)).alloc (.cells #[.slice (some ⟨wr.heap.size, 0, none⟩) L.length L.length] 48)) w.heap.size (fun k => True ∧ k ≠ wr.heap.size) u3 (leastK L i)) := ⟨Kd.S_alloc (Kd.S_alloc (Kd.S_elderB HO.out wr.heap.size (Nat.le_refl _)) _) _⟩
      have HB5 : Aside0 (Below w.heap.size w ((wr.alloc (.cells (bools (List.replicate L.length false)).toArray 4)).alloc (.cells #[.slice (some ⟨wr.heap.size, 0, none⟩) L.length L.length] 48))) := ⟨below_alloc (below_alloc HB.out _) _⟩
      have HGS : Aside0 (w.heap.size ≤ wr.heap.size) := ⟨HB.out.size⟩
      generalize ((wr.alloc (.cells (bools (List.replicate L.length false)).toArray 4)).alloc (.cells #[.slice (some ⟨wr.heap.size, 0, none⟩) L.length L.length] 48)) = w5 at HS5 H65 HO5 HB5 ⊢
      generalize hgs : wr.heap.size = gs at HS5 H65 HO5 HGS ⊢
      clear HO HB e0 hmk hgs
      go_loopw [23] (fun v wr => ∃ u : Nat, u ≤ row.length ∧ v = .int .i64 u ∧ Aside0 (IsBools wr gs (orR (List.replicate L.length false) (fun t => (row.take u).any fun k => reachB L k.toNat t))) ∧ Aside0 (w5.grownBy wr (some gs))) (fun v _ => row.length - (intOf v).toNat)
      case atStart => exact ⟨0, by omega, rfl, ⟨by rw [show (fun t => (row.take 0).any fun k => reachB L k.toNat t) = (fun _ => false) from rfl, orR_false]; exact HS5.out⟩, ⟨grown_refl _ _⟩⟩
      case round =>
        obtain ⟨u, hu, rfl, HSU, HGW⟩ := hrel
        have HBR : Aside0 (Below w.heap.size w wr) := ⟨HB5.out.trans (grown_below HGW.out HGS.out HB5.out.size)⟩
        have c6 : wr.cell? ⟨gs + 1, 0, none⟩ = some (.slice (some ⟨gs, 0, none⟩) L.length L.length) := by
          rw [cell_of_row wr _ _ _ _ _ ((HGW.out.block (gs + 1) (Array.getElem?_eq_some_iff.1 H65.out).1 (by simp)).trans H65.out)]; rfl
        by_cases hut : u < row.length
        · have hb3 : decide (u < row.length) = true := by simp; omega
          have hut2 : (u : Int) < (row.length : Int) := by omega
          obtain ⟨ad5, hA5, e5⟩ := Kd.at_int (Kd.C_below HC0.out HBR.out) (u : Int) (by omega) (by omega)
          rw [Int.toNat_natCast, rd_nat row u hut] at e5
          have hkl := HRL.out row[u] (List.getElem_mem hut)
          have HNX : Aside0 ((fun t => (row.take (u + 1)).any fun k => reachB L k.toNat t) = fun t => ((row.take u).any fun k => reachB L k.toNat t) || reachB L row[u].toNat t) := ⟨funext fun t => any_takeR _ row u hut⟩
          generalize row[u] = kk at e5 hkl HNX
          obtain ⟨k, rfl⟩ := Int.eq_ofNat_of_zero_le hkl.1
          rw [Int.toNat_natCast] at hkl HNX
          have hkL : k < L.length := hkl.2.2
          have HCALL := Aside0.mk (reach_calls A0 c0 L HGD.out w HX.out gs HGS.out k hkL (orR (List.replicate L.length false) (fun t => (row.take u).any fun k => reachB L k.toNat t)) wr (by rw [orR_len, List.length_replicate]) (by
            intro j hj hsj t ht
            have hjL : j < (List.replicate L.length false).length := by rw [List.length_replicate]; omega
            have htL : t < (List.replicate L.length false).length := by have := reach_lt HGD.out j t ht; omega
            rw [orR_getD _ _ _ hjL, Bool.or_eq_true] at hsj
            rw [orR_getD _ _ _ htL, Bool.or_eq_true]
            rcases hsj with h | h
            · simp [List.getD_eq_getElem?_getD, List.getElem?_replicate] at h
              split at h <;> simp at h
            · right
              rw [List.any_eq_true] at h ⊢
              obtain ⟨q, hq, h⟩ := h
              exact ⟨q, hq, reach_trans HGD.out q.toNat j t h ht⟩) HBR.out HSU.out)
          have HNS : Aside0 (orR (List.replicate L.length false) (fun t => (row.take (u + 1)).any fun k => reachB L k.toNat t) = orR (orR (List.replicate L.length false) (fun t => (row.take u).any fun k => reachB L k.toNat t)) (reachB L k)) := ⟨by rw [HNX.out, ← orR_orR]⟩
          rw [HA.out] at HCALL
          clear hkl HNX
          rw [hA5]
          go_wp2_with (go_at_call 24; refine HCALL.out.mono ?_; rintro e w6 ⟨rfl, hs6, hg6⟩)
          go_roundw
          case rel => exact ⟨u + 1, by omega, by go_num, ⟨by rw [HNS.out]; exact hs6⟩, ⟨grown_trans HGW.out hg6⟩⟩
          case measure => simp [intOf]; omega
        · have hb3 : decide (u < row.length) = false := by simp; omega
          have hur : u = row.length := by omega
          subst hur
          rw [List.take_length] at HSU
          have HOR : Aside0 (Kd.S (Kd.slice 3 (Kd.int .i64)) 32 wr w.heap.size (fun k => True ∧ k ≠ gs) u3 (leastK L i)) := ⟨Kd.S_grown HO5.out HGW.out (fun k hk e => hk.2 (by injection e))⟩
          have H6R : Aside0 (wr.heap[gs + 1]? = some (.cells #[.slice (some ⟨gs, 0, none⟩) L.length L.length] 48 (0, 0))) := ⟨(HGW.out.block (gs + 1) (Array.getElem?_eq_some_iff.1 H65.out).1 (by simp)).trans H65.out⟩
          have HCL := Aside0.mk (clone_calls A' c' row wr (Kd.C_below HC0.out HBR.out) HRM.out)
          clear c6
          go_wp2_with fail
          refine HCL.out.mono ?_
          rintro e w7 ⟨v7, rfl, hr7, hb7⟩
          have HS7 : Aside0 (IsBools w7 gs (orR (List.replicate L.length false) (fun t => row.any fun k => reachB L k.toNat t))) := ⟨HSU.out.keep hb7⟩
          have H67 : Aside0 (w7.heap[gs + 1]? = some (.cells #[.slice (some ⟨gs, 0, none⟩) L.length L.length] 48 (0, 0))) := ⟨by rw [hb7.block _ (Array.getElem?_eq_some_iff.1 H6R.out).1]; exact H6R.out⟩
          have HO7 : Aside0 (Kd.S (Kd.slice 3 (Kd.int .i64)) 32 w7 w.heap.size (fun k => (True ∧ k ≠ gs) ∧ some k ≠ v7.ownBlock) u3 (leastK L i)) := ⟨Kd.S_elder' HOR.out (Kd.R_base hr7) hb7⟩
          have HR7 : Aside0 (Kd.R (Kd.int .i64) 3 w7 w.heap.size (fun _ => True) v7 row) := ⟨Kd.R_lower hr7 HBR.out.size⟩
          have HB7 : Aside0 (Below w.heap.size w w7) := ⟨below_step HBR.out hb7⟩
          have n1 := Kd.R_ne hr7 HS7.out (by decide)
          have n2 := Kd.R_ne hr7 H67.out (by decide)
          have HDEL := Aside0.mk (delete_calls 27 eg27 (.pointer (some ⟨gs + 1, 0, none⟩)) (fun x => row.any fun k => reachB L k.toNat x.toNat) v7 row w.heap.size w7 HR7.out (fun x hxm W hW => by
            have hkl := HRL.out x hxm
            obtain ⟨k, rfl⟩ := Int.eq_ofNat_of_zero_le hkl.1
            rw [Int.toNat_natCast] at hkl
            have hS : IsBools W gs (orR (List.replicate L.length false) (fun t => row.any fun k => reachB L k.toNat t)) := by unfold IsBools; rw [hW.block gs HS7.out.lt n1]; exact HS7.out
            have h6 : W.heap[gs + 1]? = _ := (hW.block (gs + 1) (Array.getElem?_eq_some_iff.1 H67.out).1 n2).trans H67.out
            have hol : (orR (List.replicate L.length false) (fun t => row.any fun k => reachB L k.toNat t)).length = L.length := by rw [orR_len, List.length_replicate]
            have hc := least1_calls k (gs + 1) gs _ W (by rw [hol, cell_of_row _ _ _ _ _ _ h6]; rfl) hS (by rw [hol]; exact hkl.2.2)
            rw [orR_getD _ _ _ (by rw [List.length_replicate]; exact hkl.2.2)] at hc
            have hz : (List.replicate L.length false).getD k false = false := by simp [List.getD_eq_getElem?_getD, List.getElem?_replicate]; split <;> rfl
            rw [hz, Bool.false_or] at hc
            simpa using hc))
          clear n1 n2 hr7 hb7 HCL HOR H6R HSU
          rw [← HLR.out] at HDEL
          go_wp2_with fail
          refine HDEL.out.mono ?_
          rintro e w8 ⟨v8, rfl, hr8, ho8, hg8⟩
          obtain ⟨Ao, co, hv⟩ := Kd.R_slice hr8
          subst hv
          have HO8 : Aside0 (Kd.S (Kd.slice 3 (Kd.int .i64)) 32 w8 w.heap.size (fun q => True ∧ ¬ (some q = (Value.slice Ao (leastRow L i).length co).ownBlock)) u3 (leastK L i)) := ⟨Kd.S_mono (Kd.S_grown HO7.out hg8 (fun k hk => hk.2)) (fun q hq => ⟨trivial, fun e => hq.2 (by rw [← ho8]; exact e)⟩)⟩
          have HB8 : Aside0 (Below w.heap.size w w8) := ⟨by
            refine HB7.out.trans ⟨hg8.os, hg8.tape, hg8.output, hg8.size, fun k hk => hg8.block k (Nat.lt_of_lt_of_le hk HB7.out.size) (fun e => ?_)⟩
            have := Kd.R_base HR7.out k e.symm
            omega⟩
          have HP := Aside0.mk (Kd.M_row (Kd.R_tight rfl hr8))
          have HP2 := Aside0.mk (Kd.R_apart' hr8 (Kd.S_typed HO8.out) (by decide))
          have HSZ : Aside0 (w.heap.size ≤ w8.heap.size ∧ (leastK L i).length ≤ 1000000) := ⟨HB8.out.size, by rw [HLL.out]; omega⟩
          clear hr8 ho8 hg8 HO7 HR7 HDEL HS7 H67
          go_wp2_with (at_builtin; refine Kd.S_append (Kd.slice 3 (Kd.int .i64)) (w0 := w) w.heap.size rfl (.tmp 32) (.tmp 37) 28 32 (.slice none 0 0) 24 rfl Try.underlying28 info32 rfl (by decide) (by omega) u3 (leastK L i) (leastRow L i) [.slice Ao (leastRow L i).length co] (fun _ => True) (fun q => some q = (Value.slice Ao (leastRow L i).length co).ownBlock) rfl rfl HP.out (fun q hq => HP2.out.1 q hq.symm) (fun _ _ => trivial) HO8.out HB8.out HSZ.out.1 (by have := HSZ.out.2; omega) ?_; intro v9 w9 hr9 hb9 hg9 hat9; clear hg9 hat9)
          go_roundw
          case rel => exact ⟨i + 1, by omega, by go_num, ⟨by rw [HLS.out]; exact hr9⟩, ⟨hb9⟩⟩
          case measure => simp [intOf]; omega
    · have hb : decide (i < L.length) = false := by simp; omega
      have HE : Aside0 (leastK L i = leastK L L.length) := ⟨by rw [show i = L.length by omega]⟩
      go_wp2
      go_ret
      exact ⟨_, rfl, by rw [← HE.out]; exact HO.out, HB.out⟩
end Go.Proofs.Ytnjpbfljecmoiaa.Graph
