/- The contract of graph.reach. -/
import Derived.Test.YtnjpbfljecmoiaaReach0
namespace Go.Proofs.Ytnjpbfljecmoiaa.Graph
open Go.RowKit Go.Proofs.YtnjpbfljecmoiaaW.PrintWords Go.Proofs.Ytnjpbfljecmoiaa.PGraphLeans

theorem any_takeR (p : Int → Bool) (xs : List Int) (i : Nat) (h : i < xs.length) : (xs.take (i + 1)).any p = ((xs.take i).any p || p xs[i]) := any_take p xs i h
set_option maxHeartbeats 4000000 in
set_option maxRecDepth 100000 in
theorem reach_calls (A0 : Option Addr) (c0 : Nat) (L : List (List Int)) (hL : goodB L = true) (w0 : World) (hx : Kd.C (Kd.slice 3 (Kd.int .i64)) w0 A0 L.length L) (g : Nat) (hg : w0.heap.size ≤ g) :
    ∀ (i : Nat), i < L.length → ∀ (s : List Bool) (w : World), s.length = L.length → Closed L s i → Below w0.heap.size w0 w → IsBools w g s →
      Calls Try.prog 24 #[.slice A0 L.length c0, .int .i64 i, .slice (some ⟨g, 0, none⟩) L.length L.length] w fun e w' => e = .returned (.tuple #[]) ∧ IsBools w' g (orR s (reachB L i)) ∧ w.grownBy w' (some g) := by
  intro i
  induction i using Nat.strongRecOn with
  | ind i ih =>
    intro hi s w hs hcl hB hS
    have HIH : Aside0 (∀ m, m < i → m < L.length → ∀ (s : List Bool) (w : World), s.length = L.length → Closed L s m → Below w0.heap.size w0 w → IsBools w g s → Calls Try.prog 24 #[.slice A0 L.length c0, .int .i64 m, .slice (some ⟨g, 0, none⟩) L.length L.length] w fun e w' => e = .returned (.tuple #[]) ∧ IsBools w' g (orR s (reachB L m)) ∧ w.grownBy w' (some g)) := ⟨ih⟩
    have HX := Aside0.mk hx
    have HCL := Aside0.mk hcl
    have HB := Aside0.mk hB
    have HS := Aside0.mk hS
    have HSL := Aside0.mk hs
    have HG := Aside0.mk hg
    have HRT := Aside0.mk (fun a b c => reach_trans hL a b c)
    have HRE := Aside0.mk (fun t => reach_eq hL i t)
    have HLT := Aside0.mk (reach_lt hL)
    have HRL := Aside0.mk (row_lt hL i)
    have hi2 : (i : Int) < (L.length : Int) := by omega
    obtain ⟨ad, A', c', hA, e0, hl0, hC0⟩ := at_L6 hx (i : Int) (by omega) (by omega)
    rw [Int.toNat_natCast] at e0
    rw [rd_L6_nat] at e0 hl0 hC0
    have HC0 := Aside0.mk hC0
    replace e0 := (hB.cell (World.block_lt_of_cell? w0 _ e0)).trans e0
    have hrmax := Kd.C_max hC0
    clear ih hx hcl hB hS hs hg hL hl0 hC0
    generalize L.getD i [] = row at e0 HC0 HRE HRL hrmax
    rw [hA] at HIH
    have HA := Aside0.mk hA
    rw [hA]
    clear hA
    go_enter Try.func24, Try.ntmps24
    go_wp2
    go_loopw [13] (fun v wr => ∃ u : Nat, u ≤ row.length ∧ v = .int .i64 u ∧ Aside0 (IsBools wr g (orR s (fun t => (row.take u).any fun k => k.toNat == t || reachB L k.toNat t))) ∧ Aside0 (w.grownBy wr (some g))) (fun v _ => row.length - (intOf v).toNat)
    case atStart => exact ⟨0, by omega, rfl, ⟨by rw [show (fun t => (row.take 0).any fun k => k.toNat == t || reachB L k.toNat t) = (fun _ => false) from rfl, orR_false]; exact HS.out⟩, ⟨grown_refl w _⟩⟩
    case round =>
      obtain ⟨u, hu, rfl, HSU, HGW⟩ := hrel
      by_cases hlt : u < row.length
      · have hb : decide (u < row.length) = true := by simp; omega
        have hlt2 : (u : Int) < (row.length : Int) := by omega
        have HBR : Aside0 (Below w0.heap.size w0 wr) := ⟨HB.out.trans (grown_below HGW.out HG.out HB.out.size)⟩
        obtain ⟨ad5, hA5, e5⟩ := Kd.at_int (Kd.C_below HC0.out HBR.out) (u : Int) (by omega) (by omega)
        rw [Int.toNat_natCast, rd_nat row u hlt] at e5
        have hkl := HRL.out row[u] (List.getElem_mem hlt)
        have HNX : Aside0 ((fun t => (row.take (u + 1)).any fun k => k.toNat == t || reachB L k.toNat t) = fun t => ((row.take u).any fun k => k.toNat == t || reachB L k.toNat t) || (row[u].toNat == t || reachB L row[u].toNat t)) := ⟨funext fun t => any_takeR _ row u hlt⟩
        have HCU : Aside0 (Closed L (orR s (fun t => (row.take u).any fun k => k.toNat == t || reachB L k.toNat t)) i) := ⟨by
          intro j hj hsj t ht
          have hjL : j < s.length := by rw [HSL.out]; omega
          have htL : t < s.length := by
            by_cases c : t < s.length
            · exact c
            · have := HLT.out j t ht
              omega
          rw [orR_getD _ _ _ hjL, Bool.or_eq_true] at hsj
          rw [orR_getD _ _ _ htL, Bool.or_eq_true]
          rcases hsj with h | h
          · exact .inl (HCL.out j hj h t ht)
          · right
            rw [List.any_eq_true] at h ⊢
            obtain ⟨k, hk, h⟩ := h
            refine ⟨k, hk, ?_⟩
            rw [Bool.or_eq_true] at h ⊢
            right
            rcases h with h | h
            · rw [beq_iff_eq] at h; rw [h]; exact ht
            · exact HRT.out k.toNat j t h ht⟩
        generalize row[u] = kk at e5 hkl HNX
        obtain ⟨k, rfl⟩ := Int.eq_ofNat_of_zero_le hkl.1
        rw [Int.toNat_natCast] at hkl HNX
        have hk2 : (k : Int) < (L.length : Int) := by omega
        have hkL : k < L.length := hkl.2.2
        have hki : k < i := hkl.2.1
        generalize hsu : orR s (fun t => (row.take u).any fun k => k.toNat == t || reachB L k.toNat t) = su at HSU HCU
        have HSUL : Aside0 (su.length = L.length) := ⟨by rw [← hsu, orR_len, HSL.out]⟩
        have HNS : Aside0 (orR s (fun t => (row.take (u + 1)).any fun k => k.toNat == t || reachB L k.toNat t) = orR su (fun t => k == t || reachB L k t)) := ⟨by rw [HNX.out, ← orR_orR, hsu]⟩
        clear hsu HNX hkl
        have ck := HSU.out.cell k (by rw [HSUL.out]; exact hkL)
        have fk := HSU.out.fr k
        rw [hA5]
        cases hsk : su.getD k false with
        | true =>
          rw [hsk] at ck
          have HNS2 : Aside0 (orR s (fun t => (row.take (u + 1)).any fun k => k.toNat == t || reachB L k.toNat t) = su) := ⟨by
            rw [HNS.out]
            refine (orR_congr fun t ht => ?_).trans (orR_false su)
            rw [Bool.or_false]
            cases hq : (k == t || reachB L k t) with
            | false => rw [Bool.or_false]
            | true =>
              rw [Bool.or_true]
              rw [Bool.or_eq_true, beq_iff_eq] at hq
              rcases hq with rfl | hq
              · exact hsk.symm
              · exact (HCU.out k hki hsk t hq).symm⟩
          clear hsk HNS
          go_wp2
          go_roundw
          case rel => exact ⟨u + 1, by omega, by go_num, ⟨by rw [HNS2.out]; exact HSU.out⟩, HGW⟩
          case measure => simp [intOf]; omega
        | false =>
          rw [hsk] at ck
          have hw1 := grown_trans HGW.out (grown_setCell wr g k (.bool true))
          have HCALL := Aside0.mk (HIH.out k hki hkL (su.set k true) (wr.setCell ⟨g, k, none⟩ (.bool true)) (by rw [List.length_set, HSUL.out]) (by
            intro j hj hsj t ht
            have hne : k ≠ j := by omega
            have h1 : (su.set k true).getD j false = su.getD j false := by simp [List.getD_eq_getElem?_getD, List.getElem?_set_ne hne]
            rw [h1] at hsj
            have h2 := HCU.out j (by omega) hsj t ht
            by_cases e : k = t
            · subst e
              rw [hsk] at h2; cases h2
            · simp only [List.getD_eq_getElem?_getD, List.getElem?_set_ne e] at h2 ⊢; exact h2) (HB.out.trans (grown_below hw1 HG.out HB.out.size)) (HSU.out.set k true))
          have HNS2 : Aside0 (orR s (fun t => (row.take (u + 1)).any fun k => k.toNat == t || reachB L k.toNat t) = orR (su.set k true) (reachB L k)) := ⟨by rw [HNS.out, set_orR, orR_orR]⟩
          have HW1 := Aside0.mk hw1
          clear hsk HNS hw1
          go_wp2_with (go_at_call 24; refine HCALL.out.mono ?_; rintro e w3 ⟨rfl, hs3, hg3⟩)
          go_roundw
          case rel => exact ⟨u + 1, by omega, by go_num, ⟨by rw [HNS2.out]; exact hs3⟩, ⟨grown_trans HW1.out hg3⟩⟩
          case measure => simp [intOf]; omega
      · have hb : decide (u < row.length) = false := by simp; omega
        have HF : Aside0 (orR s (fun t => (row.take u).any fun k => k.toNat == t || reachB L k.toNat t) = orR s (reachB L i)) := ⟨by
          congr 1; funext t; rw [HRE.out t, show u = row.length by omega, List.take_length]⟩
        go_wp2
        go_end0
        exact ⟨rfl, by rw [← HF.out]; exact HSU.out, HGW.out⟩
end Go.Proofs.Ytnjpbfljecmoiaa.Graph
