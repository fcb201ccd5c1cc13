/- SchedPlays: the law's own walk, where a plan is made. -/
import Derived.Test.YtigpcfokmbnlaaaPlaysE
import Derived.Test.YtigpcfokmbnlaaaPlaysH
import Derived.Test.YtigpcfokmbnlaaaPlaysI
import Derived.Test.YtigpcfokmbnlaaaPlaysO
import Derived.Test.YtigpcfokmbnlaaaPlaysP
import Derived.BigQuiet
namespace Go.Proofs.Ytigpcfokmbnlaaa.Sched
open Go.RowKit Go.Proofs.YtigpcfokmbnlaaaW.PrintWords Go.Proofs.Ytigpcfokmbnlaaa.PSchedPlays
section
variable (A0 : Option Addr) (c0 : Nat) (L : List (List Int)) (A1 : Option Addr) (c1 : Nat) (idle : List Bool) (n : Int) (A2 : Option Addr) (c2 : Nat) (picks : List Int) (w : World)
end
theorem rowsM_opt {W : World} {B N cap ci : Nat} {AL AI : Option Addr} {ok ok' : Nat → Prop} {xs : List (List Int)} {idle : List Bool} (hR : (Kd.slice 3 (Kd.int .i64)).R 38 W B ok (.slice AL xs.length cap) xs) (hI : Kd.bool.R 4 W B ok' (.slice AI idle.length ci) idle) (hN : W.heap.size ≤ N) (hr : rowsAt xs 1000000) : ∃ A l c, ∀ ad, AL = some ad → RowsM W ad AI B N xs.length idle.length A l c := by
  cases AL with
  | none => exact ⟨fun _ => none, fun _ => 0, fun _ => 0, fun ad h => by cases h⟩
  | some ad =>
    obtain ⟨A, l, c, h⟩ := rowsM_of_R hR hI hN hr
    exact ⟨A, l, c, fun ad' h' => by cases h'; exact h⟩
theorem cells3 {w : World} {g : Nat} {a0 a1 a2 : Value} {t : Nat} (h : w.heap[g]? = some (.cells #[a0, a1, a2] t (0, 0))) : w.cell? ⟨g, 0, none⟩ = some a0 ∧ w.cell? ⟨g, 1, none⟩ = some a1 ∧ w.cell? ⟨g, 2, none⟩ = some a2 := by
  refine ⟨?_, ?_, ?_⟩ <;> (rw [cell_of_row _ _ _ _ _ _ h]; rfl)
theorem cells_one (v : MV) (L : List (List Int)) (E : List Bool) (has : List Int) (R : List Bool) (q : Int) : (v.cells L E has R q).all (·.oneCell') = true := by simp [MV.cells, Value.oneCell']
section
variable (A0 : Option Addr) (c0 : Nat) (L : List (List Int)) (A1 : Option Addr) (c1 : Nat) (idle : List Bool) (n : Int) (A2 : Option Addr) (c2 : Nat) (picks : List Int) (w : World)
set_option maxHeartbeats 8000000 in
set_option maxRecDepth 100000 in
theorem plays_main (hr0 : Kd.C (Kd.slice 3 (Kd.int .i64)) w A0 L.length L) (hc0 : L.length ≤ c0) (hr1 : Kd.C Kd.bool w A1 idle.length idle) (hc1 : idle.length ≤ c1) (hr2 : Kd.C (Kd.int .i64) w A2 picks.length picks) (hc2 : picks.length ≤ c2) (hlg : largeB L picks = false) (h40 : idle.length ≤ 40) (hgd : goodB L = true) (hid : idle.length = L.length) (nw : Nat) (hnw : n = nw) (hn1 : 1 ≤ nw ∧ nw ≤ 64) :
    Calls Try.prog 5 #[.agg #[.slice A0 L.length c0, .slice A1 idle.length c1, .int .i64 n], .slice A2 picks.length c2] w fun e w' => e = .returned (.bool true) ∧ Below w.heap.size w w' := by
  have HL : Aside0 (∀ W, Below w.heap.size w W → Calls Try.prog 8 #[.slice A0 L.length c0, .slice A2 picks.length c2] W fun e w' => e = .returned (.bool (largeB L picks)) ∧ Drawn0 W w') := ⟨fun W hb => large_calls A0 c0 L A2 c2 picks W (Kd.C_below hr0 hb) hc0 (Kd.C_below hr2 hb) hc2⟩
  have HX : Aside0 (∀ w1, Below (w.heap.size + 1) (w.alloc (.cells #[.slice A0 L.length c0, .slice A1 idle.length c1, .int .i64 n] 37)) w1 → Below w.heap.size w w1 ∧ Box A0 c0 L A1 c1 idle n w1 w.heap.size) := ⟨fun w1 hb => ⟨below_trans (below_alloc (Below.refl _ _) _) (hb.mono (Nat.le_succ _)), ⟨by rw [hb.block _ (Nat.lt_succ_self _)]; exact heap_alloc_new _ _⟩⟩⟩
  obtain ⟨hsz, hrows, hpk⟩ := large_false L picks hlg
  have HSZ : Aside0 (L.length ≤ 31 ∧ rowsAt L 40 ∧ picks.length ≤ 200 ∧ idle.length ≤ 40) := ⟨hsz, hrows, hpk, h40⟩
  have HCC : Aside0 (L.length ≤ c0 ∧ idle.length ≤ c1 ∧ picks.length ≤ c2) := ⟨hc0, hc1, hc2⟩
  rw [hlg] at HL
  have b40 : decide (40 < (idle.length : Int)) = false := by simp; omega
  have b41 : decide (40 < idle.length) = false := by simp; omega
  have HR0 := Aside0.mk hr0
  have HR1 := Aside0.mk hr1
  have HR2 := Aside0.mk hr2
  subst hnw
  have HRW := Aside0.mk (rowsAt_mono' hrows (show 40 ≤ 1000 by omega))
  have HNW := Aside0.mk hn1
  have HGI := Aside0.mk (And.intro hgd hid)
  have HN : Aside0 (∀ (W : World) (AL : Option Addr) (cL : Nat) (AI : Option Addr) (cI : Nat), Kd.C (Kd.slice 3 (Kd.int .i64)) W AL L.length L → L.length ≤ cL → Kd.C Kd.bool W AI idle.length idle → idle.length ≤ cI → Calls Try.prog 10 #[.slice AL L.length cL, .slice AI idle.length cI, .int .i64 nw] W fun e w' => ∃ (P : Pl) (ts : List T) (left : Int), e = .returned (.tuple #[.pointer (some ⟨P.gp, 0, none⟩), .nilIface]) ∧ Mod L ts (List.replicate nw (-1)) left idle (List.replicate nw false) ∧
      W.heap.size ≤ P.gp ∧ W.heap.size ≤ P.gt ∧ W.heap.size ≤ P.gh ∧ IsPlan w' P ts (List.replicate nw (-1)) 0 left ∧ RowsNew W.heap.size ts ∧ Below W.heap.size W w') := ⟨fun W AL cL AI cI hl hc hi hci => by
    refine (new_good3 AL cL L AI cI idle nw W (by omega) HRW.out hl hc hi hci HGI.out.1 HGI.out.2 HNW.out).mono ?_
    rintro e w' ⟨P, ts, rfl, hts, h1, h2, h3, hP, hR, hB⟩
    exact ⟨P, _, _, rfl, mod_new L HGI.out.1 HRW.out (by omega) ts hts idle HGI.out.2 nw, h1, h2, h3, hP, hR, hB⟩⟩
  have HM : Aside0 (∀ W, Below w.heap.size w W → Calls Try.prog 17 #[.slice A0 L.length c0, .slice A1 idle.length c1, .int .i64 nw] W fun e w' => ∃ v : MV, e = .returned (.tuple #[.agg (v.cells L idle (List.replicate nw (-1)) (List.replicate nw false) 0), .int .i64 0]) ∧ MCnew W.heap.size v ∧ v.A = A0 ∧ MC w' v L idle (List.replicate nw (-1)) (List.replicate nw false) ∧ Below W.heap.size W w') := ⟨fun W hb => refNew_good A0 c0 L A1 c1 idle nw W (by omega) HRW.out (Kd.C_below hr0 hb) hc0 (Kd.C_below hr1 hb) hc1 HGI.out.1 HGI.out.2 HNW.out⟩
  have HU : Aside0 (∀ W, Calls Try.prog 18 #[.nilIface] W fun e w' => e = .returned (.int .i64 0) ∧ Drawn0 W w') := ⟨fun W => num_calls 0 W (by decide)⟩
  clear hlg hr0 hr1 hr2 hrows hc1 hc2 hpk hgd hid hn1
  go_enter Try.func5, Try.ntmps5
  go_wp2_with fail
  refine (alive_calls _).mono ?_
  rintro e w1 ⟨rfl, hb1⟩
  rw [World.size_alloc] at hb1
  obtain ⟨hb, hx⟩ := HX.out w1 hb1
  obtain ⟨x0, x1, x2⟩ := hx.cells
  clear hb1
  go_wp2_with (go_at_call 8; refine (HL.out _ hb).mono ?_; rintro e w2 ⟨rfl, ⟨m2, rfl⟩⟩; refine Shut.out ?_)
  delta Shut
  clear x0 x1 x2 HL HX
  have HBA := Aside0.mk (pw_below_drewN hb m2)
  have HXA : Aside0 (Box A0 c0 L A1 c1 idle nw (w1.drewN m2) w.heap.size) := ⟨⟨hx.row⟩⟩
  clear hb hx
  generalize w1.drewN m2 = wA at HBA HXA ⊢
  have hBs := HBA.out.size
  obtain ⟨B, hB⟩ : ∃ B, B = wA.heap.size := ⟨_, rfl⟩
  have HXB : Aside0 (∀ W', Below B wA W' → Box A0 c0 L A1 c1 idle nw W' w.heap.size) := ⟨fun W' hb => HXA.out.below hb (by rw [hB]; exact HXA.out.lt)⟩
  have HBB : Aside0 (∀ W', Below B wA W' → Below w.heap.size w W') := ⟨fun W' hb => below_trans HBA.out (hb.mono (by rw [hB]; exact hBs))⟩
  have HS0 : Aside0 ((Kd.slice 3 (Kd.int .i64)).R 38 (wA.alloc (.cells #[] 38)) B (fun _ => True) (.slice (some ⟨wA.heap.size, 0, none⟩) 0 0) (L.take 0)) := ⟨by rw [hB]; exact lit22 wA⟩
  have HB0 : Aside0 (Below B wA (wA.alloc (.cells #[] 38))) := ⟨by rw [hB]; exact below_alloc (Below.refl _ _) _⟩
  have HBE := Aside0.mk hB
  clear hB hBs
  obtain ⟨x0, x1, x2⟩ := HXA.out.cells
  obtain ⟨y0, y1, y2⟩ := (HXB.out _ HB0.out).cells
  go_wp2
  clear x0 x1 x2 y0 y1 y2
  go_loopw [5, 38] (fun s5 s38 wr => ∃ (k : Nat) (v : Value), k ≤ L.length ∧ s38 = .int .i64 k ∧ v = s5 ∧ Aside0 ((Kd.slice 3 (Kd.int .i64)).R 38 wr B (fun _ => True) v (L.take k)) ∧ Aside0 (Below B wA wr)) (fun _ s38 _ => L.length - (intOf s38).toNat)
  case atStart => exact ⟨0, _, by omega, rfl, rfl, HS0, HB0⟩
  case round =>
    clear HS0 HB0
    obtain ⟨k, v, hk, rfl, rfl, HS, HB⟩ := hrel
    by_cases hlt : k < L.length
    · have hbk : decide (k < L.length) = true := by simp; omega
      have hk2 : (k : Int) < (L.length : Int) := by omega
      obtain ⟨ad, A', c', hA, hx, hl, hC⟩ := at_L1 HR0.out (k : Int) (by omega) (by omega)
      rw [Int.toNat_natCast] at hx
      have hx1 := ((HBB.out _ HB.out).cell (World.block_lt_of_cell? w _ hx)).trans hx
      rw [rd_L1_nat] at hx1 hl hC
      have hrl : (L.getD k []).length ≤ 40 := by
        have e : L.getD k [] = L[k] := by simp [List.getD_eq_getElem?_getD, hlt]
        rw [e]; exact HSZ.out.2.1 _ (List.getElem_mem hlt)
      have htk : L.take (k + 1) = L.take k ++ [L.getD k []] := by rw [List.take_succ_eq_append_getElem hlt]; simp [List.getD_eq_getElem?_getD, hlt]
      have HTK := Aside0.mk htk
      clear htk hx hl
      generalize L.getD k [] = row at hx1 hC hrl HTK
      have HTL : Aside0 ((L.take k).length ≤ 1000) := ⟨by simp; omega⟩
      rw [hA]
      have HO1 : Aside0 (O (Kd.int .i64) 3 (wr.alloc (.cells #[] 3)) wr.heap.size (.slice (some ⟨wr.heap.size, 0, none⟩) 0 0) []) := ⟨O_lit wr wr.heap.size (Nat.le_refl _)⟩
      have HI1 : Aside0 (Kd.C (Kd.int .i64) (wr.alloc (.cells #[] 3)) A' row.length row) := ⟨Kd.C_below hC (below_alloc (HBB.out _ HB.out) _)⟩
      have HB2 : Aside0 (Below wr.heap.size wr (wr.alloc (.cells #[] 3))) := ⟨below_alloc (Below.refl _ _) _⟩
      have HB3 := Aside0.mk HB2.out.size
      clear hC
      go_wp2_with (at_builtin; refine Kd.R_append_rows (Kd.int .i64) (Rr := (Kd.int .i64).K _) (w0 := wr) wr.heap.size rfl (.tmp 43) (.tmp 44) 38 3 (.int .i64 0) 8 rfl Try.underlying38 (by kernel_rfl) rfl (by decide) (by decide) _ [] row A' row.length c' (fun _ => True) (fun _ => False) rfl rfl (O_R HO1.out) HI1.out (fun _ _ h => h) (fun _ h => h.elim) (fun _ _ => trivial) HB2.out HB3.out (by simp; omega) ?_; intro v1 w3 hr3 hb3 hg3 hat3; refine Shut.out ?_)
      delta Shut
      rw [List.nil_append] at hr3
      obtain ⟨A3, c3, he3, -, -⟩ := Kd.R_reads hr3
      subst he3
      have HBW : Aside0 (B ≤ wr.heap.size) := ⟨by have := HB.out.size; have := HBE.out; omega⟩
      have HIN : Aside0 ((Kd.int .i64).R 3 w3 B (fun k => some k ≠ v.ownBlock) (.slice A3 row.length c3) row) := ⟨Kd.R_lower (Kd.R_mono (Kd.R_newR hr3 HS.out) (fun _ hk => hk.2)) HBW.out⟩
      have HOU : Aside0 ((Kd.slice 3 (Kd.int .i64)).R 38 w3 B (fun _ => True) v (L.take k)) := ⟨Kd.R_below HS.out hb3⟩
      have HB5 : Aside0 (Below B wA w3) := ⟨below_trans HB.out (hb3.mono HBW.out)⟩
      have HB6 := Aside0.mk (Nat.le_trans HBW.out hb3.size)
      clear hr3 hb3 hg3 hat3 HO1 HI1 HB2 HB3 hx1 HS HB
      go_wp2_with (at_builtin; refine Kd.R_append (Kd.slice 3 (Kd.int .i64)) (w0 := wA) B rfl (.tmp 42) (.tmp 46) 22 38 (.slice none 0 0) 24 rfl Try.underlying22 (by kernel_rfl) rfl (by decide) (by decide) v (L.take k) row [.slice A3 row.length c3] (fun _ => True) (fun k => some k ≠ v.ownBlock) rfl rfl ⟨.slice A3 row.length c3, rfl, HIN.out⟩ (fun _ hk => ⟨trivial, hk⟩) (fun _ _ => trivial) HOU.out HB5.out HB6.out (by have := HTL.out; omega) ?_; intro v4 w4 hr4 hb4 hg4 hat4; refine Shut.out ?_)
      delta Shut
      rw [← HTK.out] at hr4
      have HR4 := Aside0.mk hr4
      have HB4 := Aside0.mk hb4
      clear hr4 hb4 hg4 hat4 HIN HOU HB5 HB6
      go_wp2_with fail
      go_roundw
      case rel => exact ⟨k + 1, _, by omega, by go_num, rfl, HR4, HB4⟩
      case measure => simp [intOf]; omega
    · have hbk : decide (k < L.length) = false := by simp; omega
      have hkL : k = L.length := by omega
      subst hkL
      rw [List.take_length] at HS
      obtain ⟨AL, cL, hvL, hlL, hCL⟩ := Kd.R_reads HS.out
      subst hvL
      have HCL := Aside0.mk (And.intro hlL hCL)
      clear hlL hCL hk
      obtain ⟨x0, x1, x2⟩ := (HXB.out _ HB.out).cells
      have HO1 : Aside0 (O Kd.bool 4 (wr.alloc (.cells #[] 4)) wr.heap.size (.slice (some ⟨wr.heap.size, 0, none⟩) 0 0) []) := ⟨O_lit wr wr.heap.size (Nat.le_refl _)⟩
      have HI1 : Aside0 (Kd.C Kd.bool (wr.alloc (.cells #[] 4)) A1 idle.length idle) := ⟨Kd.C_below HR1.out (below_alloc (HBB.out _ HB.out) _)⟩
      have HB2 : Aside0 (Below wr.heap.size wr (wr.alloc (.cells #[] 4))) := ⟨below_alloc (Below.refl _ _) _⟩
      have HB3 := Aside0.mk HB2.out.size
      have x1b := (cells_of_box (HXB.out _ (below_alloc1 HB.out HBE.out (.cells #[] 4)))).2.1
      go_wp2_with (at_builtin; refine Kd.R_append_rows Kd.bool (Rr := Kd.bool.K _) (w0 := wr) wr.heap.size rfl (.tmp 49) (.tmp 51) 31 4 (.bool false) 1 rfl Try.underlying31 (by kernel_rfl) rfl (by decide) (by decide) _ [] idle A1 idle.length c1 (fun _ => True) (fun _ => False) rfl rfl (O_R HO1.out) HI1.out (fun _ _ h => h) (fun _ h => h.elim) (fun _ _ => trivial) HB2.out HB3.out (by simp; omega) ?_; intro v1 w3 hr3 hb3 hg3 hat3; refine Shut.out ?_)
      delta Shut
      rw [List.nil_append] at hr3
      have HBW : Aside0 (B ≤ wr.heap.size) := ⟨by have := HB.out.size; have := HBE.out; omega⟩
      have HB5 : Aside0 (Below B wA w3) := ⟨below_trans HB.out (hb3.mono HBW.out)⟩
      have HRL : Aside0 ((Kd.slice 3 (Kd.int .i64)).R 38 w3 B (fun _ => True) (.slice AL L.length cL) L) := ⟨Kd.R_below HS.out hb3⟩
      have HCL3 : Aside0 (L.length ≤ cL ∧ Kd.C (Kd.slice 3 (Kd.int .i64)) w3 AL L.length L) := ⟨HCL.out.1, Kd.C_below HCL.out.2 hb3⟩
      obtain ⟨AI, cI, hvI, hlI, hCI⟩ := Kd.R_reads hr3
      subst hvI
      have HRI : Aside0 (Kd.bool.R 4 w3 B (fun _ => True) (.slice AI idle.length cI) idle) := ⟨Kd.R_lower hr3 HBW.out⟩
      have HCI : Aside0 (idle.length ≤ cI ∧ Kd.C Kd.bool w3 AI idle.length idle) := ⟨hlI, hCI⟩
      obtain ⟨z0, z1, z2⟩ := (HXB.out _ HB5.out).cells
      clear hr3 hb3 hg3 hat3 HO1 HI1 HB2 HB3 x0 x1 x2 x1b HB HS HCL hCI hlI
      have HNC := HN.out w3 AL cL AI cI HCL3.out.2 HCL3.out.1 HCI.out.2 HCI.out.1
      have HBs : Aside0 (B ≤ w3.heap.size) := ⟨by have := HB5.out.size; have := HBE.out; omega⟩
      obtain ⟨Af, lf, cf, hro⟩ := rowsM_opt (N := w3.heap.size) HRL.out HRI.out (Nat.le_refl _) (fun l hl => Nat.le_trans (HSZ.out.2.1 l hl) (by decide))
      have HRO := Aside0.mk hro
      clear HN HRL HRI HCI hro
      go_wp2_with fail
      refine HNC.mono ?_
      rintro e w4 ⟨P, ts, left, rfl, hmod, hp1, hp2, hp3, hpl, hrn, hb4⟩
      have HB6 : Aside0 (Below B wA w4) := ⟨below_trans HB5.out (hb4.mono HBs.out)⟩
      have HMC := HM.out w4 (HBB.out _ HB6.out)
      have HPM : Aside0 (P.gp < w4.heap.size ∧ P.gt < w4.heap.size ∧ P.gh < w4.heap.size) := ⟨(Array.getElem?_eq_some_iff.1 hpl.plan).1, (Array.getElem?_eq_some_iff.1 hpl.tasks).1, by obtain ⟨_, hr⟩ := hpl.hass; exact (Array.getElem?_eq_some_iff.1 hr).1⟩
      have HPN : Aside0 (w3.heap.size ≤ P.gp ∧ w3.heap.size ≤ P.gt ∧ w3.heap.size ≤ P.gh ∧ RowsNew w3.heap.size ts) := ⟨hp1, hp2, hp3, hrn⟩
      have HPL := Aside0.mk (And.intro hpl hmod)
      have HRO4 : Aside0 (∀ ad, AL = some ad → RowsM w4 ad AI B w3.heap.size L.length idle.length Af lf cf) := ⟨fun ad ha => (HRO.out ad ha).below hb4⟩
      have HLE := Aside0.mk hb4.size
      clear HNC HM hmod hp1 hp2 hp3 hpl hrn hb4 HRO z0 z1 z2
      obtain ⟨z0, z1, z2⟩ := (HXB.out _ HB6.out).cells
      go_wp2_with fail
      refine HMC.mono ?_
      rintro e w5 ⟨v, rfl, hv1, hv2, hmc, hb5⟩
      have HB7 : Aside0 (Below B wA w5) := ⟨below_trans HB6.out (hb5.mono (Nat.le_trans HBs.out HLE.out))⟩
      have HRO5 : Aside0 (∀ ad, AL = some ad → RowsM w5 ad AI B w3.heap.size L.length idle.length Af lf cf) := ⟨fun ad ha => (HRO4.out ad ha).below hb5⟩
      have HN4 : Aside0 ((w5.alloc (.cells #[.slice none 0 0, .slice none 0 0, .slice none 0 0, .slice none 0 0, .int .i64 0] 46)).heap[w5.heap.size]? = some (.cells #[.slice none 0 0, .slice none 0 0, .slice none 0 0, .slice none 0 0, .int .i64 0] 46 (0, 0))) := ⟨heap_alloc_new _ _⟩
      have HO : Aside0 (((v.cells L idle (List.replicate nw (-1)) (List.replicate nw false) 0) : Array Value).all (·.oneCell') = true) := ⟨cells_one _ _ _ _ _ _⟩
      have HBL : Aside0 (Below w5.heap.size w5 ((w5.alloc (.cells #[.slice none 0 0, .slice none 0 0, .slice none 0 0, .slice none 0 0, .int .i64 0] 46)).setRow w5.heap.size (v.cells L idle (List.replicate nw (-1)) (List.replicate nw false) 0))) := ⟨below_trans (below_alloc (Below.refl _ _) _) (below_setRow _ _ _ (Nat.le_refl _))⟩
      have HRO6 : Aside0 (∀ ad, AL = some ad → RowsM ((w5.alloc (.cells #[.slice none 0 0, .slice none 0 0, .slice none 0 0, .slice none 0 0, .int .i64 0] 46)).setRow w5.heap.size (v.cells L idle (List.replicate nw (-1)) (List.replicate nw false) 0)) ad AI B w3.heap.size L.length idle.length Af lf cf) := ⟨fun ad ha => (HRO5.out ad ha).below HBL.out⟩
      have HG6 : Aside0 (((w5.alloc (.cells #[.slice none 0 0, .slice none 0 0, .slice none 0 0, .slice none 0 0, .int .i64 0] 46)).setRow w5.heap.size (v.cells L idle (List.replicate nw (-1)) (List.replicate nw false) 0)).heap[w5.heap.size]? = some (.cells (v.cells L idle (List.replicate nw (-1)) (List.replicate nw false) 0) 46 (0, 0))) := ⟨setRow_heap _ _ _ _ _ _ HN4.out⟩
      have HBO6 : Aside0 (Both w w4.heap.size w5.heap.size nw P L ((w5.alloc (.cells #[.slice none 0 0, .slice none 0 0, .slice none 0 0, .slice none 0 0, .int .i64 0] 46)).setRow w5.heap.size (v.cells L idle (List.replicate nw (-1)) (List.replicate nw false) 0)) ts (List.replicate nw (-1)) 0 left v idle (List.replicate nw false)) := ⟨⟨(HPL.out.1.keep hb5).keep HBL.out, HPL.out.2, hmc.below HBL.out, hv1, by simp, by rw [hv2]; exact HR0.out, by have := HPN.out; have := (HBB.out _ HB5.out).size; omega, HPM.out, below_trans (HBB.out _ HB7.out) (HBL.out.mono (HBB.out _ HB7.out).size), HPL.out.1.rowsOld, Apart.of_MC hmc (Nat.le_refl _), hb5.size, HG6.out⟩⟩
      have HGM : Aside0 (w4.heap.size ≤ w5.heap.size ∧ w3.heap.size ≤ w4.heap.size) := ⟨hb5.size, HLE.out⟩
      have HVA := Aside0.mk hv2
      clear HMC hv1 hv2 hmc hb5 HRO5 HRO4 HBL HPL z0 z1 z2 HXB HB6
      go_wp2_with (refine wpList_store_row rfl 46 _ _ rfl _ (v.cells L idle (List.replicate nw (-1)) (List.replicate nw false) 0) rfl rfl 46 #[.slice none 0 0, .slice none 0 0, .slice none 0 0, .slice none 0 0, .int .i64 0] ?hg (by kernel_rfl) rfl HO.out ?_; (exact HN4.out); generalize (w5.alloc (.cells #[.slice none 0 0, .slice none 0 0, .slice none 0 0, .slice none 0 0, .int .i64 0] 46)).setRow w5.heap.size (v.cells L idle (List.replicate nw (-1)) (List.replicate nw false) 0) = w6 at HBO6 HRO6 HG6 ⊢; refine Shut.out ?_)
      delta Shut
      clear HN4 HO
      generalize w5.heap.size = g11 at HG6 HGM HBO6 ⊢
      go_wp2_with (go_at_call 18; refine (HU.out _).mono ?_; rintro e w7 ⟨rfl, ⟨m4, rfl⟩⟩)
      have HBO7 := Aside0.mk (HBO6.out.keep (below_drewN (Below.refl _ _) m4))
      have HRO7 : Aside0 (∀ ad, AL = some ad → RowsM (w6.drewN m4) ad AI B w3.heap.size L.length idle.length Af lf cf) := ⟨fun ad ha => (HRO6.out ad ha).below (below_drewN (Below.refl _ _) m4)⟩
      have HG7 : Aside0 ((w6.drewN m4).heap[g11]? = some (.cells (v.cells L idle (List.replicate nw (-1)) (List.replicate nw false) 0) 46 (0, 0))) := ⟨HG6.out⟩
      have HMU := Aside0.mk (Mut.refl B w3.heap.size (w6.drewN m4))
      clear HBO6 HRO6 HG6 HU
      generalize w6.drewN m4 = w7 at HBO7 HRO7 HG7 HMU ⊢
      have HIDL := Aside0.mk HGI.out.2
      go_loopw [81] (fun s wr => ∃ u : Nat, u ≤ L.length ∧ s = .int .i64 u ∧ Aside0 (∀ ad, AL = some ad → RowsM wr ad AI B w3.heap.size L.length idle.length Af lf cf) ∧ Aside0 (Mut B w3.heap.size w7 wr)) (fun s _ => L.length - (intOf s).toNat)
      case atStart => exact ⟨0, by omega, rfl, HRO7, HMU⟩
      case round =>
        clear HRO7 HMU
        obtain ⟨u, hu, rfl, HRO, HM⟩ := hrel
        by_cases hut : u < L.length
        · have hb4 : decide (u < L.length) = true := by simp; omega
          have hut2 : (u : Int) < (L.length : Int) := by omega
          obtain ⟨ad, _, _, hA, -, -, -⟩ := at_L1 HCL3.out.2 (u : Int) (by omega) (by omega)
          have co := (HRO.out ad hA).out u hut
          have hsm := (HRO.out ad hA).small u hut
          have huI : u < idle.length := by rw [HIDL.out]; exact hut
          have huI2 : (u : Int) < (idle.length : Int) := by omega
          obtain ⟨gi, y0, hAI, -⟩ := (HRO.out ad hA).idle u huI
          have HAI := Aside0.mk hAI
          rw [hA, hAI]
          clear hAI
          go_wp2
          go_loopw [89] (fun s wr => ∃ j : Nat, j ≤ lf u ∧ s = .int .i64 j ∧ Aside0 (RowsM wr ad AI B w3.heap.size L.length idle.length Af lf cf) ∧ Aside0 (Mut B w3.heap.size w7 wr)) (fun s _ => lf u - (intOf s).toNat)
          case atStart => exact ⟨0, by omega, rfl, ⟨HRO.out ad hA⟩, HM⟩
          case round =>
            clear HRO HM co
            obtain ⟨j, hj, rfl, HRO, HM⟩ := hrel
            have co := HRO.out.out u hut
            by_cases hjt : j < lf u
            · have hb5 : decide (j < lf u) = true := by simp; omega
              have hjt2 : (j : Int) < (lf u : Int) := by omega
              obtain ⟨g, x, hA2, hcx, hfx, hg1, hg2⟩ := HRO.out.ins u hut j hjt
              have HX2 := Aside0.mk hcx
              have HG2 := Aside0.mk (And.intro hg1 hg2)
              clear hg1 hg2
              rw [hA2] at co
              go_wp2
              go_roundw
              case rel => exact ⟨j + 1, by omega, by go_num, ⟨HRO.out.setI _ _ _ HX2.out⟩, ⟨HM.out.set _ _ HG2.out⟩⟩
              case measure => simp [intOf]; omega
            · have hb5 : decide (j < lf u) = false := by simp; omega
              obtain ⟨g, y, hA2, hcx, hfx, hg1, hg2⟩ := HRO.out.idle u huI
              rw [HAI.out] at hA2
              cases hA2
              have HX2 := Aside0.mk hcx
              have HG2 := Aside0.mk (And.intro hg1 hg2)
              clear hg1 hg2 co
              go_wp2
              go_roundw
              case rel => exact ⟨u + 1, by omega, by go_num, ⟨fun ad' hA' => by cases hA'; have h := HRO.out.setB _ _ (!y) HX2.out; rw [HAI.out] at h; exact h⟩, ⟨HM.out.set _ _ HG2.out⟩⟩
              case measure => simp [intOf]; omega
        · have hb4 : decide (u < L.length) = false := by simp; omega
          have HBW : Aside0 (Below B w7 wr) := ⟨HM.out.below (by have := HBO7.out.gl; have := HGM.out; have := HBs.out; omega)⟩
          have HBW2 : Aside0 (Below w.heap.size w wr) := ⟨below_trans HBO7.out.bel (HBW.out.mono (by have := HBA.out.size; have := HBE.out; omega))⟩
          have HG : Aside0 (wr.heap[g11]? = some (.cells (v.cells L idle (List.replicate nw (-1)) (List.replicate nw false) 0) 46 (0, 0))) := ⟨by rw [HM.out.block _ (Array.getElem?_eq_some_iff.1 HG7.out).1 (.inr (by have := HGM.out; omega))]; exact HG7.out⟩
          have HQ0 : Aside0 (∃ (ts : List T) (has : List Int) (q left : Int) (v : MV) (E R : List Bool), Both w w4.heap.size g11 nw P L wr ts has q left v E R) := ⟨_, _, _, _, _, _, _, ⟨HBO7.out.plan.mut HM.out HPN.out.1 HPN.out.2.1 HPN.out.2.2.1 HPN.out.2.2.2, HBO7.out.mod, HBO7.out.mc.mut HBO7.out.l0 HBW2.out HM.out (HBO7.out.new.mono HGM.out.2), HBO7.out.new, HBO7.out.len, HBO7.out.l0, HBO7.out.pw, HBO7.out.pm, HBW2.out, HBO7.out.old, HBO7.out.ap, HBO7.out.gm, HG.out⟩⟩
          have HSL := Aside0.mk hsz
          clear HRO HM HBO7 HG7 hu hut HBW HBW2 HCL3 HG HPM HPN HGM HBs HLE HVA HIDL HB5 HB7
          go_wp2_with fail
          generalize w4.heap.size = M at HQ0
          go_loopw [110] (fun s wr => ∃ j : Nat, j ≤ picks.length ∧ s = .int .i64 j ∧ Aside0 (∃ (ts : List T) (has : List Int) (q left : Int) (v : MV) (E R : List Bool), Both w M g11 nw P L wr ts has q left v E R)) (fun s _ => picks.length - (intOf s).toNat)
          case atStart => exact ⟨0, by omega, rfl, HQ0⟩
          case round =>
            clear HQ0
            obtain ⟨j, hj, rfl, HQ⟩ := hrel
            obtain ⟨ts, has, q, left, v, E, R, hbo⟩ := HQ.out
            clear HQ
            by_cases hjt : j < picks.length
            · have hb6 : decide (j < picks.length) = true := by simp; omega
              have hpk := HSZ.out.2.2.1
              have hjt2 : (j : Int) < (picks.length : Int) := by omega
              obtain ⟨ad2, hA2, hx⟩ := Kd.at_int HR2.out (j : Int) (by omega) (by omega)
              rw [Int.toNat_natCast] at hx
              have hx1 := (hbo.bel.cell (World.block_lt_of_cell? w _ hx)).trans hx
              clear hx
              generalize rd picks (j : Int) = x at hx1
              obtain ⟨k, i, wk, code, us, has', q', left', hcode, hsame, hC1, hC2, hlen⟩ := play_step hbo HGI.out.1 HRW.out (by have := HSL.out; omega) HNW.out.2 x
              have HBO := Aside0.mk hbo
              have HC1 := Aside0.mk hC1
              have HC2 := Aside0.mk hC2
              have HSM := Aside0.mk (And.intro hsame hlen)
              have HUC : Aside0 (∀ W, Calls Try.prog 18 #[errV code] W fun e w' => e = .returned (.int .i64 code) ∧ Drawn0 W w') := ⟨fun W => num_calls code W hcode⟩
              clear hbo hC1 hC2 hsame hlen hcode
              unfold pickV ev3 at HC1
              unfold ev3 at HC2
              generalize errV code = er at HC1 HUC
              rw [hA2]
              go_wp2_with fail
              refine HC1.out.mono ?_
              rintro e w2 ⟨rfl, hpl, hst⟩
              have HPL2 := Aside0.mk (And.intro hpl hst)
              have HB3 : Aside0 (Below w2.heap.size w2 (w2.alloc (.cells #[.int .i64 k, .int .i64 i, .int .i64 wk] 33))) := ⟨below_alloc (Below.refl _ _) _⟩
              have HE3 : Aside0 ((w2.alloc (.cells #[.int .i64 k, .int .i64 i, .int .i64 wk] 33)).heap[w2.heap.size]? = some (.cells #[.int .i64 k, .int .i64 i, .int .i64 wk] 33 (0, 0))) := ⟨heap_alloc_new _ _⟩
              have HG3 : Aside0 ((w2.alloc (.cells #[.int .i64 k, .int .i64 i, .int .i64 wk] 33)).heap[g11]? = some (.cells (v.cells L E has R q) 46 (0, 0))) := ⟨by
                have hg := HBO.out.gl
                have hm := HBO.out.gm
                have hp := HBO.out.pm
                have hs := hst.size
                rw [HB3.out.block _ (by omega), hst.block _ hg (by omega) (by omega) (by omega)]
                exact HBO.out.cell⟩
              have HMC3 : Aside0 (MC (w2.alloc (.cells #[.int .i64 k, .int .i64 i, .int .i64 wk] 33)) v L E has R) := ⟨(HBO.out.stp hst).1.below HB3.out⟩
              clear hpl hst HC1 hx1
              have HC3 := HC2.out _ HMC3.out
              obtain ⟨f0, f1, f2, f3, f4⟩ := cells5 HG3.out
              clear HC2
              go_wp2_with fail
              refine HC3.mono ?_
              rintro e w4 ⟨v', E', R', rfl, hnew, hA, hmc, hmod, hb4⟩
              clear f0 f1 f2 f3 f4 HC3
              generalize w2.alloc (.cells #[.int .i64 k, .int .i64 i, .int .i64 wk] 33) = w3 at HB3 HE3 HG3 HMC3 hb4 hnew
              have HE4 : Aside0 (w4.heap[w2.heap.size]? = some (.cells #[.int .i64 k, .int .i64 i, .int .i64 wk] 33 (0, 0))) := ⟨blk_below HE3.out hb4⟩
              have HB4 := Aside0.mk hb4
              have HNW4 := Aside0.mk hnew
              have HMC4 := Aside0.mk (And.intro hmc (And.intro hmod hA))
              clear hnew hA hmc hmod hb4
              have hs2 := HPL2.out.2.size
              have hgl := HBO.out.gl
              have HLT : Aside0 (g11 < w2.heap.size ∧ w2.heap.size ≤ w3.heap.size ∧ w3.heap.size ≤ w4.heap.size ∧ w2.heap.size < w4.heap.size) := ⟨by omega, HB3.out.size, HB4.out.size, (Array.getElem?_eq_some_iff.1 HE4.out).1⟩
              have HB5 : Aside0 (Below w4.heap.size w4 ((((w4.alloc (.cells #[.slice none 0 0, .slice none 0 0, .slice none 0 0, .slice none 0 0, .int .i64 0] 46)).alloc (.cells #[.int .i64 0, .int .i64 0, .int .i64 0] 50)).setRow w4.heap.size (v'.cells L E' has' R' q')).setRow (w4.heap.size + 1) #[.int .i64 k, .int .i64 i, .int .i64 wk])) := ⟨below_trans (below_trans (below_alloc (below_alloc (Below.refl _ _) _) _) (below_setRow _ _ _ (Nat.le_refl _))) (below_setRow _ _ _ (Nat.le_succ _))⟩
              have HNA : Aside0 (((w4.alloc (.cells #[.slice none 0 0, .slice none 0 0, .slice none 0 0, .slice none 0 0, .int .i64 0] 46)).alloc (.cells #[.int .i64 0, .int .i64 0, .int .i64 0] 50)).heap[w4.heap.size]? = some (.cells #[.slice none 0 0, .slice none 0 0, .slice none 0 0, .slice none 0 0, .int .i64 0] 46 (0, 0)) ∧ ((w4.alloc (.cells #[.slice none 0 0, .slice none 0 0, .slice none 0 0, .slice none 0 0, .int .i64 0] 46)).alloc (.cells #[.int .i64 0, .int .i64 0, .int .i64 0] 50)).heap[w4.heap.size + 1]? = some (.cells #[.int .i64 0, .int .i64 0, .int .i64 0] 50 (0, 0))) := ⟨by rw [heap_alloc_old _ _ (by rw [World.size_alloc]; omega)]; exact heap_alloc_new _ _, by rw [← World.size_alloc w4 (.cells #[.slice none 0 0, .slice none 0 0, .slice none 0 0, .slice none 0 0, .int .i64 0] 46)]; exact heap_alloc_new _ _⟩
              have HSET := Aside0.mk (set2 (c4 := (v'.cells L E' has' R' q')) (c5 := #[.int .i64 k, .int .i64 i, .int .i64 wk]) HNA.out.1 HNA.out.2 (by omega))
              have HG5 : Aside0 (((((w4.alloc (.cells #[.slice none 0 0, .slice none 0 0, .slice none 0 0, .slice none 0 0, .int .i64 0] 46)).alloc (.cells #[.int .i64 0, .int .i64 0, .int .i64 0] 50)).setRow w4.heap.size (v'.cells L E' has' R' q')).setRow (w4.heap.size + 1) #[.int .i64 k, .int .i64 i, .int .i64 wk]).heap[g11]? = some (.cells (v.cells L E has R q) 46 (0, 0))) := ⟨by rw [HB5.out.block _ (by have := HLT.out; omega), HB4.out.block _ (by have := HLT.out; omega)]; exact HG3.out⟩
              have HO5 : Aside0 (((v'.cells L E' has' R' q') : Array Value).all (·.oneCell') = true) := ⟨cells_one _ _ _ _ _ _⟩
              have HBN : Aside0 (Both w M g11 nw P L (((((w4.alloc (.cells #[.slice none 0 0, .slice none 0 0, .slice none 0 0, .slice none 0 0, .int .i64 0] 46)).alloc (.cells #[.int .i64 0, .int .i64 0, .int .i64 0] 50)).setRow w4.heap.size (v'.cells L E' has' R' q')).setRow (w4.heap.size + 1) #[.int .i64 k, .int .i64 i, .int .i64 wk]).setRow g11 (v'.cells L E' has' R' q')) us has' q' left' v' E' R') := ⟨HBO.out.next HSM.out.1 HPL2.out.1 HPL2.out.2 HB3.out HNW4.out HMC4.out.2.2 HMC4.out.1 HMC4.out.2.1 HB4.out HB5.out HSM.out.2⟩
              have HE6 : Aside0 ((((((w4.alloc (.cells #[.slice none 0 0, .slice none 0 0, .slice none 0 0, .slice none 0 0, .int .i64 0] 46)).alloc (.cells #[.int .i64 0, .int .i64 0, .int .i64 0] 50)).setRow w4.heap.size (v'.cells L E' has' R' q')).setRow (w4.heap.size + 1) #[.int .i64 k, .int .i64 i, .int .i64 wk]).setRow g11 (v'.cells L E' has' R' q')).heap[w2.heap.size]? = some (.cells #[.int .i64 k, .int .i64 i, .int .i64 wk] 33 (0, 0))) := ⟨by rw [setRow_other _ _ _ _ (by have := HLT.out; omega), HB5.out.block _ HLT.out.2.2.2]; exact HE4.out⟩
              have HE20 : Aside0 ((((((w4.alloc (.cells #[.slice none 0 0, .slice none 0 0, .slice none 0 0, .slice none 0 0, .int .i64 0] 46)).alloc (.cells #[.int .i64 0, .int .i64 0, .int .i64 0] 50)).setRow w4.heap.size (v'.cells L E' has' R' q')).setRow (w4.heap.size + 1) #[.int .i64 k, .int .i64 i, .int .i64 wk]).setRow g11 (v'.cells L E' has' R' q')).heap[w4.heap.size + 1]? = some (.cells #[.int .i64 k, .int .i64 i, .int .i64 wk] 50 (0, 0))) := ⟨by
                rw [setRow_other _ _ _ _ (by have := HLT.out; omega)]
                exact HSET.out.2.2⟩
              clear hs2 hgl HPL2 HB3 HG3 HMC3 HE4 HNW4 HMC4 HBO HSM HE3
              have HO6 : Aside0 ((#[.int .i64 k, .int .i64 i, .int .i64 wk] : Array Value).all (·.oneCell') = true) := ⟨by simp [Value.oneCell']⟩
              go_wp2_with (refine wpList_store_row rfl 46 _ _ rfl _ (v'.cells L E' has' R' q') rfl rfl 46 #[.slice none 0 0, .slice none 0 0, .slice none 0 0, .slice none 0 0, .int .i64 0] ?ha (by kernel_rfl) rfl HO5.out ?_; (exact HNA.out.1); refine Shut.out ?_)
              delta Shut
              refine wpList_store_row rfl 50 _ _ rfl _ #[.int .i64 k, .int .i64 i, .int .i64 wk] rfl rfl 50 #[.int .i64 0, .int .i64 0, .int .i64 0] HSET.out.1 (by kernel_rfl) rfl HO6.out ?_
              have H19 := Aside0.mk HSET.out.2.1
              clear HNA HSET
              generalize ((((w4.alloc (.cells #[.slice none 0 0, .slice none 0 0, .slice none 0 0, .slice none 0 0, .int .i64 0] 46)).alloc (.cells #[.int .i64 0, .int .i64 0, .int .i64 0] 50)).setRow w4.heap.size (v'.cells L E' has' R' q')).setRow (w4.heap.size + 1) #[.int .i64 k, .int .i64 i, .int .i64 wk]) = w5 at HB5 HG5 HBN HE6 HE20 H19 ⊢
              obtain ⟨e0, e1, e2, e3, e4⟩ := cells5 H19.out
              simp only [MV.cells] at HBN HE6 HE20
              go_wp2_with (refine wpList_store_row rfl 46 _ _ rfl _ #[.slice v'.A L.length v'.c, .slice v'.AE E'.length v'.cE, .slice v'.AH has'.length v'.cH, .slice v'.AR R'.length v'.cR, .int .i64 q'] rfl rfl 46 (v.cells L E has R q) ?hb (by kernel_rfl) rfl HO5.out ?_; (exact HG5.out); generalize w5.setRow g11 #[.slice v'.A L.length v'.c, .slice v'.AE E'.length v'.cE, .slice v'.AH has'.length v'.cH, .slice v'.AR R'.length v'.cR, .int .i64 q'] = w6 at HBN HE6 HE20 ⊢; refine Shut.out ?_)
              delta Shut
              clear HG5 HO5 HO6 HB5 HB4 HLT H19 e0 e1 e2 e3 e4
              have HST : Aside0 (∀ W', Below w6.heap.size w6 W' → Calls Try.prog 20 #[.pointer (some ⟨P.gp, 0, none⟩), .agg (v'.cells L E' has' R' q')] W' fun e w'' => e = .returned (.bool true) ∧ Below W'.heap.size W' w'') := ⟨fun W' hb => stands_calls P us has' q' left' W' v'.A v'.c v'.AE v'.cE v'.AH v'.cH v'.AR v'.cR L E' R' (HBN.out.plan.keep hb) (HBN.out.mc.below hb) HBN.out.mod HGI.out.1 HRW.out (by have := HSL.out; omega) (by have := HBN.out.len; have := HNW.out; omega) (by have := HBN.out.len; have := HNW.out; omega)⟩
              obtain ⟨a0, a1, a2⟩ := cells3 HE6.out
              obtain ⟨b0, b1, b2⟩ := cells3 HE20.out
              obtain ⟨f0, f1, f2, f3, f4⟩ := cells5 HBN.out.cell
              go_wp2_with (go_at_call 18; refine (HUC.out _).mono ?_; rintro e w7 ⟨rfl, ⟨m7, rfl⟩⟩)
              have HB7 : Aside0 (Below w6.heap.size w6 (w6.drewN m7)) := ⟨below_drewN (Below.refl _ _) m7⟩
              refine (HST.out _ HB7.out).mono ?_
              rintro e w8 ⟨rfl, hb8⟩
              have HBF := Aside0.mk (HBN.out.keep (below_step HB7.out hb8))
              clear hb8 HB7 HST HBN HE6 HE20 a0 a1 a2 b0 b1 b2 f0 f1 f2 f3 f4
              go_wp2_with fail
              go_roundw
              case rel => exact ⟨j + 1, by omega, by go_num, ⟨_, _, _, _, _, _, _, HBF.out⟩⟩
              case measure => simp [intOf]; omega
            · have hb6 : decide (j < picks.length) = false := by simp; omega
              have HBN := Aside0.mk hbo
              have HST : Aside0 (Calls Try.prog 20 #[.pointer (some ⟨P.gp, 0, none⟩), .agg (v.cells L E has R q)] wr fun e w'' => e = .returned (.bool true) ∧ Below wr.heap.size wr w'') := ⟨stands_calls P ts has q left wr v.A v.c v.AE v.cE v.AH v.cH v.AR v.cR L E R hbo.plan hbo.mc hbo.mod HGI.out.1 HRW.out (by have := HSL.out; omega) (by have := hbo.len; have := HNW.out; omega) (by have := hbo.len; have := HNW.out; omega)⟩
              obtain ⟨f0, f1, f2, f3, f4⟩ := cells5 hbo.cell
              clear hbo
              go_wp2_with fail
              refine HST.out.mono ?_
              rintro e w8 ⟨rfl, hb8⟩
              go_wp2_with fail
              go_ret
              exact ⟨rfl, below_step HBN.out.bel hb8⟩
end
end Go.Proofs.Ytigpcfokmbnlaaa.Sched

/- SchedPlays: the law's own walk, whole. -/
namespace Go.Proofs.Ytigpcfokmbnlaaa.Sched
open Go.RowKit Go.Proofs.YtigpcfokmbnlaaaW.PrintWords
section
variable (A0 : Option Addr) (c0 : Nat) (L : List (List Int)) (A1 : Option Addr) (c1 : Nat) (idle : List Bool) (n : Int) (A2 : Option Addr) (c2 : Nat) (picks : List Int) (w : World)
theorem plays_walk (hr0 : Kd.C (Kd.slice 3 (Kd.int .i64)) w A0 L.length L) (hc0 : L.length ≤ c0) (hr1 : Kd.C Kd.bool w A1 idle.length idle) (hc1 : idle.length ≤ c1) (hr2 : Kd.C (Kd.int .i64) w A2 picks.length picks) (hc2 : picks.length ≤ c2) :
    Calls Try.prog 5 #[.agg #[.slice A0 L.length c0, .slice A1 idle.length c1, .int .i64 n], .slice A2 picks.length c2] w fun e w' => e = .returned (.bool true) ∧ Below w.heap.size w w' := by
  cases hlg : largeB L picks with
  | true => exact plays_big A0 c0 L A1 c1 idle n A2 c2 picks w hr0 hc0 hr1 hc1 hr2 hc2 (.inl hlg)
  | false =>
    by_cases h40 : 40 < idle.length
    · exact plays_big A0 c0 L A1 c1 idle n A2 c2 picks w hr0 hc0 hr1 hc1 hr2 hc2 (.inr ⟨hlg, h40⟩)
    · by_cases hbad : newBad L idle n = 0
      · have h : goodB L = true ∧ idle.length = L.length ∧ ¬ (n < 1 ∨ 64 < n) := by
          unfold newBad at hbad
          by_cases q : (!goodB L || decide (idle.length ≠ L.length)) = true
          · rw [if_pos q] at hbad; omega
          · rw [if_neg q] at hbad
            simp at q
            by_cases q2 : n < 1 ∨ 64 < n
            · rw [if_pos q2] at hbad; omega
            · exact ⟨q.1, q.2, q2⟩
        obtain ⟨hgd, hid, hn⟩ := h
        exact plays_main A0 c0 L A1 c1 idle n A2 c2 picks w hr0 hc0 hr1 hc1 hr2 hc2 hlg (by omega) hgd hid n.toNat (by omega) (by omega)
      · exact plays_bad A0 c0 L A1 c1 idle n A2 c2 picks w hr0 hc0 hr1 hc1 hr2 hc2 hlg (by omega) hbad
end
end Go.Proofs.Ytigpcfokmbnlaaa.Sched
