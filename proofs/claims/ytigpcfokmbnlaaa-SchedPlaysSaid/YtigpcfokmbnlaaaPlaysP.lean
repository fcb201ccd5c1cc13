/- SchedPlays: the law's own walk, where there is too much, or no plan is made. -/
import Derived.Test.YtigpcfokmbnlaaaPlaysE
import Derived.Test.YtigpcfokmbnlaaaPlaysH
import Derived.Test.YtigpcfokmbnlaaaPlaysI
import Derived.Test.YtigpcfokmbnlaaaPlaysO
import Derived.BigQuiet
namespace Go.Proofs.Ytigpcfokmbnlaaa.Sched
open Go.RowKit Go.Proofs.YtigpcfokmbnlaaaW.PrintWords Go.Proofs.Ytigpcfokmbnlaaa.PSchedPlays
section
variable (A0 : Option Addr) (c0 : Nat) (L : List (List Int)) (A1 : Option Addr) (c1 : Nat) (idle : List Bool) (n : Int) (A2 : Option Addr) (c2 : Nat) (picks : List Int) (w : World)
end
theorem lit22 (w : World) : (Kd.slice 3 (Kd.int .i64)).R 38 (w.alloc (.cells #[] 38)) w.heap.size (fun _ => True) (.slice (some ⟨w.heap.size, 0, none⟩) 0 0) [] := by
  have h := World.ownsRow_lit (base := w.heap.size) (e := 38) (size := 1) w #[] 0 (Nat.le_refl _) (by simp) (by simp)
  exact ⟨fun _ _ => trivial, [], h, rfl, fun j x hj => by simp at hj⟩
theorem cells_of_box {A0 : Option Addr} {c0 : Nat} {L : List (List Int)} {A1 : Option Addr} {c1 : Nat} {idle : List Bool} {n : Int} {W : World} {g : Nat} (h : Box A0 c0 L A1 c1 idle n W g) : W.cell? ⟨g, 0, none⟩ = some (.slice A0 L.length c0) ∧ W.cell? ⟨g, 1, none⟩ = some (.slice A1 idle.length c1) ∧ W.cell? ⟨g, 2, none⟩ = some (.int .i64 n) := h.cells
theorem below_alloc1 {B : Nat} {wA wr : World} (hb : Below B wA wr) (hB : B = wA.heap.size) (o : Obj) : Below B wA (wr.alloc o) := hb.alloc (by rw [hB]; have := hb.size; exact this) o
section
variable (A0 : Option Addr) (c0 : Nat) (L : List (List Int)) (A1 : Option Addr) (c1 : Nat) (idle : List Bool) (n : Int) (A2 : Option Addr) (c2 : Nat) (picks : List Int) (w : World)
set_option maxHeartbeats 8000000 in
set_option maxRecDepth 100000 in
theorem plays_big (hr0 : Kd.C (Kd.slice 3 (Kd.int .i64)) w A0 L.length L) (hc0 : L.length ≤ c0) (_hr1 : Kd.C Kd.bool w A1 idle.length idle) (_hc1 : idle.length ≤ c1) (hr2 : Kd.C (Kd.int .i64) w A2 picks.length picks) (hc2 : picks.length ≤ c2) (h : largeB L picks = true ∨ (largeB L picks = false ∧ 40 < idle.length)) :
    Calls Try.prog 5 #[.agg #[.slice A0 L.length c0, .slice A1 idle.length c1, .int .i64 n], .slice A2 picks.length c2] w fun e w' => e = .returned (.bool true) ∧ Below w.heap.size w w' := by
  have HL : Aside0 (∀ W, Below w.heap.size w W → Calls Try.prog 8 #[.slice A0 L.length c0, .slice A2 picks.length c2] W fun e w' => e = .returned (.bool (largeB L picks)) ∧ Drawn0 W w') := ⟨fun W hb => large_calls A0 c0 L A2 c2 picks W (Kd.C_below hr0 hb) hc0 (Kd.C_below hr2 hb) hc2⟩
  have HX : Aside0 (∀ w1, Below (w.heap.size + 1) (w.alloc (.cells #[.slice A0 L.length c0, .slice A1 idle.length c1, .int .i64 n] 37)) w1 → Below w.heap.size w w1 ∧ Box A0 c0 L A1 c1 idle n w1 w.heap.size) := ⟨fun w1 hb => ⟨below_trans (below_alloc (Below.refl _ _) _) (hb.mono (Nat.le_succ _)), ⟨by rw [hb.block _ (Nat.lt_succ_self _)]; exact heap_alloc_new _ _⟩⟩⟩
  rcases h with hlg | ⟨hlg, h40⟩
  · rw [hlg] at HL
    clear hlg hr0 hr2
    go_enter Try.func5, Try.ntmps5
    go_wp2_with fail
    refine (alive_calls _).mono ?_
    rintro e w1 ⟨rfl, hb1⟩
    rw [World.size_alloc] at hb1
    obtain ⟨hb, hx⟩ := HX.out w1 hb1
    obtain ⟨x0, x1, x2⟩ := hx.cells
    go_wp2_with (go_at_call 8; refine (HL.out _ hb).mono ?_; rintro e w2 ⟨rfl, ⟨m2, rfl⟩⟩)
    go_ret
    exact ⟨rfl, pw_below_drewN hb _⟩
  · rw [hlg] at HL
    have b40 : decide (40 < (idle.length : Int)) = true := by simp; omega
    have b41 : decide (40 < idle.length) = true := by simp; omega
    clear hlg hr0 hr2
    go_enter Try.func5, Try.ntmps5
    go_wp2_with fail
    refine (alive_calls _).mono ?_
    rintro e w1 ⟨rfl, hb1⟩
    rw [World.size_alloc] at hb1
    obtain ⟨hb, hx⟩ := HX.out w1 hb1
    obtain ⟨x0, x1, x2⟩ := hx.cells
    go_wp2_with (go_at_call 8; refine (HL.out _ hb).mono ?_; rintro e w2 ⟨rfl, ⟨m2, rfl⟩⟩)
    go_ret
    exact ⟨rfl, pw_below_drewN hb _⟩
set_option maxHeartbeats 8000000 in
set_option maxRecDepth 100000 in
theorem plays_bad (hr0 : Kd.C (Kd.slice 3 (Kd.int .i64)) w A0 L.length L) (hc0 : L.length ≤ c0) (hr1 : Kd.C Kd.bool w A1 idle.length idle) (hc1 : idle.length ≤ c1) (hr2 : Kd.C (Kd.int .i64) w A2 picks.length picks) (hc2 : picks.length ≤ c2) (hlg : largeB L picks = false) (h40 : idle.length ≤ 40) (hbad : newBad L idle n ≠ 0) :
    Calls Try.prog 5 #[.agg #[.slice A0 L.length c0, .slice A1 idle.length c1, .int .i64 n], .slice A2 picks.length c2] w fun e w' => e = .returned (.bool true) ∧ Below w.heap.size w w' := by
  have HL : Aside0 (∀ W, Below w.heap.size w W → Calls Try.prog 8 #[.slice A0 L.length c0, .slice A2 picks.length c2] W fun e w' => e = .returned (.bool (largeB L picks)) ∧ Drawn0 W w') := ⟨fun W hb => large_calls A0 c0 L A2 c2 picks W (Kd.C_below hr0 hb) hc0 (Kd.C_below hr2 hb) hc2⟩
  have HX : Aside0 (∀ w1, Below (w.heap.size + 1) (w.alloc (.cells #[.slice A0 L.length c0, .slice A1 idle.length c1, .int .i64 n] 37)) w1 → Below w.heap.size w w1 ∧ Box A0 c0 L A1 c1 idle n w1 w.heap.size) := ⟨fun w1 hb => ⟨below_trans (below_alloc (Below.refl _ _) _) (hb.mono (Nat.le_succ _)), ⟨by rw [hb.block _ (Nat.lt_succ_self _)]; exact heap_alloc_new _ _⟩⟩⟩
  obtain ⟨hsz, hrows, hpk⟩ := large_false L picks hlg
  have HSZ : Aside0 (L.length ≤ 31 ∧ rowsAt L 40 ∧ picks.length ≤ 200 ∧ idle.length ≤ 40) := ⟨hsz, hrows, hpk, h40⟩
  have HCC : Aside0 (L.length ≤ c0 ∧ idle.length ≤ c1 ∧ picks.length ≤ c2) := ⟨hc0, hc1, hc2⟩
  rw [hlg] at HL
  have b40 : decide (40 < (idle.length : Int)) = false := by simp; omega
  have b41 : decide (40 < idle.length) = false := by simp; omega
  have HR0 := Aside0.mk hr0
  have HR1 := Aside0.mk hr1
  have HR2 := Aside0.mk hr2
  have hnb0 : 0 ≤ newBad L idle n := by unfold newBad; split <;> (try split) <;> decide
  have HN : Aside0 (∀ (W : World) (AL : Option Addr) (cL : Nat) (AI : Option Addr) (cI : Nat), Kd.C (Kd.slice 3 (Kd.int .i64)) W AL L.length L → L.length ≤ cL → Calls Try.prog 10 #[.slice AL L.length cL, .slice AI idle.length cI, .int .i64 n] W fun e w' => e = .returned (.tuple #[.pointer none, .iface 43 (.int .i64 (newBad L idle n))]) ∧ Drawn0 W w') := ⟨fun W AL cL AI cI hl hc => by
    have h := new_bad AL cL L AI cI idle n W (by omega) (rowsAt_mono' hrows (by omega)) hl hc hbad
    rw [show newV (newBad L idle n) = .tuple #[.pointer none, .iface 43 (.int .i64 (newBad L idle n))] by unfold newV errV; rw [if_neg hbad]] at h
    exact h⟩
  have HM : Aside0 (∀ W, Below w.heap.size w W → Calls Try.prog 17 #[.slice A0 L.length c0, .slice A1 idle.length c1, .int .i64 n] W fun e w' => e = .returned (.tuple #[.agg #[.slice none 0 0, .slice none 0 0, .slice none 0 0, .slice none 0 0, .int .i64 0], .int .i64 (newBad L idle n)]) ∧ Below W.heap.size W w') := ⟨fun W hb => refNew_bad A0 c0 L A1 c1 idle n W (by omega) (rowsAt_mono' hrows (by omega)) (Kd.C_below hr0 hb) hc0 hbad⟩
  have HU : Aside0 (∀ W, Calls Try.prog 18 #[.iface 43 (.int .i64 (newBad L idle n))] W fun e w' => e = .returned (.int .i64 (newBad L idle n)) ∧ Drawn0 W w') := ⟨fun W => by
    have h := num_calls (newBad L idle n) W hnb0
    rw [show errV (newBad L idle n) = .iface 43 (.int .i64 (newBad L idle n)) by unfold errV; rw [if_neg hbad]] at h
    exact h⟩
  have hnb : (newBad L idle n != 0) = true := by rw [bne_iff_ne]; exact hbad
  generalize newBad L idle n = nb at HN HM HU hnb
  clear hlg hr0 hr1 hr2 hrows hc1 hc2 hpk hbad hnb0
  go_enter Try.func5, Try.ntmps5
  go_wp2_with fail
  refine (alive_calls _).mono ?_
  rintro e w1 ⟨rfl, hb1⟩
  rw [World.size_alloc] at hb1
  obtain ⟨hb, hx⟩ := HX.out w1 hb1
  obtain ⟨x0, x1, x2⟩ := hx.cells
  clear hb1
  go_wp2_with (go_at_call 8; refine (HL.out _ hb).mono ?_; rintro e w2 ⟨rfl, ⟨m2, rfl⟩⟩; refine Shut.out ?_)
  delta Shut
  clear x0 x1 x2 HL HX
  have HBA := Aside0.mk (pw_below_drewN hb m2)
  have HXA : Aside0 (Box A0 c0 L A1 c1 idle n (w1.drewN m2) w.heap.size) := ⟨⟨hx.row⟩⟩
  clear hb hx
  generalize w1.drewN m2 = wA at HBA HXA ⊢
  have hBs := HBA.out.size
  obtain ⟨B, hB⟩ : ∃ B, B = wA.heap.size := ⟨_, rfl⟩
  have HXB : Aside0 (∀ W', Below B wA W' → Box A0 c0 L A1 c1 idle n W' w.heap.size) := ⟨fun W' hb => HXA.out.below hb (by rw [hB]; exact HXA.out.lt)⟩
  have HBB : Aside0 (∀ W', Below B wA W' → Below w.heap.size w W') := ⟨fun W' hb => below_trans HBA.out (hb.mono (by rw [hB]; exact hBs))⟩
  have HS0 : Aside0 ((Kd.slice 3 (Kd.int .i64)).R 38 (wA.alloc (.cells #[] 38)) B (fun _ => True) (.slice (some ⟨wA.heap.size, 0, none⟩) 0 0) (L.take 0)) := ⟨by rw [hB]; exact lit22 wA⟩
  have HB0 : Aside0 (Below B wA (wA.alloc (.cells #[] 38))) := ⟨by rw [hB]; exact below_alloc (Below.refl _ _) _⟩
  have HBE := Aside0.mk hB
  clear hB hBs
  obtain ⟨x0, x1, x2⟩ := HXA.out.cells
  obtain ⟨y0, y1, y2⟩ := (HXB.out _ HB0.out).cells
  go_wp2
  clear x0 x1 x2 y0 y1 y2
  go_loopw [5, 38] (fun s5 s38 wr => ∃ (k : Nat) (v : Value), k ≤ L.length ∧ s38 = .int .i64 k ∧ v = s5 ∧ Aside0 ((Kd.slice 3 (Kd.int .i64)).R 38 wr B (fun _ => True) v (L.take k)) ∧ Aside0 (Below B wA wr)) (fun _ s38 _ => L.length - (intOf s38).toNat)
  case atStart => exact ⟨0, _, by omega, rfl, rfl, HS0, HB0⟩
  case round =>
    clear HS0 HB0
    obtain ⟨k, v, hk, rfl, rfl, HS, HB⟩ := hrel
    by_cases hlt : k < L.length
    · have hbk : decide (k < L.length) = true := by simp; omega
      have hk2 : (k : Int) < (L.length : Int) := by omega
      obtain ⟨ad, A', c', hA, hx, hl, hC⟩ := at_L1 HR0.out (k : Int) (by omega) (by omega)
      rw [Int.toNat_natCast] at hx
      have hx1 := ((HBB.out _ HB.out).cell (World.block_lt_of_cell? w _ hx)).trans hx
      rw [rd_L1_nat] at hx1 hl hC
      have hrl : (L.getD k []).length ≤ 40 := by
        have e : L.getD k [] = L[k] := by simp [List.getD_eq_getElem?_getD, hlt]
        rw [e]; exact HSZ.out.2.1 _ (List.getElem_mem hlt)
      have htk : L.take (k + 1) = L.take k ++ [L.getD k []] := by rw [List.take_succ_eq_append_getElem hlt]; simp [List.getD_eq_getElem?_getD, hlt]
      have HTK := Aside0.mk htk
      clear htk hx hl
      generalize L.getD k [] = row at hx1 hC hrl HTK
      have HTL : Aside0 ((L.take k).length ≤ 1000) := ⟨by simp; omega⟩
      rw [hA]
      have HO1 : Aside0 (O (Kd.int .i64) 3 (wr.alloc (.cells #[] 3)) wr.heap.size (.slice (some ⟨wr.heap.size, 0, none⟩) 0 0) []) := ⟨O_lit wr wr.heap.size (Nat.le_refl _)⟩
      have HI1 : Aside0 (Kd.C (Kd.int .i64) (wr.alloc (.cells #[] 3)) A' row.length row) := ⟨Kd.C_below hC (below_alloc (HBB.out _ HB.out) _)⟩
      have HB2 : Aside0 (Below wr.heap.size wr (wr.alloc (.cells #[] 3))) := ⟨below_alloc (Below.refl _ _) _⟩
      have HB3 := Aside0.mk HB2.out.size
      clear hC
      go_wp2_with (at_builtin; refine Kd.R_append_rows (Kd.int .i64) (Rr := (Kd.int .i64).K _) (w0 := wr) wr.heap.size rfl (.tmp 43) (.tmp 44) 38 3 (.int .i64 0) 8 rfl Try.underlying38 (by kernel_rfl) rfl (by decide) (by decide) _ [] row A' row.length c' (fun _ => True) (fun _ => False) rfl rfl (O_R HO1.out) HI1.out (fun _ _ h => h) (fun _ h => h.elim) (fun _ _ => trivial) HB2.out HB3.out (by simp; omega) ?_; intro v1 w3 hr3 hb3 hg3 hat3; refine Shut.out ?_)
      delta Shut
      rw [List.nil_append] at hr3
      obtain ⟨A3, c3, he3, -, -⟩ := Kd.R_reads hr3
      subst he3
      have HBW : Aside0 (B ≤ wr.heap.size) := ⟨by have := HB.out.size; have := HBE.out; omega⟩
      have HIN : Aside0 ((Kd.int .i64).R 3 w3 B (fun k => some k ≠ v.ownBlock) (.slice A3 row.length c3) row) := ⟨Kd.R_lower (Kd.R_mono (Kd.R_newR hr3 HS.out) (fun _ hk => hk.2)) HBW.out⟩
      have HOU : Aside0 ((Kd.slice 3 (Kd.int .i64)).R 38 w3 B (fun _ => True) v (L.take k)) := ⟨Kd.R_below HS.out hb3⟩
      have HB5 : Aside0 (Below B wA w3) := ⟨below_trans HB.out (hb3.mono HBW.out)⟩
      have HB6 := Aside0.mk (Nat.le_trans HBW.out hb3.size)
      clear hr3 hb3 hg3 hat3 HO1 HI1 HB2 HB3 hx1 HS HB
      go_wp2_with (at_builtin; refine Kd.R_append (Kd.slice 3 (Kd.int .i64)) (w0 := wA) B rfl (.tmp 42) (.tmp 46) 22 38 (.slice none 0 0) 24 rfl Try.underlying22 (by kernel_rfl) rfl (by decide) (by decide) v (L.take k) row [.slice A3 row.length c3] (fun _ => True) (fun k => some k ≠ v.ownBlock) rfl rfl ⟨.slice A3 row.length c3, rfl, HIN.out⟩ (fun _ hk => ⟨trivial, hk⟩) (fun _ _ => trivial) HOU.out HB5.out HB6.out (by have := HTL.out; omega) ?_; intro v4 w4 hr4 hb4 hg4 hat4; refine Shut.out ?_)
      delta Shut
      rw [← HTK.out] at hr4
      have HR4 := Aside0.mk hr4
      have HB4 := Aside0.mk hb4
      clear hr4 hb4 hg4 hat4 HIN HOU HB5 HB6
      go_wp2_with fail
      go_roundw
      case rel => exact ⟨k + 1, _, by omega, by go_num, rfl, HR4, HB4⟩
      case measure => simp [intOf]; omega
    · have hbk : decide (k < L.length) = false := by simp; omega
      have hkL : k = L.length := by omega
      subst hkL
      rw [List.take_length] at HS
      obtain ⟨AL, cL, hvL, hlL, hCL⟩ := Kd.R_reads HS.out
      subst hvL
      have HCL := Aside0.mk (And.intro hlL hCL)
      clear hlL hCL hk
      obtain ⟨x0, x1, x2⟩ := (HXB.out _ HB.out).cells
      have HO1 : Aside0 (O Kd.bool 4 (wr.alloc (.cells #[] 4)) wr.heap.size (.slice (some ⟨wr.heap.size, 0, none⟩) 0 0) []) := ⟨O_lit wr wr.heap.size (Nat.le_refl _)⟩
      have HI1 : Aside0 (Kd.C Kd.bool (wr.alloc (.cells #[] 4)) A1 idle.length idle) := ⟨Kd.C_below HR1.out (below_alloc (HBB.out _ HB.out) _)⟩
      have HB2 : Aside0 (Below wr.heap.size wr (wr.alloc (.cells #[] 4))) := ⟨below_alloc (Below.refl _ _) _⟩
      have HB3 := Aside0.mk HB2.out.size
      have x1b := (cells_of_box (HXB.out _ (below_alloc1 HB.out HBE.out (.cells #[] 4)))).2.1
      go_wp2_with (at_builtin; refine Kd.R_append_rows Kd.bool (Rr := Kd.bool.K _) (w0 := wr) wr.heap.size rfl (.tmp 49) (.tmp 51) 31 4 (.bool false) 1 rfl Try.underlying31 (by kernel_rfl) rfl (by decide) (by decide) _ [] idle A1 idle.length c1 (fun _ => True) (fun _ => False) rfl rfl (O_R HO1.out) HI1.out (fun _ _ h => h) (fun _ h => h.elim) (fun _ _ => trivial) HB2.out HB3.out (by simp; omega) ?_; intro v1 w3 hr3 hb3 hg3 hat3; refine Shut.out ?_)
      delta Shut
      rw [List.nil_append] at hr3
      have HBW : Aside0 (B ≤ wr.heap.size) := ⟨by have := HB.out.size; have := HBE.out; omega⟩
      have HB5 : Aside0 (Below B wA w3) := ⟨below_trans HB.out (hb3.mono HBW.out)⟩
      have HRL : Aside0 ((Kd.slice 3 (Kd.int .i64)).R 38 w3 B (fun _ => True) (.slice AL L.length cL) L) := ⟨Kd.R_below HS.out hb3⟩
      have HCL3 : Aside0 (L.length ≤ cL ∧ Kd.C (Kd.slice 3 (Kd.int .i64)) w3 AL L.length L) := ⟨HCL.out.1, Kd.C_below HCL.out.2 hb3⟩
      obtain ⟨AI, cI, hvI, hlI, hCI⟩ := Kd.R_reads hr3
      subst hvI
      have HRI : Aside0 (Kd.bool.R 4 w3 B (fun _ => True) (.slice AI idle.length cI) idle) := ⟨Kd.R_lower hr3 HBW.out⟩
      have HCI : Aside0 (idle.length ≤ cI ∧ Kd.C Kd.bool w3 AI idle.length idle) := ⟨hlI, hCI⟩
      obtain ⟨z0, z1, z2⟩ := (HXB.out _ HB5.out).cells
      clear hr3 hb3 hg3 hat3 HO1 HI1 HB2 HB3 x0 x1 x2 x1b HB HS HCL hCI hlI
      have HNC := HN.out w3 AL cL AI cI HCL3.out.2 HCL3.out.1
      clear HN HRL HRI HCI HCL3
      go_wp2_with fail
      refine HNC.mono ?_
      rintro e w4 ⟨rfl, ⟨m3, rfl⟩⟩
      have HB6 : Aside0 (Below B wA (w3.drewN m3)) := ⟨below_drewN HB5.out m3⟩
      have HMC := HM.out (w3.drewN m3) (HBB.out _ HB6.out)
      clear HNC HM z0 z1 z2
      obtain ⟨z0, z1, z2⟩ := (HXB.out _ HB6.out).cells
      clear HXB
      generalize w3.drewN m3 = w5 at HB6 HMC z0 z1 z2 ⊢
      go_wp2_with fail
      refine HMC.mono ?_
      rintro e w6 ⟨rfl, hb6⟩
      have HB7 : Aside0 (Below B wA w6) := ⟨below_trans HB6.out (hb6.mono (by have := HB6.out.size; have := HBE.out; omega))⟩
      have HN4 : Aside0 ((w6.alloc (.cells #[.slice none 0 0, .slice none 0 0, .slice none 0 0, .slice none 0 0, .int .i64 0] 46)).heap[w6.heap.size]? = some (.cells #[.slice none 0 0, .slice none 0 0, .slice none 0 0, .slice none 0 0, .int .i64 0] 46 (0, 0))) := ⟨heap_alloc_new _ _⟩
      have HO : Aside0 ((#[.slice none 0 0, .slice none 0 0, .slice none 0 0, .slice none 0 0, .int .i64 0] : Array Value).all (·.oneCell') = true) := ⟨by simp [Value.oneCell']⟩
      have HB8 : Aside0 (Below w.heap.size w ((w6.alloc (.cells #[.slice none 0 0, .slice none 0 0, .slice none 0 0, .slice none 0 0, .int .i64 0] 46)).setRow w6.heap.size #[.slice none 0 0, .slice none 0 0, .slice none 0 0, .slice none 0 0, .int .i64 0])) := ⟨below_trans (HBB.out _ (below_alloc1 HB7.out HBE.out (.cells #[.slice none 0 0, .slice none 0 0, .slice none 0 0, .slice none 0 0, .int .i64 0] 46))) (below_setRow _ _ _ (HBB.out _ HB7.out).size)⟩
      clear hb6 HMC z0 z1 z2 HB7 HB6 HB5 HBB
      go_wp2_with (refine wpList_store_row rfl 46 _ _ rfl _ #[.slice none 0 0, .slice none 0 0, .slice none 0 0, .slice none 0 0, .int .i64 0] rfl rfl 46 #[.slice none 0 0, .slice none 0 0, .slice none 0 0, .slice none 0 0, .int .i64 0] ?hg (by kernel_rfl) rfl HO.out ?_; (exact HN4.out); generalize (w6.alloc (.cells #[.slice none 0 0, .slice none 0 0, .slice none 0 0, .slice none 0 0, .int .i64 0] 46)).setRow w6.heap.size #[.slice none 0 0, .slice none 0 0, .slice none 0 0, .slice none 0 0, .int .i64 0] = w7 at HB8 ⊢; refine Shut.out ?_)
      delta Shut
      go_wp2_with (go_at_call 18; refine (HU.out _).mono ?_; rintro e w8 ⟨rfl, ⟨m4, rfl⟩⟩)
      go_ret
      exact ⟨rfl, pw_below_drewN HB8.out _⟩
end
end Go.Proofs.Ytigpcfokmbnlaaa.Sched
