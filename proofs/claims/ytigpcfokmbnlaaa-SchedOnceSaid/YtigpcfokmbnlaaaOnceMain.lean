/- SchedOnce: the law's own walk, where a plan is made. -/
import Derived.Test.YtigpcfokmbnlaaaSchedOnceWalk
import Derived.BigQuiet
import Derived.IntWalk
namespace Go.Proofs.Ytigpcfokmbnlaaa.Sched
open Go.RowKit Go.Proofs.YtigpcfokmbnlaaaW.PrintWords Go.Proofs.Ytigpcfokmbnlaaa.PSchedPlays

theorem rem_ok2 (t nw : Nat) (h : 1 ≤ nw ∧ nw ≤ 64) : ∃ r : Nat, r < nw ∧ wrap64 ((t : Int) % nw) = r := by
  have h3 : t % nw < nw := Nat.mod_lt _ (by omega)
  rw [show (t : Int) % (nw : Int) = ((t % nw : Nat) : Int) by omega]
  generalize t % nw = r at h3
  exact ⟨r, h3, by unfold wrap64; omega⟩
theorem rem_ok (q : Int) (nw : Nat) (h : 1 ≤ nw ∧ nw ≤ 64) : ∃ r : Nat, r < nw ∧ wrap64 ((IntKind.u64.wrap q).tmod nw) = r := by
  have h0 : 0 ≤ IntKind.u64.wrap q := by simp only [IntKind.wrap]; exact Int.emod_nonneg _ (by decide)
  generalize IntKind.u64.wrap q = z at h0
  have h1 : z.tmod nw = z % nw := Int.tmod_eq_emod_of_nonneg h0
  have h2 : 0 ≤ z % (nw : Int) := Int.emod_nonneg _ (by omega)
  have h3 : z % (nw : Int) < nw := Int.emod_lt_of_pos _ (by omega)
  rw [h1]
  obtain ⟨r, hr⟩ := Int.eq_ofNat_of_zero_le h2
  rw [hr] at h3 ⊢
  exact ⟨r, by omega, by unfold wrap64; omega⟩
section
variable (A0 : Option Addr) (c0 : Nat) (L : List (List Int)) (A1 : Option Addr) (c1 : Nat) (idle : List Bool) (n : Int) (A2 : Option Addr) (c2 : Nat) (picks : List Int) (w : World)
set_option maxHeartbeats 8000000 in
set_option maxRecDepth 100000 in
theorem once_main (hr0 : Kd.C (Kd.slice 3 (Kd.int .i64)) w A0 L.length L) (hc0 : L.length ≤ c0) (hr1 : Kd.C Kd.bool w A1 idle.length idle) (hc1 : idle.length ≤ c1) (hr2 : Kd.C (Kd.int .i64) w A2 picks.length picks) (hc2 : picks.length ≤ c2) (hlg : largeB L picks = false) (h40 : idle.length ≤ 40) (hgd : goodB L = true) (hid : idle.length = L.length) (nw : Nat) (hnw : n = nw) (hn1 : 1 ≤ nw ∧ nw ≤ 64) :
    Calls Try.prog 4 #[.agg #[.slice A0 L.length c0, .slice A1 idle.length c1, .int .i64 n], .slice A2 picks.length c2] w fun e w' => e = .returned (.bool true) ∧ Below w.heap.size w w' := by
  have HL : Aside0 (∀ W, Below w.heap.size w W → Calls Try.prog 8 #[.slice A0 L.length c0, .slice A2 picks.length c2] W fun e w' => e = .returned (.bool (largeB L picks)) ∧ Drawn0 W w') := ⟨fun W hb => large_calls A0 c0 L A2 c2 picks W (Kd.C_below hr0 hb) hc0 (Kd.C_below hr2 hb) hc2⟩
  have HX : Aside0 (∀ w1, Below (w.heap.size + 1) (w.alloc (.cells #[.slice A0 L.length c0, .slice A1 idle.length c1, .int .i64 n] 37)) w1 → Below w.heap.size w w1 ∧ Box A0 c0 L A1 c1 idle n w1 w.heap.size) := ⟨fun w1 hb => ⟨below_trans (below_alloc (Below.refl _ _) _) (hb.mono (Nat.le_succ _)), ⟨by rw [hb.block _ (Nat.lt_succ_self _)]; exact heap_alloc_new _ _⟩⟩⟩
  subst hnw
  obtain ⟨hsz, hrows, -⟩ := large_false L picks hlg
  have HRW := Aside0.mk (rowsAt_mono' hrows (show 40 ≤ 1000 by omega))
  have HGD := Aside0.mk hgd
  have HN : Aside0 (∀ W, Below w.heap.size w W → Calls Try.prog 10 #[.slice A0 L.length c0, .slice A1 idle.length c1, .int .i64 nw] W fun e w' => ∃ P ts has left, e = .returned (.tuple #[.pointer (some ⟨P.gp, 0, none⟩), .nilIface]) ∧ OnceS L idle nw ts has left 0 ∧ ts.map T.state = idle.map idleS ∧
      W.heap.size ≤ P.gp ∧ W.heap.size ≤ P.gt ∧ W.heap.size ≤ P.gh ∧ IsPlan w' P ts has 0 left ∧ Below W.heap.size W w') := ⟨fun W hb => by
    have hn := new_good A0 c0 L A1 c1 idle nw W (by omega) HRW.out (Kd.C_below hr0 hb) hc0 (Kd.C_below hr1 hb) hc1 hgd hid hn1
    refine hn.mono ?_
    rintro e w' ⟨P, ts, rfl, hts, h1, h2, h3, hP, hB⟩
    obtain ⟨q1, q2⟩ := once_new L HGD.out HRW.out (by omega) ts hts idle hid nw
    exact ⟨P, _, _, _, rfl, q1, q2, h1, h2, h3, hP, hB⟩⟩
  rw [hlg] at HL
  have b40 : decide (40 < (idle.length : Int)) = false := by simp; omega
  have b41 : decide (40 < idle.length) = false := by simp; omega
  have HR0 := Aside0.mk hr0
  have HR1 := Aside0.mk hr1
  have HR2 := Aside0.mk hr2
  have HID := Aside0.mk hid
  have hmk := make38 L.length (by omega)
  clear hlg hr0 hr1 hr2 hrows hgd hid
  go_enter Try.func4, Try.ntmps4
  go_wp2_with fail
  refine (alive_calls _).mono ?_
  rintro e w1 ⟨rfl, hb1⟩
  rw [World.size_alloc] at hb1
  obtain ⟨hb, hx⟩ := HX.out w1 hb1
  obtain ⟨x0, x1, x2⟩ := hx.cells
  go_wp2_with (go_at_call 8; refine (HL.out _ hb).mono ?_; rintro e w2 ⟨rfl, ⟨m2, rfl⟩⟩)
  refine (HN.out _ (pw_below_drewN hb _)).mono ?_
  rintro e w4 ⟨P, ts0, has0, left0, rfl, ho, hst0, hg1, hg2, hg3, hP, hB⟩
  have hgx := hx.lt
  have hx4 : Box A0 c0 L A1 c1 idle nw w4 w.heap.size := hx.below ((pw_below_drewN (Below.refl _ _) m2).trans hB) hgx
  have HB4 : Aside0 (Below w.heap.size w w4) := ⟨(pw_below_drewN hb m2).trans (hB.mono (show w.heap.size ≤ w1.heap.size by omega))⟩
  replace hg1 : w.heap.size < P.gp := Nat.lt_of_lt_of_le hgx hg1
  replace hg2 : w.heap.size < P.gt := Nat.lt_of_lt_of_le hgx hg2
  replace hg3 : w.heap.size < P.gh := Nat.lt_of_lt_of_le hgx hg3
  have HO0 := Aside0.mk ho
  have HS0 := Aside0.mk hst0
  have HP0 := Aside0.mk hP
  have HX4 := Aside0.mk hx4
  have HG := Aside0.mk (And.intro hg1 (And.intro hg2 hg3))
  clear x0 x1 x2 hb1 hb hx hgx ho hst0 hP hB hg1 hg2 hg3 hx4 HX HL HN
  obtain ⟨x0, x1, x2⟩ := HX4.out.cells
  have HX5 : Aside0 (Box A0 c0 L A1 c1 idle nw (w4.alloc (.cells (nums .i64 (List.replicate L.length 0)).toArray 3)) w.heap.size) := ⟨HX4.out.below (below_alloc (Below.refl _ _) _) HX4.out.lt⟩
  have HR5 : Aside0 (IsRow (w4.alloc (.cells (nums .i64 (List.replicate L.length 0)).toArray 3)) w4.heap.size (upS idle 0)) := ⟨by unfold IsRow upS; rw [HID.out]; exact heap_alloc_new _ _⟩
  have HP5 : Aside0 (IsPlan (w4.alloc (.cells (nums .i64 (List.replicate L.length 0)).toArray 3)) P ts0 has0 0 left0) := ⟨HP0.out.keep (below_alloc (Below.refl _ _) _)⟩
  have HT5 : Aside0 (Stp w4 (w4.alloc (.cells (nums .i64 (List.replicate L.length 0)).toArray 3)) P) := ⟨(Stp.refl _ _).alloc _⟩
  have HB5 : Aside0 (Below w.heap.size w (w4.alloc (.cells (nums .i64 (List.replicate L.length 0)).toArray 3))) := ⟨below_alloc HB4.out _⟩
  have z0 := HX5.out.cells.1
  have z1 := HX5.out.cells.2.1
  have z2 := HX5.out.cells.2.2
  have HG4 : Aside0 (P.gp < w4.heap.size ∧ P.gt < w4.heap.size ∧ P.gh < w4.heap.size ∧ w.heap.size < w4.heap.size) := ⟨⟨HP0.out.lts.1, HP0.out.lts.2.1, HP0.out.lts.2.2, HX4.out.lt⟩⟩
  go_wp2
  clear x0 x1 x2 z0 z1 z2 hmk
  generalize w4.alloc (.cells (nums .i64 (List.replicate L.length 0)).toArray 3) = w5 at HX5 HR5 HP5 HT5 HB5 ⊢
  generalize hgs : w4.heap.size = gs at HR5 ⊢
  go_loopw [9, 52] (fun b v wr => ∃ (i bz : Nat), i ≤ idle.length ∧ b = .int .i64 bz ∧ v = .int .i64 i ∧ Aside0 (bz = busyN (idle.take i)) ∧ Aside0 (Box A0 c0 L A1 c1 idle nw wr w.heap.size) ∧ Aside0 (IsRow wr gs (upS idle i)) ∧ Aside0 (IsPlan wr P ts0 has0 0 left0) ∧ Aside0 (Stp w4 wr P) ∧ Aside0 (Below w.heap.size w wr)) (fun _ v _ => idle.length - (intOf v).toNat)
  case atStart => exact ⟨0, 0, by omega, rfl, rfl, ⟨rfl⟩, HX5, HR5, HP5, HT5, HB5⟩
  case round =>
    clear HX5 HR5 HP5 HT5 HB5
    obtain ⟨i, bz, hi, rfl, rfl, HBZ, HX, HR, HP, HT, HB⟩ := hrel
    have hbz : bz ≤ 40 := by
      have h1 : busyN (idle.take i) ≤ (idle.take i).length := List.countP_le_length
      have h2 := HBZ.out
      rw [List.length_take] at h1
      omega
    by_cases hlt : i < idle.length
    · have hb : decide (i < idle.length) = true := by simp; omega
      have hi2 : (i : Int) < (idle.length : Int) := by omega
      obtain ⟨ad, hA, hcell⟩ := Kd.at_bool HR1.out (i : Int) (by omega) (by omega)
      rw [Int.toNat_natCast] at hcell
      replace hcell := (HB.out.cell (World.block_lt_of_cell? w _ hcell)).trans hcell
      have hE : idle.getD i false = rdOf false idle i := by simp [rdOf]
      have HUP : Aside0 (upS idle (i + 1) = if idle.getD i false then (upS idle i).set i 3 else upS idle i) := ⟨rfl⟩
      have HBU : Aside0 (busyN (idle.take (i + 1)) = busyN (idle.take i) + if idle.getD i false then 0 else 1) := ⟨busy_take idle i hlt⟩
      rw [hE] at HUP HBU
      clear hE
      generalize rdOf false idle i = bv at hcell HUP HBU
      have hL2 : (i : Int) < (L.length : Int) := by have := HID.out; omega
      have hcr := HR.out.cell i (by rw [upS_len]; exact hlt)
      have hfr := HR.out.fr i
      generalize (upS idle i).getD i 0 = old at hcr
      rw [hA]
      cases bv
      · go_wp2
        go_roundw
        case rel => exact ⟨i + 1, bz + 1, by omega, by go_num, by go_num, ⟨by rw [HBU.out, HBZ.out]; rfl⟩, by rw [← hA]; exact HX, ⟨by rw [HUP.out]; exact HR.out⟩, HP, HT, HB⟩
        case measure => simp [intOf]; omega
      · go_wp2
        have hg4 := HG4.out
        have HT6 : Aside0 (Stp w4 (wr.setCell ⟨gs, i, none⟩ (.int .i64 3)) P) := ⟨HT.out.setNew (by show w4.heap.size ≤ gs; omega) _⟩
        have HP6 : Aside0 (IsPlan (wr.setCell ⟨gs, i, none⟩ (.int .i64 3)) P ts0 has0 0 left0) := ⟨HP0.out.rebuild HT6.out HP.out (SameRows.refl _) (fun k hk => Below.heap_setCell _ _ _ _ (by show k ≠ gs; rcases hk with rfl | rfl | rfl <;> omega))⟩
        have HX6 : Aside0 (Box A0 c0 L A1 c1 idle nw (wr.setCell ⟨gs, i, none⟩ (.int .i64 3)) w.heap.size) := ⟨HX.out.set _ _ (by show w.heap.size ≠ gs; omega)⟩
        have HB6 : Aside0 (Below w.heap.size w (wr.setCell ⟨gs, i, none⟩ (.int .i64 3))) := ⟨HB.out.setCell (by show w.heap.size ≤ gs; omega) _⟩
        have HR6 : Aside0 (IsRow (wr.setCell ⟨gs, i, none⟩ (.int .i64 3)) gs (upS idle (i + 1))) := ⟨by rw [HUP.out]; exact HR.out.set i 3⟩
        go_roundw
        case rel => exact ⟨i + 1, bz, by omega, by go_num, by go_num, ⟨by rw [HBU.out, HBZ.out]; rfl⟩, by rw [← hA]; exact HX6, HR6, HP6, HT6, HB6⟩
        case measure => simp [intOf]; omega
    · have hb : decide (i < idle.length) = false := by simp; omega
      have HBI : Aside0 (bz = busyN idle) := ⟨by rw [HBZ.out, show i = idle.length by omega, List.take_length]⟩
      have HRI : Aside0 (IsRow wr gs (ts0.map T.state)) := ⟨by rw [HS0.out, ← upS_all, ← show i = idle.length by omega]; exact HR.out⟩
      clear HR HBZ
      go_wp2
      go_loopw [66] (fun v wr => ∃ (t : Nat) (ts : List T) (has : List Int) (left : Int), t ≤ 3 * bz ∧ v = .int .i64 t ∧ Aside0 (OnceS L idle nw ts has left t) ∧ Aside0 (IsPlan wr P ts has t left) ∧ Aside0 (SameRows ts0 ts) ∧ Aside0 (Box A0 c0 L A1 c1 idle nw wr w.heap.size) ∧ Aside0 (IsRow wr gs (ts.map T.state)) ∧ Aside0 (Stp w4 wr P) ∧ Aside0 (Below w.heap.size w wr)) (fun v _ => 3 * bz - (intOf v).toNat)
      case atStart => exact ⟨0, ts0, has0, left0, by omega, rfl, HO0, HP, ⟨SameRows.refl _⟩, HX, HRI, HT, HB⟩
      case round =>
        clear HX HRI HP HT HB
        obtain ⟨t, ts, has, left, ht, rfl, HO, HP, HSR, HX, HR, HT, HB⟩ := hrel
        by_cases hlt2 : t < 3 * bz
        · have hb2 : decide ((t : Int) < 3 * (bz : Int)) = true := by simp; omega
          by_cases htp : t < picks.length
          · obtain ⟨ad, hA, hcell⟩ := Kd.at_int HR2.out (t : Int) (by omega) (by omega)
            rw [Int.toNat_natCast] at hcell
            replace hcell := (HB.out.cell (World.block_lt_of_cell? w _ hcell)).trans hcell
            have hb3 : decide (t < picks.length) = true := by simp; omega
            have htp2 : (t : Int) < (picks.length : Int) := by omega
            generalize rd picks t = q at hcell
            obtain ⟨x0, x1, x2⟩ := HX.out.cells
            rw [hA]
            obtain ⟨r, hrn, hre⟩ := rem_ok q nw hn1
            have HRE := Aside0.mk hre
            clear hre
            have hleft := HO.out.left (i := t) (by rw [← HBI.out]; exact hlt2)
            obtain ⟨k, j, wk, us, has', left', hw, hx⟩ := pick_step HP.out HO.out.pinv HGD.out HRW.out (by omega) r (by rw [HO.out.workers]; exact hrn) hleft
            have HW := Aside0.mk hw
            have hjl := hw.lt
            have hk1 := hw.low
            have hk3 := hw.high
            have hO' := HO.out.step hw
            have hst := hw.kind
            have hpk : wrap64 ((t : Int) + 1) = ((t + 1 : Nat) : Int) := by unfold wrap64; omega
            rw [hpk] at hx
            have HX2 : Aside0 (Calls Try.prog 11 #[.pointer (some ⟨P.gp, 0, none⟩), .int .i64 r] wr fun e w' => e = .returned (.tuple #[.agg #[.int .i64 k, .int .i64 j, .int .i64 wk], .nilIface]) ∧ IsPlan w' P us has' ((t + 1 : Nat) : Int) left' ∧ Stp wr w' P) := ⟨hx⟩
            have HO2 := Aside0.mk hO'
            have HST := Aside0.mk hst
            have H2 : Aside0 ((#[.int .i64 k, .int .i64 j, .int .i64 wk] : Array Value).all (·.oneCell') = true) := ⟨ev3_one k j wk⟩
            clear hx hO' hst hw hpk
            go_wp2_with (first | (go_at_call 11; rw [HRE.out]; refine HX2.out.mono ?_; rintro e w5 ⟨rfl, hp5, hs5⟩) | (refine wpList_store_row rfl 33 _ _ rfl _ #[.int .i64 k, .int .i64 j, .int .i64 wk] rfl rfl 33 #[.int .i64 0, .int .i64 0, .int .i64 0] (heap_alloc_new _ _) (by kernel_rfl) rfl H2.out ?_; rw [World.setRow_alloc_new]))
            have hg := HG.out
            have hg4 := HG4.out
            have hgr := HR.out.lt
            have hz := hs5.size
            have HP6 : Aside0 (IsPlan (w5.alloc (.cells #[.int .i64 k, .int .i64 j, .int .i64 wk] 33)) P us has' ((t + 1 : Nat) : Int) left') := ⟨IsPlan.keep hp5 (below_alloc (Below.refl _ _) _)⟩
            have HT6 : Aside0 (Stp w4 (w5.alloc (.cells #[.int .i64 k, .int .i64 j, .int .i64 wk] 33)) P) := ⟨(HT.out.trans hs5).alloc _⟩
            have HX6 : Aside0 (Box A0 c0 L A1 c1 idle nw (w5.alloc (.cells #[.int .i64 k, .int .i64 j, .int .i64 wk] 33)) w.heap.size) := ⟨(HX.out.stp hs5 (by omega) (by omega) (by omega)).below (below_alloc (Below.refl _ _) _) (by have := HX.out.lt; omega)⟩
            have HR6 : Aside0 (IsRow (w5.alloc (.cells #[.int .i64 k, .int .i64 j, .int .i64 wk] 33)) gs (ts.map T.state)) := ⟨(HR.out.stp hs5 (by omega) (by omega) (by omega)).keep (below_alloc (Below.refl _ _) _)⟩
            have HB6 : Aside0 (Below w.heap.size w (w5.alloc (.cells #[.int .i64 k, .int .i64 j, .int .i64 wk] 33))) := ⟨(HB.out.trans (hs5.below (by omega) (by omega) (by omega) HB.out.size)).alloc (by have := HB.out.size; omega) _⟩
            have HN6 : Aside0 ((w5.alloc (.cells #[.int .i64 k, .int .i64 j, .int .i64 wk] 33)).heap[w5.heap.size]? = some (.cells #[.int .i64 k, .int .i64 j, .int .i64 wk] 33 (0, 0))) := ⟨heap_alloc_new _ _⟩
            have hg6 : gs < w5.heap.size := by omega
            have HSR6 : Aside0 (SameRows ts0 us) := ⟨HSR.out.trans HW.out.same⟩
            generalize hV : w5.alloc (.cells #[.int .i64 k, .int .i64 j, .int .i64 wk] 33) = w6 at HP6 HT6 HX6 HR6 HB6 HN6 ⊢
            generalize w5.heap.size = g6 at HN6 hg6 ⊢
            clear hV hp5 hs5 hz HP HT HX HR HB HX2 hcell x0 x1 x2 HRE hgr HSR
            have HLT : Aside0 (ts.length = L.length) := ⟨HO.out.pinv.inv.len⟩
            have hcase : k = 1 ∨ k = 2 ∨ k = 3 := by omega
            have hj1 : decide (L.length ≤ j) = false := by simp; omega
            have hj2 : (j : Int) < (L.length : Int) := by omega
            have HPK : Aside0 (∀ W : World, IsPlan W P us has' ((t + 1 : Nat) : Int) left' → Calls Try.prog 13 #[.pointer (some ⟨P.gp, 0, none⟩)] W fun e w' => e = .returned (.int .i64 ((t : Int) + 1)) ∧ w' = W) := ⟨fun W hW => picks_calls P us has' _ left' W hW⟩
            have r0 := HR6.out.cell j (by rw [List.length_map, HLT.out]; exact hjl)
            rw [map_getD, show (ts.getD j zT).state = k - 1 by have := HST.out; omega] at r0
            have a0 : w6.cell? ⟨g6, 0, none⟩ = some (.int .i64 k) := by rw [cell_of_row _ _ _ _ _ _ HN6.out]; rfl
            have a1 : w6.cell? ⟨g6, 1, none⟩ = some (.int .i64 j) := by rw [cell_of_row _ _ _ _ _ _ HN6.out]; rfl
            have HFR : Aside0 (∀ m : Nat, ∀ p, (w6.drewN m).frozen? ⟨gs, p, none⟩ = false) := ⟨fun m p => (HR6.out.drewN m).fr p⟩
            have hfr : w6.frozen? ⟨gs, j, none⟩ = false := HR6.out.fr j
            have HE : Aside0 (∀ m : Nat, IsPlan ((w6.drewN m).setCell ⟨gs, j, none⟩ (.int .i64 k)) P us has' ((t + 1 : Nat) : Int) left' ∧ Box A0 c0 L A1 c1 idle nw ((w6.drewN m).setCell ⟨gs, j, none⟩ (.int .i64 k)) w.heap.size ∧ IsRow ((w6.drewN m).setCell ⟨gs, j, none⟩ (.int .i64 k)) gs (us.map T.state) ∧ Stp w4 ((w6.drewN m).setCell ⟨gs, j, none⟩ (.int .i64 k)) P ∧ Below w.heap.size w ((w6.drewN m).setCell ⟨gs, j, none⟩ (.int .i64 k))) := ⟨fun m => by
              have hT' : Stp w4 ((w6.drewN m).setCell ⟨gs, j, none⟩ (.int .i64 k)) P := (HT6.out.drewN m).setNew (by show w4.heap.size ≤ gs; omega) _
              refine ⟨HP0.out.rebuild hT' (HP6.out.drewN m) HSR6.out (fun q hq => Below.heap_setCell _ _ _ _ (by show q ≠ gs; rcases hq with rfl | rfl | rfl <;> omega)), Box.set (W := w6.drewN m) ⟨HX6.out.row⟩ _ _ (by show w.heap.size ≠ gs; omega), ?_, hT', (pw_below_drewN HB6.out m).setCell (by show w.heap.size ≤ gs; omega) _⟩
              rw [HW.out.states]
              exact (HR6.out.drewN m).set j k⟩
            clear HFR
            rcases hcase with rfl | rfl | rfl
            · rw [show (1 : Int) - 1 = 0 by rfl] at r0
              have hs1 : IntKind.i64.wrap ((t : Int) + 1) = (t : Int) + 1 := IntWalk.i64_in _ (by omega)
              have hs2 : IntKind.i64.wrap (1 - 1) = 0 := by rfl
              have hd1 : decide ((j : Int) < 0) = false := by simp
              have hd2 : decide ((L.length : Int) ≤ (j : Int)) = false := by simp; omega
              go_quiet ((go_at_call 13; refine Calls.quiet_of_same (HPK.out _ ?_); exact HP6.out.drewN _))
              clear hs1 hs2
              obtain ⟨ad0, A', c', hA0, hx0, hl0, hC0⟩ := at_L1 HR0.out (j : Int) (by omega) (by omega)
              rw [Int.toNat_natCast] at hx0
              replace hx0 := (HB6.out.cell (World.block_lt_of_cell? w _ hx0)).trans hx0
              rw [rd_L1_nat] at hx0 hl0 hC0
              have HC0 := Aside0.mk (Kd.C_below hC0 HB6.out)
              have HLE := Aside0.mk (HW.out.leans rfl)
              have HGM := Aside0.mk (good_mem L HGD.out j hjl)
              have hrl : (L.getD j []).length ≤ 1000 := by
                have e : L.getD j [] = L[j] := by simp [List.getD_eq_getElem?_getD, hjl]
                rw [e]; exact HRW.out _ (List.getElem_mem hjl)
              generalize L.getD j [] = row at hx0 hl0 HC0 HLE HGM hrl
              have x0 : w6.cell? ⟨w.heap.size, 0, none⟩ = some (.slice (some ad0) L.length c0) := by rw [← hA0]; exact HX6.out.cells.1
              clear hC0 hl0
              go_wp2
              go_loopw [131] (fun v wr => ∃ u : Nat, u ≤ row.length ∧ v = .int .i64 u ∧ Drawn0 w6 wr) (fun v _ => row.length - (intOf v).toNat)
              case atStart => exact ⟨0, by omega, rfl, ⟨_, rfl⟩⟩
              case round =>
                obtain ⟨u, hu, rfl, ⟨m, rfl⟩⟩ := hrel
                by_cases hut : u < row.length
                · have hb4 : decide (u < row.length) = true := by simp; omega
                  have hut2 : (u : Int) < (row.length : Int) := by omega
                  obtain ⟨ad5, hA5, hcell5⟩ := Kd.at_int HC0.out (u : Int) (by omega) (by omega)
                  rw [Int.toNat_natCast] at hcell5
                  have hmem : rd row u ∈ row := by unfold rd; rw [Int.toNat_natCast, List.getD_eq_getElem?_getD, List.getElem?_eq_getElem hut]; exact List.getElem_mem hut
                  have hgm := HGM.out _ hmem
                  have hle := HLE.out _ hmem
                  generalize rd row u = q5 at hcell5 hgm hle
                  obtain ⟨q5, rfl⟩ := Int.eq_ofNat_of_zero_le hgm.1
                  have hq5 : q5 < L.length := by omega
                  have hq6 : (q5 : Int) < (L.length : Int) := by omega
                  have r5 := HR6.out.cell q5 (by rw [List.length_map, HLT.out]; exact hq5)
                  rw [map_getD, show (ts.getD q5 zT).state = 3 by rw [Int.toNat_natCast] at hle; exact hle] at r5
                  clear hgm hle hmem
                  rw [hA5]
                  go_wp2
                  try (go_quiet (fail); go_wp2)
                  go_roundw
                  case rel => exact ⟨u + 1, by omega, by go_num, ⟨_, rfl⟩⟩
                  case measure => simp [intOf]; omega
                · have hb4 : decide (u < row.length) = false := by simp; omega
                  go_wp2
                  go_roundw
                  case rel => exact ⟨t + 1, us, has', left', by omega, by go_num, HO2, ⟨(HE.out _).1⟩, HSR6, ⟨(HE.out _).2.1⟩, ⟨(HE.out _).2.2.1⟩, ⟨(HE.out _).2.2.2.1⟩, ⟨(HE.out _).2.2.2.2⟩⟩
                  case measure => simp [intOf]; omega
            · rw [show (2 : Int) - 1 = 1 by rfl] at r0
              have hs1 : IntKind.i64.wrap ((t : Int) + 1) = (t : Int) + 1 := IntWalk.i64_in _ (by omega)
              have hs2 : IntKind.i64.wrap (2 - 1) = 1 := by rfl
              have hd1 : decide ((j : Int) < 0) = false := by simp
              have hd2 : decide ((L.length : Int) ≤ (j : Int)) = false := by simp; omega
              go_quiet ((go_at_call 13; refine Calls.quiet_of_same (HPK.out _ ?_); exact HP6.out.drewN _))
              clear hs1 hs2
              go_wp2
              go_roundw
              case rel => exact ⟨t + 1, us, has', left', by omega, by go_num, HO2, ⟨(HE.out _).1⟩, HSR6, ⟨(HE.out _).2.1⟩, ⟨(HE.out _).2.2.1⟩, ⟨(HE.out _).2.2.2.1⟩, ⟨(HE.out _).2.2.2.2⟩⟩
              case measure => simp [intOf]; omega
            · rw [show (3 : Int) - 1 = 2 by rfl] at r0
              have hs1 : IntKind.i64.wrap ((t : Int) + 1) = (t : Int) + 1 := IntWalk.i64_in _ (by omega)
              have hs2 : IntKind.i64.wrap (3 - 1) = 2 := by rfl
              have hd1 : decide ((j : Int) < 0) = false := by simp
              have hd2 : decide ((L.length : Int) ≤ (j : Int)) = false := by simp; omega
              go_quiet ((go_at_call 13; refine Calls.quiet_of_same (HPK.out _ ?_); exact HP6.out.drewN _))
              clear hs1 hs2
              go_wp2
              go_roundw
              case rel => exact ⟨t + 1, us, has', left', by omega, by go_num, HO2, ⟨(HE.out _).1⟩, HSR6, ⟨(HE.out _).2.1⟩, ⟨(HE.out _).2.2.1⟩, ⟨(HE.out _).2.2.2.1⟩, ⟨(HE.out _).2.2.2.2⟩⟩
              case measure => simp [intOf]; omega
          · have hb3 : decide (t < picks.length) = false := by simp; omega
            have htp2 : ¬ (t : Int) < (picks.length : Int) := by omega
            obtain ⟨x0, x1, x2⟩ := HX.out.cells
            obtain ⟨r, hrn, hre⟩ := rem_ok2 t nw hn1
            have HRE := Aside0.mk hre
            clear hre
            have hleft := HO.out.left (i := t) (by rw [← HBI.out]; exact hlt2)
            obtain ⟨k, j, wk, us, has', left', hw, hx⟩ := pick_step HP.out HO.out.pinv HGD.out HRW.out (by omega) r (by rw [HO.out.workers]; exact hrn) hleft
            have HW := Aside0.mk hw
            have hjl := hw.lt
            have hk1 := hw.low
            have hk3 := hw.high
            have hO' := HO.out.step hw
            have hst := hw.kind
            have hpk : wrap64 ((t : Int) + 1) = ((t + 1 : Nat) : Int) := by unfold wrap64; omega
            rw [hpk] at hx
            have HX2 : Aside0 (Calls Try.prog 11 #[.pointer (some ⟨P.gp, 0, none⟩), .int .i64 r] wr fun e w' => e = .returned (.tuple #[.agg #[.int .i64 k, .int .i64 j, .int .i64 wk], .nilIface]) ∧ IsPlan w' P us has' ((t + 1 : Nat) : Int) left' ∧ Stp wr w' P) := ⟨hx⟩
            have HO2 := Aside0.mk hO'
            have HST := Aside0.mk hst
            have H2 : Aside0 ((#[.int .i64 k, .int .i64 j, .int .i64 wk] : Array Value).all (·.oneCell') = true) := ⟨ev3_one k j wk⟩
            clear hx hO' hst hw hpk
            go_wp2_with (first | (go_at_call 11; rw [HRE.out]; refine HX2.out.mono ?_; rintro e w5 ⟨rfl, hp5, hs5⟩) | (refine wpList_store_row rfl 33 _ _ rfl _ #[.int .i64 k, .int .i64 j, .int .i64 wk] rfl rfl 33 #[.int .i64 0, .int .i64 0, .int .i64 0] (heap_alloc_new _ _) (by kernel_rfl) rfl H2.out ?_; rw [World.setRow_alloc_new]))
            have hg := HG.out
            have hg4 := HG4.out
            have hgr := HR.out.lt
            have hz := hs5.size
            have HP6 : Aside0 (IsPlan (w5.alloc (.cells #[.int .i64 k, .int .i64 j, .int .i64 wk] 33)) P us has' ((t + 1 : Nat) : Int) left') := ⟨IsPlan.keep hp5 (below_alloc (Below.refl _ _) _)⟩
            have HT6 : Aside0 (Stp w4 (w5.alloc (.cells #[.int .i64 k, .int .i64 j, .int .i64 wk] 33)) P) := ⟨(HT.out.trans hs5).alloc _⟩
            have HX6 : Aside0 (Box A0 c0 L A1 c1 idle nw (w5.alloc (.cells #[.int .i64 k, .int .i64 j, .int .i64 wk] 33)) w.heap.size) := ⟨(HX.out.stp hs5 (by omega) (by omega) (by omega)).below (below_alloc (Below.refl _ _) _) (by have := HX.out.lt; omega)⟩
            have HR6 : Aside0 (IsRow (w5.alloc (.cells #[.int .i64 k, .int .i64 j, .int .i64 wk] 33)) gs (ts.map T.state)) := ⟨(HR.out.stp hs5 (by omega) (by omega) (by omega)).keep (below_alloc (Below.refl _ _) _)⟩
            have HB6 : Aside0 (Below w.heap.size w (w5.alloc (.cells #[.int .i64 k, .int .i64 j, .int .i64 wk] 33))) := ⟨(HB.out.trans (hs5.below (by omega) (by omega) (by omega) HB.out.size)).alloc (by have := HB.out.size; omega) _⟩
            have HN6 : Aside0 ((w5.alloc (.cells #[.int .i64 k, .int .i64 j, .int .i64 wk] 33)).heap[w5.heap.size]? = some (.cells #[.int .i64 k, .int .i64 j, .int .i64 wk] 33 (0, 0))) := ⟨heap_alloc_new _ _⟩
            have hg6 : gs < w5.heap.size := by omega
            have HSR6 : Aside0 (SameRows ts0 us) := ⟨HSR.out.trans HW.out.same⟩
            generalize hV : w5.alloc (.cells #[.int .i64 k, .int .i64 j, .int .i64 wk] 33) = w6 at HP6 HT6 HX6 HR6 HB6 HN6 ⊢
            generalize w5.heap.size = g6 at HN6 hg6 ⊢
            clear hV hp5 hs5 hz HP HT HX HR HB HX2 x0 x1 x2 HRE hgr HSR
            have HLT : Aside0 (ts.length = L.length) := ⟨HO.out.pinv.inv.len⟩
            have hcase : k = 1 ∨ k = 2 ∨ k = 3 := by omega
            have hj1 : decide (L.length ≤ j) = false := by simp; omega
            have hj2 : (j : Int) < (L.length : Int) := by omega
            have HPK : Aside0 (∀ W : World, IsPlan W P us has' ((t + 1 : Nat) : Int) left' → Calls Try.prog 13 #[.pointer (some ⟨P.gp, 0, none⟩)] W fun e w' => e = .returned (.int .i64 ((t : Int) + 1)) ∧ w' = W) := ⟨fun W hW => picks_calls P us has' _ left' W hW⟩
            have r0 := HR6.out.cell j (by rw [List.length_map, HLT.out]; exact hjl)
            rw [map_getD, show (ts.getD j zT).state = k - 1 by have := HST.out; omega] at r0
            have a0 : w6.cell? ⟨g6, 0, none⟩ = some (.int .i64 k) := by rw [cell_of_row _ _ _ _ _ _ HN6.out]; rfl
            have a1 : w6.cell? ⟨g6, 1, none⟩ = some (.int .i64 j) := by rw [cell_of_row _ _ _ _ _ _ HN6.out]; rfl
            have HFR : Aside0 (∀ m : Nat, ∀ p, (w6.drewN m).frozen? ⟨gs, p, none⟩ = false) := ⟨fun m p => (HR6.out.drewN m).fr p⟩
            have hfr : w6.frozen? ⟨gs, j, none⟩ = false := HR6.out.fr j
            have HE : Aside0 (∀ m : Nat, IsPlan ((w6.drewN m).setCell ⟨gs, j, none⟩ (.int .i64 k)) P us has' ((t + 1 : Nat) : Int) left' ∧ Box A0 c0 L A1 c1 idle nw ((w6.drewN m).setCell ⟨gs, j, none⟩ (.int .i64 k)) w.heap.size ∧ IsRow ((w6.drewN m).setCell ⟨gs, j, none⟩ (.int .i64 k)) gs (us.map T.state) ∧ Stp w4 ((w6.drewN m).setCell ⟨gs, j, none⟩ (.int .i64 k)) P ∧ Below w.heap.size w ((w6.drewN m).setCell ⟨gs, j, none⟩ (.int .i64 k))) := ⟨fun m => by
              have hT' : Stp w4 ((w6.drewN m).setCell ⟨gs, j, none⟩ (.int .i64 k)) P := (HT6.out.drewN m).setNew (by show w4.heap.size ≤ gs; omega) _
              refine ⟨HP0.out.rebuild hT' (HP6.out.drewN m) HSR6.out (fun q hq => Below.heap_setCell _ _ _ _ (by show q ≠ gs; rcases hq with rfl | rfl | rfl <;> omega)), Box.set (W := w6.drewN m) ⟨HX6.out.row⟩ _ _ (by show w.heap.size ≠ gs; omega), ?_, hT', (pw_below_drewN HB6.out m).setCell (by show w.heap.size ≤ gs; omega) _⟩
              rw [HW.out.states]
              exact (HR6.out.drewN m).set j k⟩
            clear HFR
            rcases hcase with rfl | rfl | rfl
            · rw [show (1 : Int) - 1 = 0 by rfl] at r0
              have hs1 : IntKind.i64.wrap ((t : Int) + 1) = (t : Int) + 1 := IntWalk.i64_in _ (by omega)
              have hs2 : IntKind.i64.wrap (1 - 1) = 0 := by rfl
              have hd1 : decide ((j : Int) < 0) = false := by simp
              have hd2 : decide ((L.length : Int) ≤ (j : Int)) = false := by simp; omega
              go_quiet ((go_at_call 13; refine Calls.quiet_of_same (HPK.out _ ?_); exact HP6.out.drewN _))
              clear hs1 hs2
              obtain ⟨ad0, A', c', hA0, hx0, hl0, hC0⟩ := at_L1 HR0.out (j : Int) (by omega) (by omega)
              rw [Int.toNat_natCast] at hx0
              replace hx0 := (HB6.out.cell (World.block_lt_of_cell? w _ hx0)).trans hx0
              rw [rd_L1_nat] at hx0 hl0 hC0
              have HC0 := Aside0.mk (Kd.C_below hC0 HB6.out)
              have HLE := Aside0.mk (HW.out.leans rfl)
              have HGM := Aside0.mk (good_mem L HGD.out j hjl)
              have hrl : (L.getD j []).length ≤ 1000 := by
                have e : L.getD j [] = L[j] := by simp [List.getD_eq_getElem?_getD, hjl]
                rw [e]; exact HRW.out _ (List.getElem_mem hjl)
              generalize L.getD j [] = row at hx0 hl0 HC0 HLE HGM hrl
              have x0 : w6.cell? ⟨w.heap.size, 0, none⟩ = some (.slice (some ad0) L.length c0) := by rw [← hA0]; exact HX6.out.cells.1
              clear hC0 hl0
              go_wp2
              go_loopw [131] (fun v wr => ∃ u : Nat, u ≤ row.length ∧ v = .int .i64 u ∧ Drawn0 w6 wr) (fun v _ => row.length - (intOf v).toNat)
              case atStart => exact ⟨0, by omega, rfl, ⟨_, rfl⟩⟩
              case round =>
                obtain ⟨u, hu, rfl, ⟨m, rfl⟩⟩ := hrel
                by_cases hut : u < row.length
                · have hb4 : decide (u < row.length) = true := by simp; omega
                  have hut2 : (u : Int) < (row.length : Int) := by omega
                  obtain ⟨ad5, hA5, hcell5⟩ := Kd.at_int HC0.out (u : Int) (by omega) (by omega)
                  rw [Int.toNat_natCast] at hcell5
                  have hmem : rd row u ∈ row := by unfold rd; rw [Int.toNat_natCast, List.getD_eq_getElem?_getD, List.getElem?_eq_getElem hut]; exact List.getElem_mem hut
                  have hgm := HGM.out _ hmem
                  have hle := HLE.out _ hmem
                  generalize rd row u = q5 at hcell5 hgm hle
                  obtain ⟨q5, rfl⟩ := Int.eq_ofNat_of_zero_le hgm.1
                  have hq5 : q5 < L.length := by omega
                  have hq6 : (q5 : Int) < (L.length : Int) := by omega
                  have r5 := HR6.out.cell q5 (by rw [List.length_map, HLT.out]; exact hq5)
                  rw [map_getD, show (ts.getD q5 zT).state = 3 by rw [Int.toNat_natCast] at hle; exact hle] at r5
                  clear hgm hle hmem
                  rw [hA5]
                  go_wp2
                  try (go_quiet (fail); go_wp2)
                  go_roundw
                  case rel => exact ⟨u + 1, by omega, by go_num, ⟨_, rfl⟩⟩
                  case measure => simp [intOf]; omega
                · have hb4 : decide (u < row.length) = false := by simp; omega
                  go_wp2
                  go_roundw
                  case rel => exact ⟨t + 1, us, has', left', by omega, by go_num, HO2, ⟨(HE.out _).1⟩, HSR6, ⟨(HE.out _).2.1⟩, ⟨(HE.out _).2.2.1⟩, ⟨(HE.out _).2.2.2.1⟩, ⟨(HE.out _).2.2.2.2⟩⟩
                  case measure => simp [intOf]; omega
            · rw [show (2 : Int) - 1 = 1 by rfl] at r0
              have hs1 : IntKind.i64.wrap ((t : Int) + 1) = (t : Int) + 1 := IntWalk.i64_in _ (by omega)
              have hs2 : IntKind.i64.wrap (2 - 1) = 1 := by rfl
              have hd1 : decide ((j : Int) < 0) = false := by simp
              have hd2 : decide ((L.length : Int) ≤ (j : Int)) = false := by simp; omega
              go_quiet ((go_at_call 13; refine Calls.quiet_of_same (HPK.out _ ?_); exact HP6.out.drewN _))
              clear hs1 hs2
              go_wp2
              go_roundw
              case rel => exact ⟨t + 1, us, has', left', by omega, by go_num, HO2, ⟨(HE.out _).1⟩, HSR6, ⟨(HE.out _).2.1⟩, ⟨(HE.out _).2.2.1⟩, ⟨(HE.out _).2.2.2.1⟩, ⟨(HE.out _).2.2.2.2⟩⟩
              case measure => simp [intOf]; omega
            · rw [show (3 : Int) - 1 = 2 by rfl] at r0
              have hs1 : IntKind.i64.wrap ((t : Int) + 1) = (t : Int) + 1 := IntWalk.i64_in _ (by omega)
              have hs2 : IntKind.i64.wrap (3 - 1) = 2 := by rfl
              have hd1 : decide ((j : Int) < 0) = false := by simp
              have hd2 : decide ((L.length : Int) ≤ (j : Int)) = false := by simp; omega
              go_quiet ((go_at_call 13; refine Calls.quiet_of_same (HPK.out _ ?_); exact HP6.out.drewN _))
              clear hs1 hs2
              go_wp2
              go_roundw
              case rel => exact ⟨t + 1, us, has', left', by omega, by go_num, HO2, ⟨(HE.out _).1⟩, HSR6, ⟨(HE.out _).2.1⟩, ⟨(HE.out _).2.2.1⟩, ⟨(HE.out _).2.2.2.1⟩, ⟨(HE.out _).2.2.2.2⟩⟩
              case measure => simp [intOf]; omega
        · have hb2 : decide ((t : Int) < 3 * (bz : Int)) = false := by simp; omega
          have ht3 : t = 3 * busyN idle := by have := HBI.out; omega
          obtain ⟨hl0, hall, hrd⟩ := (by rw [← ht3]; exact HO.out : OnceS L idle nw ts has left (3 * busyN idle)).done
          subst hl0
          have HALL := Aside0.mk hall
          have HPE : Aside0 (Calls Try.prog 11 #[.pointer (some ⟨P.gp, 0, none⟩), .int .i64 0] wr fun e w' => e = .returned (.tuple #[.agg #[.int .i64 0, .int .i64 0, .int .i64 0], .iface 43 (.int .i64 12)]) ∧ Below wr.heap.size wr w') := ⟨pick_end P ts has t 0 wr 0 HP.out (by rw [HO.out.workers]; omega) rfl⟩
          have HRY : Aside0 (∀ W, IsPlan W P ts has t 0 → Calls Try.prog 15 #[.pointer (some ⟨P.gp, 0, none⟩)] W fun e w' => ∃ Av cv, e = .returned (.slice Av 0 cv) ∧ Below W.heap.size W w') := ⟨fun W hW => by
            refine (readyAll_calls P ts has t 0 W hW).mono ?_
            rintro e w' ⟨v, rfl, hR, hB⟩
            rw [hrd] at hR
            obtain ⟨Av, cv, hv⟩ := Kd.R_slice hR
            exact ⟨Av, cv, by rw [hv]; rfl, hB⟩⟩
          have HDN : Aside0 (∀ W, IsPlan W P ts has t 0 → Calls Try.prog 12 #[.pointer (some ⟨P.gp, 0, none⟩)] W fun e w' => e = .returned (.bool true) ∧ w' = W) := ⟨fun W hW => done_calls P ts has t 0 W hW⟩
          have HLF : Aside0 (∀ W, IsPlan W P ts has t 0 → Calls Try.prog 14 #[.pointer (some ⟨P.gp, 0, none⟩)] W fun e w' => e = .returned (.int .i64 0) ∧ w' = W) := ⟨fun W hW => left_calls P ts has t 0 W hW⟩
          have HIS : Aside0 (∀ W, Calls Try.prog 16 #[.iface 43 (.int .i64 12), .int .i64 12] W fun e w' => e = .returned (.bool true) ∧ Drawn0 W w') := ⟨fun W => is_calls 12 12 W (by omega)⟩
          have HLT : Aside0 (ts.length = L.length) := ⟨HO.out.pinv.inv.len⟩
          clear hall hrd
          go_wp2_with (go_at_call 11; refine HPE.out.mono ?_; rintro e w5 ⟨rfl, hb5⟩)
          have HP5 := Aside0.mk (HP.out.keep hb5)
          have HR5 := Aside0.mk (HR.out.keep hb5)
          have HB5 := Aside0.mk (HB.out.trans (hb5.mono HB.out.size))
          clear hb5 HP HR HB HX HT HO HPE
          go_loopw [155] (fun v wr => ∃ u : Nat, u ≤ L.length ∧ v = .int .i64 u ∧ Drawn0 w5 wr) (fun v _ => L.length - (intOf v).toNat)
          case atStart => exact ⟨0, by omega, rfl, ⟨0, rfl⟩⟩
          case round =>
            obtain ⟨u, hu, rfl, ⟨m, rfl⟩⟩ := hrel
            by_cases hut : u < L.length
            · have hb4 : decide (u < L.length) = true := by simp; omega
              have hut2 : (u : Int) < (L.length : Int) := by omega
              have hul : u < (ts.map T.state).length := by rw [List.length_map, HLT.out]; exact hut
              have r5 := HR5.out.cell u hul
              rw [getD_get _ _ hul, HALL.out _ (List.getElem_mem hul)] at r5
              clear hul
              go_wp2
              try (go_quiet (fail); go_wp2)
              go_roundw
              case rel => exact ⟨u + 1, by omega, by go_num, ⟨_, rfl⟩⟩
              case measure => simp [intOf]; omega
            · have hb4 : decide (u < L.length) = false := by simp; omega
              go_wp2_with (first | (go_at_call 12; refine (HDN.out _ (HP5.out.drewN m)).mono ?_; rintro e w6 ⟨rfl, rfl⟩) | (go_at_call 14; refine (HLF.out _ (HP5.out.drewN m)).mono ?_; rintro e w6 ⟨rfl, rfl⟩) | (go_at_call 15; refine (HRY.out _ (HP5.out.drewN m)).mono ?_; rintro e w7 ⟨Av, cv, rfl, hb7⟩) | (go_at_call 16; refine (HIS.out _).mono ?_; rintro e w8 ⟨rfl, ⟨m8, rfl⟩⟩))
              go_ret
              exact ⟨rfl, pw_below_drewN ((pw_below_drewN HB5.out m).trans (hb7.mono HB5.out.size)) _⟩
theorem once_walk (hr0 : Kd.C (Kd.slice 3 (Kd.int .i64)) w A0 L.length L) (hc0 : L.length ≤ c0) (hr1 : Kd.C Kd.bool w A1 idle.length idle) (hc1 : idle.length ≤ c1) (hr2 : Kd.C (Kd.int .i64) w A2 picks.length picks) (hc2 : picks.length ≤ c2) :
    Calls Try.prog 4 #[.agg #[.slice A0 L.length c0, .slice A1 idle.length c1, .int .i64 n], .slice A2 picks.length c2] w fun e w' => e = .returned (.bool true) ∧ Below w.heap.size w w' := by
  cases hlg : largeB L picks with
  | true => exact once_big A0 c0 L A1 c1 idle n A2 c2 picks w hr0 hc0 hr1 hc1 hr2 hc2 (.inl hlg)
  | false =>
    by_cases h40 : 40 < idle.length
    · exact once_big A0 c0 L A1 c1 idle n A2 c2 picks w hr0 hc0 hr1 hc1 hr2 hc2 (.inr ⟨hlg, h40⟩)
    · by_cases hbad : newBad L idle n = 0
      · have h : goodB L = true ∧ idle.length = L.length ∧ ¬ (n < 1 ∨ 64 < n) := by
          unfold newBad at hbad
          by_cases q : (!goodB L || decide (idle.length ≠ L.length)) = true
          · rw [if_pos q] at hbad; omega
          · rw [if_neg q] at hbad
            simp at q
            by_cases q2 : n < 1 ∨ 64 < n
            · rw [if_pos q2] at hbad; omega
            · exact ⟨q.1, q.2, q2⟩
        obtain ⟨hgd, hid, hn⟩ := h
        exact once_main A0 c0 L A1 c1 idle n A2 c2 picks w hr0 hc0 hr1 hc1 hr2 hc2 hlg (by omega) hgd hid n.toNat (by omega) (by omega)
      · exact once_bad A0 c0 L A1 c1 idle n A2 c2 picks w hr0 hc0 hr1 hc1 hr2 hc2 hlg (by omega) hbad
end
end Go.Proofs.Ytigpcfokmbnlaaa.Sched
