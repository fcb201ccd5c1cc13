/- The document's Pick: another worker's task goes on (2). -/
import Derived.Test.YtigpcfokmbnlaaaPlaysI
namespace Go.Proofs.Ytigpcfokmbnlaaa.Sched
open Go.RowKit Go.Proofs.YtigpcfokmbnlaaaW.PrintWords Go.Proofs.Ytigpcfokmbnlaaa.PSchedPlays Go.Proofs.Ytigpcfokmbnlaaa.Ord
section
variable {L : List (List Int)} {ts : List T} {has : List Int} {left : Int} {E R : List Bool} (p : Int) {W : World} {v : MV}
set_option maxHeartbeats 4000000 in
set_option maxRecDepth 100000 in
theorem refPick_other2 (n : Nat) (hn : n < has.length) (h : Mod L ts has left E R) (hsz : L.length ≤ 1000) (hwn : has.length ≤ 1000) (hm : MC W v L E has R) (hl : left ≠ 0) (hL : goodB L = true) (hrow : rowsAt L 1000) (i wk : Nat) (hiL : i < L.length) (hwl : wk < has.length) (hh : has.getD n 0 = -1) (hrl : readyL ts ts.length = []) (hwho : has.getD wk 0 = (i : Int)) (hRn : R.getD wk false = false) (hwk : (ts.getD i zT).worker = wk) (hno : ∀ j, j < i → (ts.getD j zT).worker = -1) :
    Calls Try.prog 19 #[.agg #[.slice v.A L.length v.c, .slice v.AE E.length v.cE, .slice v.AH has.length v.cH, .slice v.AR R.length v.cR, .int .i64 p], .int .i64 n] W fun e w' => ∃ v' : MV, e = .returned (.tuple #[.agg (v'.cells L E has (R.set wk true) (wrap64 (p + 1))), .agg #[.int .i64 2, .int .i64 i, .int .i64 wk], .int .i64 0]) ∧ MCnew W.heap.size v' ∧ v'.A = v.A ∧ MC w' v' L E has (R.set wk true) ∧ Below W.heap.size W w' := by
  have hu46 := Try.underlying46
  have hmh := Kd.C_max hm.h
  have HM := Aside0.mk hm
  have HC : Aside0 (∀ w, Below W.heap.size W w → Calls Try.prog 28 #[.agg #[.slice v.A L.length v.c, .slice v.AE E.length v.cE, .slice v.AH has.length v.cH, .slice v.AR R.length v.cR, .int .i64 p]] w fun e w' => e = .returned (.int .i64 left) ∧ Below w.heap.size w w') := ⟨fun w hw => refLeft_calls p h hsz (hm.below hw)⟩
  have b0 : decide (left = 0) = false := by simp; omega
  have b0' : (left == 0) = false := by simp; omega
  have HSZ : Aside0 (E.length ≤ 1000 ∧ R.length ≤ 1000 ∧ has.length ≤ 1000) := ⟨by rw [h.ended, List.length_map, h.pinv.inv.len]; exact hsz, by rw [h.ranLen]; exact hwn, hwn⟩
  have HPOS : Aside0 (0 < E.length ∧ 0 < has.length ∧ 0 < R.length) := ⟨by rw [h.ended, List.length_map]; exact pos_left h.pinv hl, by omega, by rw [h.ranLen]; omega⟩
  have hiE : i < E.length := by rw [h.ended, List.length_map, h.pinv.inv.len]; exact hiL
  have HM0 := Aside0.mk hm
  have HRL := Aside0.mk h.ranLen
  have HIL := Aside0.mk hiL
  have HWK : Aside0 ((ts.getD i zT).worker = (wk : Int) ∧ ∀ j, j < i → (ts.getD j zT).worker = -1) := ⟨hwk, hno⟩
  have HH : Aside0 (∀ w v', MC w v' L E has R → ∀ j : Nat, j < L.length → Calls Try.prog 30 #[.agg (v'.cells L E has R (wrap64 (p + 1))), .int .i64 j] w fun e w' => e = .returned (.int .i64 (ts.getD j zT).worker) ∧ Below w.heap.size w w') := ⟨fun w v' hm' j hj => refHolder_calls (E := E) (R := R) (wrap64 (p + 1)) h.pinv hwn hm' j hj⟩
  have HRD : Aside0 (∀ w v', MC w v' L E has R → Calls Try.prog 29 #[.agg (v'.cells L E has R (wrap64 (p + 1)))] w fun e w' => ∃ v0 : Value, e = .returned v0 ∧ Kd.R (Kd.int .i64) 3 w' w.heap.size (fun _ => True) v0 [] ∧ Below w.heap.size w w') := ⟨fun w v' hm' => by
    have := refReady_calls (wrap64 (p + 1)) h hL hrow hsz hwn hm'
    rw [hrl] at this
    exact this⟩
  clear hL hrow hrl hwk hno hiL
  clear hm h hl
  have d0 : decide ((n : Int) < 0) = false := by simp
  have d1 : decide ((has.length : Int) ≤ (n : Int)) = false := by simp; omega
  have d1' : decide (has.length ≤ n) = false := by simp; omega
  have HB : Aside0 (Below W.heap.size W (((W.alloc (.cells #[.slice v.A L.length v.c, .slice v.AE E.length v.cE, .slice v.AH has.length v.cH, .slice v.AR R.length v.cR, .int .i64 p] 46)).alloc (.cells #[.slice none 0 0, .slice none 0 0, .slice none 0 0, .slice none 0 0, .int .i64 0] 46)).alloc (.cells #[.int .i64 0, .int .i64 0, .int .i64 0] 50))) := ⟨below_alloc (below_alloc (below_alloc (Below.refl _ _) _) _) _⟩
  have HA := Aside0.mk (alloc3 W (.cells #[.slice v.A L.length v.c, .slice v.AE E.length v.cE, .slice v.AH has.length v.cH, .slice v.AR R.length v.cR, .int .i64 p] 46) (.cells #[.slice none 0 0, .slice none 0 0, .slice none 0 0, .slice none 0 0, .int .i64 0] 46) (.cells #[.int .i64 0, .int .i64 0, .int .i64 0] 50))
  have HC2 := Aside0.mk (HC.out _ HB.out)
  have hwp : IntKind.i64.wrap (p + 1) = wrap64 (p + 1) := by unfold wrap64; exact IntKind.wrap_i64 _
  go_enter Try.func19, Try.ntmps19
  go_wp2_with fail
  refine HC2.out.mono ?_
  rintro e w1 ⟨rfl, hb1⟩
  have H2 := Aside0.mk (blk_below HA.out.2.2 hb1)
  have H4 := Aside0.mk (blk_below HA.out.1 hb1)
  have H5 := Aside0.mk (blk_below HA.out.2.1 hb1)
  have HB1 := Aside0.mk (And.intro (below_step HB.out hb1) (Nat.le_refl W.heap.size))
  clear hb1 HB HA HC HC2
  obtain ⟨g2, hg2⟩ : ∃ g, g = W.heap.size := ⟨_, rfl⟩
  have HB2 : Aside0 (Below W.heap.size W w1 ∧ W.heap.size ≤ g2) := ⟨by rw [hg2]; exact HB1.out⟩
  clear HB1
  rw [← hg2] at H2 H4 H5 ⊢
  clear hg2
  have e0 : w1.cell? ⟨g2, 0, none⟩ = some (.slice v.A L.length v.c) := (blk_cell H2.out 0).trans rfl
  have e1 : w1.cell? ⟨g2, 1, none⟩ = some (.slice v.AE E.length v.cE) := (blk_cell H2.out 1).trans rfl
  have e2 : w1.cell? ⟨g2, 2, none⟩ = some (.slice v.AH has.length v.cH) := (blk_cell H2.out 2).trans rfl
  have e3 : w1.cell? ⟨g2, 3, none⟩ = some (.slice v.AR R.length v.cR) := (blk_cell H2.out 3).trans rfl
  have e4 : w1.cell? ⟨g2, 4, none⟩ = some (.int .i64 p) := (blk_cell H2.out 4).trans rfl
  go_wp2_with fail
  have HM2 : Aside0 (MC w1.drew v L E has R) := ⟨HM.out.below (below_drew1 HB2.out.1)⟩
  have H24 := Aside0.mk (show w1.drew.heap[g2 + 1]? = _ from H4.out)
  have H25 := Aside0.mk (show w1.drew.heap[g2 + 1 + 1]? = _ from H5.out)
  have HB3 : Aside0 (Below W.heap.size W w1.drew ∧ W.heap.size ≤ g2) := ⟨below_drew1 HB2.out.1, HB2.out.2⟩
  have H22 := Aside0.mk (show w1.drew.heap[g2]? = _ from H2.out)
  refine wp_region_held_drew (S := fun W' => W'.cell? ⟨g2, 0, none⟩ = some (.slice v.A L.length v.c) ∧ W'.cell? ⟨g2, 1, none⟩ = some (.slice v.AE E.length v.cE) ∧ W'.cell? ⟨g2, 2, none⟩ = some (.slice v.AH has.length v.cH) ∧ W'.cell? ⟨g2, 3, none⟩ = some (.slice v.AR R.length v.cR) ∧ W'.cell? ⟨g2, 4, none⟩ = some (.int .i64 p)) (by kernel_rfl) ⟨e0, e1, e2, e3, e4⟩ (fun hHeld => ?_)
  clear H2 H4 H5 HB2 HM e0 e1 e2 e3 e4
  generalize w1.drew = w2 at HM2 H24 H25 HB3 H22 hHeld ⊢
  simp only [List.size_toArray, List.length_cons, List.length_nil, Nat.reduceAdd, Array.replicate_succ, Array.replicate_zero, List.push_toArray, List.nil_append, List.cons_append]
  refine takeH 0 (some 28) (.pointer (some ⟨g2, 0, none⟩)) rfl rfl (by kernel_rfl) (by kernel_rfl) (by kernel_rfl) (fun _ _ _ h => h) (by rfl) (by intro w hSw; go_simp) hHeld ?_
  simp only [Act.put, List.setIfInBounds_toArray, List.set_cons_zero, List.set_cons_succ]
  refine takeH 1 (some 29) (.slice v.A L.length v.c) rfl rfl (by kernel_rfl) (by kernel_rfl) (by kernel_rfl) (fun _ _ _ h => h) (by rfl) (by intro w hSw; go_simp) hHeld ?_
  simp only [Act.put, List.setIfInBounds_toArray, List.set_cons_zero, List.set_cons_succ]
  refine takeH 3 (some 31) (.pointer (some ⟨g2, 1, none⟩)) rfl rfl (by kernel_rfl) (by kernel_rfl) (by kernel_rfl) (fun _ _ _ h => h) (by rfl) (by intro w hSw; go_simp) hHeld ?_
  simp only [Act.put, List.setIfInBounds_toArray, List.set_cons_zero, List.set_cons_succ]
  refine takeH 4 (some 32) (.slice v.AE E.length v.cE) rfl rfl (by kernel_rfl) (by kernel_rfl) (by kernel_rfl) (fun _ _ _ h => h) (by rfl) (by intro w hSw; go_simp) hHeld ?_
  simp only [Act.put, List.setIfInBounds_toArray, List.set_cons_zero, List.set_cons_succ]
  refine takeH 7 (some 35) (.pointer (some ⟨g2, 2, none⟩)) rfl rfl (by kernel_rfl) (by kernel_rfl) (by kernel_rfl) (fun _ _ _ h => h) (by rfl) (by intro w hSw; go_simp) hHeld ?_
  simp only [Act.put, List.setIfInBounds_toArray, List.set_cons_zero, List.set_cons_succ]
  refine takeH 8 (some 36) (.slice v.AH has.length v.cH) rfl rfl (by kernel_rfl) (by kernel_rfl) (by kernel_rfl) (fun _ _ _ h => h) (by rfl) (by intro w hSw; go_simp) hHeld ?_
  simp only [Act.put, List.setIfInBounds_toArray, List.set_cons_zero, List.set_cons_succ]
  refine takeH 11 (some 39) (.pointer (some ⟨g2, 3, none⟩)) rfl rfl (by kernel_rfl) (by kernel_rfl) (by kernel_rfl) (fun _ _ _ h => h) (by rfl) (by intro w hSw; go_simp) hHeld ?_
  simp only [Act.put, List.setIfInBounds_toArray, List.set_cons_zero, List.set_cons_succ]
  refine takeH 12 (some 40) (.slice v.AR R.length v.cR) rfl rfl (by kernel_rfl) (by kernel_rfl) (by kernel_rfl) (fun _ _ _ h => h) (by rfl) (by intro w hSw; go_simp) hHeld ?_
  simp only [Act.put, List.setIfInBounds_toArray, List.set_cons_zero, List.set_cons_succ]
  refine takeH 14 (some 42) (.pointer (some ⟨g2, 4, none⟩)) rfl rfl (by kernel_rfl) (by kernel_rfl) (by kernel_rfl) (fun _ _ _ h => h) (by rfl) (by intro w hSw; go_simp) hHeld ?_
  simp only [Act.put, List.setIfInBounds_toArray, List.set_cons_zero, List.set_cons_succ]
  refine takeH 15 (some 43) (.int .i64 p) rfl rfl (by kernel_rfl) (by kernel_rfl) (by kernel_rfl) (fun _ _ _ h => h) (by rfl) (by intro w hSw; go_simp) hHeld ?_
  simp only [Act.put, List.setIfInBounds_toArray, List.set_cons_zero, List.set_cons_succ]
  refine takeH 16 (some 44) (.int .i64 (wrap64 (p + 1))) rfl rfl (by kernel_rfl) (by kernel_rfl) (by kernel_rfl) (fun _ _ _ h => h) (by rfl) (by intro w hSw; go_simp) hHeld ?_
  simp only [Act.put, List.setIfInBounds_toArray, List.set_cons_zero, List.set_cons_succ]
  have HS : Aside0 (∀ w', Below w2.heap.size w2 w' → w'.cell? ⟨g2, 0, none⟩ = some (.slice v.A L.length v.c) ∧ w'.cell? ⟨g2, 1, none⟩ = some (.slice v.AE E.length v.cE) ∧ w'.cell? ⟨g2, 2, none⟩ = some (.slice v.AH has.length v.cH) ∧ w'.cell? ⟨g2, 3, none⟩ = some (.slice v.AR R.length v.cR) ∧ w'.cell? ⟨g2, 4, none⟩ = some (.int .i64 p)) := ⟨fun w' hb => by
    have H := blk_below H22.out hb
    exact ⟨(blk_cell H 0).trans rfl, (blk_cell H 1).trans rfl, (blk_cell H 2).trans rfl, (blk_cell H 3).trans rfl, (blk_cell H 4).trans rfl⟩⟩
  refine nameAct (fun a1 ha1 => ?_)
  have hc0 : can a1 undef undef undef undef undef undef undef undef = a1 := by subst ha1; simp only [can, Act.put, List.setIfInBounds_toArray, List.set_cons_zero, List.set_cons_succ]
  refine wpAnyH_inv (fun l a w' => ∃ (b2 b5 b6 b9 b10 b13 b17 b18 b19 : Bool) (s7 s30 s33 s34 s37 s38 s41 s45 : Value), l = #[true, true, b2, true, true, b5, b6, true, true, b9, b10, true, true, b13, true, true, true, b17, b18, b19] ∧ a = can a1 s7 s30 s33 s34 s37 s38 s41 s45 ∧ R5 w2.heap.size w2 E has R (cp v L (wrap64 (p + 1))) #[.slice none 0 0, .slice none 0 0, .slice none 0 0, .slice none 0 0, .int .i64 0] b2 b5 b6 b9 b10 b13 b17 b18 b19 s7 s30 s33 s34 s37 s38 s41 s45 w') (by kernel_rfl) ?_ ?_ 9 _ _ _ (by decide) ⟨false, false, false, false, false, false, false, false, false, undef, undef, undef, undef, undef, undef, undef, undef, rfl, hc0.symm, R5.start _ _⟩
  · intro l a w' i hI hi
    obtain ⟨b2, b5, b6, b9, b10, b13, b17, b18, b19, s7, s30, s33, s34, s37, s38, s41, s45, rfl, rfl, hR⟩ := hI
    obtain ⟨hlf, o, ho, _⟩ := mem_ready.1 hi
    have hi20 := (Array.getElem?_eq_some_iff.1 ho).1
    rcases cases20 i hi20 with rfl | rfl | rfl | rfl | rfl | rfl | rfl | rfl | rfl | rfl | rfl | rfl | rfl | rfl | rfl | rfl | rfl | rfl | rfl | rfl
    · exact absurd hlf (by simp)
    · exact absurd hlf (by simp)
    · obtain rfl : b2 = false := hlf
      have hN := hR.bsE (Nat.le_refl _)
      refine wpOp_step rfl (fun K hK => value_ (some 30) (w'.alloc (.cells #[] 4)) (.slice (some ⟨w'.heap.size, 0, none⟩) 0 0) (by rfl) rfl (by first | (go_simp; done) | (go_simp; rfl)) ?_)
      refine hK _ _ ⟨HS.out _ hN.bel, true, _, _, _, _, _, _, _, _, _, _, _, _, _, _, _, _, rfl, (by subst ha1; simp only [can, Act.put, List.setIfInBounds_toArray, List.set_cons_zero, List.set_cons_succ]), hN⟩
    · exact absurd hlf (by simp)
    · exact absurd hlf (by simp)
    · obtain rfl : b5 = false := hlf
      obtain rfl : b2 = true := dep_of hi 2 (by kernel_rfl)
      have hE1 : (can a1 s7 s30 s33 s34 s37 s38 s41 s45).eval (.tmp 30) = s30 := by subst ha1; simp only [can, Act.put, Act.eval, List.setIfInBounds_toArray, List.set_cons_zero, List.set_cons_succ]; rfl
      have hE2 : (can a1 s7 s30 s33 s34 s37 s38 s41 s45).eval (.tmp 32) = .slice v.AE E.length v.cE := by subst ha1; simp only [can, Act.put, Act.eval, List.setIfInBounds_toArray, List.set_cons_zero, List.set_cons_succ]; rfl
      refine wpOp_step rfl (fun K hK => ?_)
      refine Kd.R_append_rows_step Kd.bool (Rr := Kd.bool.K _) (w0 := w2) w2.heap.size (by rfl) (.tmp 30) (.tmp 32) 31 4 (.bool false) 1 rfl Try.underlying31 (by kernel_rfl) rfl (by decide) (by decide) s30 [] E v.AE E.length v.cE (fun _ => True) (fun _ => False) hE1 hE2 (O_R (hR.e rfl)) (HM2.out.below hR.bel).e (fun _ _ h => h) (fun _ h => h.elim) (fun _ _ => trivial) hR.bel hR.bel.size (by have := HSZ.out; simp; omega) ?_
      intro v1 w3 hr3 hb3 hg3 hat3
      have hN := hR.apE hr3 hb3 hg3 hat3
      show K ((can a1 s7 s30 s33 s34 s37 s38 s41 s45).put (some 33) v1) w3
      refine hK _ _ ⟨HS.out _ hN.bel, true, true, _, _, _, _, _, _, _, _, _, _, _, _, _, _, _, rfl, (by subst ha1; simp only [can, Act.put, List.setIfInBounds_toArray, List.set_cons_zero, List.set_cons_succ]), hN⟩
    · obtain rfl : b6 = false := hlf
      have hN := hR.bsH (Nat.le_refl _)
      refine wpOp_step rfl (fun K hK => value_ (some 34) (w'.alloc (.cells #[] 3)) (.slice (some ⟨w'.heap.size, 0, none⟩) 0 0) (by rfl) rfl (by first | (go_simp; done) | (go_simp; rfl)) ?_)
      refine hK _ _ ⟨HS.out _ hN.bel, _, _, true, _, _, _, _, _, _, _, _, _, _, _, _, _, _, rfl, (by subst ha1; simp only [can, Act.put, List.setIfInBounds_toArray, List.set_cons_zero, List.set_cons_succ]), hN⟩
    · exact absurd hlf (by simp)
    · exact absurd hlf (by simp)
    · obtain rfl : b9 = false := hlf
      obtain rfl : b6 = true := dep_of hi 6 (by kernel_rfl)
      have hE1 : (can a1 s7 s30 s33 s34 s37 s38 s41 s45).eval (.tmp 34) = s34 := by subst ha1; simp only [can, Act.put, Act.eval, List.setIfInBounds_toArray, List.set_cons_zero, List.set_cons_succ]; rfl
      have hE2 : (can a1 s7 s30 s33 s34 s37 s38 s41 s45).eval (.tmp 36) = .slice v.AH has.length v.cH := by subst ha1; simp only [can, Act.put, Act.eval, List.setIfInBounds_toArray, List.set_cons_zero, List.set_cons_succ]; rfl
      refine wpOp_step rfl (fun K hK => ?_)
      refine Kd.R_append_rows_step (Kd.int .i64) (Rr := (Kd.int .i64).K _) (w0 := w2) w2.heap.size (by rfl) (.tmp 34) (.tmp 36) 38 3 (.int .i64 0) 8 rfl Try.underlying38 (by kernel_rfl) rfl (by decide) (by decide) s34 [] has v.AH has.length v.cH (fun _ => True) (fun _ => False) hE1 hE2 (O_R (hR.h rfl)) (HM2.out.below hR.bel).h (fun _ _ h => h) (fun _ h => h.elim) (fun _ _ => trivial) hR.bel hR.bel.size (by have := HSZ.out; simp; omega) ?_
      intro v1 w3 hr3 hb3 hg3 hat3
      have hN := hR.apH hr3 hb3 hg3
      show K ((can a1 s7 s30 s33 s34 s37 s38 s41 s45).put (some 37) v1) w3
      refine hK _ _ ⟨HS.out _ hN.bel, _, _, true, true, _, _, _, _, _, _, _, _, _, _, _, _, _, rfl, (by subst ha1; simp only [can, Act.put, List.setIfInBounds_toArray, List.set_cons_zero, List.set_cons_succ]), hN⟩
    · obtain rfl : b10 = false := hlf
      have hN := hR.bsR (Nat.le_refl _)
      refine wpOp_step rfl (fun K hK => value_ (some 38) (w'.alloc (.cells #[] 4)) (.slice (some ⟨w'.heap.size, 0, none⟩) 0 0) (by rfl) rfl (by first | (go_simp; done) | (go_simp; rfl)) ?_)
      refine hK _ _ ⟨HS.out _ hN.bel, _, _, _, _, true, _, _, _, _, _, _, _, _, _, _, _, _, rfl, (by subst ha1; simp only [can, Act.put, List.setIfInBounds_toArray, List.set_cons_zero, List.set_cons_succ]), hN⟩
    · exact absurd hlf (by simp)
    · exact absurd hlf (by simp)
    · obtain rfl : b13 = false := hlf
      obtain rfl : b10 = true := dep_of hi 10 (by kernel_rfl)
      have hE1 : (can a1 s7 s30 s33 s34 s37 s38 s41 s45).eval (.tmp 38) = s38 := by subst ha1; simp only [can, Act.put, Act.eval, List.setIfInBounds_toArray, List.set_cons_zero, List.set_cons_succ]; rfl
      have hE2 : (can a1 s7 s30 s33 s34 s37 s38 s41 s45).eval (.tmp 40) = .slice v.AR R.length v.cR := by subst ha1; simp only [can, Act.put, Act.eval, List.setIfInBounds_toArray, List.set_cons_zero, List.set_cons_succ]; rfl
      refine wpOp_step rfl (fun K hK => ?_)
      refine Kd.R_append_rows_step Kd.bool (Rr := Kd.bool.K _) (w0 := w2) w2.heap.size (by rfl) (.tmp 38) (.tmp 40) 31 4 (.bool false) 1 rfl Try.underlying31 (by kernel_rfl) rfl (by decide) (by decide) s38 [] R v.AR R.length v.cR (fun _ => True) (fun _ => False) hE1 hE2 (O_R (hR.r rfl)) (HM2.out.below hR.bel).r (fun _ _ h => h) (fun _ h => h.elim) (fun _ _ => trivial) hR.bel hR.bel.size (by have := HSZ.out; simp; omega) ?_
      intro v1 w3 hr3 hb3 hg3 hat3
      have hN := hR.apR hr3 hb3 hg3 hat3
      show K ((can a1 s7 s30 s33 s34 s37 s38 s41 s45).put (some 41) v1) w3
      refine hK _ _ ⟨HS.out _ hN.bel, _, _, _, _, true, true, _, _, _, _, _, _, _, _, _, _, _, rfl, (by subst ha1; simp only [can, Act.put, List.setIfInBounds_toArray, List.set_cons_zero, List.set_cons_succ]), hN⟩
    · exact absurd hlf (by simp)
    · exact absurd hlf (by simp)
    · exact absurd hlf (by simp)
    · obtain rfl : b17 = false := hlf
      obtain rfl : b5 = true := dep_of hi 5 (by kernel_rfl)
      obtain rfl : b9 = true := dep_of hi 9 (by kernel_rfl)
      obtain rfl : b13 = true := dep_of hi 13 (by kernel_rfl)
      obtain rfl : b6 = true := hR.d9 rfl
      obtain rfl : b10 = true := hR.d13 rfl
      obtain ⟨A3, c3, h33, -, -⟩ := Kd.R_reads (O_R (hR.e (hR.d5 rfl)))
      obtain ⟨A4, c4, h37, -, -⟩ := Kd.R_reads (O_R (hR.h rfl))
      obtain ⟨A5, c5, h41, -, -⟩ := Kd.R_reads (O_R (hR.r rfl))
      simp only [if_true] at h33 h37 h41
      subst h33 h37 h41
      have hN := hR.built
      refine wpOp_step rfl (fun K hK => value_ (some 45) w' (.agg (cp v L (wrap64 (p + 1)) (.slice A3 E.length c3) (.slice A4 has.length c4) (.slice A5 R.length c5))) (by rfl) rfl (by subst ha1; simp only [can, Act.put, List.setIfInBounds_toArray, List.set_cons_zero, List.set_cons_succ]; go_simp; rfl) ?_)
      refine hK _ _ ⟨HS.out _ hN.bel, _, true, true, true, true, true, true, _, _, _, _, _, _, _, _, _, _, rfl, (by subst ha1; simp only [can, Act.put, List.setIfInBounds_toArray, List.set_cons_zero, List.set_cons_succ]), hN⟩
    · obtain rfl : b18 = false := hlf
      have hN := hR.room (Nat.le_refl _)
      refine wpOp_step rfl (fun K hK => value_ (some 7) (w'.alloc (.cells #[.slice none 0 0, .slice none 0 0, .slice none 0 0, .slice none 0 0, .int .i64 0] 46)) (.pointer (some ⟨w'.heap.size, 0, none⟩)) (by rfl) rfl (by first | (go_simp; done) | (go_simp; rfl)) ?_)
      refine hK _ _ ⟨HS.out _ hN.bel, _, _, _, _, _, _, _, true, _, _, _, _, _, _, _, _, _, rfl, (by subst ha1; simp only [can, Act.put, List.setIfInBounds_toArray, List.set_cons_zero, List.set_cons_succ]), hN⟩
    · obtain rfl : b19 = false := hlf
      obtain rfl : b17 = true := dep_of hi 17 (by kernel_rfl)
      obtain rfl : b18 = true := dep_of hi 18 (by kernel_rfl)
      obtain ⟨rfl, rfl, rfl, rfl⟩ := hR.bu rfl
      obtain ⟨g7, rfl, hB7, hg7⟩ := hR.al rfl
      simp only [Bool.false_eq_true, if_false] at hg7
      have hi46 : (Try.prog.info? 46).map (·.size) = some (cp v L (wrap64 (p + 1)) s33 s37 s41).size := by rw [cp_size]; exact i46
      obtain ⟨A3, c3, h33, -, -⟩ := Kd.R_reads (O_R (hR.e (hR.d5 rfl)))
      obtain ⟨A4, c4, h37, -, -⟩ := Kd.R_reads (O_R (hR.h (hR.d9 rfl)))
      obtain ⟨A5, c5, h41, -, -⟩ := Kd.R_reads (O_R (hR.r (hR.d13 rfl)))
      simp only [if_true] at h33 h37 h41
      have hsz : (#[.slice none 0 0, .slice none 0 0, .slice none 0 0, .slice none 0 0, .int .i64 0] : Array Value).size = (cp v L (wrap64 (p + 1)) s33 s37 s41).size := by rw [cp_size]; rfl
      have hone : (cp v L (wrap64 (p + 1)) s33 s37 s41).all (·.oneCell') = true := by rw [h33, h37, h41]; exact cp_one _ _ _ _ _ _ _ _ _ _ _ _
      have hN := hR.stored g7 rfl
      have hE1 : (can a1 (.pointer (some ⟨g7, 0, none⟩)) s30 s33 s34 s37 s38 s41 (.agg (cp v L (wrap64 (p + 1)) s33 s37 s41))).eval (.tmp 7) = .pointer (some ⟨g7, 0, none⟩) := by subst ha1; simp only [can, Act.put, Act.eval, List.setIfInBounds_toArray, List.set_cons_zero, List.set_cons_succ]; rfl
      have hE2 : (can a1 (.pointer (some ⟨g7, 0, none⟩)) s30 s33 s34 s37 s38 s41 (.agg (cp v L (wrap64 (p + 1)) s33 s37 s41))).eval (.tmp 45) = .agg (cp v L (wrap64 (p + 1)) s33 s37 s41) := by subst ha1; simp only [can, Act.put, Act.eval, List.setIfInBounds_toArray, List.set_cons_zero, List.set_cons_succ]; rfl
      obtain ⟨ho1, ho2, ho3⟩ := op_is (ty := 46) (x := .tmp 7) (y := .tmp 45) ho (by kernel_rfl) (by kernel_rfl) (by kernel_rfl)
      refine wpOp_step ho (fun K hK => store_ 46 (.tmp 7) (.tmp 45) (by unfold Region.wanted; rw [ho3]) ho2 ho1 g7 _ hE1 hE2 46 #[.slice none 0 0, .slice none 0 0, .slice none 0 0, .slice none 0 0, .int .i64 0] hg7 hi46 hsz hone ?_)
      refine hK _ _ ⟨HS.out _ hN.bel, _, true, _, true, _, true, true, true, true, _, _, _, _, _, _, _, _, rfl, rfl, hN⟩
  · intro l a w' hI hall
    obtain ⟨b2, b5, b6, b9, b10, b13, b17, b18, b19, s7, s30, s33, s34, s37, s38, s41, s45, rfl, rfl, hR⟩ := hI
    obtain rfl : b2 = true := hall 2 (by decide)
    obtain rfl : b5 = true := hall 5 (by decide)
    obtain rfl : b6 = true := hall 6 (by decide)
    obtain rfl : b9 = true := hall 9 (by decide)
    obtain rfl : b10 = true := hall 10 (by decide)
    obtain rfl : b13 = true := hall 13 (by decide)
    obtain rfl : b17 = true := hall 17 (by decide)
    obtain rfl : b18 = true := hall 18 (by decide)
    obtain rfl : b19 = true := hall 19 (by decide)
    obtain ⟨-, -, -, rfl⟩ := hR.bu rfl
    obtain ⟨D, rfl, rfl, rfl, rfl, hD⟩ := Doc.of5 hR HM2.out HPOS.out.1 HPOS.out.2.1 HPOS.out.2.2
    clear hR hall
    have HD := Aside0.mk hD
    have HG4 : Aside0 (w'.heap[g2 + 1]? = some (.cells #[.slice none 0 0, .slice none 0 0, .slice none 0 0, .slice none 0 0, .int .i64 0] 46 (0, 0)) ∧ W.heap.size ≤ g2 + 1 ∧ g2 + 1 < w2.heap.size) := ⟨blk_below H24.out hD.bel, by have := HB3.out.2; omega, (Array.getElem?_eq_some_iff.1 H24.out).1⟩
    have HG5 : Aside0 (w'.heap[g2 + 1 + 1]? = some (.cells #[.int .i64 0, .int .i64 0, .int .i64 0] 50 (0, 0)) ∧ W.heap.size ≤ g2 + 1 + 1 ∧ g2 + 1 + 1 < w2.heap.size) := ⟨blk_below H25.out hD.bel, by have := HB3.out.2; omega, (Array.getElem?_eq_some_iff.1 H25.out).1⟩
    obtain ⟨f0, f1, f2, f3, f4⟩ := hD.cells
    clear hD H24 H25 H22 hHeld HS
    subst ha1
    simp only [can, Act.put, List.setIfInBounds_toArray, List.set_cons_zero, List.set_cons_succ]
    clear hc0
    have hHc := (O_cell (0 : Int) HD.out.h n hn).1
    rw [hh] at hHc
    have hn2 : (n : Int) < (has.length : Int) := by omega
    have HCC := HRD.out w' (D.mv v) HD.out.mc
    clear HRD HM2
    go_wp2_with fail
    clear f0 f1 f2 f3 f4 hHc
    refine HCC.mono ?_
    rintro e w4 ⟨v0, rfl, hv0, hb4⟩
    obtain ⟨A0, c0, rfl, -, -⟩ := Kd.R_reads hv0
    simp only [List.length_nil]
    have HD4 := Aside0.mk (HD.out.keep hb4)
    have HG4 : Aside0 (w4.heap[g2 + 1]? = some (.cells #[.slice none 0 0, .slice none 0 0, .slice none 0 0, .slice none 0 0, .int .i64 0] 46 (0, 0)) ∧ W.heap.size ≤ g2 + 1 ∧ g2 + 1 < w2.heap.size) := ⟨blk_below HG4.out.1 hb4, HG4.out.2⟩
    have HG5 : Aside0 (w4.heap[g2 + 1 + 1]? = some (.cells #[.int .i64 0, .int .i64 0, .int .i64 0] 50 (0, 0)) ∧ W.heap.size ≤ g2 + 1 + 1 ∧ g2 + 1 + 1 < w2.heap.size) := ⟨blk_below HG5.out.1 hb4, HG5.out.2⟩
    clear HCC HD hv0 hb4
    obtain ⟨f0, f1, f2, f3, f4⟩ := HD4.out.cells
    have hl0 : wrap64 ((L.length : Int) - 1) = (L.length : Int) - 1 := by unfold wrap64; omega
    have HB0 : Aside0 (Below w4.heap.size w4 w4) := ⟨Below.refl _ _⟩
    have HI0 : Aside0 (L.length ≤ i → (n : Int) = wk) := ⟨fun h => by have := HIL.out; omega⟩
    go_wp2_with fail
    clear f0 f1 f2 f3 f4
    go_loopw [8, 10] (fun s8 s10 wr => ∃ (d : Nat) (x wh : Int), d ≤ L.length ∧ s8 = .int .i64 wh ∧ s10 = .int .i64 x ∧ x = (d : Int) - 1 ∧ Aside0 (d ≤ i → wh = (wk : Int)) ∧ Aside0 (Below w4.heap.size w4 wr)) (fun _ s10 _ => (intOf s10 + 1).toNat)
    case atStart => exact ⟨L.length, _, _, Nat.le_refl _, rfl, rfl, by go_num, HI0, HB0⟩
    case round =>
      clear HB0 HI0 hl0
      obtain ⟨d, x, wh, hd, rfl, rfl, hx, HI, HB⟩ := hrel
      have HD := Aside0.mk (HD4.out.keep HB.out)
      rcases Nat.eq_zero_or_pos d with hd0 | hd0
      · have hx1 : x = -1 := by omega
        have hw1 : wh = (wk : Int) := HI.out (by omega)
        subst hx1 hw1
        have HG4 : Aside0 (wr.heap[g2 + 1]? = some (.cells #[.slice none 0 0, .slice none 0 0, .slice none 0 0, .slice none 0 0, .int .i64 0] 46 (0, 0)) ∧ W.heap.size ≤ g2 + 1 ∧ g2 + 1 < w2.heap.size) := ⟨blk_below HG4.out.1 HB.out, HG4.out.2⟩
        have HG5 : Aside0 (wr.heap[g2 + 1 + 1]? = some (.cells #[.int .i64 0, .int .i64 0, .int .i64 0] 50 (0, 0)) ∧ W.heap.size ≤ g2 + 1 + 1 ∧ g2 + 1 + 1 < w2.heap.size) := ⟨blk_below HG5.out.1 HB.out, HG5.out.2⟩
        clear HI HB HD4 hx hd hd0 HH HWK
        have b1 : decide ((i : Int) < 0) = false := by simp
        clear hiE
        obtain ⟨f0, f1, f2, f3, f4⟩ := HD.out.cells
        obtain ⟨hHc, hHf⟩ := O_cell (0 : Int) HD.out.h wk hwl
        obtain ⟨hRc, hRf⟩ := O_cell false HD.out.r wk (by rw [HRL.out]; exact hwl)
        rw [hwho] at hHc
        rw [hRn] at hRc
        have hn2 : (wk : Int) < (has.length : Int) := by omega
        have hn3 : (wk : Int) < (R.length : Int) := by have := HRL.out; omega
        have m1 := HD.out.pe
        have m2 := HD.out.ph
        have m3 := HD.out.pr
        have m1' := HD.out.pe.symm
        have m2' := HD.out.ph.symm
        have m3' := HD.out.pr.symm
        have m4 := HD.out.eh
        have m5 := HD.out.hr
        have m6 := HD.out.er
        have m4' := HD.out.eh.symm
        have m5' := HD.out.hr.symm
        have m6' := HD.out.er.symm
        have HD6 : Aside0 (Doc w2 (wr.setCell ⟨D.gR, wk, none⟩ (.bool true)) v D L E has (R.set wk true) (wrap64 (p + 1))) := ⟨HD.out.setR wk true⟩
        have HG4' : Aside0 ((wr.setCell ⟨D.gR, wk, none⟩ (.bool true)).heap[g2 + 1]? = some (.cells #[.slice none 0 0, .slice none 0 0, .slice none 0 0, .slice none 0 0, .int .i64 0] 46 (0, 0))) := ⟨(set_other _ _ (by have := HD.out.br; have := HG4.out.2.2; omega)).trans HG4.out.1⟩
        have HG5' : Aside0 ((wr.setCell ⟨D.gR, wk, none⟩ (.bool true)).heap[g2 + 1 + 1]? = some (.cells #[.int .i64 0, .int .i64 0, .int .i64 0] 50 (0, 0))) := ⟨(set_other _ _ (by have := HD.out.br; have := HG5.out.2.2; omega)).trans HG5.out.1⟩
        have HSET := Aside0.mk (set2 (c4 := #[.slice v.A L.length v.c, .slice (some ⟨D.gE, 0, none⟩) E.length D.cE, .slice (some ⟨D.gH, 0, none⟩) has.length D.cH, .slice (some ⟨D.gR, 0, none⟩) R.length D.cR, .int .i64 (wrap64 (p + 1))]) (c5 := #[.int .i64 2, .int .i64 (i : Int), .int .i64 (wk : Int)]) HG4'.out HG5'.out (by omega))
        have HO : Aside0 ((#[.slice v.A L.length v.c, .slice (some ⟨D.gE, 0, none⟩) E.length D.cE, .slice (some ⟨D.gH, 0, none⟩) has.length D.cH, .slice (some ⟨D.gR, 0, none⟩) R.length D.cR, .int .i64 (wrap64 (p + 1))] : Array Value).all (·.oneCell') = true) := ⟨by simp [Value.oneCell']⟩
        have HO2 : Aside0 ((#[.int .i64 2, .int .i64 (i : Int), .int .i64 (wk : Int)] : Array Value).all (·.oneCell') = true) := ⟨by simp [Value.oneCell']⟩
        have HFIN := Aside0.mk (HD6.out.fin (c4 := #[.slice v.A L.length v.c, .slice (some ⟨D.gE, 0, none⟩) E.length D.cE, .slice (some ⟨D.gH, 0, none⟩) has.length D.cH, .slice (some ⟨D.gR, 0, none⟩) R.length D.cR, .int .i64 (wrap64 (p + 1))]) (c5 := #[.int .i64 2, .int .i64 (i : Int), .int .i64 (wk : Int)]) HM0.out.l HB3.out.1 HG4.out.2 HG5.out.2)
        clear HD HD6
        go_wp2_with (refine wpList_store_row rfl 46 _ _ rfl _ #[.slice v.A L.length v.c, .slice (some ⟨D.gE, 0, none⟩) E.length D.cE, .slice (some ⟨D.gH, 0, none⟩) has.length D.cH, .slice (some ⟨D.gR, 0, none⟩) R.length D.cR, .int .i64 (wrap64 (p + 1))] rfl rfl 46 #[.slice none 0 0, .slice none 0 0, .slice none 0 0, .slice none 0 0, .int .i64 0] ?hg (by kernel_rfl) rfl HO.out ?_; (exact HG4'.out); generalize (wr.setCell ⟨D.gR, wk, none⟩ (.bool true)) = w6 at HSET HFIN ⊢; clear HG4'; refine Shut.out ?_)
        delta Shut
        refine wpList_store_row rfl 50 _ _ rfl _ #[.int .i64 2, .int .i64 (i : Int), .int .i64 (wk : Int)] rfl rfl 50 #[.int .i64 0, .int .i64 0, .int .i64 0] HSET.out.1 (by kernel_rfl) rfl HO2.out ?_
        go_wp2_with fail
        (try simp only [Exit.inBlock, Exit.then]); refine bodyPost_ret (results_list (rs := [.cell 4 46, .cell 5 50, .tmp 6]) rfl (by simp) (.cell (g2 + 1) 46 #[.slice v.A L.length v.c, .slice (some ⟨D.gE, 0, none⟩) E.length D.cE, .slice (some ⟨D.gH, 0, none⟩) has.length D.cH, .slice (some ⟨D.gR, 0, none⟩) R.length D.cR, .int .i64 (wrap64 (p + 1))] (0, 0) _ rfl HSET.out.2.1 Try.underlying46 rfl (by kernel_rfl) (.cell (g2 + 1 + 1) 50 #[.int .i64 2, .int .i64 (i : Int), .int .i64 (wk : Int)] (0, 0) _ rfl HSET.out.2.2 Try.underlying50 rfl (by kernel_rfl) (.tmp .nil)))) rfl ?_
        refine ⟨D.mv v, ?_, HFIN.out⟩
        simp only [MV.cells, Dp.mv, List.length_set]
        rfl
      · obtain ⟨j, hj⟩ : ∃ j : Nat, x = (j : Int) := ⟨d - 1, by omega⟩
        subst hj
        have hjL : j < L.length := by omega
        obtain ⟨f0, f1, f2, f3, f4⟩ := HD.out.cells
        have HC := Aside0.mk (fun w' (hb : Below wr.heap.size wr w') => HH.out w' (D.mv v) (HD.out.keep hb).mc j hjL)
        have HJ : Aside0 ((j = i → (ts.getD j zT).worker = (wk : Int)) ∧ (j < i → (ts.getD j zT).worker = -1) ∧ (j < i → wh = (wk : Int))) := ⟨fun e => by rw [e]; exact HWK.out.1, HWK.out.2 j, fun h => HI.out (by omega)⟩
        generalize (ts.getD j zT).worker = wj at HC HJ
        clear HI HH HWK HG4 HG5
        have HX := Aside0.mk (And.intro hx hd)
        clear hx hd hd0
        have HC1 := HC.out wr (Below.refl _ _)
        have hge : decide ((0 : Int) ≤ (j : Int)) = true := by simp
        go_wp2_with fail
        refine HC1.mono ?_
        rintro e w5 ⟨rfl, hb5⟩
        have HC2 := HC.out w5 hb5
        have HB5 := Aside0.mk (below_step HB.out hb5)
        obtain ⟨f0, f1, f2, f3, f4⟩ := (HD.out.keep hb5).cells
        clear HC HC1 HB
        by_cases hwj : 0 ≤ wj
        · have b7 : decide (0 ≤ wj) = true := by simp; exact hwj
          have hnew : j ≤ i → wj = (wk : Int) := fun h => by
            rcases Nat.lt_or_ge j i with q | q
            · have := HJ.out.2.1 q; omega
            · exact HJ.out.1 (by omega)
          have HNEW := Aside0.mk hnew
          clear hnew HJ
          clear hb5
          go_wp2_with fail
          refine HC2.mono ?_
          rintro e w6 ⟨rfl, hb6⟩
          have HB6 := Aside0.mk (below_step HB5.out hb6)
          clear hb6 HC2
          go_wp2_with fail
          go_roundw
          case rel => exact ⟨j, _, _, by have := HX.out; omega, rfl, rfl, by go_num, HNEW, HB6⟩
          case measure => simp [intOf]
        · have b7 : decide (0 ≤ wj) = false := by simp; omega
          have hnew : j ≤ i → wh = (wk : Int) := fun h => by
            rcases Nat.lt_or_ge j i with q | q
            · exact HJ.out.2.2 q
            · have := HJ.out.1 (by omega); omega
          have HNEW := Aside0.mk hnew
          clear hnew HJ HC2 hb5
          go_wp2_with fail
          go_roundw
          case rel => exact ⟨j, _, _, by have := HX.out; omega, rfl, rfl, by go_num, HNEW, HB5⟩
          case measure => simp [intOf]
end
end Go.Proofs.Ytigpcfokmbnlaaa.Sched
