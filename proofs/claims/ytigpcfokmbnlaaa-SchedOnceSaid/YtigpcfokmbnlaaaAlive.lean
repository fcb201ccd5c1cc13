/- The contract of the fixed fact 'alive': the chapter's example. -/
import Derived.Test.YtigpcfokmbnlaaaAlive0
namespace Go.Proofs.Ytigpcfokmbnlaaa.Sched
open Go.RowKit Go.Proofs.YtigpcfokmbnlaaaW.PrintWords

/-- A literal of slices of bytes. -/
theorem C_rows (W : World) (e : TypeId) (vs : List Value) (ps : List (List Int)) (hm : ps.length ≤ 9223372036854775807)
    (h : ∀ (j : Nat) (p : List Int), ps[j]? = some p → ∃ (A : Option Addr) (c : Nat), vs[j]? = some (Value.slice A p.length c) ∧ p.length ≤ c ∧ (Kd.int .i64).C W A p.length p) :
    (Kd.slice 3 (Kd.int .i64)).C (W.alloc (.cells vs.toArray e)) (some ⟨W.heap.size, 0, none⟩) ps.length ps := by
  refine ⟨rfl, hm, fun _ => ⟨_, rfl, fun j p hp => ?_⟩⟩
  obtain ⟨A, c, hv, hl, hC⟩ := h j p hp
  refine ⟨[.slice A p.length c], rfl, ⟨A, c, rfl, hl, Kd.C_alloc hC _⟩, fun i u hu => ?_⟩
  cases i with
  | succ i => simp at hu
  | zero =>
    simp at hu
    subst hu
    rw [add_plain, cell_of_row _ _ _ _ _ _ (heap_alloc_new W _)]
    simpa [Kd.slice] using hv
theorem C_rows1 (W : World) (e : TypeId) (A : Option Addr) (c : Nat) (p : List Int) (hl : p.length ≤ c) (hC : (Kd.int .i64).C W A p.length p) :
    (Kd.slice 3 (Kd.int .i64)).C (W.alloc (.cells #[.slice A p.length c] e)) (some ⟨W.heap.size, 0, none⟩) [p].length [p] := by
  refine C_rows W e [.slice A p.length c] [p] (by simp) fun j q hq => ?_
  match j with
  | 0 => simp at hq; subst hq; exact ⟨A, c, rfl, hl, hC⟩
  | j + 1 => simp at hq
theorem C_rows2 (W : World) (e : TypeId) (A : Option Addr) (c : Nat) (p : List Int) (hl : p.length ≤ c) (hC : (Kd.int .i64).C W A p.length p) (A' : Option Addr) (c' : Nat) (p' : List Int) (hl' : p'.length ≤ c') (hC' : (Kd.int .i64).C W A' p'.length p') :
    (Kd.slice 3 (Kd.int .i64)).C (W.alloc (.cells #[.slice A p.length c, .slice A' p'.length c'] e)) (some ⟨W.heap.size, 0, none⟩) [p, p'].length [p, p'] := by
  refine C_rows W e [.slice A p.length c, .slice A' p'.length c'] [p, p'] (by simp) fun j q hq => ?_
  match j with
  | 0 => simp at hq; subst hq; exact ⟨A, c, rfl, hl, hC⟩
  | 1 => simp at hq; subst hq; exact ⟨A', c', rfl, hl', hC'⟩
  | j + 2 => simp at hq

theorem info4 : (Try.prog.info? 4).map (fun i => (i.zero, i.size, i.bytes)) = some (some (.bool false), 1, 1) := by kernel_rfl
theorem make31 (n : Nat) (hn : n ≤ 1000000) (W : World) : (Instr.makeSlice 31 (.int .i64 (n : Int)) (.int .i64 (n : Int))).run Try.prog W = .ok (.slice (some ⟨W.heap.size, 0, none⟩) n n) (W.alloc (.cells (madeCells #[.bool false] n) 4)) :=
  print_make_of 31 4 (.bool false) 1 Try.underlying31 info4 rfl (by decide) n (by omega) W
theorem C_falses (W : World) (n : Nat) (hn : n ≤ 1000000) : Kd.bool.C (W.alloc (.cells (madeCells #[.bool false] n) 4)) (some ⟨W.heap.size, 0, none⟩) (List.replicate n false).length (List.replicate n false) := by
  have h := own_made_of (enc := Value.bool) (d := false) W 0 4 n (Nat.zero_le _) (by omega)
  have h2 : Kd.bool.R 4 (W.alloc (.cells (madeCells #[.bool false] n) 4)) 0 (fun _ => True) (.slice (some ⟨W.heap.size, 0, none⟩) n n) (List.replicate n false) :=
    Kd.R_of_own (enc := Value.bool) (h1 := fun _ => rfl) (by rw [List.length_replicate]; exact h) (fun _ _ => trivial)
  obtain ⟨A, c, he, _, hC⟩ := Kd.R_reads h2
  injection he with e1 _ _
  rw [e1]
  exact hC
def wantC : Array Value := #[.int .i64 1, .int .i64 0, .int .i64 0, .int .i64 2, .int .i64 0, .int .i64 0, .int .i64 3, .int .i64 0, .int .i64 0, .int .i64 1, .int .i64 1, .int .i64 1]
set_option maxHeartbeats 4000000 in
theorem alive_calls (w : World) : Calls Try.prog 7 #[] w fun e w' => e = .returned (.bool true) ∧ Below w.heap.size w w' := by
  have hmk := make31 2 (by omega)
  rw [show ((2 : Nat) : Int) = 2 from rfl] at hmk
  have hR := Kd.C_alloc (C_rows2 (w.alloc (.cells (nums .i64 [0]).toArray 3)) 38 none 0 [] (by simp) (Kd.R_reads' (Kd.R_nil (Kd.int .i64) 3 _ 0 (fun _ => True))).2.2 (some ⟨w.heap.size, 0, none⟩) 1 [0] (by simp) (C_lit .i64 w 3 [0] (by simp))) (.cells (madeCells #[.bool false] 2) 4)
  have hI := C_falses ((w.alloc (.cells (nums .i64 [0]).toArray 3)).alloc (.cells #[.slice none 0 0, .slice (some ⟨w.heap.size, 0, none⟩) 1 1] 38)) 2 (by omega)
  simp only [World.size_alloc] at hR hI
  have HNew := Aside0.mk (new_good (some ⟨w.heap.size + 1, 0, none⟩) 2 [[], [0]] (some ⟨w.heap.size + 1 + 1, 0, none⟩) 2 [false, false] 2 _ (by simp) (by intro l hl; simp at hl; rcases hl with rfl | rfl <;> simp) hR (by simp) hI (by simp) (by rfl) rfl (by omega))
  clear hR hI
  go_enter Try.func7, Try.ntmps7
  go_wp2_with (go_at_call 10; refine HNew.out.mono ?_; rintro e w1 ⟨P, ts, rfl, hts, hB1, hB2, hB3, hPl, hB⟩)
  obtain ⟨A0, A1, c0, c1, rfl⟩ := ex_new hts
  have HPL : Aside0 (exP w1 P A0 A1 c0 c1 0) := ⟨hPl⟩
  have hg1 : P.gp < w1.heap.size := (Array.getElem?_eq_some_iff.1 hPl.plan).1
  have hg2 : P.gt < w1.heap.size := (Array.getElem?_eq_some_iff.1 hPl.tasks).1
  have hg3 : P.gh < w1.heap.size := by obtain ⟨rest, hr⟩ := hPl.hass; exact (Array.getElem?_eq_some_iff.1 hr).1
  have HG := Aside0.mk (And.intro hg1 (And.intro hg2 hg3))
  have HPB := Aside0.mk (And.intro hB1 (And.intro hB2 hB3))
  have HB : Aside0 (Below w.heap.size w w1) := ⟨below_trans ((below_alloc (below_alloc (below_alloc (Below.refl _ _) (.cells (nums .i64 [0]).toArray 3)) (.cells #[.slice none 0 0, .slice (some ⟨w.heap.size, 0, none⟩) 1 1] 38)) (.cells (madeCells #[.bool false] 2) 4))) (hB.mono (by simp; omega))⟩
  clear hts hPl hg1 hg2 hg3 hB1 hB2 hB3 hB hmk HNew
  have HW : Aside0 (((w1.alloc (.cells wantC 33)).alloc (.cells #[.int .i64 0, .int .i64 1, .int .i64 1, .int .i64 1] 3)).heap[w1.heap.size]? = some (.cells wantC 33 (0, 0))) := ⟨by rw [heap_alloc_old _ _ (by simp)]; exact heap_alloc_new _ _⟩
  have HJ : Aside0 (((w1.alloc (.cells wantC 33)).alloc (.cells #[.int .i64 0, .int .i64 1, .int .i64 1, .int .i64 1] 3)).heap[w1.heap.size + 1]? = some (.cells #[.int .i64 0, .int .i64 1, .int .i64 1, .int .i64 1] 3 (0, 0))) := ⟨by have := heap_alloc_new (w1.alloc (.cells wantC 33)) (.cells #[.int .i64 0, .int .i64 1, .int .i64 1, .int .i64 1] 3); simpa using this⟩
  have HB2 : Aside0 (Below w.heap.size w ((w1.alloc (.cells wantC 33)).alloc (.cells #[.int .i64 0, .int .i64 1, .int .i64 1, .int .i64 1] 3))) := ⟨(HB.out.alloc HB.out.size _).alloc (by have := HB.out.size; simp; omega) _⟩
  have HP2 : Aside0 (exP ((w1.alloc (.cells wantC 33)).alloc (.cells #[.int .i64 0, .int .i64 1, .int .i64 1, .int .i64 1] 3)) P A0 A1 c0 c1 0) := ⟨(HPL.out.keep (below_alloc (Below.refl _ _) _)).keep (below_alloc (Below.refl _ _) _)⟩
  have HG2 : Aside0 (w1.heap.size + 1 < ((w1.alloc (.cells wantC 33)).alloc (.cells #[.int .i64 0, .int .i64 1, .int .i64 1, .int .i64 1] 3)).heap.size) := ⟨by simp⟩
  have HPB' : Aside0 (w.heap.size ≤ P.gp ∧ w.heap.size ≤ P.gt ∧ w.heap.size ≤ P.gh) := ⟨by have h := HPB.out; simp only [World.size_alloc] at h; omega⟩
  unfold wantC at HW HJ HB2 HP2 HG2
  generalize hW2 : (w1.alloc (.cells #[.int .i64 1, .int .i64 0, .int .i64 0, .int .i64 2, .int .i64 0, .int .i64 0, .int .i64 3, .int .i64 0, .int .i64 0, .int .i64 1, .int .i64 1, .int .i64 1] 33)).alloc (.cells #[.int .i64 0, .int .i64 1, .int .i64 1, .int .i64 1] 3) = w2 at HW HJ HB2 HP2 HG2 ⊢
  clear hW2 HPL HB
  generalize w1.heap.size = gw at HW HJ HG HG2 ⊢
  go_loopw [28] (fun v wr => ∃ i : Nat, i ≤ 4 ∧ v = .int .i64 i ∧ Aside0 (exP wr P A0 A1 c0 c1 i) ∧ Aside0 (wr.heap[gw]? = some (.cells wantC 33 (0, 0))) ∧ Aside0 (wr.heap[gw + 1]? = some (.cells #[.int .i64 0, .int .i64 1, .int .i64 1, .int .i64 1] 3 (0, 0))) ∧ Aside0 (Below w.heap.size w wr) ∧ Aside0 (gw + 1 < wr.heap.size)) (fun v _ => 4 - (intOf v).toNat)
  case atStart => exact ⟨0, by omega, rfl, HP2, HW, HJ, HB2, HG2⟩
  case round =>
    clear HP2 HW HJ HB2 HG2
    obtain ⟨i, hi, rfl, HP, HW, HJ, HB, HS⟩ := hrel
    by_cases hlt : i < 4
    · have hcase : i = 0 ∨ i = 1 ∨ i = 2 ∨ i = 3 := by omega
      rcases hcase with rfl | rfl | rfl | rfl
      · have j0 : wr.cell? ⟨gw + 1, 0, none⟩ = some (.int .i64 0) := by rw [cell_of_row _ _ _ _ _ _ HJ.out]; rfl
        have H2 := Aside0.mk (ev3_one 1 0 0)
        have z33 := z33
        have HX : Aside0 (Calls Try.prog 11 #[.pointer (some ⟨P.gp, 0, none⟩), .int .i64 0] wr fun e w' => e = .returned (.tuple #[.agg #[.int .i64 1, .int .i64 0, .int .i64 0], .nilIface]) ∧ exP w' P A0 A1 c0 c1 1 ∧ Stp wr w' P) := ⟨ex_pick0 HP.out⟩
        go_wp2_with (first | (go_at_call 11; refine HX.out.mono ?_; rintro e w5 ⟨rfl, hp5, hs5⟩) | (refine wpList_store_row rfl 33 _ _ rfl _ #[.int .i64 1, .int .i64 0, .int .i64 0] rfl rfl 33 #[.int .i64 0, .int .i64 0, .int .i64 0] (heap_alloc_new _ _) (by kernel_rfl) rfl H2.out ?_; rw [World.setRow_alloc_new]))
        have HP6 : Aside0 (exP (w5.alloc (.cells #[.int .i64 1, .int .i64 0, .int .i64 0] 33)) P A0 A1 c0 c1 1) := ⟨IsPlan.keep hp5 (below_alloc (Below.refl _ _) _)⟩
        have HN6 : Aside0 ((w5.alloc (.cells #[.int .i64 1, .int .i64 0, .int .i64 0] 33)).heap[w5.heap.size]? = some (.cells #[.int .i64 1, .int .i64 0, .int .i64 0] 33 (0, 0))) := ⟨heap_alloc_new _ _⟩
        have hz := hs5.size
        have hs9 := HS.out
        have hg9 := HG.out
        have HW6 : Aside0 ((w5.alloc (.cells #[.int .i64 1, .int .i64 0, .int .i64 0] 33)).heap[gw]? = some (.cells wantC 33 (0, 0))) := ⟨by rw [heap_alloc_old _ _ (by omega), hs5.block gw (by omega) (by omega) (by omega) (by omega)]; exact HW.out⟩
        have HJ6 : Aside0 ((w5.alloc (.cells #[.int .i64 1, .int .i64 0, .int .i64 0] 33)).heap[gw + 1]? = some (.cells #[.int .i64 0, .int .i64 1, .int .i64 1, .int .i64 1] 3 (0, 0))) := ⟨by rw [heap_alloc_old _ _ (by omega), hs5.block (gw + 1) (by omega) (by omega) (by omega) (by omega)]; exact HJ.out⟩
        have HB6 : Aside0 (Below w.heap.size w (w5.alloc (.cells #[.int .i64 1, .int .i64 0, .int .i64 0] 33))) := ⟨(HB.out.trans (hs5.below HPB'.out.1 HPB'.out.2.1 HPB'.out.2.2 HB.out.size)).alloc (by have := HB.out.size; omega) _⟩
        have HS6 : Aside0 (gw + 1 < (w5.alloc (.cells #[.int .i64 1, .int .i64 0, .int .i64 0] 33)).heap.size) := ⟨by rw [World.size_alloc]; omega⟩
        generalize hV : w5.alloc (.cells #[.int .i64 1, .int .i64 0, .int .i64 0] 33) = w6 at HP6 HN6 HW6 HJ6 HB6 HS6 ⊢
        generalize w5.heap.size = g6 at HN6 ⊢
        clear hV hp5 hs5 hz hs9 hg9 j0 HP HW HJ HB HS
        have a0 : w6.cell? ⟨g6, 0, none⟩ = some (.int .i64 1) := by rw [cell_of_row _ _ _ _ _ _ HN6.out]; rfl
        have a1 : w6.cell? ⟨g6, 1, none⟩ = some (.int .i64 0) := by rw [cell_of_row _ _ _ _ _ _ HN6.out]; rfl
        have a2 : w6.cell? ⟨g6, 2, none⟩ = some (.int .i64 0) := by rw [cell_of_row _ _ _ _ _ _ HN6.out]; rfl
        have b0 : w6.cell? ⟨gw, 0, none⟩ = some (.int .i64 1) := by rw [cell_of_row _ _ _ _ _ _ HW6.out]; rfl
        have b1 : w6.cell? ⟨gw, 1, none⟩ = some (.int .i64 0) := by rw [cell_of_row _ _ _ _ _ _ HW6.out]; rfl
        have b2 : w6.cell? ⟨gw, 2, none⟩ = some (.int .i64 0) := by rw [cell_of_row _ _ _ _ _ _ HW6.out]; rfl
        go_quiet (fail)
        go_wp2
        go_roundw
        case rel => exact ⟨1, by omega, by go_num, ⟨IsPlan.drewN HP6.out _⟩, HW6, HJ6, ⟨pw_below_drewN HB6.out _⟩, HS6⟩
        case measure => simp [intOf]
      · have j0 : wr.cell? ⟨gw + 1, 1, none⟩ = some (.int .i64 1) := by rw [cell_of_row _ _ _ _ _ _ HJ.out]; rfl
        have H2 := Aside0.mk (ev3_one 2 0 0)
        have z33 := z33
        have HX : Aside0 (Calls Try.prog 11 #[.pointer (some ⟨P.gp, 0, none⟩), .int .i64 1] wr fun e w' => e = .returned (.tuple #[.agg #[.int .i64 2, .int .i64 0, .int .i64 0], .nilIface]) ∧ exP w' P A0 A1 c0 c1 2 ∧ Stp wr w' P) := ⟨ex_pick1 HP.out⟩
        go_wp2_with (first | (go_at_call 11; refine HX.out.mono ?_; rintro e w5 ⟨rfl, hp5, hs5⟩) | (refine wpList_store_row rfl 33 _ _ rfl _ #[.int .i64 2, .int .i64 0, .int .i64 0] rfl rfl 33 #[.int .i64 0, .int .i64 0, .int .i64 0] (heap_alloc_new _ _) (by kernel_rfl) rfl H2.out ?_; rw [World.setRow_alloc_new]))
        have HP6 : Aside0 (exP (w5.alloc (.cells #[.int .i64 2, .int .i64 0, .int .i64 0] 33)) P A0 A1 c0 c1 2) := ⟨IsPlan.keep hp5 (below_alloc (Below.refl _ _) _)⟩
        have HN6 : Aside0 ((w5.alloc (.cells #[.int .i64 2, .int .i64 0, .int .i64 0] 33)).heap[w5.heap.size]? = some (.cells #[.int .i64 2, .int .i64 0, .int .i64 0] 33 (0, 0))) := ⟨heap_alloc_new _ _⟩
        have hz := hs5.size
        have hs9 := HS.out
        have hg9 := HG.out
        have HW6 : Aside0 ((w5.alloc (.cells #[.int .i64 2, .int .i64 0, .int .i64 0] 33)).heap[gw]? = some (.cells wantC 33 (0, 0))) := ⟨by rw [heap_alloc_old _ _ (by omega), hs5.block gw (by omega) (by omega) (by omega) (by omega)]; exact HW.out⟩
        have HJ6 : Aside0 ((w5.alloc (.cells #[.int .i64 2, .int .i64 0, .int .i64 0] 33)).heap[gw + 1]? = some (.cells #[.int .i64 0, .int .i64 1, .int .i64 1, .int .i64 1] 3 (0, 0))) := ⟨by rw [heap_alloc_old _ _ (by omega), hs5.block (gw + 1) (by omega) (by omega) (by omega) (by omega)]; exact HJ.out⟩
        have HB6 : Aside0 (Below w.heap.size w (w5.alloc (.cells #[.int .i64 2, .int .i64 0, .int .i64 0] 33))) := ⟨(HB.out.trans (hs5.below HPB'.out.1 HPB'.out.2.1 HPB'.out.2.2 HB.out.size)).alloc (by have := HB.out.size; omega) _⟩
        have HS6 : Aside0 (gw + 1 < (w5.alloc (.cells #[.int .i64 2, .int .i64 0, .int .i64 0] 33)).heap.size) := ⟨by rw [World.size_alloc]; omega⟩
        generalize hV : w5.alloc (.cells #[.int .i64 2, .int .i64 0, .int .i64 0] 33) = w6 at HP6 HN6 HW6 HJ6 HB6 HS6 ⊢
        generalize w5.heap.size = g6 at HN6 ⊢
        clear hV hp5 hs5 hz hs9 hg9 j0 HP HW HJ HB HS
        have a0 : w6.cell? ⟨g6, 0, none⟩ = some (.int .i64 2) := by rw [cell_of_row _ _ _ _ _ _ HN6.out]; rfl
        have a1 : w6.cell? ⟨g6, 1, none⟩ = some (.int .i64 0) := by rw [cell_of_row _ _ _ _ _ _ HN6.out]; rfl
        have a2 : w6.cell? ⟨g6, 2, none⟩ = some (.int .i64 0) := by rw [cell_of_row _ _ _ _ _ _ HN6.out]; rfl
        have b0 : w6.cell? ⟨gw, 3, none⟩ = some (.int .i64 2) := by rw [cell_of_row _ _ _ _ _ _ HW6.out]; rfl
        have b1 : w6.cell? ⟨gw, 4, none⟩ = some (.int .i64 0) := by rw [cell_of_row _ _ _ _ _ _ HW6.out]; rfl
        have b2 : w6.cell? ⟨gw, 5, none⟩ = some (.int .i64 0) := by rw [cell_of_row _ _ _ _ _ _ HW6.out]; rfl
        go_quiet (fail)
        go_wp2
        go_roundw
        case rel => exact ⟨2, by omega, by go_num, ⟨IsPlan.drewN HP6.out _⟩, HW6, HJ6, ⟨pw_below_drewN HB6.out _⟩, HS6⟩
        case measure => simp [intOf]
      · have j0 : wr.cell? ⟨gw + 1, 2, none⟩ = some (.int .i64 1) := by rw [cell_of_row _ _ _ _ _ _ HJ.out]; rfl
        have H2 := Aside0.mk (ev3_one 3 0 0)
        have z33 := z33
        have HX : Aside0 (Calls Try.prog 11 #[.pointer (some ⟨P.gp, 0, none⟩), .int .i64 1] wr fun e w' => e = .returned (.tuple #[.agg #[.int .i64 3, .int .i64 0, .int .i64 0], .nilIface]) ∧ exP w' P A0 A1 c0 c1 3 ∧ Stp wr w' P) := ⟨ex_pick2 HP.out⟩
        go_wp2_with (first | (go_at_call 11; refine HX.out.mono ?_; rintro e w5 ⟨rfl, hp5, hs5⟩) | (refine wpList_store_row rfl 33 _ _ rfl _ #[.int .i64 3, .int .i64 0, .int .i64 0] rfl rfl 33 #[.int .i64 0, .int .i64 0, .int .i64 0] (heap_alloc_new _ _) (by kernel_rfl) rfl H2.out ?_; rw [World.setRow_alloc_new]))
        have HP6 : Aside0 (exP (w5.alloc (.cells #[.int .i64 3, .int .i64 0, .int .i64 0] 33)) P A0 A1 c0 c1 3) := ⟨IsPlan.keep hp5 (below_alloc (Below.refl _ _) _)⟩
        have HN6 : Aside0 ((w5.alloc (.cells #[.int .i64 3, .int .i64 0, .int .i64 0] 33)).heap[w5.heap.size]? = some (.cells #[.int .i64 3, .int .i64 0, .int .i64 0] 33 (0, 0))) := ⟨heap_alloc_new _ _⟩
        have hz := hs5.size
        have hs9 := HS.out
        have hg9 := HG.out
        have HW6 : Aside0 ((w5.alloc (.cells #[.int .i64 3, .int .i64 0, .int .i64 0] 33)).heap[gw]? = some (.cells wantC 33 (0, 0))) := ⟨by rw [heap_alloc_old _ _ (by omega), hs5.block gw (by omega) (by omega) (by omega) (by omega)]; exact HW.out⟩
        have HJ6 : Aside0 ((w5.alloc (.cells #[.int .i64 3, .int .i64 0, .int .i64 0] 33)).heap[gw + 1]? = some (.cells #[.int .i64 0, .int .i64 1, .int .i64 1, .int .i64 1] 3 (0, 0))) := ⟨by rw [heap_alloc_old _ _ (by omega), hs5.block (gw + 1) (by omega) (by omega) (by omega) (by omega)]; exact HJ.out⟩
        have HB6 : Aside0 (Below w.heap.size w (w5.alloc (.cells #[.int .i64 3, .int .i64 0, .int .i64 0] 33))) := ⟨(HB.out.trans (hs5.below HPB'.out.1 HPB'.out.2.1 HPB'.out.2.2 HB.out.size)).alloc (by have := HB.out.size; omega) _⟩
        have HS6 : Aside0 (gw + 1 < (w5.alloc (.cells #[.int .i64 3, .int .i64 0, .int .i64 0] 33)).heap.size) := ⟨by rw [World.size_alloc]; omega⟩
        generalize hV : w5.alloc (.cells #[.int .i64 3, .int .i64 0, .int .i64 0] 33) = w6 at HP6 HN6 HW6 HJ6 HB6 HS6 ⊢
        generalize w5.heap.size = g6 at HN6 ⊢
        clear hV hp5 hs5 hz hs9 hg9 j0 HP HW HJ HB HS
        have a0 : w6.cell? ⟨g6, 0, none⟩ = some (.int .i64 3) := by rw [cell_of_row _ _ _ _ _ _ HN6.out]; rfl
        have a1 : w6.cell? ⟨g6, 1, none⟩ = some (.int .i64 0) := by rw [cell_of_row _ _ _ _ _ _ HN6.out]; rfl
        have a2 : w6.cell? ⟨g6, 2, none⟩ = some (.int .i64 0) := by rw [cell_of_row _ _ _ _ _ _ HN6.out]; rfl
        have b0 : w6.cell? ⟨gw, 6, none⟩ = some (.int .i64 3) := by rw [cell_of_row _ _ _ _ _ _ HW6.out]; rfl
        have b1 : w6.cell? ⟨gw, 7, none⟩ = some (.int .i64 0) := by rw [cell_of_row _ _ _ _ _ _ HW6.out]; rfl
        have b2 : w6.cell? ⟨gw, 8, none⟩ = some (.int .i64 0) := by rw [cell_of_row _ _ _ _ _ _ HW6.out]; rfl
        go_quiet (fail)
        go_wp2
        go_roundw
        case rel => exact ⟨3, by omega, by go_num, ⟨IsPlan.drewN HP6.out _⟩, HW6, HJ6, ⟨pw_below_drewN HB6.out _⟩, HS6⟩
        case measure => simp [intOf]
      · have j0 : wr.cell? ⟨gw + 1, 3, none⟩ = some (.int .i64 1) := by rw [cell_of_row _ _ _ _ _ _ HJ.out]; rfl
        have H2 := Aside0.mk (ev3_one 1 1 1)
        have z33 := z33
        have HX : Aside0 (Calls Try.prog 11 #[.pointer (some ⟨P.gp, 0, none⟩), .int .i64 1] wr fun e w' => e = .returned (.tuple #[.agg #[.int .i64 1, .int .i64 1, .int .i64 1], .nilIface]) ∧ exP w' P A0 A1 c0 c1 4 ∧ Stp wr w' P) := ⟨ex_pick3 HP.out⟩
        go_wp2_with (first | (go_at_call 11; refine HX.out.mono ?_; rintro e w5 ⟨rfl, hp5, hs5⟩) | (refine wpList_store_row rfl 33 _ _ rfl _ #[.int .i64 1, .int .i64 1, .int .i64 1] rfl rfl 33 #[.int .i64 0, .int .i64 0, .int .i64 0] (heap_alloc_new _ _) (by kernel_rfl) rfl H2.out ?_; rw [World.setRow_alloc_new]))
        have HP6 : Aside0 (exP (w5.alloc (.cells #[.int .i64 1, .int .i64 1, .int .i64 1] 33)) P A0 A1 c0 c1 4) := ⟨IsPlan.keep hp5 (below_alloc (Below.refl _ _) _)⟩
        have HN6 : Aside0 ((w5.alloc (.cells #[.int .i64 1, .int .i64 1, .int .i64 1] 33)).heap[w5.heap.size]? = some (.cells #[.int .i64 1, .int .i64 1, .int .i64 1] 33 (0, 0))) := ⟨heap_alloc_new _ _⟩
        have hz := hs5.size
        have hs9 := HS.out
        have hg9 := HG.out
        have HW6 : Aside0 ((w5.alloc (.cells #[.int .i64 1, .int .i64 1, .int .i64 1] 33)).heap[gw]? = some (.cells wantC 33 (0, 0))) := ⟨by rw [heap_alloc_old _ _ (by omega), hs5.block gw (by omega) (by omega) (by omega) (by omega)]; exact HW.out⟩
        have HJ6 : Aside0 ((w5.alloc (.cells #[.int .i64 1, .int .i64 1, .int .i64 1] 33)).heap[gw + 1]? = some (.cells #[.int .i64 0, .int .i64 1, .int .i64 1, .int .i64 1] 3 (0, 0))) := ⟨by rw [heap_alloc_old _ _ (by omega), hs5.block (gw + 1) (by omega) (by omega) (by omega) (by omega)]; exact HJ.out⟩
        have HB6 : Aside0 (Below w.heap.size w (w5.alloc (.cells #[.int .i64 1, .int .i64 1, .int .i64 1] 33))) := ⟨(HB.out.trans (hs5.below HPB'.out.1 HPB'.out.2.1 HPB'.out.2.2 HB.out.size)).alloc (by have := HB.out.size; omega) _⟩
        have HS6 : Aside0 (gw + 1 < (w5.alloc (.cells #[.int .i64 1, .int .i64 1, .int .i64 1] 33)).heap.size) := ⟨by rw [World.size_alloc]; omega⟩
        generalize hV : w5.alloc (.cells #[.int .i64 1, .int .i64 1, .int .i64 1] 33) = w6 at HP6 HN6 HW6 HJ6 HB6 HS6 ⊢
        generalize w5.heap.size = g6 at HN6 ⊢
        clear hV hp5 hs5 hz hs9 hg9 j0 HP HW HJ HB HS
        have a0 : w6.cell? ⟨g6, 0, none⟩ = some (.int .i64 1) := by rw [cell_of_row _ _ _ _ _ _ HN6.out]; rfl
        have a1 : w6.cell? ⟨g6, 1, none⟩ = some (.int .i64 1) := by rw [cell_of_row _ _ _ _ _ _ HN6.out]; rfl
        have a2 : w6.cell? ⟨g6, 2, none⟩ = some (.int .i64 1) := by rw [cell_of_row _ _ _ _ _ _ HN6.out]; rfl
        have b0 : w6.cell? ⟨gw, 9, none⟩ = some (.int .i64 1) := by rw [cell_of_row _ _ _ _ _ _ HW6.out]; rfl
        have b1 : w6.cell? ⟨gw, 10, none⟩ = some (.int .i64 1) := by rw [cell_of_row _ _ _ _ _ _ HW6.out]; rfl
        have b2 : w6.cell? ⟨gw, 11, none⟩ = some (.int .i64 1) := by rw [cell_of_row _ _ _ _ _ _ HW6.out]; rfl
        go_quiet (fail)
        go_wp2
        go_roundw
        case rel => exact ⟨4, by omega, by go_num, ⟨IsPlan.drewN HP6.out _⟩, HW6, HJ6, ⟨pw_below_drewN HB6.out _⟩, HS6⟩
        case measure => simp [intOf]
    · have hi4 : i = 4 := by omega
      subst hi4
      have HX1 : Aside0 (Calls Try.prog 13 #[.pointer (some ⟨P.gp, 0, none⟩)] wr fun e w' => e = .returned (.int .i64 4) ∧ w' = wr) := ⟨picks_calls P _ _ _ _ wr HP.out⟩
      have HX2 : Aside0 (Calls Try.prog 14 #[.pointer (some ⟨P.gp, 0, none⟩)] wr fun e w' => e = .returned (.int .i64 1) ∧ w' = wr) := ⟨left_calls P _ _ _ _ wr HP.out⟩
      go_wp2_with (first | (go_at_call 13; refine HX1.out.mono ?_; rintro e w5 ⟨rfl, rfl⟩) | (go_at_call 14; refine HX2.out.mono ?_; rintro e w5 ⟨rfl, rfl⟩))
      go_ret
      exact ⟨rfl, HB.out⟩
end Go.Proofs.Ytigpcfokmbnlaaa.Sched
