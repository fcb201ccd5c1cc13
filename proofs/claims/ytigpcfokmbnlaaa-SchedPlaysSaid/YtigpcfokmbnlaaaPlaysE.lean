/- The picks of the chapter's example, one by one. -/
import Derived.Test.YtigpcfokmbnlaaaPlaysD
import Derived.Test.YtigpcfokmbnlaaaPlaysC
import Derived.Test.YtigpcfokmbnlaaaPSchedOnex2
import Derived.Test.YtigpcfokmbnlaaaPlaysA
namespace Go.Proofs.Ytigpcfokmbnlaaa.Sched
open Go.RowKit Go.Proofs.YtigpcfokmbnlaaaW.PrintWords

def exT (A0 A1 : Option Addr) (c0 c1 : Nat) : Nat → List T
  | 0 => [⟨0, A0, c0, [1], -1, 0⟩, ⟨1, A1, c1, [], -1, 0⟩]
  | 1 => [⟨0, A0, c0, [1], 0, 1⟩, ⟨1, A1, c1, [], -1, 0⟩]
  | 2 => [⟨0, A0, c0, [1], 0, 2⟩, ⟨1, A1, c1, [], -1, 0⟩]
  | 3 => [⟨0, A0, c0, [1], -1, 3⟩, ⟨0, A1, c1, [], -1, 0⟩]
  | _ => [⟨0, A0, c0, [1], -1, 3⟩, ⟨0, A1, c1, [], 1, 1⟩]
def exH : Nat → List Int
  | 0 => [-1, -1]
  | 1 => [0, -1]
  | 2 => [0, -1]
  | 3 => [-1, -1]
  | _ => [-1, 1]
def exL : Nat → Int
  | 0 => 2
  | 1 => 2
  | 2 => 2
  | _ => 1
def exP (w : World) (P : Pl) (A0 A1 : Option Addr) (c0 c1 i : Nat) : Prop := IsPlan w P (exT A0 A1 c0 c1 i) (exH i) i (exL i)
variable {A0 A1 : Option Addr} {c0 c1 : Nat} {w : World} {P : Pl}
theorem ex_ran : ranTs (exT A0 A1 c0 c1 2) 0 = exT A0 A1 c0 c1 3 := by
  show [_, (⟨wrap64 (1 - 1), A1, c1, [], -1, 0⟩ : T)] = _
  rw [show wrap64 (1 - 1) = 0 by unfold wrap64; omega]
  rfl
theorem ex_pick0 (h : exP w P A0 A1 c0 c1 0) : Calls Try.prog 11 #[.pointer (some ⟨P.gp, 0, none⟩), .int .i64 0] w fun e w' => e = .returned (pickV 1 0 0 0) ∧ exP w' P A0 A1 c0 c1 1 ∧ Stp w w' P := by
  refine (pick_take P _ _ _ _ w 0 0 h (by decide) (by decide) rfl (by rfl) (by show 0 < 2; decide)).mono ?_
  rintro e w' ⟨rfl, hp, hs⟩
  rw [wrap_succ 0 (by omega)] at hp
  exact ⟨rfl, hp, hs⟩
theorem ex_pick1 (h : exP w P A0 A1 c0 c1 1) : Calls Try.prog 11 #[.pointer (some ⟨P.gp, 0, none⟩), .int .i64 1] w fun e w' => e = .returned (pickV 2 0 0 0) ∧ exP w' P A0 A1 c0 c1 2 ∧ Stp w w' P := by
  refine (pick_help P _ _ _ _ w 1 0 2 0 (exT A0 A1 c0 c1 2) (exH 2) (exL 2) h (by decide) (by decide) rfl (by rfl) (by rfl) (same_setState (exT A0 A1 c0 c1 1) 0 2)
    (fun W hW => goOn_took P _ _ _ _ 0 0 W hW (by show 0 < 2; decide) rfl rfl)).mono ?_
  rintro e w' ⟨rfl, hp, hs⟩
  rw [wrap_succ 1 (by omega)] at hp
  exact ⟨rfl, hp, hs⟩
theorem ex_pick2 (h : exP w P A0 A1 c0 c1 2) : Calls Try.prog 11 #[.pointer (some ⟨P.gp, 0, none⟩), .int .i64 1] w fun e w' => e = .returned (pickV 3 0 0 0) ∧ exP w' P A0 A1 c0 c1 3 ∧ Stp w w' P := by
  refine (pick_help P _ _ _ _ w 1 0 3 0 (exT A0 A1 c0 c1 3) (exH 3) (exL 3) h (by decide) (by decide) rfl (by rfl) (by rfl) (ex_ran ▸ same_ran (exT A0 A1 c0 c1 2) 0) (fun W hW => ?_)).mono ?_
  · refine (goOn_ran P _ _ _ _ 0 0 W hW (by show 0 < 2; decide) rfl rfl (by decide) ?_).mono ?_
    · intro k hk
      have : k = 1 := List.mem_singleton.1 hk
      subst this
      exact ⟨by decide, by show (1 : Int) < 2; decide⟩
    · rintro e w' ⟨rfl, hp, hs⟩
      rw [ex_ran, show wrap64 (exL 2 - 1) = exL 3 by show wrap64 (2 - 1) = 1; unfold wrap64; omega] at hp
      exact ⟨rfl, hp, hs⟩
  · rintro e w' ⟨rfl, hp, hs⟩
    rw [wrap_succ 2 (by omega)] at hp
    exact ⟨rfl, hp, hs⟩
theorem ex_pick3 (h : exP w P A0 A1 c0 c1 3) : Calls Try.prog 11 #[.pointer (some ⟨P.gp, 0, none⟩), .int .i64 1] w fun e w' => e = .returned (pickV 1 1 1 0) ∧ exP w' P A0 A1 c0 c1 4 ∧ Stp w w' P := by
  refine (pick_take P _ _ _ _ w 1 1 h (by decide) (by decide) rfl (by rfl) (by show 1 < 2; decide)).mono ?_
  rintro e w' ⟨rfl, hp, hs⟩
  rw [wrap_succ 3 (by omega)] at hp
  exact ⟨rfl, hp, hs⟩

theorem ex_new {ts : List T} (h : ts.map bare = upB [[], [0]] 2) : ∃ A0 A1 c0 c1, ts = exT A0 A1 c0 c1 0 := by
  have h2 : ts.map bare = [⟨0, none, 0, [1], -1, 0⟩, ⟨1, none, 0, [], -1, 0⟩] := h
  have hl : ts.length = 2 := by have := congrArg List.length h2; simpa using this
  obtain ⟨a, b, rfl⟩ : ∃ a b, ts = [a, b] := by
    rcases ts with _ | ⟨a, ts⟩
    · simp at hl
    · rcases ts with _ | ⟨b, ts⟩
      · simp at hl
      · rcases ts with _ | ⟨c, ts⟩
        · exact ⟨a, b, rfl⟩
        · simp at hl
  simp only [List.map_cons, List.map_nil, List.cons.injEq, and_true] at h2
  obtain ⟨ha, hb⟩ := h2
  cases a; cases b
  simp only [bare, T.mk.injEq, true_and] at ha hb
  obtain ⟨rfl, rfl, rfl, rfl⟩ := ha
  obtain ⟨rfl, rfl, rfl, rfl⟩ := hb
  exact ⟨_, _, _, _, rfl⟩
end Go.Proofs.Ytigpcfokmbnlaaa.Sched

/- The contract of the fixed fact 'alive': the chapter's example. -/
namespace Go.Proofs.Ytigpcfokmbnlaaa.Sched
open Go.RowKit Go.Proofs.YtigpcfokmbnlaaaW.PrintWords

/-- A literal of slices of bytes. -/
theorem C_rows (W : World) (e : TypeId) (vs : List Value) (ps : List (List Int)) (hm : ps.length ≤ 9223372036854775807)
    (h : ∀ (j : Nat) (p : List Int), ps[j]? = some p → ∃ (A : Option Addr) (c : Nat), vs[j]? = some (Value.slice A p.length c) ∧ p.length ≤ c ∧ (Kd.int .i64).C W A p.length p) :
    (Kd.slice 3 (Kd.int .i64)).C (W.alloc (.cells vs.toArray e)) (some ⟨W.heap.size, 0, none⟩) ps.length ps := by
  refine ⟨rfl, hm, fun _ => ⟨_, rfl, fun j p hp => ?_⟩⟩
  obtain ⟨A, c, hv, hl, hC⟩ := h j p hp
  refine ⟨[.slice A p.length c], rfl, ⟨A, c, rfl, hl, Kd.C_alloc hC _⟩, fun i u hu => ?_⟩
  cases i with
  | succ i => simp at hu
  | zero =>
    simp at hu
    subst hu
    rw [add_plain, cell_of_row _ _ _ _ _ _ (heap_alloc_new W _)]
    simpa [Kd.slice] using hv
theorem C_rows1 (W : World) (e : TypeId) (A : Option Addr) (c : Nat) (p : List Int) (hl : p.length ≤ c) (hC : (Kd.int .i64).C W A p.length p) :
    (Kd.slice 3 (Kd.int .i64)).C (W.alloc (.cells #[.slice A p.length c] e)) (some ⟨W.heap.size, 0, none⟩) [p].length [p] := by
  refine C_rows W e [.slice A p.length c] [p] (by simp) fun j q hq => ?_
  match j with
  | 0 => simp at hq; subst hq; exact ⟨A, c, rfl, hl, hC⟩
  | j + 1 => simp at hq
theorem C_rows2 (W : World) (e : TypeId) (A : Option Addr) (c : Nat) (p : List Int) (hl : p.length ≤ c) (hC : (Kd.int .i64).C W A p.length p) (A' : Option Addr) (c' : Nat) (p' : List Int) (hl' : p'.length ≤ c') (hC' : (Kd.int .i64).C W A' p'.length p') :
    (Kd.slice 3 (Kd.int .i64)).C (W.alloc (.cells #[.slice A p.length c, .slice A' p'.length c'] e)) (some ⟨W.heap.size, 0, none⟩) [p, p'].length [p, p'] := by
  refine C_rows W e [.slice A p.length c, .slice A' p'.length c'] [p, p'] (by simp) fun j q hq => ?_
  match j with
  | 0 => simp at hq; subst hq; exact ⟨A, c, rfl, hl, hC⟩
  | 1 => simp at hq; subst hq; exact ⟨A', c', rfl, hl', hC'⟩
  | j + 2 => simp at hq

theorem info4 : (Try.prog.info? 4).map (fun i => (i.zero, i.size, i.bytes)) = some (some (.bool false), 1, 1) := by kernel_rfl
theorem make31 (n : Nat) (hn : n ≤ 1000000) (W : World) : (Instr.makeSlice 31 (.int .i64 (n : Int)) (.int .i64 (n : Int))).run Try.prog W = .ok (.slice (some ⟨W.heap.size, 0, none⟩) n n) (W.alloc (.cells (madeCells #[.bool false] n) 4)) :=
  print_make_of 31 4 (.bool false) 1 Try.underlying31 info4 rfl (by decide) n (by omega) W
theorem C_falses (W : World) (n : Nat) (hn : n ≤ 1000000) : Kd.bool.C (W.alloc (.cells (madeCells #[.bool false] n) 4)) (some ⟨W.heap.size, 0, none⟩) (List.replicate n false).length (List.replicate n false) := by
  have h := own_made_of (enc := Value.bool) (d := false) W 0 4 n (Nat.zero_le _) (by omega)
  have h2 : Kd.bool.R 4 (W.alloc (.cells (madeCells #[.bool false] n) 4)) 0 (fun _ => True) (.slice (some ⟨W.heap.size, 0, none⟩) n n) (List.replicate n false) :=
    Kd.R_of_own (enc := Value.bool) (h1 := fun _ => rfl) (by rw [List.length_replicate]; exact h) (fun _ _ => trivial)
  obtain ⟨A, c, he, _, hC⟩ := Kd.R_reads h2
  injection he with e1 _ _
  rw [e1]
  exact hC
def wantC : Array Value := #[.int .i64 1, .int .i64 0, .int .i64 0, .int .i64 2, .int .i64 0, .int .i64 0, .int .i64 3, .int .i64 0, .int .i64 0, .int .i64 1, .int .i64 1, .int .i64 1]
set_option maxHeartbeats 4000000 in
theorem alive_calls (w : World) : Calls Try.prog 7 #[] w fun e w' => e = .returned (.bool true) ∧ Below w.heap.size w w' := by
  have hmk := make31 2 (by omega)
  rw [show ((2 : Nat) : Int) = 2 from rfl] at hmk
  have hR := Kd.C_alloc (C_rows2 (w.alloc (.cells (nums .i64 [0]).toArray 3)) 38 none 0 [] (by simp) (Kd.R_reads' (Kd.R_nil (Kd.int .i64) 3 _ 0 (fun _ => True))).2.2 (some ⟨w.heap.size, 0, none⟩) 1 [0] (by simp) (C_lit .i64 w 3 [0] (by simp))) (.cells (madeCells #[.bool false] 2) 4)
  have hI := C_falses ((w.alloc (.cells (nums .i64 [0]).toArray 3)).alloc (.cells #[.slice none 0 0, .slice (some ⟨w.heap.size, 0, none⟩) 1 1] 38)) 2 (by omega)
  simp only [World.size_alloc] at hR hI
  have HNew := Aside0.mk (new_good (some ⟨w.heap.size + 1, 0, none⟩) 2 [[], [0]] (some ⟨w.heap.size + 1 + 1, 0, none⟩) 2 [false, false] 2 _ (by simp) (by intro l hl; simp at hl; rcases hl with rfl | rfl <;> simp) hR (by simp) hI (by simp) (by rfl) rfl (by omega))
  clear hR hI
  go_enter Try.func7, Try.ntmps7
  go_wp2_with (go_at_call 10; refine HNew.out.mono ?_; rintro e w1 ⟨P, ts, rfl, hts, hB1, hB2, hB3, hPl, hB⟩)
  obtain ⟨A0, A1, c0, c1, rfl⟩ := ex_new hts
  have HPL : Aside0 (exP w1 P A0 A1 c0 c1 0) := ⟨hPl⟩
  have hg1 : P.gp < w1.heap.size := (Array.getElem?_eq_some_iff.1 hPl.plan).1
  have hg2 : P.gt < w1.heap.size := (Array.getElem?_eq_some_iff.1 hPl.tasks).1
  have hg3 : P.gh < w1.heap.size := by obtain ⟨rest, hr⟩ := hPl.hass; exact (Array.getElem?_eq_some_iff.1 hr).1
  have HG := Aside0.mk (And.intro hg1 (And.intro hg2 hg3))
  have HPB := Aside0.mk (And.intro hB1 (And.intro hB2 hB3))
  have HB : Aside0 (Below w.heap.size w w1) := ⟨below_trans ((below_alloc (below_alloc (below_alloc (Below.refl _ _) (.cells (nums .i64 [0]).toArray 3)) (.cells #[.slice none 0 0, .slice (some ⟨w.heap.size, 0, none⟩) 1 1] 38)) (.cells (madeCells #[.bool false] 2) 4))) (hB.mono (by simp; omega))⟩
  clear hts hPl hg1 hg2 hg3 hB1 hB2 hB3 hB hmk HNew
  have HW : Aside0 (((w1.alloc (.cells wantC 33)).alloc (.cells #[.int .i64 0, .int .i64 1, .int .i64 1, .int .i64 1] 3)).heap[w1.heap.size]? = some (.cells wantC 33 (0, 0))) := ⟨by rw [heap_alloc_old _ _ (by simp)]; exact heap_alloc_new _ _⟩
  have HJ : Aside0 (((w1.alloc (.cells wantC 33)).alloc (.cells #[.int .i64 0, .int .i64 1, .int .i64 1, .int .i64 1] 3)).heap[w1.heap.size + 1]? = some (.cells #[.int .i64 0, .int .i64 1, .int .i64 1, .int .i64 1] 3 (0, 0))) := ⟨by have := heap_alloc_new (w1.alloc (.cells wantC 33)) (.cells #[.int .i64 0, .int .i64 1, .int .i64 1, .int .i64 1] 3); simpa using this⟩
  have HB2 : Aside0 (Below w.heap.size w ((w1.alloc (.cells wantC 33)).alloc (.cells #[.int .i64 0, .int .i64 1, .int .i64 1, .int .i64 1] 3))) := ⟨(HB.out.alloc HB.out.size _).alloc (by have := HB.out.size; simp; omega) _⟩
  have HP2 : Aside0 (exP ((w1.alloc (.cells wantC 33)).alloc (.cells #[.int .i64 0, .int .i64 1, .int .i64 1, .int .i64 1] 3)) P A0 A1 c0 c1 0) := ⟨(HPL.out.keep (below_alloc (Below.refl _ _) _)).keep (below_alloc (Below.refl _ _) _)⟩
  have HG2 : Aside0 (w1.heap.size + 1 < ((w1.alloc (.cells wantC 33)).alloc (.cells #[.int .i64 0, .int .i64 1, .int .i64 1, .int .i64 1] 3)).heap.size) := ⟨by simp⟩
  have HPB' : Aside0 (w.heap.size ≤ P.gp ∧ w.heap.size ≤ P.gt ∧ w.heap.size ≤ P.gh) := ⟨by have h := HPB.out; simp only [World.size_alloc] at h; omega⟩
  unfold wantC at HW HJ HB2 HP2 HG2
  generalize hW2 : (w1.alloc (.cells #[.int .i64 1, .int .i64 0, .int .i64 0, .int .i64 2, .int .i64 0, .int .i64 0, .int .i64 3, .int .i64 0, .int .i64 0, .int .i64 1, .int .i64 1, .int .i64 1] 33)).alloc (.cells #[.int .i64 0, .int .i64 1, .int .i64 1, .int .i64 1] 3) = w2 at HW HJ HB2 HP2 HG2 ⊢
  clear hW2 HPL HB
  generalize w1.heap.size = gw at HW HJ HG HG2 ⊢
  go_loopw [28] (fun v wr => ∃ i : Nat, i ≤ 4 ∧ v = .int .i64 i ∧ Aside0 (exP wr P A0 A1 c0 c1 i) ∧ Aside0 (wr.heap[gw]? = some (.cells wantC 33 (0, 0))) ∧ Aside0 (wr.heap[gw + 1]? = some (.cells #[.int .i64 0, .int .i64 1, .int .i64 1, .int .i64 1] 3 (0, 0))) ∧ Aside0 (Below w.heap.size w wr) ∧ Aside0 (gw + 1 < wr.heap.size)) (fun v _ => 4 - (intOf v).toNat)
  case atStart => exact ⟨0, by omega, rfl, HP2, HW, HJ, HB2, HG2⟩
  case round =>
    clear HP2 HW HJ HB2 HG2
    obtain ⟨i, hi, rfl, HP, HW, HJ, HB, HS⟩ := hrel
    by_cases hlt : i < 4
    · have hcase : i = 0 ∨ i = 1 ∨ i = 2 ∨ i = 3 := by omega
      rcases hcase with rfl | rfl | rfl | rfl
      · have j0 : wr.cell? ⟨gw + 1, 0, none⟩ = some (.int .i64 0) := by rw [cell_of_row _ _ _ _ _ _ HJ.out]; rfl
        have H2 := Aside0.mk (ev3_one 1 0 0)
        have z33 := z33
        have HX : Aside0 (Calls Try.prog 11 #[.pointer (some ⟨P.gp, 0, none⟩), .int .i64 0] wr fun e w' => e = .returned (.tuple #[.agg #[.int .i64 1, .int .i64 0, .int .i64 0], .nilIface]) ∧ exP w' P A0 A1 c0 c1 1 ∧ Stp wr w' P) := ⟨ex_pick0 HP.out⟩
        go_wp2_with (first | (go_at_call 11; refine HX.out.mono ?_; rintro e w5 ⟨rfl, hp5, hs5⟩) | (refine wpList_store_row rfl 33 _ _ rfl _ #[.int .i64 1, .int .i64 0, .int .i64 0] rfl rfl 33 #[.int .i64 0, .int .i64 0, .int .i64 0] (heap_alloc_new _ _) (by kernel_rfl) rfl H2.out ?_; rw [World.setRow_alloc_new]))
        have HP6 : Aside0 (exP (w5.alloc (.cells #[.int .i64 1, .int .i64 0, .int .i64 0] 33)) P A0 A1 c0 c1 1) := ⟨IsPlan.keep hp5 (below_alloc (Below.refl _ _) _)⟩
        have HN6 : Aside0 ((w5.alloc (.cells #[.int .i64 1, .int .i64 0, .int .i64 0] 33)).heap[w5.heap.size]? = some (.cells #[.int .i64 1, .int .i64 0, .int .i64 0] 33 (0, 0))) := ⟨heap_alloc_new _ _⟩
        have hz := hs5.size
        have hs9 := HS.out
        have hg9 := HG.out
        have HW6 : Aside0 ((w5.alloc (.cells #[.int .i64 1, .int .i64 0, .int .i64 0] 33)).heap[gw]? = some (.cells wantC 33 (0, 0))) := ⟨by rw [heap_alloc_old _ _ (by omega), hs5.block gw (by omega) (by omega) (by omega) (by omega)]; exact HW.out⟩
        have HJ6 : Aside0 ((w5.alloc (.cells #[.int .i64 1, .int .i64 0, .int .i64 0] 33)).heap[gw + 1]? = some (.cells #[.int .i64 0, .int .i64 1, .int .i64 1, .int .i64 1] 3 (0, 0))) := ⟨by rw [heap_alloc_old _ _ (by omega), hs5.block (gw + 1) (by omega) (by omega) (by omega) (by omega)]; exact HJ.out⟩
        have HB6 : Aside0 (Below w.heap.size w (w5.alloc (.cells #[.int .i64 1, .int .i64 0, .int .i64 0] 33))) := ⟨(HB.out.trans (hs5.below HPB'.out.1 HPB'.out.2.1 HPB'.out.2.2 HB.out.size)).alloc (by have := HB.out.size; omega) _⟩
        have HS6 : Aside0 (gw + 1 < (w5.alloc (.cells #[.int .i64 1, .int .i64 0, .int .i64 0] 33)).heap.size) := ⟨by rw [World.size_alloc]; omega⟩
        generalize hV : w5.alloc (.cells #[.int .i64 1, .int .i64 0, .int .i64 0] 33) = w6 at HP6 HN6 HW6 HJ6 HB6 HS6 ⊢
        generalize w5.heap.size = g6 at HN6 ⊢
        clear hV hp5 hs5 hz hs9 hg9 j0 HP HW HJ HB HS
        have a0 : w6.cell? ⟨g6, 0, none⟩ = some (.int .i64 1) := by rw [cell_of_row _ _ _ _ _ _ HN6.out]; rfl
        have a1 : w6.cell? ⟨g6, 1, none⟩ = some (.int .i64 0) := by rw [cell_of_row _ _ _ _ _ _ HN6.out]; rfl
        have a2 : w6.cell? ⟨g6, 2, none⟩ = some (.int .i64 0) := by rw [cell_of_row _ _ _ _ _ _ HN6.out]; rfl
        have b0 : w6.cell? ⟨gw, 0, none⟩ = some (.int .i64 1) := by rw [cell_of_row _ _ _ _ _ _ HW6.out]; rfl
        have b1 : w6.cell? ⟨gw, 1, none⟩ = some (.int .i64 0) := by rw [cell_of_row _ _ _ _ _ _ HW6.out]; rfl
        have b2 : w6.cell? ⟨gw, 2, none⟩ = some (.int .i64 0) := by rw [cell_of_row _ _ _ _ _ _ HW6.out]; rfl
        go_quiet (fail)
        go_wp2
        go_roundw
        case rel => exact ⟨1, by omega, by go_num, ⟨IsPlan.drewN HP6.out _⟩, HW6, HJ6, ⟨pw_below_drewN HB6.out _⟩, HS6⟩
        case measure => simp [intOf]
      · have j0 : wr.cell? ⟨gw + 1, 1, none⟩ = some (.int .i64 1) := by rw [cell_of_row _ _ _ _ _ _ HJ.out]; rfl
        have H2 := Aside0.mk (ev3_one 2 0 0)
        have z33 := z33
        have HX : Aside0 (Calls Try.prog 11 #[.pointer (some ⟨P.gp, 0, none⟩), .int .i64 1] wr fun e w' => e = .returned (.tuple #[.agg #[.int .i64 2, .int .i64 0, .int .i64 0], .nilIface]) ∧ exP w' P A0 A1 c0 c1 2 ∧ Stp wr w' P) := ⟨ex_pick1 HP.out⟩
        go_wp2_with (first | (go_at_call 11; refine HX.out.mono ?_; rintro e w5 ⟨rfl, hp5, hs5⟩) | (refine wpList_store_row rfl 33 _ _ rfl _ #[.int .i64 2, .int .i64 0, .int .i64 0] rfl rfl 33 #[.int .i64 0, .int .i64 0, .int .i64 0] (heap_alloc_new _ _) (by kernel_rfl) rfl H2.out ?_; rw [World.setRow_alloc_new]))
        have HP6 : Aside0 (exP (w5.alloc (.cells #[.int .i64 2, .int .i64 0, .int .i64 0] 33)) P A0 A1 c0 c1 2) := ⟨IsPlan.keep hp5 (below_alloc (Below.refl _ _) _)⟩
        have HN6 : Aside0 ((w5.alloc (.cells #[.int .i64 2, .int .i64 0, .int .i64 0] 33)).heap[w5.heap.size]? = some (.cells #[.int .i64 2, .int .i64 0, .int .i64 0] 33 (0, 0))) := ⟨heap_alloc_new _ _⟩
        have hz := hs5.size
        have hs9 := HS.out
        have hg9 := HG.out
        have HW6 : Aside0 ((w5.alloc (.cells #[.int .i64 2, .int .i64 0, .int .i64 0] 33)).heap[gw]? = some (.cells wantC 33 (0, 0))) := ⟨by rw [heap_alloc_old _ _ (by omega), hs5.block gw (by omega) (by omega) (by omega) (by omega)]; exact HW.out⟩
        have HJ6 : Aside0 ((w5.alloc (.cells #[.int .i64 2, .int .i64 0, .int .i64 0] 33)).heap[gw + 1]? = some (.cells #[.int .i64 0, .int .i64 1, .int .i64 1, .int .i64 1] 3 (0, 0))) := ⟨by rw [heap_alloc_old _ _ (by omega), hs5.block (gw + 1) (by omega) (by omega) (by omega) (by omega)]; exact HJ.out⟩
        have HB6 : Aside0 (Below w.heap.size w (w5.alloc (.cells #[.int .i64 2, .int .i64 0, .int .i64 0] 33))) := ⟨(HB.out.trans (hs5.below HPB'.out.1 HPB'.out.2.1 HPB'.out.2.2 HB.out.size)).alloc (by have := HB.out.size; omega) _⟩
        have HS6 : Aside0 (gw + 1 < (w5.alloc (.cells #[.int .i64 2, .int .i64 0, .int .i64 0] 33)).heap.size) := ⟨by rw [World.size_alloc]; omega⟩
        generalize hV : w5.alloc (.cells #[.int .i64 2, .int .i64 0, .int .i64 0] 33) = w6 at HP6 HN6 HW6 HJ6 HB6 HS6 ⊢
        generalize w5.heap.size = g6 at HN6 ⊢
        clear hV hp5 hs5 hz hs9 hg9 j0 HP HW HJ HB HS
        have a0 : w6.cell? ⟨g6, 0, none⟩ = some (.int .i64 2) := by rw [cell_of_row _ _ _ _ _ _ HN6.out]; rfl
        have a1 : w6.cell? ⟨g6, 1, none⟩ = some (.int .i64 0) := by rw [cell_of_row _ _ _ _ _ _ HN6.out]; rfl
        have a2 : w6.cell? ⟨g6, 2, none⟩ = some (.int .i64 0) := by rw [cell_of_row _ _ _ _ _ _ HN6.out]; rfl
        have b0 : w6.cell? ⟨gw, 3, none⟩ = some (.int .i64 2) := by rw [cell_of_row _ _ _ _ _ _ HW6.out]; rfl
        have b1 : w6.cell? ⟨gw, 4, none⟩ = some (.int .i64 0) := by rw [cell_of_row _ _ _ _ _ _ HW6.out]; rfl
        have b2 : w6.cell? ⟨gw, 5, none⟩ = some (.int .i64 0) := by rw [cell_of_row _ _ _ _ _ _ HW6.out]; rfl
        go_quiet (fail)
        go_wp2
        go_roundw
        case rel => exact ⟨2, by omega, by go_num, ⟨IsPlan.drewN HP6.out _⟩, HW6, HJ6, ⟨pw_below_drewN HB6.out _⟩, HS6⟩
        case measure => simp [intOf]
      · have j0 : wr.cell? ⟨gw + 1, 2, none⟩ = some (.int .i64 1) := by rw [cell_of_row _ _ _ _ _ _ HJ.out]; rfl
        have H2 := Aside0.mk (ev3_one 3 0 0)
        have z33 := z33
        have HX : Aside0 (Calls Try.prog 11 #[.pointer (some ⟨P.gp, 0, none⟩), .int .i64 1] wr fun e w' => e = .returned (.tuple #[.agg #[.int .i64 3, .int .i64 0, .int .i64 0], .nilIface]) ∧ exP w' P A0 A1 c0 c1 3 ∧ Stp wr w' P) := ⟨ex_pick2 HP.out⟩
        go_wp2_with (first | (go_at_call 11; refine HX.out.mono ?_; rintro e w5 ⟨rfl, hp5, hs5⟩) | (refine wpList_store_row rfl 33 _ _ rfl _ #[.int .i64 3, .int .i64 0, .int .i64 0] rfl rfl 33 #[.int .i64 0, .int .i64 0, .int .i64 0] (heap_alloc_new _ _) (by kernel_rfl) rfl H2.out ?_; rw [World.setRow_alloc_new]))
        have HP6 : Aside0 (exP (w5.alloc (.cells #[.int .i64 3, .int .i64 0, .int .i64 0] 33)) P A0 A1 c0 c1 3) := ⟨IsPlan.keep hp5 (below_alloc (Below.refl _ _) _)⟩
        have HN6 : Aside0 ((w5.alloc (.cells #[.int .i64 3, .int .i64 0, .int .i64 0] 33)).heap[w5.heap.size]? = some (.cells #[.int .i64 3, .int .i64 0, .int .i64 0] 33 (0, 0))) := ⟨heap_alloc_new _ _⟩
        have hz := hs5.size
        have hs9 := HS.out
        have hg9 := HG.out
        have HW6 : Aside0 ((w5.alloc (.cells #[.int .i64 3, .int .i64 0, .int .i64 0] 33)).heap[gw]? = some (.cells wantC 33 (0, 0))) := ⟨by rw [heap_alloc_old _ _ (by omega), hs5.block gw (by omega) (by omega) (by omega) (by omega)]; exact HW.out⟩
        have HJ6 : Aside0 ((w5.alloc (.cells #[.int .i64 3, .int .i64 0, .int .i64 0] 33)).heap[gw + 1]? = some (.cells #[.int .i64 0, .int .i64 1, .int .i64 1, .int .i64 1] 3 (0, 0))) := ⟨by rw [heap_alloc_old _ _ (by omega), hs5.block (gw + 1) (by omega) (by omega) (by omega) (by omega)]; exact HJ.out⟩
        have HB6 : Aside0 (Below w.heap.size w (w5.alloc (.cells #[.int .i64 3, .int .i64 0, .int .i64 0] 33))) := ⟨(HB.out.trans (hs5.below HPB'.out.1 HPB'.out.2.1 HPB'.out.2.2 HB.out.size)).alloc (by have := HB.out.size; omega) _⟩
        have HS6 : Aside0 (gw + 1 < (w5.alloc (.cells #[.int .i64 3, .int .i64 0, .int .i64 0] 33)).heap.size) := ⟨by rw [World.size_alloc]; omega⟩
        generalize hV : w5.alloc (.cells #[.int .i64 3, .int .i64 0, .int .i64 0] 33) = w6 at HP6 HN6 HW6 HJ6 HB6 HS6 ⊢
        generalize w5.heap.size = g6 at HN6 ⊢
        clear hV hp5 hs5 hz hs9 hg9 j0 HP HW HJ HB HS
        have a0 : w6.cell? ⟨g6, 0, none⟩ = some (.int .i64 3) := by rw [cell_of_row _ _ _ _ _ _ HN6.out]; rfl
        have a1 : w6.cell? ⟨g6, 1, none⟩ = some (.int .i64 0) := by rw [cell_of_row _ _ _ _ _ _ HN6.out]; rfl
        have a2 : w6.cell? ⟨g6, 2, none⟩ = some (.int .i64 0) := by rw [cell_of_row _ _ _ _ _ _ HN6.out]; rfl
        have b0 : w6.cell? ⟨gw, 6, none⟩ = some (.int .i64 3) := by rw [cell_of_row _ _ _ _ _ _ HW6.out]; rfl
        have b1 : w6.cell? ⟨gw, 7, none⟩ = some (.int .i64 0) := by rw [cell_of_row _ _ _ _ _ _ HW6.out]; rfl
        have b2 : w6.cell? ⟨gw, 8, none⟩ = some (.int .i64 0) := by rw [cell_of_row _ _ _ _ _ _ HW6.out]; rfl
        go_quiet (fail)
        go_wp2
        go_roundw
        case rel => exact ⟨3, by omega, by go_num, ⟨IsPlan.drewN HP6.out _⟩, HW6, HJ6, ⟨pw_below_drewN HB6.out _⟩, HS6⟩
        case measure => simp [intOf]
      · have j0 : wr.cell? ⟨gw + 1, 3, none⟩ = some (.int .i64 1) := by rw [cell_of_row _ _ _ _ _ _ HJ.out]; rfl
        have H2 := Aside0.mk (ev3_one 1 1 1)
        have z33 := z33
        have HX : Aside0 (Calls Try.prog 11 #[.pointer (some ⟨P.gp, 0, none⟩), .int .i64 1] wr fun e w' => e = .returned (.tuple #[.agg #[.int .i64 1, .int .i64 1, .int .i64 1], .nilIface]) ∧ exP w' P A0 A1 c0 c1 4 ∧ Stp wr w' P) := ⟨ex_pick3 HP.out⟩
        go_wp2_with (first | (go_at_call 11; refine HX.out.mono ?_; rintro e w5 ⟨rfl, hp5, hs5⟩) | (refine wpList_store_row rfl 33 _ _ rfl _ #[.int .i64 1, .int .i64 1, .int .i64 1] rfl rfl 33 #[.int .i64 0, .int .i64 0, .int .i64 0] (heap_alloc_new _ _) (by kernel_rfl) rfl H2.out ?_; rw [World.setRow_alloc_new]))
        have HP6 : Aside0 (exP (w5.alloc (.cells #[.int .i64 1, .int .i64 1, .int .i64 1] 33)) P A0 A1 c0 c1 4) := ⟨IsPlan.keep hp5 (below_alloc (Below.refl _ _) _)⟩
        have HN6 : Aside0 ((w5.alloc (.cells #[.int .i64 1, .int .i64 1, .int .i64 1] 33)).heap[w5.heap.size]? = some (.cells #[.int .i64 1, .int .i64 1, .int .i64 1] 33 (0, 0))) := ⟨heap_alloc_new _ _⟩
        have hz := hs5.size
        have hs9 := HS.out
        have hg9 := HG.out
        have HW6 : Aside0 ((w5.alloc (.cells #[.int .i64 1, .int .i64 1, .int .i64 1] 33)).heap[gw]? = some (.cells wantC 33 (0, 0))) := ⟨by rw [heap_alloc_old _ _ (by omega), hs5.block gw (by omega) (by omega) (by omega) (by omega)]; exact HW.out⟩
        have HJ6 : Aside0 ((w5.alloc (.cells #[.int .i64 1, .int .i64 1, .int .i64 1] 33)).heap[gw + 1]? = some (.cells #[.int .i64 0, .int .i64 1, .int .i64 1, .int .i64 1] 3 (0, 0))) := ⟨by rw [heap_alloc_old _ _ (by omega), hs5.block (gw + 1) (by omega) (by omega) (by omega) (by omega)]; exact HJ.out⟩
        have HB6 : Aside0 (Below w.heap.size w (w5.alloc (.cells #[.int .i64 1, .int .i64 1, .int .i64 1] 33))) := ⟨(HB.out.trans (hs5.below HPB'.out.1 HPB'.out.2.1 HPB'.out.2.2 HB.out.size)).alloc (by have := HB.out.size; omega) _⟩
        have HS6 : Aside0 (gw + 1 < (w5.alloc (.cells #[.int .i64 1, .int .i64 1, .int .i64 1] 33)).heap.size) := ⟨by rw [World.size_alloc]; omega⟩
        generalize hV : w5.alloc (.cells #[.int .i64 1, .int .i64 1, .int .i64 1] 33) = w6 at HP6 HN6 HW6 HJ6 HB6 HS6 ⊢
        generalize w5.heap.size = g6 at HN6 ⊢
        clear hV hp5 hs5 hz hs9 hg9 j0 HP HW HJ HB HS
        have a0 : w6.cell? ⟨g6, 0, none⟩ = some (.int .i64 1) := by rw [cell_of_row _ _ _ _ _ _ HN6.out]; rfl
        have a1 : w6.cell? ⟨g6, 1, none⟩ = some (.int .i64 1) := by rw [cell_of_row _ _ _ _ _ _ HN6.out]; rfl
        have a2 : w6.cell? ⟨g6, 2, none⟩ = some (.int .i64 1) := by rw [cell_of_row _ _ _ _ _ _ HN6.out]; rfl
        have b0 : w6.cell? ⟨gw, 9, none⟩ = some (.int .i64 1) := by rw [cell_of_row _ _ _ _ _ _ HW6.out]; rfl
        have b1 : w6.cell? ⟨gw, 10, none⟩ = some (.int .i64 1) := by rw [cell_of_row _ _ _ _ _ _ HW6.out]; rfl
        have b2 : w6.cell? ⟨gw, 11, none⟩ = some (.int .i64 1) := by rw [cell_of_row _ _ _ _ _ _ HW6.out]; rfl
        go_quiet (fail)
        go_wp2
        go_roundw
        case rel => exact ⟨4, by omega, by go_num, ⟨IsPlan.drewN HP6.out _⟩, HW6, HJ6, ⟨pw_below_drewN HB6.out _⟩, HS6⟩
        case measure => simp [intOf]
    · have hi4 : i = 4 := by omega
      subst hi4
      have HX1 : Aside0 (Calls Try.prog 13 #[.pointer (some ⟨P.gp, 0, none⟩)] wr fun e w' => e = .returned (.int .i64 4) ∧ w' = wr) := ⟨picks_calls P _ _ _ _ wr HP.out⟩
      have HX2 : Aside0 (Calls Try.prog 14 #[.pointer (some ⟨P.gp, 0, none⟩)] wr fun e w' => e = .returned (.int .i64 1) ∧ w' = wr) := ⟨left_calls P _ _ _ _ wr HP.out⟩
      go_wp2_with (first | (go_at_call 13; refine HX1.out.mono ?_; rintro e w5 ⟨rfl, rfl⟩) | (go_at_call 14; refine HX2.out.mono ?_; rintro e w5 ⟨rfl, rfl⟩))
      go_ret
      exact ⟨rfl, HB.out⟩
end Go.Proofs.Ytigpcfokmbnlaaa.Sched

/- What the laws' guards answer: the document's Good, large. -/
namespace Go.Proofs.Ytigpcfokmbnlaaa.Sched
open Go.RowKit Go.Proofs.YtigpcfokmbnlaaaW.PrintWords

section
open Go.Proofs.Ytigpcfokmbnlaaa.PSchedOne
theorem rL1 (L : List (List Int)) (i : Nat) : Go.Proofs.Ytigpcfokmbnlaaa.PSchedOne.rd_L1 L (i : Int) = L.getD i [] := by simp [Go.Proofs.Ytigpcfokmbnlaaa.PSchedOne.rd_L1]
theorem wrap_pred (n : Nat) (h : n < 1000000000) : wrap64 (((n + 1 : Nat) : Int) - 1) = (n : Int) := by
  unfold wrap64; omega
theorem r19_row (L : List (List Int)) (i : Nat) (row : List Int) (hL : L.getD i [] = row) (hi : i < L.length) (hrow : row.length ≤ 1000000) (hi2 : i < 1000000) (r : Bool) (hn : ∃ k, sluicewayref19_Good.l0 k L ((i + 1 : Nat) : Int) = some r) :
    ∀ (m j : Nat) (b : Int), j + m = row.length → -1 ≤ b → (j = 0 → b = -1) → (∀ q, j = q + 1 → row[q]? = some b) → ∃ k, sluicewayref19_Good.l1 k L i j = some (okRow i b (row.drop j) && r) := by
  have e1 : (0 : Int) ≤ (i : Int) := by omega
  have e2 : (i : Int) < (L.length : Int) := by omega
  intro m
  induction m with
  | zero =>
    intro j b hj _ _ _
    obtain ⟨k, hk⟩ := hn
    refine ⟨k + 1, ?_⟩
    have e : ¬ ((j : Int) < (row.length : Int)) := by omega
    simp only [sluicewayref19_Good.l1, rL1, hL, e, e1, e2, if_true, if_false, wrap_succ i (by omega), hk]
    rw [List.drop_of_length_le (by omega)]
    simp [okRow]
  | succ m ih =>
    intro j b hj hb hb0 hb1
    have hlt : j < row.length := by omega
    have e : ((j : Int) < (row.length : Int)) := by omega
    have e0 : (0 : Int) ≤ (j : Int) := by omega
    have hg : row[j]? = some row[j] := by simp [hlt]
    rw [List.drop_eq_getElem_cons hlt]
    have hrj := rd_get row j hlt
    generalize row[j] = q at hg hrj
    by_cases h1 : q < 0
    · refine ⟨1, ?_⟩
      simp only [sluicewayref19_Good.l1, rL1, hL, e, e0, e1, e2, if_true, hrj, h1, okRow]
      have : ¬ b < q := by
        rcases Nat.eq_zero_or_pos j with hj0 | hj0
        · rw [hb0 hj0]; omega
        · omega
      simp [this]
    · by_cases h2 : q ≥ (i : Int)
      · refine ⟨1, ?_⟩
        simp only [sluicewayref19_Good.l1, rL1, hL, e, e0, e1, e2, if_true, hrj, h1, h2, if_false, okRow]
        simp [show ¬ q < (i : Int) by omega]
      · obtain ⟨k, hk⟩ := ih (j + 1) q (by omega) (by omega) (by omega) (fun p hp => by rw [show p = j by omega]; exact hg)
        rcases j with _ | j
        · refine ⟨k + 1, ?_⟩
          have e3 : ¬ ((0 : Nat) : Int) > 0 := by omega
          simp only [sluicewayref19_Good.l1, rL1, hL, e, e0, e1, e2, if_true, hrj, h1, h2, e3, if_false, wrap_succ 0 (by omega), hk, okRow]
          simp [hb0 rfl, show -1 < q by omega, show q < (i : Int) by omega]
        · have hp := hb1 j rfl
          have e3 : ((j + 1 : Nat) : Int) > 0 := by omega
          have e4 : (0 : Int) ≤ (j : Int) := by omega
          have e5 : (j : Int) < (row.length : Int) := by omega
          have hrp : rd row (j : Int) = b := by
            rw [rd_get row j (by omega)]
            rw [List.getElem?_eq_getElem (by omega)] at hp
            exact Option.some.inj hp
          refine ⟨k + 1, ?_⟩
          simp only [sluicewayref19_Good.l1, rL1, hL, e, e0, e1, e2, if_true, hrj, h1, h2, e3, if_false, wrap_pred j (by omega), e4, e5, hrp, wrap_succ (j + 1) (by omega), hk, okRow]
          by_cases h3 : b ≥ q
          · simp [h3, show ¬ b < q by omega]
          · simp [h3, show b < q by omega, show q < (i : Int) by omega]
theorem r19_from (L : List (List Int)) (hL : L.length ≤ 1000000) (hr : rowsAt L 1000000) : ∀ (m i : Nat), i + m = L.length → ∃ k, sluicewayref19_Good.l0 k L i = some (okFrom i (L.drop i)) := by
  intro m
  induction m with
  | zero =>
    intro i hi
    refine ⟨1, ?_⟩
    have e : ¬ ((i : Int) < (L.length : Int)) := by omega
    simp only [sluicewayref19_Good.l0, e, if_false]
    rw [List.drop_of_length_le (by omega)]
    simp [okFrom]
  | succ m ih =>
    intro i hi
    have hlt : i < L.length := by omega
    have e : ((i : Int) < (L.length : Int)) := by omega
    have hg : L.getD i [] = L[i] := by simp [List.getD_eq_getElem?_getD, hlt]
    obtain ⟨k, hk⟩ := r19_row L i L[i] hg hlt (hr _ (List.getElem_mem hlt)) (by omega) _ (ih (i + 1) (by omega)) L[i].length 0 (-1) (by omega) (by omega) (fun _ => rfl) (fun q hq => by omega)
    refine ⟨k + 1, ?_⟩
    simp only [sluicewayref19_Good.l0, e, if_true]
    rw [List.drop_eq_getElem_cons hlt]
    simpa [okFrom] using hk
theorem r19_calls (A0 : Option Addr) (c0 : Nat) (L : List (List Int)) (w : World) (hL : L.length ≤ 1000000) (hr : rowsAt L 1000000) (hr0 : Kd.C (Kd.slice 3 (Kd.int .i64)) w A0 L.length L) (hc0 : L.length ≤ c0) :
    Calls Try.prog 9 #[.slice A0 L.length c0] w fun e w' => e = .returned (.bool (goodB L)) ∧ Drawn0 w w' := by
  obtain ⟨k, hk⟩ := r19_from L hL hr L.length 0 (by omega)
  exact sluicewayref19_Good.calls k A0 c0 L _ w hr0 hc0 (by simpa [sluicewayref19_Good.f, goodB] using hk)
end

section
open Go.Proofs.Ytigpcfokmbnlaaa.PSchedPlays
def bigFrom : Nat → List (List Int) → Bool
  | _, [] => false
  | i, l :: ls => decide (30 < i) || (decide (40 < l.length) || bigFrom (i + 1) ls)
def largeB (L : List (List Int)) (picks : List Int) : Bool := bigFrom 0 L || decide (200 < picks.length)
theorem large_from (L : List (List Int)) (picks : List Int) : ∀ (m i : Nat), i + m = 32 → i ≤ L.length → ∃ k, sluicewaylaw21_large.l0 k picks L L.length i = some (bigFrom i (L.drop i) || decide (200 < picks.length)) := by
  intro m
  induction m with
  | zero =>
    intro i hi hl
    refine ⟨1, ?_⟩
    by_cases hlt : i < L.length
    · have e : ((i : Int) < (L.length : Int)) := by omega
      have e0 : (0 : Int) ≤ (i : Int) := by omega
      have e1 : (i : Int) > 30 := by omega
      simp only [sluicewaylaw21_large.l0, e, e0, e1, if_true]
      rw [List.drop_eq_getElem_cons hlt]
      simp [bigFrom, show 30 < i by omega]
    · have e : ¬ ((i : Int) < (L.length : Int)) := by omega
      simp only [sluicewaylaw21_large.l0, e, if_false]
      rw [List.drop_of_length_le (by omega)]
      simp [bigFrom]
      omega
  | succ m ih =>
    intro i hi hl
    by_cases hlt : i < L.length
    · have e : ((i : Int) < (L.length : Int)) := by omega
      have e0 : (0 : Int) ≤ (i : Int) := by omega
      have hg : L.getD i [] = L[i] := by simp [List.getD_eq_getElem?_getD, hlt]
      rw [List.drop_eq_getElem_cons hlt]
      by_cases h1 : 30 < i
      · refine ⟨1, ?_⟩
        have e1 : (i : Int) > 30 := by omega
        simp only [sluicewaylaw21_large.l0, e, e0, e1, if_true]
        simp [bigFrom, h1]
      · have e1 : ¬ (i : Int) > 30 := by omega
        by_cases h2 : 40 < L[i].length
        · refine ⟨1, ?_⟩
          have e2 : ((L[i].length : Nat) : Int) > 40 := by omega
          simp only [sluicewaylaw21_large.l0, rd_L1_nat, hg, e, e0, e1, e2, if_true, if_false]
          simp [bigFrom, h2]
        · obtain ⟨k, hk⟩ := ih (i + 1) (by omega) (by omega)
          refine ⟨k + 1, ?_⟩
          have e2 : ¬ ((L[i].length : Nat) : Int) > 40 := by omega
          simp only [sluicewaylaw21_large.l0, rd_L1_nat, hg, e, e0, e1, e2, if_true, if_false, wrap_succ i (by omega), hk]
          simp [bigFrom, h1, h2]
    · refine ⟨1, ?_⟩
      have e : ¬ ((i : Int) < (L.length : Int)) := by omega
      simp only [sluicewaylaw21_large.l0, e, if_false]
      rw [List.drop_of_length_le (by omega)]
      simp [bigFrom]
      omega
theorem large_f (L : List (List Int)) (picks : List Int) : ∃ k, sluicewaylaw21_large.f k L picks = some (largeB L picks) := by
  obtain ⟨k, hk⟩ := large_from L picks 32 0 (by omega) (by omega)
  exact ⟨k, by simpa [sluicewaylaw21_large.f, largeB] using hk⟩
theorem large_calls (A0 : Option Addr) (c0 : Nat) (L : List (List Int)) (A1 : Option Addr) (c1 : Nat) (picks : List Int) (w : World) (hr0 : Kd.C (Kd.slice 3 (Kd.int .i64)) w A0 L.length L) (hc0 : L.length ≤ c0) (hr1 : Kd.C (Kd.int .i64) w A1 picks.length picks) (hc1 : picks.length ≤ c1) :
    Calls Try.prog 8 #[.slice A0 L.length c0, .slice A1 picks.length c1] w fun e w' => e = .returned (.bool (largeB L picks)) ∧ Drawn0 w w' := by
  obtain ⟨k, hk⟩ := large_f L picks
  exact sluicewaylaw21_large.calls k A0 c0 L A1 c1 picks _ w hr0 hc0 hr1 hc1 hk
theorem big_len : ∀ (L : List (List Int)) (i : Nat), bigFrom i L = false → (L ≠ [] → i + L.length ≤ 31) ∧ ∀ l ∈ L, l.length ≤ 40 := by
  intro L
  induction L with
  | nil => intro i _; exact ⟨fun h => absurd rfl h, by simp⟩
  | cons l ls ih =>
    intro i h
    simp only [bigFrom, Bool.or_eq_false_iff, decide_eq_false_iff_not] at h
    obtain ⟨h1, h2, h3⟩ := h
    obtain ⟨a, b⟩ := ih (i + 1) h3
    refine ⟨fun _ => ?_, fun q hq => ?_⟩
    · cases ls with
      | nil => simp; omega
      | cons l' ls => have := a (by simp); simp at this ⊢; omega
    · rcases List.mem_cons.1 hq with rfl | hq
      · omega
      · exact b q hq
theorem large_false (L : List (List Int)) (picks : List Int) (h : largeB L picks = false) : L.length ≤ 31 ∧ rowsAt L 40 ∧ picks.length ≤ 200 := by
  simp only [largeB, Bool.or_eq_false_iff, decide_eq_false_iff_not] at h
  obtain ⟨a, b⟩ := big_len L 0 h.1
  refine ⟨?_, b, by omega⟩
  cases L with
  | nil => simp
  | cons l ls => have := a (by simp); omega
end
end Go.Proofs.Ytigpcfokmbnlaaa.Sched

/- A row of whole numbers in a block of its own, beside a plan. -/
namespace Go.Proofs.Ytigpcfokmbnlaaa.Sched
open Go.RowKit Go.Proofs.YtigpcfokmbnlaaaW.PrintWords

def IsRow (w : World) (g : Nat) (xs : List Int) : Prop := w.heap[g]? = some (.cells (nums .i64 xs).toArray 3 (0, 0))
section
variable {w w' : World} {g : Nat} {xs : List Int}
theorem IsRow.cell (h : IsRow w g xs) (j : Nat) (hj : j < xs.length) : w.cell? ⟨g, j, none⟩ = some (.int .i64 (xs.getD j 0)) := by
  rw [cell_of_row _ _ _ _ _ _ h]
  simp [nums, hj]
theorem IsRow.fr (h : IsRow w g xs) (j : Nat) : w.frozen? ⟨g, j, none⟩ = false := frozen_of_row _ _ _ _ _ h
theorem IsRow.lt (h : IsRow w g xs) : g < w.heap.size := (Array.getElem?_eq_some_iff.1 h).1
theorem IsRow.set (h : IsRow w g xs) (j : Nat) (u : Int) : IsRow (w.setCell ⟨g, j, none⟩ (.int .i64 u)) g (xs.set j u) := by
  unfold IsRow
  rw [heap_setCell_same _ _ _ _ _ _ h]
  simp [nums, List.map_set]
theorem IsRow.below (h : IsRow w g xs) {B : Nat} (hb : Below B w w') (hg : g < B) : IsRow w' g xs := by
  unfold IsRow; rw [hb.block _ hg]; exact h
theorem IsRow.keep (h : IsRow w g xs) (hb : Below w.heap.size w w') : IsRow w' g xs := h.below hb h.lt
theorem IsRow.stp (h : IsRow w g xs) {P : Pl} (hs : Stp w w' P) (h1 : g ≠ P.gp) (h2 : g ≠ P.gt) (h3 : g ≠ P.gh) : IsRow w' g xs := by
  unfold IsRow; rw [hs.block _ h.lt h1 h2 h3]; exact h
theorem IsRow.drewN (h : IsRow w g xs) (n : Nat) : IsRow (w.drewN n) g xs := h
end
/-- A store into a block that is none of those that a plan was made beside. -/
theorem Stp.setNew {w w1 : World} {P : Pl} (h : Stp w w1 P) {p : Addr} (hp : w.heap.size ≤ p.block) (u : Value) : Stp w (w1.setCell p u) P :=
  ⟨h.os, h.tape, h.output, by simpa using h.size, fun k hk h1 h2 h3 => (Below.heap_setCell _ _ _ _ (by omega)).trans (h.block k hk h1 h2 h3)⟩
theorem info3 : (Try.prog.info? 3).map (fun i => (i.zero, i.size, i.bytes)) = some (some (.int .i64 0), 1, 8) := by kernel_rfl
theorem make38 (n : Nat) (hn : n ≤ 1000000) (W : World) : (Instr.makeSlice 38 (.int .i64 (n : Int)) (.int .i64 (n : Int))).run Try.prog W = .ok (.slice (some ⟨W.heap.size, 0, none⟩) n n) (W.alloc (.cells (nums .i64 (List.replicate n 0)).toArray 3)) := by
  rw [print_make_of 38 3 (.int .i64 0) 8 Try.underlying38 info3 rfl (by decide) n (by omega) W]
  congr 4
  apply Array.ext'
  rw [toList_madeCells_one]
  simp [nums]
end Go.Proofs.Ytigpcfokmbnlaaa.Sched

/- SchedOnce: the law's own walk. -/
namespace Go.Proofs.Ytigpcfokmbnlaaa.Sched
open Go.RowKit Go.Proofs.YtigpcfokmbnlaaaW.PrintWords

theorem rowsAt_mono' {L : List (List Int)} {a b : Nat} (h : rowsAt L a) (hab : a ≤ b) : rowsAt L b := fun l hl => Nat.le_trans (h l hl) hab
/-- The states told by what is idle, so far. -/
def upS (idle : List Bool) : Nat → List Int
  | 0 => List.replicate idle.length 0
  | i + 1 => if idle.getD i false then (upS idle i).set i 3 else upS idle i
theorem upS_len (idle : List Bool) (i : Nat) : (upS idle i).length = idle.length := by
  induction i with
  | zero => simp [upS]
  | succ i ih => simp only [upS]; split <;> simp [ih]
theorem upS_getD (idle : List Bool) (i : Nat) (hi : i ≤ idle.length) (m : Nat) (hm : m < idle.length) : (upS idle i).getD m 0 = if m < i then idleS (idle.getD m false) else 0 := by
  induction i with
  | zero => rw [if_neg (by omega)]; simp [upS, List.getD_eq_getElem?_getD, hm]
  | succ i ih =>
    have := ih (by omega)
    simp only [upS]
    by_cases hb : idle.getD i false = true
    · rw [if_pos hb, getD_set_int _ _ _ _ (by rw [upS_len]; omega)]
      by_cases e : m = i
      · subst e; rw [if_pos rfl, if_pos (by omega), hb]; rfl
      · rw [if_neg e, this]
        by_cases e2 : m < i
        · rw [if_pos e2, if_pos (by omega)]
        · rw [if_neg e2, if_neg (by omega)]
    · rw [if_neg hb, this]
      have hb' : idle.getD i false = false := by simpa using hb
      by_cases e : m = i
      · subst e; rw [if_neg (by omega), if_pos (by omega), hb']; rfl
      · by_cases e2 : m < i
        · rw [if_pos e2, if_pos (by omega)]
        · rw [if_neg e2, if_neg (by omega)]
theorem upS_all (idle : List Bool) : upS idle idle.length = idle.map idleS := by
  apply List.ext_getElem
  · simp [upS_len]
  · intro m h1 h2
    rw [upS_len] at h1
    have := upS_getD idle idle.length (Nat.le_refl _) m h1
    rw [if_pos h1, getD_get _ _ (by rw [upS_len]; exact h1), show idle.getD m false = idle[m] by simp [List.getD_eq_getElem?_getD, h1]] at this
    rw [this]; simp
section
variable (A0 : Option Addr) (c0 : Nat) (L : List (List Int)) (A1 : Option Addr) (c1 : Nat) (idle : List Bool) (n : Int) (A2 : Option Addr) (c2 : Nat) (picks : List Int) (w : World)
def planC : Array Value := #[.slice A0 L.length c0, .slice A1 idle.length c1, .int .i64 n]
/-- The boxed argument. -/
structure Box (W : World) (g : Nat) : Prop where
  row : W.heap[g]? = some (.cells #[.slice A0 L.length c0, .slice A1 idle.length c1, .int .i64 n] 37 (0, 0))
variable {A0 c0 L A1 c1 idle n}
theorem Box.cells {W : World} {g : Nat} (h : Box A0 c0 L A1 c1 idle n W g) : W.cell? ⟨g, 0, none⟩ = some (.slice A0 L.length c0) ∧ W.cell? ⟨g, 1, none⟩ = some (.slice A1 idle.length c1) ∧ W.cell? ⟨g, 2, none⟩ = some (.int .i64 n) := by
  refine ⟨?_, ?_, ?_⟩ <;> (rw [cell_of_row _ _ _ _ _ _ h.row]; rfl)
theorem Box.lt {W : World} {g : Nat} (h : Box A0 c0 L A1 c1 idle n W g) : g < W.heap.size := (Array.getElem?_eq_some_iff.1 h.row).1
theorem Box.below {W W' : World} {g B : Nat} (h : Box A0 c0 L A1 c1 idle n W g) (hb : Below B W W') (hg : g < B) : Box A0 c0 L A1 c1 idle n W' g := ⟨by rw [hb.block _ hg]; exact h.row⟩
theorem Box.stp {W W' : World} {g : Nat} {P : Pl} (h : Box A0 c0 L A1 c1 idle n W g) (hs : Stp W W' P) (h1 : g ≠ P.gp) (h2 : g ≠ P.gt) (h3 : g ≠ P.gh) : Box A0 c0 L A1 c1 idle n W' g := ⟨by rw [hs.block _ h.lt h1 h2 h3]; exact h.row⟩
theorem Box.set {W : World} {g : Nat} (h : Box A0 c0 L A1 c1 idle n W g) (p : Addr) (u : Value) (hp : g ≠ p.block) : Box A0 c0 L A1 c1 idle n (W.setCell p u) g := ⟨by rw [heap_setCell_other _ _ _ _ hp]; exact h.row⟩
variable (A0 c0 L A1 c1 idle n)
set_option maxHeartbeats 4000000 in
set_option maxRecDepth 100000 in
theorem once_big (hr0 : Kd.C (Kd.slice 3 (Kd.int .i64)) w A0 L.length L) (hc0 : L.length ≤ c0) (_hr1 : Kd.C Kd.bool w A1 idle.length idle) (_hc1 : idle.length ≤ c1) (hr2 : Kd.C (Kd.int .i64) w A2 picks.length picks) (hc2 : picks.length ≤ c2) (h : largeB L picks = true ∨ (largeB L picks = false ∧ 40 < idle.length)) :
    Calls Try.prog 4 #[.agg #[.slice A0 L.length c0, .slice A1 idle.length c1, .int .i64 n], .slice A2 picks.length c2] w fun e w' => e = .returned (.bool true) ∧ Below w.heap.size w w' := by
  have HL : Aside0 (∀ W, Below w.heap.size w W → Calls Try.prog 8 #[.slice A0 L.length c0, .slice A2 picks.length c2] W fun e w' => e = .returned (.bool (largeB L picks)) ∧ Drawn0 W w') := ⟨fun W hb => large_calls A0 c0 L A2 c2 picks W (Kd.C_below hr0 hb) hc0 (Kd.C_below hr2 hb) hc2⟩
  have HX : Aside0 (∀ w1, Below (w.heap.size + 1) (w.alloc (.cells #[.slice A0 L.length c0, .slice A1 idle.length c1, .int .i64 n] 37)) w1 → Below w.heap.size w w1 ∧ Box A0 c0 L A1 c1 idle n w1 w.heap.size) := ⟨fun w1 hb => ⟨below_trans (below_alloc (Below.refl _ _) _) (hb.mono (Nat.le_succ _)), ⟨by rw [hb.block _ (Nat.lt_succ_self _)]; exact heap_alloc_new _ _⟩⟩⟩
  rcases h with hlg | ⟨hlg, h40⟩
  · rw [hlg] at HL
    clear hlg hr0 hr2
    go_enter Try.func4, Try.ntmps4
    go_wp2_with fail
    refine (alive_calls _).mono ?_
    rintro e w1 ⟨rfl, hb1⟩
    rw [World.size_alloc] at hb1
    obtain ⟨hb, hx⟩ := HX.out w1 hb1
    obtain ⟨x0, x1, x2⟩ := hx.cells
    go_wp2_with (go_at_call 8; refine (HL.out _ hb).mono ?_; rintro e w2 ⟨rfl, ⟨m2, rfl⟩⟩)
    go_ret
    exact ⟨rfl, pw_below_drewN hb _⟩
  · rw [hlg] at HL
    have b40 : decide (40 < (idle.length : Int)) = true := by simp; omega
    have b41 : decide (40 < idle.length) = true := by simp; omega
    clear hlg hr0 hr2
    go_enter Try.func4, Try.ntmps4
    go_wp2_with fail
    refine (alive_calls _).mono ?_
    rintro e w1 ⟨rfl, hb1⟩
    rw [World.size_alloc] at hb1
    obtain ⟨hb, hx⟩ := HX.out w1 hb1
    obtain ⟨x0, x1, x2⟩ := hx.cells
    go_wp2_with (go_at_call 8; refine (HL.out _ hb).mono ?_; rintro e w2 ⟨rfl, ⟨m2, rfl⟩⟩)
    go_ret
    exact ⟨rfl, pw_below_drewN hb _⟩
set_option maxHeartbeats 4000000 in
set_option maxRecDepth 100000 in
theorem once_bad (hr0 : Kd.C (Kd.slice 3 (Kd.int .i64)) w A0 L.length L) (hc0 : L.length ≤ c0) (_hr1 : Kd.C Kd.bool w A1 idle.length idle) (_hc1 : idle.length ≤ c1) (hr2 : Kd.C (Kd.int .i64) w A2 picks.length picks) (hc2 : picks.length ≤ c2) (hlg : largeB L picks = false) (h40 : idle.length ≤ 40) (hbad : newBad L idle n ≠ 0) :
    Calls Try.prog 4 #[.agg #[.slice A0 L.length c0, .slice A1 idle.length c1, .int .i64 n], .slice A2 picks.length c2] w fun e w' => e = .returned (.bool true) ∧ Below w.heap.size w w' := by
  have HL : Aside0 (∀ W, Below w.heap.size w W → Calls Try.prog 8 #[.slice A0 L.length c0, .slice A2 picks.length c2] W fun e w' => e = .returned (.bool (largeB L picks)) ∧ Drawn0 W w') := ⟨fun W hb => large_calls A0 c0 L A2 c2 picks W (Kd.C_below hr0 hb) hc0 (Kd.C_below hr2 hb) hc2⟩
  have HX : Aside0 (∀ w1, Below (w.heap.size + 1) (w.alloc (.cells #[.slice A0 L.length c0, .slice A1 idle.length c1, .int .i64 n] 37)) w1 → Below w.heap.size w w1 ∧ Box A0 c0 L A1 c1 idle n w1 w.heap.size) := ⟨fun w1 hb => ⟨below_trans (below_alloc (Below.refl _ _) _) (hb.mono (Nat.le_succ _)), ⟨by rw [hb.block _ (Nat.lt_succ_self _)]; exact heap_alloc_new _ _⟩⟩⟩
  obtain ⟨hsz, hrows, -⟩ := large_false L picks hlg
  have HN : Aside0 (∀ W, Below w.heap.size w W → Calls Try.prog 10 #[.slice A0 L.length c0, .slice A1 idle.length c1, .int .i64 n] W fun e w' => e = .returned (.tuple #[.pointer none, .iface 43 (.int .i64 (newBad L idle n))]) ∧ Drawn0 W w') := ⟨fun W hb => by
    have h := new_bad A0 c0 L A1 c1 idle n W (by omega) (rowsAt_mono' hrows (by omega)) (Kd.C_below hr0 hb) hc0 hbad
    rw [show newV (newBad L idle n) = .tuple #[.pointer none, .iface 43 (.int .i64 (newBad L idle n))] by unfold newV errV; rw [if_neg hbad]] at h
    exact h⟩
  rw [hlg] at HL
  have b40 : decide (40 < (idle.length : Int)) = false := by simp; omega
  have b41 : decide (40 < idle.length) = false := by simp; omega
  generalize newBad L idle n = nb at HN
  clear hlg hr0 hr2 hrows hbad
  go_enter Try.func4, Try.ntmps4
  go_wp2_with fail
  refine (alive_calls _).mono ?_
  rintro e w1 ⟨rfl, hb1⟩
  rw [World.size_alloc] at hb1
  obtain ⟨hb, hx⟩ := HX.out w1 hb1
  obtain ⟨x0, x1, x2⟩ := hx.cells
  go_wp2_with (first | (go_at_call 8; refine (HL.out _ hb).mono ?_; rintro e w2 ⟨rfl, ⟨m2, rfl⟩⟩) | (go_at_call 10; refine (HN.out _ (pw_below_drewN hb _)).mono ?_; rintro e w3 ⟨rfl, ⟨m3, rfl⟩⟩))
  go_ret
  exact ⟨rfl, pw_below_drewN hb _⟩
end
end Go.Proofs.Ytigpcfokmbnlaaa.Sched
