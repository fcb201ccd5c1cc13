/- The contracts of package foot's Reads, Writes, onto and Meet. -/
import Derived.Test.YtnjpbfljecmoiaaFoot
namespace Go.Proofs.Ytnjpbfljecmoiaa.Graph
open Go.RowKit Go.Proofs.YtnjpbfljecmoiaaW.PrintWords Go.Proofs.Ytnjpbfljecmoiaa.PGraphLeans

/-- Where a foot's three rows lie. -/
structure FV where
  A0 : Option Addr
  c0 : Nat
  A1 : Option Addr
  c1 : Nat
  A2 : Option Addr
  c2 : Nat
structure FootOk (w : World) (v : FV) (f : S27) : Prop where
  l0 : f.f0.length ≤ v.c0
  g0 : k46.C w v.A0 f.f0.length f.f0
  l1 : f.f1.length ≤ v.c1
  g1 : k68.C w v.A1 f.f1.length f.f1
  l2 : f.f2.length ≤ v.c2
  g2 : k46.C w v.A2 f.f2.length f.f2
theorem FootOk.keep {w w' : World} {v : FV} {f : S27} (h : FootOk w v f) (hb : Below w.heap.size w w') : FootOk w' v f :=
  ⟨h.l0, Kd.C_below h.g0 hb, h.l1, Kd.C_below h.g1 hb, h.l2, Kd.C_below h.g2 hb⟩
/-- A foot in a block of its own. -/
def FootAt (w : World) (g : Nat) (v : FV) (f : S27) : Prop := w.heap[g]? = some (.cells #[.slice v.A0 f.f0.length v.c0, .slice v.A1 f.f1.length v.c1, .slice v.A2 f.f2.length v.c2] 27 (0, 0))
theorem FootAt.cells {w : World} {g : Nat} {v : FV} {f : S27} (h : FootAt w g v f) : w.cell? ⟨g, 0, none⟩ = some (.slice v.A0 f.f0.length v.c0) ∧ w.cell? ⟨g, 1, none⟩ = some (.slice v.A1 f.f1.length v.c1) ∧ w.cell? ⟨g, 2, none⟩ = some (.slice v.A2 f.f2.length v.c2) := by
  refine ⟨?_, ?_, ?_⟩ <;> (rw [cell_of_row _ _ _ _ _ _ h]; rfl)
theorem FootAt.keep {w w' : World} {g : Nat} {v : FV} {f : S27} (h : FootAt w g v f) (hb : Below w.heap.size w w') : FootAt w' g v f := by
  unfold FootAt; rw [hb.block _ (Array.getElem?_eq_some_iff.1 h).1]; exact h
def readsB (f : S27) (k : S46) : Bool := f.f0.any (eqB k) || f.f1.any (withinB k)
def writesB (f : S27) (k : S46) : Bool := f.f2.any (eqB k)
def ontoB (a b : S27) : Bool := a.f2.any (fun k => readsB b k || writesB b k)
def meetB (a b : S27) : Bool := ontoB a b || ontoB b a

set_option maxHeartbeats 1000000 in
theorem reads_calls (v : FV) (f : S27) (k : S46) (w : World) (h : FootOk w v f) :
    Calls Try.prog 39 #[.agg #[.slice v.A0 f.f0.length v.c0, .slice v.A1 f.f1.length v.c1, .slice v.A2 f.f2.length v.c2], .agg #[.int .i64 k.f0, .int .i64 k.f1]] w fun e w' => e = .returned (.bool (readsB f k)) ∧ Below w.heap.size w w' := by
  have HB0 := Aside0.mk (below_alloc (below_alloc (Below.refl w.heap.size w) (.cells #[.slice v.A0 f.f0.length v.c0, .slice v.A1 f.f1.length v.c1, .slice v.A2 f.f2.length v.c2] 27)) (.cells #[.int .i64 k.f0, .int .i64 k.f1] 46))
  have HF0 : Aside0 (FootAt ((w.alloc (.cells #[.slice v.A0 f.f0.length v.c0, .slice v.A1 f.f1.length v.c1, .slice v.A2 f.f2.length v.c2] 27)).alloc (.cells #[.int .i64 k.f0, .int .i64 k.f1] 46)) w.heap.size v f) := ⟨FootAt.keep (heap_alloc_new _ _) (below_alloc (Below.refl _ _) _)⟩
  have HK0 : Aside0 (KeyAt ((w.alloc (.cells #[.slice v.A0 f.f0.length v.c0, .slice v.A1 f.f1.length v.c1, .slice v.A2 f.f2.length v.c2] 27)).alloc (.cells #[.int .i64 k.f0, .int .i64 k.f1] 46)) (w.heap.size + 1) k) := ⟨by unfold KeyAt; have := heap_alloc_new (w.alloc (.cells #[.slice v.A0 f.f0.length v.c0, .slice v.A1 f.f1.length v.c1, .slice v.A2 f.f2.length v.c2] 27)) (.cells #[.int .i64 k.f0, .int .i64 k.f1] 46); simpa using this⟩
  have HO := Aside0.mk h
  unfold readsB
  clear h
  cases hE : f.f0.any (eqB k) with
  | true =>
    have HC : Aside0 (∀ W, Below w.heap.size w W → Calls Try.prog 43 #[.slice v.A0 f.f0.length v.c0, .agg #[.int .i64 k.f0, .int .i64 k.f1]] W fun e w' => e = .returned (.bool true) ∧ Below W.heap.size W w') := ⟨fun W hb => by rw [← hE]; exact contains_calls v.A0 v.c0 f.f0 k W (Kd.C_below HO.out.g0 hb)⟩
    clear hE
    go_enter Try.func39, Try.ntmps39
    go_wp2_with (go_at_call 43; refine (HC.out _ HB0.out).mono ?_; rintro e w1 ⟨rfl, hb1⟩; have HB1 := Aside0.mk (below_step HB0.out hb1); clear hb1)
    go_ret
    exact ⟨rfl, HB1.out⟩
  | false =>
    have HC : Aside0 (∀ W, Below w.heap.size w W → Calls Try.prog 43 #[.slice v.A0 f.f0.length v.c0, .agg #[.int .i64 k.f0, .int .i64 k.f1]] W fun e w' => e = .returned (.bool false) ∧ Below W.heap.size W w') := ⟨fun W hb => by rw [← hE]; exact contains_calls v.A0 v.c0 f.f0 k W (Kd.C_below HO.out.g0 hb)⟩
    have HD : Aside0 (∀ W, Below w.heap.size w W → KeyAt W (w.heap.size + 1) k → Calls Try.prog 44 #[.slice v.A1 f.f1.length v.c1, .func (.func 45) #[] #[.pointer (some ⟨w.heap.size + 1, 0, none⟩)]] W fun e w' => e = .returned (.bool (f.f1.any (withinB k))) ∧ Below W.heap.size W w') := ⟨fun W hb hk => ctnSpan_calls v.A1 v.c1 f.f1 (w.heap.size + 1) k W (Kd.C_below HO.out.g1 hb) hk⟩
    clear hE
    rw [Bool.false_or]
    generalize f.f1.any (withinB k) = b at HD
    go_enter Try.func39, Try.ntmps39
    go_wp2_with (first | (go_at_call 43; refine (HC.out _ HB0.out).mono ?_; rintro e w1 ⟨rfl, hb1⟩; have HB1 := Aside0.mk (below_step HB0.out hb1); have HK1 := Aside0.mk (HK0.out.keep hb1); have x1 := (HF0.out.keep hb1).cells.2.1; clear hb1) | (go_at_call 44; refine (HD.out _ HB1.out HK1.out).mono ?_; rintro e w2 ⟨rfl, hb2⟩; have HB2 := Aside0.mk (below_step HB1.out hb2); clear hb2))
    go_ret
    exact ⟨rfl, HB2.out⟩
set_option maxHeartbeats 1000000 in
theorem writes_calls (v : FV) (f : S27) (k : S46) (w : World) (h : FootOk w v f) :
    Calls Try.prog 40 #[.agg #[.slice v.A0 f.f0.length v.c0, .slice v.A1 f.f1.length v.c1, .slice v.A2 f.f2.length v.c2], .agg #[.int .i64 k.f0, .int .i64 k.f1]] w fun e w' => e = .returned (.bool (writesB f k)) ∧ Below w.heap.size w w' := by
  have HB0 := Aside0.mk (below_alloc (below_alloc (Below.refl w.heap.size w) (.cells #[.slice v.A0 f.f0.length v.c0, .slice v.A1 f.f1.length v.c1, .slice v.A2 f.f2.length v.c2] 27)) (.cells #[.int .i64 k.f0, .int .i64 k.f1] 46))
  have HC : Aside0 (∀ W, Below w.heap.size w W → Calls Try.prog 43 #[.slice v.A2 f.f2.length v.c2, .agg #[.int .i64 k.f0, .int .i64 k.f1]] W fun e w' => e = .returned (.bool (f.f2.any (eqB k))) ∧ Below W.heap.size W w') := ⟨fun W hb => contains_calls v.A2 v.c2 f.f2 k W (Kd.C_below h.g2 hb)⟩
  unfold writesB
  clear h
  generalize f.f2.any (eqB k) = b at HC
  go_enter Try.func40, Try.ntmps40
  go_wp2_with (go_at_call 43; refine (HC.out _ HB0.out).mono ?_; rintro e w1 ⟨rfl, hb1⟩; have HB1 := Aside0.mk (below_step HB0.out hb1); clear hb1)
  go_ret
  exact ⟨rfl, HB1.out⟩
set_option maxHeartbeats 1000000 in
/-- foot.onto's closure. -/
theorem onto1_calls (g : Nat) (v : FV) (f : S27) (k : S46) (w : World) (h : FootOk w v f) (hg : FootAt w g v f) :
    Calls Try.prog 38 #[.agg #[.int .i64 k.f0, .int .i64 k.f1], .pointer (some ⟨g, 0, none⟩)] w fun e w' => e = .returned (.bool (readsB f k || writesB f k)) ∧ Below w.heap.size w w' := by
  have HB0 := Aside0.mk (below_alloc (Below.refl w.heap.size w) (.cells #[.int .i64 k.f0, .int .i64 k.f1] 46))
  have HG0 := Aside0.mk (hg.keep (below_alloc (Below.refl w.heap.size w) (.cells #[.int .i64 k.f0, .int .i64 k.f1] 46)))
  have HK0 : Aside0 (KeyAt (w.alloc (.cells #[.int .i64 k.f0, .int .i64 k.f1] 46)) w.heap.size k) := ⟨heap_alloc_new _ _⟩
  obtain ⟨x0, x1, x2⟩ := HG0.out.cells
  have HC : Aside0 (∀ W, Below w.heap.size w W → Calls Try.prog 39 #[.agg #[.slice v.A0 f.f0.length v.c0, .slice v.A1 f.f1.length v.c1, .slice v.A2 f.f2.length v.c2], .agg #[.int .i64 k.f0, .int .i64 k.f1]] W fun e w' => e = .returned (.bool (readsB f k)) ∧ Below W.heap.size W w') := ⟨fun W hb => reads_calls v f k W (h.keep hb)⟩
  have HD : Aside0 (∀ W, Below w.heap.size w W → Calls Try.prog 40 #[.agg #[.slice v.A0 f.f0.length v.c0, .slice v.A1 f.f1.length v.c1, .slice v.A2 f.f2.length v.c2], .agg #[.int .i64 k.f0, .int .i64 k.f1]] W fun e w' => e = .returned (.bool (writesB f k)) ∧ Below W.heap.size W w') := ⟨fun W hb => writes_calls v f k W (h.keep hb)⟩
  clear h hg
  generalize writesB f k = b2 at HD
  cases hr : readsB f k with
  | true =>
    rw [hr] at HC
    clear hr
    go_enter Try.func38, Try.ntmps38
    go_wp2_with (go_at_call 39; refine (HC.out _ HB0.out).mono ?_; rintro e w1 ⟨rfl, hb1⟩; have HB1 := Aside0.mk (below_step HB0.out hb1); clear hb1)
    go_ret
    exact ⟨rfl, HB1.out⟩
  | false =>
    rw [hr] at HC
    clear hr
    rw [Bool.false_or]
    go_enter Try.func38, Try.ntmps38
    go_wp2_with (first | (go_at_call 39; refine (HC.out _ HB0.out).mono ?_; rintro e w1 ⟨rfl, hb1⟩; have HB1 := Aside0.mk (below_step HB0.out hb1); obtain ⟨y0, y1, y2⟩ := (HG0.out.keep hb1).cells; obtain ⟨z0, z1⟩ := (HK0.out.keep hb1).cells; clear hb1) | (go_at_call 40; refine (HD.out _ HB1.out).mono ?_; rintro e w2 ⟨rfl, hb2⟩; have HB2 := Aside0.mk (below_step HB1.out hb2); clear hb2))
    go_ret
    exact ⟨rfl, HB2.out⟩
set_option maxHeartbeats 2000000 in
theorem idxKey_calls (A : Option Addr) (c : Nat) (xs : List S46) (g : Nat) (v : FV) (f : S27) (w : World) (hx : Kd.C k46 w A xs.length xs) (h : FootOk w v f) (hg : FootAt w g v f) :
    Calls Try.prog 42 #[.slice A xs.length c, .func (.func 38) #[] #[.pointer (some ⟨g, 0, none⟩)]] w fun e w' => ∃ r : Int, e = .returned (.int .i64 r) ∧ decide (0 ≤ r) = xs.any (fun k => readsB f k || writesB f k) ∧ Below w.heap.size w w' := by
  have HX := Aside0.mk hx
  have HG := Aside0.mk hg
  have HO := Aside0.mk h
  have hmax := Kd.C_max hx
  clear hx hg h
  have HPE : Aside0 (∀ k, (fun k => readsB f k || writesB f k) k = (readsB f k || writesB f k)) := ⟨fun _ => rfl⟩
  generalize hP : (fun k => readsB f k || writesB f k) = p at HPE ⊢
  clear hP
  go_enter Try.func42, Try.ntmps42
  go_wp2
  go_loopw [8] (fun v wr => ∃ i : Nat, i ≤ xs.length ∧ v = .int .i64 i ∧ Aside0 ((xs.take i).any p = false) ∧ Aside0 (Below w.heap.size w wr)) (fun v _ => xs.length - (intOf v).toNat)
  case atStart => exact ⟨0, by omega, rfl, ⟨rfl⟩, ⟨Below.refl _ _⟩⟩
  case round =>
    obtain ⟨i, hi, rfl, HN, HB⟩ := hrel
    by_cases hlt : i < xs.length
    · have hb : decide (i < xs.length) = true := by simp; omega
      have hlt2 : (i : Int) < (xs.length : Int) := by omega
      obtain ⟨ad, hA, e0, e1⟩ := at_T46 HX.out (i : Int) (by omega) (by omega)
      rw [Int.toNat_natCast] at e0 e1
      replace e0 := (HB.out.cell (World.block_lt_of_cell? w _ e0)).trans e0
      replace e1 := (HB.out.cell (World.block_lt_of_cell? w _ e1)).trans e1
      rw [rd_T46_nat xs i hlt] at e0 e1
      have HT := Aside0.mk (any_take p xs i hlt)
      have HAT := Aside0.mk (any_of_at p xs i hlt)
      generalize xs[i] = s at e0 e1 HT HAT
      have HC : Aside0 (Calls Try.prog 38 #[.agg #[.int .i64 s.f0, .int .i64 s.f1], .pointer (some ⟨g, 0, none⟩)] wr fun e w' => e = .returned (.bool (p s)) ∧ Below wr.heap.size wr w') := ⟨by rw [HPE.out]; exact onto1_calls g v f s wr (HO.out.keep HB.out) (HG.out.keep HB.out)⟩
      rw [hA]
      cases hp : p s with
      | true =>
        rw [hp] at HC
        have HF := Aside0.mk (HAT.out hp)
        clear hp HAT HT
        go_wp2_with (go_at_call 38; refine HC.out.mono ?_; rintro e w1 ⟨rfl, hb1⟩)
        go_ret
        exact ⟨_, rfl, by rw [HF.out]; simp, below_step HB.out hb1⟩
      | false =>
        rw [hp] at HC
        have HN2 : Aside0 ((xs.take (i + 1)).any p = false) := ⟨by rw [HT.out, HN.out, hp]; rfl⟩
        clear hp HAT HT
        go_wp2_with (go_at_call 38; refine HC.out.mono ?_; rintro e w1 ⟨rfl, hb1⟩)
        go_roundw
        case rel => exact ⟨i + 1, by omega, by go_num, HN2, ⟨below_step HB.out hb1⟩⟩
        case measure => simp [intOf]; omega
    · have hb : decide (i < xs.length) = false := by simp; omega
      have HF : Aside0 (xs.any p = false) := ⟨by have := HN.out; rwa [show i = xs.length by omega, List.take_length] at this⟩
      go_wp2
      go_ret
      exact ⟨_, rfl, by rw [HF.out]; rfl, HB.out⟩
set_option maxHeartbeats 1000000 in
theorem ctnKey_calls (A : Option Addr) (c : Nat) (xs : List S46) (g : Nat) (v : FV) (f : S27) (w : World) (hx : Kd.C k46 w A xs.length xs) (h : FootOk w v f) (hg : FootAt w g v f) :
    Calls Try.prog 37 #[.slice A xs.length c, .func (.func 38) #[] #[.pointer (some ⟨g, 0, none⟩)]] w fun e w' => e = .returned (.bool (xs.any (fun k => readsB f k || writesB f k))) ∧ Below w.heap.size w w' := by
  have HC := Aside0.mk (idxKey_calls A c xs g v f w hx h hg)
  clear hx hg h
  generalize xs.any (fun k => readsB f k || writesB f k) = b at HC
  go_enter Try.func37, Try.ntmps37
  go_wp2_with (go_at_call 42; refine HC.out.mono ?_; rintro e w1 ⟨r, rfl, hr, hb1⟩; have HR := Aside0.mk hr; have HB1 := Aside0.mk hb1; clear hr hb1)
  go_ret
  exact ⟨by rw [← HR.out]; rfl, HB1.out⟩
set_option maxHeartbeats 1000000 in
theorem onto_calls (u : FV) (a : S27) (v : FV) (f : S27) (w : World) (ha : FootOk w u a) (h : FootOk w v f) :
    Calls Try.prog 33 #[.agg #[.slice u.A0 a.f0.length u.c0, .slice u.A1 a.f1.length u.c1, .slice u.A2 a.f2.length u.c2], .agg #[.slice v.A0 f.f0.length v.c0, .slice v.A1 f.f1.length v.c1, .slice v.A2 f.f2.length v.c2]] w fun e w' => e = .returned (.bool (ontoB a f)) ∧ Below w.heap.size w w' := by
  have HB0 := Aside0.mk (below_alloc (below_alloc (Below.refl w.heap.size w) (.cells #[.slice u.A0 a.f0.length u.c0, .slice u.A1 a.f1.length u.c1, .slice u.A2 a.f2.length u.c2] 27)) (.cells #[.slice v.A0 f.f0.length v.c0, .slice v.A1 f.f1.length v.c1, .slice v.A2 f.f2.length v.c2] 27))
  have HG0 : Aside0 (FootAt ((w.alloc (.cells #[.slice u.A0 a.f0.length u.c0, .slice u.A1 a.f1.length u.c1, .slice u.A2 a.f2.length u.c2] 27)).alloc (.cells #[.slice v.A0 f.f0.length v.c0, .slice v.A1 f.f1.length v.c1, .slice v.A2 f.f2.length v.c2] 27)) (w.heap.size + 1) v f) := ⟨by unfold FootAt; have := heap_alloc_new (w.alloc (.cells #[.slice u.A0 a.f0.length u.c0, .slice u.A1 a.f1.length u.c1, .slice u.A2 a.f2.length u.c2] 27)) (.cells #[.slice v.A0 f.f0.length v.c0, .slice v.A1 f.f1.length v.c1, .slice v.A2 f.f2.length v.c2] 27); simpa using this⟩
  have HC : Aside0 (∀ W, Below w.heap.size w W → FootAt W (w.heap.size + 1) v f → Calls Try.prog 37 #[.slice u.A2 a.f2.length u.c2, .func (.func 38) #[] #[.pointer (some ⟨w.heap.size + 1, 0, none⟩)]] W fun e w' => e = .returned (.bool (ontoB a f)) ∧ Below W.heap.size W w') := ⟨fun W hb hk => ctnKey_calls u.A2 u.c2 a.f2 (w.heap.size + 1) v f W (Kd.C_below ha.g2 hb) (h.keep hb) hk⟩
  clear ha h
  go_enter Try.func33, Try.ntmps33
  go_wp2_with (go_at_call 37; refine (HC.out _ HB0.out HG0.out).mono ?_; rintro e w1 ⟨rfl, hb1⟩; have HB1 := Aside0.mk (below_step HB0.out hb1); clear hb1)
  go_ret
  exact ⟨rfl, HB1.out⟩
set_option maxHeartbeats 1000000 in
theorem meet_calls (u : FV) (a : S27) (v : FV) (f : S27) (w : World) (ha : FootOk w u a) (h : FootOk w v f) :
    Calls Try.prog 22 #[.agg #[.slice u.A0 a.f0.length u.c0, .slice u.A1 a.f1.length u.c1, .slice u.A2 a.f2.length u.c2], .agg #[.slice v.A0 f.f0.length v.c0, .slice v.A1 f.f1.length v.c1, .slice v.A2 f.f2.length v.c2]] w fun e w' => e = .returned (.bool (meetB a f)) ∧ Below w.heap.size w w' := by
  have HB0 := Aside0.mk (below_alloc (below_alloc (Below.refl w.heap.size w) (.cells #[.slice u.A0 a.f0.length u.c0, .slice u.A1 a.f1.length u.c1, .slice u.A2 a.f2.length u.c2] 27)) (.cells #[.slice v.A0 f.f0.length v.c0, .slice v.A1 f.f1.length v.c1, .slice v.A2 f.f2.length v.c2] 27))
  have HG0 : Aside0 (FootAt ((w.alloc (.cells #[.slice u.A0 a.f0.length u.c0, .slice u.A1 a.f1.length u.c1, .slice u.A2 a.f2.length u.c2] 27)).alloc (.cells #[.slice v.A0 f.f0.length v.c0, .slice v.A1 f.f1.length v.c1, .slice v.A2 f.f2.length v.c2] 27)) (w.heap.size + 1) v f) := ⟨by unfold FootAt; have := heap_alloc_new (w.alloc (.cells #[.slice u.A0 a.f0.length u.c0, .slice u.A1 a.f1.length u.c1, .slice u.A2 a.f2.length u.c2] 27)) (.cells #[.slice v.A0 f.f0.length v.c0, .slice v.A1 f.f1.length v.c1, .slice v.A2 f.f2.length v.c2] 27); simpa using this⟩
  have HU0 : Aside0 (FootAt ((w.alloc (.cells #[.slice u.A0 a.f0.length u.c0, .slice u.A1 a.f1.length u.c1, .slice u.A2 a.f2.length u.c2] 27)).alloc (.cells #[.slice v.A0 f.f0.length v.c0, .slice v.A1 f.f1.length v.c1, .slice v.A2 f.f2.length v.c2] 27)) w.heap.size u a) := ⟨FootAt.keep (heap_alloc_new _ _) (below_alloc (Below.refl _ _) _)⟩
  have HC : Aside0 (∀ W, Below w.heap.size w W → Calls Try.prog 33 #[.agg #[.slice u.A0 a.f0.length u.c0, .slice u.A1 a.f1.length u.c1, .slice u.A2 a.f2.length u.c2], .agg #[.slice v.A0 f.f0.length v.c0, .slice v.A1 f.f1.length v.c1, .slice v.A2 f.f2.length v.c2]] W fun e w' => e = .returned (.bool (ontoB a f)) ∧ Below W.heap.size W w') := ⟨fun W hb => onto_calls u a v f W (ha.keep hb) (h.keep hb)⟩
  have HD : Aside0 (∀ W, Below w.heap.size w W → Calls Try.prog 33 #[.agg #[.slice v.A0 f.f0.length v.c0, .slice v.A1 f.f1.length v.c1, .slice v.A2 f.f2.length v.c2], .agg #[.slice u.A0 a.f0.length u.c0, .slice u.A1 a.f1.length u.c1, .slice u.A2 a.f2.length u.c2]] W fun e w' => e = .returned (.bool (ontoB f a)) ∧ Below W.heap.size W w') := ⟨fun W hb => onto_calls v f u a W (h.keep hb) (ha.keep hb)⟩
  unfold meetB
  clear ha h
  generalize ontoB f a = b2 at HD
  cases hr : ontoB a f with
  | true =>
    rw [hr] at HC
    clear hr
    go_enter Try.func22, Try.ntmps22
    go_wp2_with (go_at_call 33; refine (HC.out _ HB0.out).mono ?_; rintro e w1 ⟨rfl, hb1⟩; have HB1 := Aside0.mk (below_step HB0.out hb1); clear hb1)
    go_ret
    exact ⟨rfl, HB1.out⟩
  | false =>
    rw [hr] at HC
    clear hr
    rw [Bool.false_or]
    go_enter Try.func22, Try.ntmps22
    go_wp2_with (first | (go_at_call 33; refine (HC.out _ HB0.out).mono ?_; rintro e w1 ⟨rfl, hb1⟩; have HB1 := Aside0.mk (below_step HB0.out hb1); obtain ⟨y0, y1, y2⟩ := (HG0.out.keep hb1).cells; obtain ⟨z0, z1, z2⟩ := (HU0.out.keep hb1).cells; clear hb1) | (go_at_call 33; refine (HD.out _ HB1.out).mono ?_; rintro e w2 ⟨rfl, hb2⟩; have HB2 := Aside0.mk (below_step HB1.out hb2); clear hb2))
    go_ret
    exact ⟨rfl, HB2.out⟩
end Go.Proofs.Ytnjpbfljecmoiaa.Graph
