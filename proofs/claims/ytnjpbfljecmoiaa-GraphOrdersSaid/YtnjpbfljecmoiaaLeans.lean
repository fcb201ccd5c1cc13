/- The contract of graph.Leans. -/
import Derived.Test.YtnjpbfljecmoiaaMeet
import Derived.Test.YtnjpbfljecmoiaaWApart
import Derived.Deep.WholeRow
import Derived.StillTailTactics
namespace Go.Proofs.Ytnjpbfljecmoiaa.Graph
open Go.RowKit Go.Proofs.YtnjpbfljecmoiaaW.PrintWords Go.Proofs.Ytnjpbfljecmoiaa.PGraphLeans

/-- Those among the first k on which the i-th leans. -/
def rowK (feet : List S27) (i k : Nat) : List Int := ((List.range k).filter fun k => meetB (feet.getD k z27) (feet.getD i z27)).map fun k : Nat => (k : Int)
def leansK (feet : List S27) (n : Nat) : List (List Int) := (List.range n).map fun i => rowK feet i i
theorem rowK_succ (feet : List S27) (i k : Nat) : rowK feet i (k + 1) = if meetB (feet.getD k z27) (feet.getD i z27) then rowK feet i k ++ [(k : Int)] else rowK feet i k := by
  unfold rowK
  rw [List.range_succ, List.filter_append, List.map_append]
  cases h : meetB (feet.getD k z27) (feet.getD i z27)
  · rw [List.filter_cons_of_neg (p := fun k => meetB (feet.getD k z27) (feet.getD i z27)) (by rw [h]; decide), List.filter_nil, List.map_nil, List.append_nil]; rfl
  · rw [List.filter_cons_of_pos (p := fun k => meetB (feet.getD k z27) (feet.getD i z27)) h, List.filter_nil]; rfl
theorem rowK_len (feet : List S27) (i k : Nat) : (rowK feet i k).length ≤ k := by
  unfold rowK
  rw [List.length_map]
  exact Nat.le_trans (List.length_filter_le _ _) (by simp)
theorem leansK_succ (feet : List S27) (n : Nat) : leansK feet (n + 1) = leansK feet n ++ [rowK feet n n] := by
  unfold leansK; rw [List.range_succ, List.map_append]; rfl
theorem leansK_len (feet : List S27) (n : Nat) : (leansK feet n).length = n := by simp [leansK]
theorem foot_at {w : World} {A : Option Addr} {n : Nat} {xs : List S27} (h : Kd.C k27 w A n xs) (i : Nat) (hi : i < n) : ∃ (ad : Addr) (u : FV), A = some ad ∧ w.cell? (ad.add (i * 3)) = some (.slice u.A0 (xs.getD i z27).f0.length u.c0) ∧
    w.cell? ⟨(ad.add (i * 3)).block, (ad.add (i * 3)).off + 1, none⟩ = some (.slice u.A1 (xs.getD i z27).f1.length u.c1) ∧ w.cell? ⟨(ad.add (i * 3)).block, (ad.add (i * 3)).off + 2, none⟩ = some (.slice u.A2 (xs.getD i z27).f2.length u.c2) ∧ FootOk w u (xs.getD i z27) := by
  obtain ⟨ad, A0, c0, A1, c1, A2, c2, hA, e0, e1, e2, l0, g0, l1, g1, l2, g2⟩ := at_T27 h (i : Int) (by omega) (by omega)
  unfold rd_T27 at *
  rw [Int.toNat_natCast] at *
  exact ⟨ad, ⟨A0, c0, A1, c1, A2, c2⟩, hA, e0, e1, e2, ⟨l0, g0, l1, g1, l2, g2⟩⟩
theorem z27v (w : World) : (zeroValue 27).run Try.prog w = .ok (.agg #[.slice none 0 0, .slice none 0 0, .slice none 0 0]) w := by kernel_rfl
set_option maxHeartbeats 4000000 in
set_option maxRecDepth 100000 in
theorem leans_calls (A : Option Addr) (c : Nat) (feet : List S27) (w : World) (hx : Kd.C k27 w A feet.length feet) (hsz : feet.length ≤ 1000000) :
    Calls Try.prog 8 #[.slice A feet.length c] w fun e w' => ∃ v, e = .returned v ∧ Kd.S (Kd.slice 3 (Kd.int .i64)) 32 w' w.heap.size (fun _ => True) v (leansK feet feet.length) ∧ Below w.heap.size w w' := by
  have HR := Aside0.mk hx
  have z27v := z27v
  clear hx
  go_enter Try.func8, Try.ntmps8
  go_wp2
  go_loopw [3, 10] (fun v3 v wr => ∃ i : Nat, i ≤ feet.length ∧ v = .int .i64 i ∧ Aside0 (Kd.S (Kd.slice 3 (Kd.int .i64)) 32 wr w.heap.size (fun _ => True) v3 (leansK feet i)) ∧ Aside0 (Below w.heap.size w wr)) (fun _ v _ => feet.length - (intOf v).toNat)
  case atStart => exact ⟨0, by omega, rfl, ⟨Kd.S_nil _ _ _ _ _⟩, ⟨Below.refl _ _⟩⟩
  case round =>
    obtain ⟨i, hi, rfl, HO, HB⟩ := hrel
    by_cases hlt : i < feet.length
    · have hb : decide (i < feet.length) = true := by simp; omega
      have hlt2 : (i : Int) < (feet.length : Int) := by omega
      obtain ⟨ad, u, hA, e0, e1, e2, hok⟩ := foot_at HR.out i hlt
      replace e0 := (HB.out.cell (World.block_lt_of_cell? w _ e0)).trans e0
      replace e1 := (HB.out.cell (World.block_lt_of_cell? w _ e1)).trans e1
      replace e2 := (HB.out.cell (World.block_lt_of_cell? w _ e2)).trans e2
      have HOK := Aside0.mk hok
      have HRS := Aside0.mk (rowK_succ feet i)
      have HLS := Aside0.mk (leansK_succ feet i)
      have HLL := Aside0.mk (leansK_len feet i)
      have HRL := Aside0.mk (rowK_len feet i)
      have H2 : Aside0 ((#[.slice u.A0 (feet.getD i z27).f0.length u.c0, .slice u.A1 (feet.getD i z27).f1.length u.c1, .slice u.A2 (feet.getD i z27).f2.length u.c2] : Array Value).all (·.oneCell') = true) := ⟨by simp [Value.oneCell']⟩
      have HR0 : Aside0 (rowK feet i 0 = []) := ⟨rfl⟩
      clear hok
      generalize feet.getD i z27 = f at e0 e1 e2 HOK HRS H2
      rw [hA]
      go_wp2_with (refine wpList_store_row rfl 27 _ _ rfl _ #[.slice u.A0 f.f0.length u.c0, .slice u.A1 f.f1.length u.c1, .slice u.A2 f.f2.length u.c2] rfl rfl 27 #[.slice none 0 0, .slice none 0 0, .slice none 0 0] (heap_alloc_new _ _) (by kernel_rfl) rfl H2.out ?_; rw [World.setRow_alloc_new])
      have HG5 : Aside0 (FootAt (wr.alloc (.cells #[.slice u.A0 f.f0.length u.c0, .slice u.A1 f.f1.length u.c1, .slice u.A2 f.f2.length u.c2] 27)) wr.heap.size u f) := ⟨heap_alloc_new _ _⟩
      have HB5 : Aside0 (Below w.heap.size w (wr.alloc (.cells #[.slice u.A0 f.f0.length u.c0, .slice u.A1 f.f1.length u.c1, .slice u.A2 f.f2.length u.c2] 27))) := ⟨below_alloc HB.out _⟩
      have HO5 : Aside0 (Kd.S (Kd.slice 3 (Kd.int .i64)) 32 (wr.alloc (.cells #[.slice u.A0 f.f0.length u.c0, .slice u.A1 f.f1.length u.c1, .slice u.A2 f.f2.length u.c2] 27)) w.heap.size (fun _ => True) u3 (leansK feet i)) := ⟨Kd.S_alloc HO.out _⟩
      have HU5 : Aside0 (FootOk w u f) := HOK
      generalize wr.alloc (.cells #[.slice u.A0 f.f0.length u.c0, .slice u.A1 f.f1.length u.c1, .slice u.A2 f.f2.length u.c2] 27) = w5 at HG5 HB5 HO5 ⊢
      generalize wr.heap.size = g5 at HG5 ⊢
      clear HO HB e0 e1 e2 H2
      go_loopw [6, 16] (fun v6 v wr => ∃ k : Nat, k ≤ i ∧ v = .int .i64 k ∧ Aside0 (Kd.S (Kd.slice 3 (Kd.int .i64)) 32 wr w.heap.size (fun q => some q ≠ (v6 : Value).ownBlock) u3 (leansK feet i)) ∧ Aside0 (Kd.R (Kd.int .i64) 3 wr w.heap.size (fun _ => True) v6 (rowK feet i k)) ∧ Aside0 (FootAt wr g5 u f) ∧ Aside0 (Below w.heap.size w wr)) (fun _ v _ => i - (intOf v).toNat)
      case atStart => exact ⟨0, by omega, rfl, ⟨Kd.S_mono HO5.out (fun _ _ => by simp [Value.ownBlock])⟩, ⟨by rw [HR0.out]; exact Kd.R_nil _ _ _ _ _⟩, HG5, HB5⟩
      case round =>
        clear HG5 HB5 HO5
        obtain ⟨k, hk, rfl, HO, HL, HG, HB⟩ := hrel
        by_cases hkt : k < i
        · have hb3 : decide (k < i) = true := by simp; omega
          have hkt2 : (k : Int) < (feet.length : Int) := by omega
          obtain ⟨ad2, u2, hA2, d0, d1, d2, hok2⟩ := foot_at HR.out k (by omega)
          replace d0 := (HB.out.cell (World.block_lt_of_cell? w _ d0)).trans d0
          replace d1 := (HB.out.cell (World.block_lt_of_cell? w _ d1)).trans d1
          replace d2 := (HB.out.cell (World.block_lt_of_cell? w _ d2)).trans d2
          have HOK2 := Aside0.mk hok2
          obtain ⟨b0, b1, b2⟩ := HG.out.cells
          have HRK := Aside0.mk (HRS.out k)
          clear hok2
          generalize feet.getD k z27 = f2 at d0 d1 d2 HOK2 HRK
          cases hA.symm.trans hA2
          have HC : Aside0 (∀ W, Below wr.heap.size wr W → Calls Try.prog 22 #[.agg #[.slice u2.A0 f2.f0.length u2.c0, .slice u2.A1 f2.f1.length u2.c1, .slice u2.A2 f2.f2.length u2.c2], .agg #[.slice u.A0 f.f0.length u.c0, .slice u.A1 f.f1.length u.c1, .slice u.A2 f.f2.length u.c2]] W fun e w' => e = .returned (.bool (meetB f2 f)) ∧ Below wr.heap.size wr w') := ⟨fun W hW => by
            have hb' := below_step HB.out hW
            refine (meet_calls u2 f2 u f W (HOK2.out.keep hb') (HU5.out.keep hb')).mono ?_
            rintro e w' ⟨he, hb''⟩
            exact ⟨he, below_step hW hb''⟩⟩
          cases hm : meetB f2 f with
          | true =>
            rw [hm] at HC HRK
            clear hm
            go_wp2
            go_still_tail 5, (by kernel_rfl)
            change wpList _ _ _ _ _ wr.drew
            have HD := Aside0.mk (below_drew1 (Below.refl wr.heap.size wr))
            generalize wr.drew = w2 at HD ⊢
            have HSZ : Aside0 (w.heap.size ≤ wr.heap.size ∧ (rowK feet i k).length ≤ 1000000) := ⟨HB.out.size, by have := HRL.out k; omega⟩
            go_wp2_with (first | (go_at_call 22; refine (HC.out _ HD.out).mono ?_; rintro e w7 ⟨rfl, hb7⟩) | (at_builtin; refine Kd.R_append (Kd.int .i64) (w0 := w) w.heap.size rfl (.tmp 25) (.tmp 27) 32 3 (.int .i64 0) 8 rfl Try.underlying32 info3 rfl (by decide) (by omega) u6 (rowK feet i k) (k : Int) [.int .i64 k] (fun _ => True) (fun _ => False) rfl rfl rfl (fun _ hk => hk.elim) (fun _ _ => trivial) (Kd.R_below HL.out hb7) (below_step HB.out hb7) (Nat.le_trans HSZ.out.1 hb7.size) (by have := HSZ.out.2; omega) ?_; intro v8 w8 hr8 hb8 hg8 hat8))
            have HO8 : Aside0 (Kd.S (Kd.slice 3 (Kd.int .i64)) 32 w8 w.heap.size (fun q => some q ≠ (v8 : Value).ownBlock) u3 (leansK feet i)) := ⟨Kd.S_mono (Kd.S_after (ok := fun _ => True) (Kd.S_mono (Kd.S_below HO.out hb7) (fun _ hk => ⟨trivial, hk⟩)) hg8 hat8) (fun _ hk => hk.2)⟩
            have HG8 : Aside0 (FootAt w8 g5 u f) := ⟨by
              have h7 := HG.out.keep hb7
              have hne := Kd.R_ne (Kd.R_below HL.out hb7) h7 (by decide)
              unfold FootAt
              rw [hg8.block g5 (Array.getElem?_eq_some_iff.1 h7).1 hne]; exact h7⟩
            go_roundw
            case rel => exact ⟨k + 1, by omega, by go_num, HO8, ⟨by rw [HRK.out, if_pos trivial]; exact hr8⟩, HG8, ⟨hb8⟩⟩
            case measure => simp [intOf]; omega
          | false =>
            rw [hm] at HC HRK
            clear hm
            go_wp2
            go_still_tail 5, (by kernel_rfl)
            change wpList _ _ _ _ _ wr.drew
            have HD := Aside0.mk (below_drew1 (Below.refl wr.heap.size wr))
            generalize wr.drew = w2 at HD ⊢
            go_wp2_with (go_at_call 22; refine (HC.out _ HD.out).mono ?_; rintro e w7 ⟨rfl, hb7⟩)
            go_roundw
            case rel => exact ⟨k + 1, by omega, by go_num, ⟨Kd.S_below HO.out hb7⟩, ⟨by rw [HRK.out, if_neg (by simp)]; exact Kd.R_below HL.out hb7⟩, ⟨HG.out.keep hb7⟩, ⟨below_step HB.out hb7⟩⟩
            case measure => simp [intOf]; omega
        · have hb3 : decide (k < i) = false := by simp; omega
          have hki : k = i := by omega
          subst hki
          obtain ⟨Ao, co, hv⟩ := Kd.R_slice HL.out
          subst hv
          have HSZ : Aside0 (w.heap.size ≤ wr.heap.size ∧ (leansK feet k).length ≤ 1000000) := ⟨HB.out.size, by rw [HLL.out]; omega⟩
          have HP := Aside0.mk (Kd.M_row (Kd.R_tight rfl HL.out))
          have HP2 := Aside0.mk (Kd.R_apart' HL.out (Kd.S_typed HO.out) (by decide))
          go_wp2_with (at_builtin; refine Kd.S_append (Kd.slice 3 (Kd.int .i64)) (w0 := w) w.heap.size rfl (.tmp 30) (.tmp 32) 28 32 (.slice none 0 0) 24 rfl Try.underlying28 info32 rfl (by decide) (by omega) u3 (leansK feet k) (rowK feet k k) [.slice Ao (rowK feet k k).length co] (fun _ => True) (fun q => some q = (Value.slice Ao (rowK feet k k).length co).ownBlock) rfl rfl HP.out (fun q hq => HP2.out.1 q hq.symm) (fun _ _ => trivial) (Kd.S_mono HO.out (fun q hk => ⟨trivial, fun e => hk e⟩)) HB.out HSZ.out.1 (by have := HSZ.out.2; omega) ?_; intro v8 w8 hr8 hb8 hg8 hat8; clear hg8 hat8)
          go_roundw
          case rel => exact ⟨k + 1, by omega, by go_num, ⟨by rw [HLS.out]; exact hr8⟩, ⟨hb8⟩⟩
          case measure => simp [intOf]; omega
    · have hb : decide (i < feet.length) = false := by simp; omega
      have HE : Aside0 (leansK feet i = leansK feet feet.length) := ⟨by rw [show i = feet.length by omega]⟩
      go_wp2
      go_ret
      exact ⟨_, rfl, by rw [← HE.out]; exact HO.out, HB.out⟩
end Go.Proofs.Ytnjpbfljecmoiaa.Graph
