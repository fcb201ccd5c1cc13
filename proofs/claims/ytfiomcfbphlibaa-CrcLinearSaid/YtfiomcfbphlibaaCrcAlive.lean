/- The contract of the fixed fact 'alive': the chapter's example. -/
import Derived.Test.YtfiomcfbphlibaaCrcCopy
import Derived.Lib.SlBytesConst
namespace Go.Proofs.Ytfiomcfbphlibaa.Crc
open Go.RowKit Go.Proofs.YtfiomcfbphlibaaW.PrintWords

/-- A literal of slices of bytes. -/
theorem C_rows (W : World) (e : TypeId) (vs : List Value) (ps : List (List Int)) (hm : ps.length ≤ 9223372036854775807)
    (h : ∀ (j : Nat) (p : List Int), ps[j]? = some p → ∃ (A : Option Addr) (c : Nat), vs[j]? = some (Value.slice A p.length c) ∧ p.length ≤ c ∧ (Kd.int .u8).C W A p.length p) :
    (Kd.slice 5 (Kd.int .u8)).C (W.alloc (.cells vs.toArray e)) (some ⟨W.heap.size, 0, none⟩) ps.length ps := by
  refine ⟨rfl, hm, fun _ => ⟨_, rfl, fun j p hp => ?_⟩⟩
  obtain ⟨A, c, hv, hl, hC⟩ := h j p hp
  refine ⟨[.slice A p.length c], rfl, ⟨A, c, rfl, hl, Kd.C_alloc hC _⟩, fun i u hu => ?_⟩
  cases i with
  | succ i => simp at hu
  | zero =>
    simp at hu
    subst hu
    rw [add_plain, cell_of_row _ _ _ _ _ _ (heap_alloc_new W _)]
    simpa [Kd.slice] using hv
theorem C_rows1 (W : World) (e : TypeId) (A : Option Addr) (c : Nat) (p : List Int) (hl : p.length ≤ c) (hC : (Kd.int .u8).C W A p.length p) :
    (Kd.slice 5 (Kd.int .u8)).C (W.alloc (.cells #[.slice A p.length c] e)) (some ⟨W.heap.size, 0, none⟩) [p].length [p] := by
  refine C_rows W e [.slice A p.length c] [p] (by simp) fun j q hq => ?_
  match j with
  | 0 => simp at hq; subst hq; exact ⟨A, c, rfl, hl, hC⟩
  | j + 1 => simp at hq
theorem C_rows2 (W : World) (e : TypeId) (A : Option Addr) (c : Nat) (p : List Int) (hl : p.length ≤ c) (hC : (Kd.int .u8).C W A p.length p) (A' : Option Addr) (c' : Nat) (p' : List Int) (hl' : p'.length ≤ c') (hC' : (Kd.int .u8).C W A' p'.length p') :
    (Kd.slice 5 (Kd.int .u8)).C (W.alloc (.cells #[.slice A p.length c, .slice A' p'.length c'] e)) (some ⟨W.heap.size, 0, none⟩) [p, p'].length [p, p'] := by
  refine C_rows W e [.slice A p.length c, .slice A' p'.length c'] [p, p'] (by simp) fun j q hq => ?_
  match j with
  | 0 => simp at hq; subst hq; exact ⟨A, c, rfl, hl, hC⟩
  | 1 => simp at hq; subst hq; exact ⟨A', c', rfl, hl', hC'⟩
  | j + 2 => simp at hq

/-- A literal of bytes, its row with or without the run-time's mark behind it. -/
theorem C_marked (W : World) (e : TypeId) (fr : Nat × Nat) (xs : List Int) (hm : xs.length ≤ 9223372036854775807) :
    (Kd.int .u8).C (W.alloc (.cells (nums .u8 xs).toArray e fr)) (some ⟨W.heap.size, 0, none⟩) xs.length xs := by
  refine ⟨rfl, hm, fun _ => ⟨_, rfl, fun j p hp => ⟨[.int .u8 p], rfl, rfl, fun i u hu => ?_⟩⟩⟩
  cases i with
  | succ i => simp at hu
  | zero =>
    simp at hu
    subst hu
    rw [add_plain, cell_of_row _ _ _ _ _ _ (heap_alloc_new W _)]
    simp [Kd.int, Kd.scalar, nums, hp]

set_option maxHeartbeats 400000 in
theorem alive_calls (w : World) : Calls Try.prog 9 #[] w fun e w' => e = .returned (.bool true) ∧ Below w.heap.size w w' := by
  have kc := fun (w : World) (C : Array Value) (n c : Nat) => Lib.run_convert_bytes_const (P := Try.prog) w 22 5 C n c Try.underlying22 Try.underlying5
  have kc2 := fun (o : Obj) (C : Array Value) (n c : Nat) => kc (w.alloc o) C n c
  simp only [World.size_alloc] at kc2
  obtain ⟨W1, hW1⟩ : ∃ W1, W1 = w.alloc (.cells #[.int .u8 49, .int .u8 50, .int .u8 51, .int .u8 52] 5 (4, 5)) := ⟨_, rfl⟩
  have c1 : (Kd.int .u8).C W1 (some ⟨w.heap.size, 0, none⟩) 4 [49, 50, 51, 52] := by rw [hW1]; exact C_marked w 5 (4, 5) [49, 50, 51, 52] (by simp)
  obtain ⟨W2, hW2⟩ : ∃ W2, W2 = W1.alloc (.cells #[.int .u8 53, .int .u8 54, .int .u8 55, .int .u8 56, .int .u8 57] 5 (5, 6)) := ⟨_, rfl⟩
  have c2 : (Kd.int .u8).C W2 (some ⟨W1.heap.size, 0, none⟩) 5 [53, 54, 55, 56, 57] := by rw [hW2]; exact C_marked W1 5 (5, 6) [53, 54, 55, 56, 57] (by simp)
  have c1' : (Kd.int .u8).C W2 (some ⟨w.heap.size, 0, none⟩) 4 [49, 50, 51, 52] := by rw [hW2]; exact Kd.C_alloc c1 _
  have c3 := C_rows2 W2 22 _ 4 [49, 50, 51, 52] (by simp) c1' _ 5 [53, 54, 55, 56, 57] (by simp) c2
  have hs2 : W2.heap.size = w.heap.size + 1 + 1 := by rw [hW2, World.size_alloc, hW1, World.size_alloc]
  have hs1 : W1.heap.size = w.heap.size + 1 := by rw [hW1, World.size_alloc]
  rw [hs2, hs1] at c3
  have hb := below_alloc (below_alloc (below_alloc (Below.refl w.heap.size w) (.cells #[.int .u8 49, .int .u8 50, .int .u8 51, .int .u8 52] 5 (4, 5))) (.cells #[.int .u8 53, .int .u8 54, .int .u8 55, .int .u8 56, .int .u8 57] 5 (5, 6))) (.cells #[.slice (some ⟨w.heap.size, 0, none⟩) 4 4, .slice (some ⟨w.heap.size + 1, 0, none⟩) 5 5] 22)
  have C3 := sum_calls _ 2 _ _ c3
  have ha : B (sum [[49, 50, 51, 52], [53, 54, 55, 56, 57]]) = 3421780262 := by rw [alive]; rfl
  rw [ha, hW2, hW1] at C3
  have HC := Aside0.mk C3
  have HB := Aside0.mk hb
  clear C3 c1 c1' c2 c3 hs1 hs2 hW2 hW1 hb ha W2 W1
  go_enter Try.func9, Try.ntmps9
  go_wp2_with (go_at_call 12; refine HC.out.mono ?_; rintro e w1 ⟨rfl, hb1⟩)
  go_ret
  exact ⟨rfl, below_step HB.out hb1⟩
end Go.Proofs.Ytfiomcfbphlibaa.Crc
