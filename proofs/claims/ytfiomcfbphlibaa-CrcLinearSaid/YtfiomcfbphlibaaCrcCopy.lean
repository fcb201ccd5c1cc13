/- The contracts of sluicewaynum.Copy (a copy of bytes, two marks behind it) and Kept (the copy and its marks stand). -/
import Derived.Test.YtfiomcfbphlibaaCrcRef
import Derived.Deep.DeepAppendRoom
import Derived.Lib.JoinLaws
namespace Go.Proofs.Ytfiomcfbphlibaa.Crc
open Go.RowKit Go.Proofs.YtfiomcfbphlibaaW.PrintWords

section
variable {P : Program} {ops : Array Oper} {rest : List Oper} {o : Oper} {a : Act} {Q : Exit → Act → World → Prop}
/-- append(v, ys...), v a row of one's own with room for ys: it stays where it is. -/
theorem spare_row {W : World} (base : Nat) (hgd : o.guard = none) (s x : Operand) (t e : TypeId) (k : IntKind)
    (ho : o.op = .call { callee := .builtin .append, args := #[s, x], argTypes := #[t, t] })
    (ht : P.underlying t = some (.slice e)) (hinfo : (P.info? e).map (fun i => (i.zero, i.size, i.bytes)) = some (some (.int k 0), 1, 1))
    (g n cap : Nat) (xs ys : List Int) (A : Option Addr) (m c : Nat) (hs : a.eval s = .slice (some ⟨g, 0, none⟩) n cap) (hx : a.eval x = .slice A m c)
    (HO : W.ownsRow base e 1 (.slice (some ⟨g, 0, none⟩) n cap) n (nums k xs)) (HR : (Kd.int k).C W A m ys) (hroom : n + m ≤ cap)
    (h : ∀ w1, w1.ownsRow base e 1 (.slice (some ⟨g, 0, none⟩) (n + m) cap) (n + m) (nums k (xs ++ ys)) → W.grownBy w1 (some g) → wpList P ops Q rest (a.put o.dst (.slice (some ⟨g, 0, none⟩) (n + m) cap)) w1) :
    wpList P ops Q (o :: rest) a W := by
  obtain ⟨i0, hi, hzz⟩ := Option.map_eq_some_iff.1 hinfo
  simp only [Prod.mk.injEq] at hzz
  obtain ⟨hz0, hz1, hz2⟩ := hzz
  have hm : ys.length = m := Kd.C_len HR
  rcases A with _ | ad
  · have h0 : m = 0 := by
      rcases Nat.eq_zero_or_pos m with h0 | h0
      · exact h0
      · obtain ⟨ad, h, _⟩ := HR.2.2 h0
        cases h
    subst h0
    obtain rfl : ys = [] := List.eq_nil_of_length_eq_zero hm
    refine Kd.event_run (w1 := W) (v := .slice (some ⟨g, 0, none⟩) (n + 0) cap) hgd ?_ (h W (by simpa using HO) (World.grownBy.refl W _))
    have hr : (Builtin.append_ #[t, t] o.type #[.slice (some ⟨g, 0, none⟩) n cap, .slice none 0 c]).run P W = .ok (.slice (some ⟨g, 0, none⟩) n cap) W := by
      have hnc : n ≤ cap := by omega
      simp [Builtin.append_, run_underlying ht, sizeOf, typeInfo, hi, Builtin.lenOf, Builtin.firstCells, hnc, storeCells]
    unfold execOp
    simp only [ho, resolve, invoke, builtin, Sem.run_bind, Sem.run_pure, Result.andThen_ok, List.map_toArray, List.map_cons, List.map_nil, hs, hx, hr, Nat.add_zero]
  · have hnews : ∀ j u, (nums k ys)[j]? = some u → W.cell? (ad.add j) = some u := by
      intro j u hu
      have hj : j < ys.length := by
        rcases Nat.lt_or_ge j ys.length with h | h
        · exact h
        · simp [nums, List.getElem?_eq_none h] at hu
      obtain ⟨ad', h', hc⟩ := Kd.at_int HR (j : Int) (by omega) (by omega)
      injection h' with h'
      subst h'
      rw [Int.toNat_natCast] at hc
      simp [nums, List.getElem?_eq_getElem hj] at hu
      subst hu
      rw [hc]
      simp [rd, List.getD_eq_getElem?_getD, List.getElem?_eq_getElem hj]
    refine wpList_append_own_spare W hgd s x t ho base e i0 1 ht hi hz1 g n cap (nums k xs) hs HO ad m c (nums k ys) hx (by simp [nums, hm]) hnews (by intro u hu; simp only [nums, List.mem_map] at hu; obtain ⟨q, _, rfl⟩ := hu; rfl) hroom ?_
    intro w1 h1 h2
    exact h w1 (by rw [nums_append]; exact h1) h2
end

theorem own_room (W : World) (base : Nat) (e : TypeId) (z : Value) (c : Nat) (hb : base ≤ W.heap.size) (hc : c ≤ 9223372036854775807) :
    (W.alloc (.cells (madeCells #[z] c) e)).ownsRow base e 1 (.slice (some ⟨W.heap.size, 0, none⟩) 0 c) 0 [] :=
  ⟨rfl, .inr ⟨W.heap.size, c, _, rfl, hb, heap_alloc_new W _, Nat.zero_le _, by simp only [maxLen]; omega, by simp [madeCells], rfl⟩⟩
theorem C_of_own {k : IntKind} {W : World} {base e n m : Nat} {A : Option Addr} {xs : List Int} (h : W.ownsRow base e 1 (.slice A n m) n (nums k xs)) : (Kd.int k).C W A xs.length xs := by
  have hl : xs.length = n := by have := h.1; simpa [nums] using this
  subst hl
  obtain ⟨A', c', he, hle, hC⟩ := Kd.R_reads (Kd.R_of_own (enc := Value.int k) (h1 := fun _ => rfl) (ok := fun _ => True) h (fun _ _ => trivial))
  injection he with he1 he2 he3
  subst he1
  exact hC
theorem C_lit (k : IntKind) (W : World) (e : TypeId) (xs : List Int) (hm : xs.length ≤ 9223372036854775807) :
    (Kd.int k).C (W.alloc (.cells (nums k xs).toArray e)) (some ⟨W.heap.size, 0, none⟩) xs.length xs :=
  C_of_own (own_lit W W.heap.size e k xs (Nat.le_refl _) hm)

/-- A block that holds a copy and its marks. -/
def Marked (w : World) (base g : Nat) (xs : List Int) : Prop := w.ownsRow base 5 1 (.slice (some ⟨g, 0, none⟩) (xs.length + 2) (xs.length + 2)) (xs.length + 2) (nums .u8 (xs ++ [165, 90]))

set_option maxHeartbeats 400000 in
theorem copy_calls (A : Option Addr) (c : Nat) (xs : List Int) (hn : xs.length ≤ 5000) (w : World) (hr : Kd.C (Kd.int .u8) w A xs.length xs) :
    Calls Try.prog 10 #[.slice A xs.length c] w fun e w' => ∃ g, e = .returned (.slice (some ⟨g, 0, none⟩) xs.length (xs.length + 2)) ∧ Marked w' w.heap.size g xs ∧ Below w.heap.size w w' := by
  have HR := Aside0.mk hr
  clear hr
  have hmk := run_make_room (P := Try.prog) 22 5 (.int .u8 0) 1 Try.underlying22 (by kernel_rfl) rfl .i64 .i64 (xs.length + 2) (by omega) (by omega)
  have hmk2 : ∀ w : World, (Instr.makeSlice 22 (.int .i64 0) (.int .i64 ((xs.length : Int) + 2))).run Try.prog w = .ok (.slice (some ⟨w.heap.size, 0, none⟩) 0 (xs.length + 2)) (w.alloc (.cells (madeCells #[.int .u8 0] (xs.length + 2)) 5)) := hmk
  clear hmk
  have HN := Aside0.mk hn
  go_enter Try.func10, Try.ntmps10
  go_wp2_with (first | (at_builtin; refine spare_row w.heap.size rfl (.tmp 6) (.tmp 7) 22 5 .u8 rfl Try.underlying22 (by kernel_rfl) w.heap.size 0 (xs.length + 2) [] xs A xs.length c rfl rfl (own_room w _ 5 _ _ (Nat.le_refl _) (by omega)) (Kd.C_alloc HR.out _) (by omega) ?_; intro w1 ho1 hg1; rw [Nat.zero_add, List.nil_append] at ho1) | (at_builtin; refine spare_row w.heap.size rfl (.tmp 8) (.tmp 9) 22 5 .u8 rfl Try.underlying22 (by kernel_rfl) w.heap.size xs.length (xs.length + 2) xs [165, 90] _ 2 2 rfl rfl (ho1.alloc _) (C_lit .u8 w1 5 [165, 90] (by simp)) (by omega) ?_; intro w2 ho2 hg2))
  go_ret
  refine ⟨w.heap.size, rfl, ho2, ?_⟩
  have hb1 : Below w.heap.size w w1 := ((Below.refl w.heap.size w).alloc (Nat.le_refl _) _).grown hg1 (by simp) (fun k hk => by cases hk; exact Nat.le_refl _)
  exact (hb1.alloc hb1.size _).grown hg2 (by have := hb1.size; simp; omega) (fun k hk => by cases hk; exact Nat.le_refl _)

theorem Marked.below {w w1 : World} {base g : Nat} {xs : List Int} (h : Marked w base g xs) (hb : Below w.heap.size w w1) : Marked w1 base g xs := pw_own_below h hb
/-- The copy itself, read. -/
theorem Marked.reads {w : World} {base g : Nat} {xs : List Int} (h : Marked w base g xs) : (Kd.int .u8).C w (some ⟨g, 0, none⟩) xs.length xs := by
  have hC := C_of_own h
  have := Kd.C_take (m := xs.length) hC (by simp)
  rw [List.take_left] at this
  exact this
theorem Marked.mark {w : World} {base g : Nat} {xs : List Int} (h : Marked w base g xs) : w.cell? ⟨g, xs.length, none⟩ = some (.int .u8 165) ∧ w.cell? ⟨g, xs.length + 1, none⟩ = some (.int .u8 90) := by
  have h1 := h.cellAt xs.length (by omega)
  have h2 := h.cellAt (xs.length + 1) (by omega)
  refine ⟨h1.trans ?_, h2.trans ?_⟩
  · simp [nums]
  · simp [nums]

set_option maxHeartbeats 400000 in
theorem kept_calls (A : Option Addr) (c g base : Nat) (xs : List Int) (hn : xs.length ≤ 5000) (w : World) (hr : Kd.C (Kd.int .u8) w A xs.length xs) (hm : Marked w base g xs) :
    Calls Try.prog 15 #[.slice (some ⟨g, 0, none⟩) xs.length (xs.length + 2), .slice A xs.length c] w fun e w' => e = .returned (.bool true) ∧ Drawn0 w w' := by
  have k1 := Kd.C_string (P := Try.prog) (src := 22) (dst := 9) (c := c) Try.underlying22 Try.underlying5 Try.underlying9 hr
  have k2 := Kd.C_string (P := Try.prog) (src := 22) (dst := 9) (c := xs.length + 2) Try.underlying22 Try.underlying5 Try.underlying9 hm.reads
  obtain ⟨m1, m2⟩ := hm.mark
  have HR := Aside0.mk hr
  have HM := Aside0.mk hm
  clear hr hm
  go_enter Try.func15, Try.ntmps15
  go_wp2
  go_ret
  exact ⟨rfl, Drawn0.refl _⟩
end Go.Proofs.Ytfiomcfbphlibaa.Crc
