/- The contracts of slices.Clone and DeleteFunc at []int. -/
import Derived.Test.YtnjpbfljecmoiaaIdx
import Derived.Laws.IdiomCopy
namespace Go.Proofs.Ytnjpbfljecmoiaa.Graph
open Go.RowKit Go.Proofs.YtnjpbfljecmoiaaW.PrintWords Go.Proofs.Ytnjpbfljecmoiaa.PGraphLeans

set_option maxHeartbeats 1000000 in
theorem clone_calls (A : Option Addr) (c : Nat) (xs : List Int) (w : World) (hx : Kd.C (Kd.int .i64) w A xs.length xs) (hsz : xs.length ≤ 1000000) :
    Calls Try.prog 26 #[.slice A xs.length c] w fun e w' => ∃ v, e = .returned v ∧ Kd.R (Kd.int .i64) 3 w' w.heap.size (fun _ => True) v xs ∧ Below w.heap.size w w' := by
  have heq := fun W => Lib.run_eql_slice_nil (P := Try.prog) W 32 3 A xs.length c 0 0 Try.underlying32
  cases A with
  | none =>
    have h0 : xs = [] := by
      rcases Nat.eq_zero_or_pos xs.length with h | h
      · exact List.eq_nil_of_length_eq_zero h
      · obtain ⟨_, h2, _⟩ := hx.2.2 h; cases h2
    subst h0
    clear hx
    rw [Option.isNone_none] at heq
    simp only [List.length_nil] at heq ⊢
    go_enter Try.func26, Try.ntmps26
    go_wp2
    go_ret
    exact ⟨_, rfl, Kd.R_nil _ _ _ _ _, Below.refl _ _⟩
  | some ad =>
    have HX := Aside0.mk (Kd.C_alloc hx (.cells #[] 3))
    have HRE : Aside0 (Kd.R (Kd.int .i64) 3 (w.alloc (.cells #[] 3)) w.heap.size (fun _ => True) (.slice (some ⟨w.heap.size, 0, none⟩) 0 0) []) := ⟨Kd.R_of_own (own_lit w w.heap.size 3 .i64 [] (Nat.le_refl _) (by simp)) (fun _ _ => trivial)⟩
    clear hx
    rw [Option.isNone_some] at heq
    go_enter Try.func26, Try.ntmps26
    go_wp2_with (at_builtin; refine Kd.R_append_row (Value.int .i64) 0 (h1 := fun _ => rfl) w.heap.size rfl (.tmp 5) (.tmp 6) 32 3 (.int .i64 0) 8 rfl Try.underlying32 info3 rfl (by omega) _ [] xs (some ad) xs.length c (fun _ => True) rfl rfl (fun _ _ => trivial) HRE.out HX.out (below_alloc (Below.refl _ _) _) (by simp) (by simp; omega) ?_; intro v3 w3 hr3 hb3 hg3 hat3; clear hg3 hat3)
    go_ret
    exact ⟨_, rfl, hr3, hb3⟩

theorem grown_trans {a b c : World} {row : Option Nat} (h : a.grownBy b row) (k : b.grownBy c row) : a.grownBy c row :=
  ⟨k.os.trans h.os, k.tape.trans h.tape, k.output.trans h.output, Nat.le_trans h.size k.size, fun q hq hr => (k.block q (Nat.lt_of_lt_of_le hq h.size) hr).trans (h.block q hq hr)⟩
theorem grown_drewN {a b : World} {row : Option Nat} (h : a.grownBy b row) (m : Nat) : a.grownBy (b.drewN m) row := ⟨h.os, h.tape, h.output, h.size, h.block⟩
/-- The rest of an own row is cleared. -/
theorem R_zero (g n cap base : Nat) : ∀ (m i : Nat) (w : World) (ys : List Int), i + m = n → Kd.R (Kd.int .i64) 3 w base (fun _ => True) (.slice (some ⟨g, 0, none⟩) n cap) ys →
    ∃ zs, Kd.R (Kd.int .i64) 3 (w.setCells g i (List.replicate m (.int .i64 0))) base (fun _ => True) (.slice (some ⟨g, 0, none⟩) n cap) zs ∧ zs.take i = ys.take i ∧ w.grownBy (w.setCells g i (List.replicate m (.int .i64 0))) (some g) := by
  intro m
  induction m with
  | zero => intro i w ys _ h; exact ⟨ys, h, rfl, World.grownBy.refl w _⟩
  | succ m ih =>
    intro i w ys hi h
    obtain ⟨h1, h2⟩ := Kd.R_putg h (i : Int) 0
    rw [Int.toNat_natCast] at h1 h2
    obtain ⟨zs, h3, h4, h5⟩ := ih (i + 1) _ _ (by omega) h1
    refine ⟨zs, h3, ?_, grown_trans h2 h5⟩
    have := congrArg (List.take i) h4
    rw [List.take_take, List.take_take, Nat.min_eq_left (by omega)] at this
    rw [this, List.take_set_of_le (by omega)]
/-- What DeleteFunc's loop keeps. -/
structure DelInv (p : Int → Bool) (xs ys : List Int) (i j : Nat) : Prop where
  len : ys.length = xs.length
  lt : i < j
  le : j ≤ xs.length
  low : ys.take i = (xs.take j).filter (fun x => !p x)
  high : ys.drop j = xs.drop j
theorem DelInv.start {p : Int → Bool} {xs : List Int} {k : Nat} (hk : k < xs.length) (hp : p xs[k] = true) (hb : ∀ j (hj : j < k), p (xs[j]'(by omega)) = false) : DelInv p xs xs k (k + 1) := by
  refine ⟨rfl, by omega, by omega, ?_, rfl⟩
  rw [List.take_succ_eq_append_getElem hk, List.filter_append, List.filter_eq_self.2 (fun x hx => ?_)]
  · rw [List.filter_cons_of_neg (by simp [hp])]; simp
  · obtain ⟨j, hj, rfl⟩ := List.mem_take_iff_getElem.1 hx
    rw [hb j (by omega)]; rfl
theorem DelInv.cur {p : Int → Bool} {xs ys : List Int} {i j : Nat} (h : DelInv p xs ys i j) (hj : j < xs.length) : ys[j]'(by rw [h.len]; exact hj) = xs[j] := by
  have := congrArg (fun l : List Int => l[0]?) h.high
  simpa [List.getElem?_drop, hj, h.len] using this
theorem DelInv.skip {p : Int → Bool} {xs ys : List Int} {i j : Nat} (h : DelInv p xs ys i j) (hj : j < xs.length) (hp : p xs[j] = true) : DelInv p xs ys i (j + 1) := by
  refine ⟨h.len, by have := h.lt; omega, by omega, ?_, ?_⟩
  · rw [List.take_succ_eq_append_getElem hj, List.filter_append, List.filter_cons_of_neg (by simp [hp]), h.low]; simp
  · have := congrArg (List.drop 1) h.high
    simpa [List.drop_drop, Nat.add_comm] using this
theorem DelInv.keep {p : Int → Bool} {xs ys : List Int} {i j : Nat} (h : DelInv p xs ys i j) (hj : j < xs.length) (hp : p xs[j] = false) : DelInv p xs (ys.set i xs[j]) (i + 1) (j + 1) := by
  have hlt := h.lt
  have hlen := h.len
  refine ⟨by simp [h.len], by omega, by omega, ?_, ?_⟩
  · rw [List.take_succ_eq_append_getElem (by rw [List.length_set]; omega), List.take_succ_eq_append_getElem hj, List.filter_append, List.filter_cons_of_pos (by simp [hp]), List.filter_nil, List.take_set_of_le (by omega), h.low]
    simp
  · rw [List.drop_set_of_lt (by omega)]
    have := congrArg (List.drop 1) h.high
    simpa [List.drop_drop, Nat.add_comm] using this
set_option maxHeartbeats 4000000 in
set_option maxRecDepth 100000 in
theorem delete_calls (fn : Nat) (eg : ∀ args w, (callFunc fn args).run Try.prog w = .ok (.enter fn args) w) (cv : Value) (p : Int → Bool) (v : Value) (xs : List Int) (base : Nat) (w : World) (hx : Kd.R (Kd.int .i64) 3 w base (fun _ => True) v xs)
    (HC : ∀ x ∈ xs, ∀ W, w.grownBy W v.ownBlock → Calls Try.prog fn #[.int .i64 x, cv] W fun e w' => e = .returned (.bool (p x)) ∧ Drawn0 W w') :
    Calls Try.prog 25 #[v, .func (.func fn) #[] #[cv]] w fun e w' => ∃ v', e = .returned v' ∧ Kd.R (Kd.int .i64) 3 w' base (fun _ => True) v' (xs.filter (fun x => !p x)) ∧ v'.ownBlock = v.ownBlock ∧ w.grownBy w' v.ownBlock := by
  obtain ⟨A, c, rfl, hc, hC⟩ := Kd.R_reads hx
  have hmax := Kd.C_max hC
  have HI := Aside0.mk (idxInt_calls fn eg cv p A c xs w hC (fun x hxm m => (HC x hxm (w.drewN m) (grown_drewN (World.grownBy.refl w _) m)).mono (by rintro e w' ⟨he, ⟨k, rfl⟩⟩; exact ⟨he, ⟨m + k, by simp [World.drewN, Nat.add_assoc]⟩⟩)))
  have HX := Aside0.mk hx
  have HCC := Aside0.mk HC
  clear HC hC
  rcases idxI_cases p xs with ⟨h1, hn⟩ | ⟨k0, hk0, h1, hp0, hb0⟩
  · rw [h1] at HI
    have HF : Aside0 (xs.filter (fun x => !p x) = xs) := ⟨List.filter_eq_self.2 (fun x hxm => by rw [hn x hxm]; rfl)⟩
    clear h1 hn hx
    go_enter Try.func25, Try.ntmps25
    go_wp2_with (go_at_call 36; refine HI.out.mono ?_; rintro e w1 ⟨rfl, ⟨m1, rfl⟩⟩)
    go_ret
    exact ⟨_, rfl, by rw [HF.out]; exact Kd.R_drewN HX.out m1, rfl, grown_drewN (World.grownBy.refl w _) m1⟩
  · obtain ⟨g, cap, he, -, -, -⟩ := Kd.R_form hx (by omega)
    injection he with e1 _ e3
    subst e1 e3
    rw [h1] at HI
    have HD0 := Aside0.mk (DelInv.start hk0 hp0 hb0)
    have hne1 : ((k0 : Int) == -1) = false := beq_eq_false_iff_ne.2 (by omega)
    have hOB : (Value.slice (some ⟨g, 0, none⟩) xs.length c).ownBlock = some g := by simp [Value.ownBlock]
    rw [hOB] at HCC ⊢
    clear h1 hp0 hb0 hx
    go_enter Try.func25, Try.ntmps25
    go_wp2_with (go_at_call 36; refine HI.out.mono ?_; rintro e w1 ⟨rfl, ⟨m1, rfl⟩⟩)
    have HX1 : Aside0 (Kd.R (Kd.int .i64) 3 (w.drewN m1) base (fun _ => True) (.slice (some ⟨g, 0, none⟩) xs.length c) xs) := ⟨Kd.R_drewN HX.out m1⟩
    have HG1 : Aside0 (w.grownBy (w.drewN m1) (some g)) := ⟨grown_drewN (World.grownBy.refl w _) m1⟩
    generalize w.drewN m1 = w1 at HX1 HG1 ⊢
    go_loopw [5, 6] (fun s5 s6 wr => ∃ (i j : Nat) (ys : List Int), s5 = .int .i64 i ∧ s6 = .int .i64 j ∧ j ≤ xs.length ∧ Aside0 (DelInv p xs ys i j) ∧ Aside0 (Kd.R (Kd.int .i64) 3 wr base (fun _ => True) (.slice (some ⟨g, 0, none⟩) xs.length c) ys) ∧ Aside0 (w.grownBy wr (some g))) (fun _ s6 _ => xs.length - (intOf s6).toNat)
    case atStart => exact ⟨k0, k0 + 1, xs, rfl, by go_num, by omega, HD0, HX1, HG1⟩
    case round =>
      clear HX1 HG1 HD0
      obtain ⟨i, j, ys, rfl, rfl, hjx, HD, HR, HG⟩ := hrel
      have hij := HD.out.lt
      have hil : i < xs.length := by omega
      by_cases hlt : j < xs.length
      · have hb : decide (j < xs.length) = true := by simp; omega
        have hlt2 : (j : Int) < (xs.length : Int) := by omega
        have hil2 : (i : Int) < (xs.length : Int) := by omega
        obtain ⟨cj, -⟩ := Kd.R_celln (0 : Int) HR.out (j : Int) (by omega) (by omega)
        obtain ⟨ci, fi⟩ := Kd.R_celln (0 : Int) HR.out (i : Int) (by omega) (by omega)
        rw [Int.toNat_natCast] at cj ci fi
        have hcur : rdOf 0 ys (j : Int) = xs[j] := by
          have := HD.out.cur hlt
          have hl := HD.out.len
          simp [rdOf, show j < ys.length by omega, this]
        rw [hcur] at cj
        clear hcur
        have HCI := Aside0.mk (HCC.out xs[j] (List.getElem_mem hlt) wr HG.out)
        have HSK := Aside0.mk (fun h => HD.out.skip hlt h)
        have HKP := Aside0.mk (fun h => HD.out.keep hlt h)
        generalize xs[j] = u at cj HCI HSK HKP
        generalize rdOf 0 ys (i : Int) = old at ci
        cases hp : p u with
        | true =>
          have HD2 := Aside0.mk (HSK.out hp)
          rw [hp] at HCI
          clear hp HSK HKP
          go_wp2_with fail
          refine HCI.out.mono ?_
          rintro e w2 ⟨rfl, ⟨m2, rfl⟩⟩
          go_wp2
          go_roundw
          case rel => exact ⟨i, j + 1, ys, rfl, by go_num, by omega, HD2, ⟨Kd.R_drewN HR.out m2⟩, ⟨grown_drewN HG.out m2⟩⟩
          case measure => simp [intOf]; omega
        | false =>
          have HD2 := Aside0.mk (HKP.out hp)
          rw [hp] at HCI
          clear hp HSK HKP
          go_wp2_with fail
          refine HCI.out.mono ?_
          rintro e w2 ⟨rfl, ⟨m2, rfl⟩⟩
          have hp2 := Kd.R_putg (Kd.R_drewN HR.out m2) (i : Int) u
          rw [Int.toNat_natCast] at hp2
          go_wp2
          go_roundw
          case rel => exact ⟨i + 1, j + 1, _, by go_num, by go_num, by omega, HD2, ⟨hp2.1⟩, ⟨grown_trans (grown_drewN HG.out m2) hp2.2⟩⟩
          case measure => simp [intOf]; omega
      · have hb : decide (j < xs.length) = false := by simp; omega
        have hjn : j = xs.length := by omega
        subst hjn
        have HFI : Aside0 (xs.filter (fun x => !p x) = ys.take i ∧ i ≤ ys.length) := ⟨by rw [HD.out.low, List.take_length], by have := HD.out.len; omega⟩
        obtain ⟨zs, hz1, hz2, hz3⟩ := R_zero g xs.length c base (xs.length - i) i wr ys (by omega) HR.out
        have hcl : ∀ ty, (Builtin.clear_ #[32] ty #[.slice (some ⟨g, i, none⟩) (xs.length - i) (c - i)]).run Try.prog wr = .ok (.tuple #[]) (wr.setCells g i (List.replicate (xs.length - i) (.int .i64 0))) :=
          fun ty => Lib.run_clear_slice wr 32 3 ty (.int .i64 0) Try.underlying32 (fun w => by kernel_rfl) rfl rfl g i _ _ (by omega)
            (fun t ht => by have := (Kd.R_celln (0 : Int) HR.out ((i + t : Nat) : Int) (by omega) (by omega)).1; rw [Int.toNat_natCast] at this; rw [this]; rfl)
            (fun t ht => by have := (Kd.R_celln (0 : Int) HR.out ((i + t : Nat) : Int) (by omega) (by omega)).2; rw [Int.toNat_natCast] at this; exact this)
        have HZ1 := Aside0.mk hz1
        have HZ2 := Aside0.mk hz2
        have HZ3 := Aside0.mk hz3
        clear hz1 hz2 hz3
        have hij2 : (i : Int) < (xs.length : Int) := by omega
        go_wp2
        go_ret
        refine ⟨_, rfl, ?_, by simp [Value.ownBlock], grown_trans HG.out HZ3.out⟩
        rw [HFI.out.1, ← HZ2.out]
        exact Kd.R_take HZ1.out (by have := Kd.R_reads' HZ1.out; omega)
end Go.Proofs.Ytnjpbfljecmoiaa.Graph
