/- SchedPlays: for every plan and every row of picks: a plan comes to what the document says. No condition beyond the given row's own. -/
import Derived.Test.YtigpcfokmbnlaaaRows
import Derived.Test.YtigpcfokmbnlaaaPlaysQ
import Derived.Test.YtigpcfokmbnlaaaPlaysR
import Derived.Lib.SmallJoins
import Derived.WalkKit
import Derived.ProofKit
import Derived.OpenShut
import Derived.ShutString
import Derived.ChangeOld
import Derived.Below
namespace Go.Proofs.Ytigpcfokmbnlaaa.schedPlays
open Go.ChangeShapes Go.WideShapes Go.ChangeAt Go.RowKit
open Go.ChangeMaps (open_string shut_string)
open Go.Proofs.Ytigpcfokmbnlaaa.Sched Go.Proofs.Ytigpcfokmbnlaaa.Open Go.Proofs.YtigpcfokmbnlaaaW.PrintWords
set_option linter.unusedVariables false

theorem own : ownKnob Try.prog.godebug = none := by kernel_rfl
theorem laidOut : laidOutB Try.prog = true := by kernel_rfl
theorem opens38 : Opens Try.prog 38 (Kd.slice 3 (Kd.int .i64)) (fun xs => ∀ x ∈ xs, (Lit.int .i64 x).wf = true) := opens_slice 3 Try.underlying38 (by kernel_rfl) (opens_int Try.underlying3)
theorem opens22 : Opens Try.prog 22 (Kd.slice 38 (Kd.slice 3 (Kd.int .i64))) (fun xs => ∀ x ∈ xs, ∀ y ∈ x, (Lit.int .i64 y).wf = true) := opens_slice 38 Try.underlying22 (by kernel_rfl) opens38
theorem opens31 : Opens Try.prog 31 (Kd.slice 4 Kd.bool) (fun xs => ∀ x ∈ xs, True) := opens_slice 4 Try.underlying31 (by kernel_rfl) (opens_bool Try.underlying4)
theorem opens37 : Opens Try.prog 37 (Kd.pair (Kd.slice 38 (Kd.slice 3 (Kd.int .i64))) (Kd.pair (Kd.slice 4 Kd.bool) (Kd.int .i64)))
    (fun v => (∀ x ∈ v.1, ∀ y ∈ x, (Lit.int .i64 y).wf = true) ∧ (∀ x ∈ v.2.1, True) ∧ (Lit.int .i64 v.2.2).wf = true) := by
  refine opens_struct Try.underlying37 (by kernel_rfl) ?_
  refine opensF_cons (oka := fun xs : List (List Int) => ∀ x ∈ xs, ∀ y ∈ x, (Lit.int .i64 y).wf = true) (okb := fun v : List Bool × Int => (∀ x ∈ v.1, True) ∧ (Lit.int .i64 v.2).wf = true) opens22 rfl (by kernel_rfl) ?_
  refine opensF_cons (oka := fun xs : List Bool => ∀ x ∈ xs, True) (okb := fun n : Int => (Lit.int .i64 n).wf = true) opens31 rfl (by kernel_rfl) ?_
  exact opensF_one (opens_int Try.underlying3) rfl (by kernel_rfl)

set_option maxRecDepth 100000 in
theorem lifted (os : Os) (started : os.Started) (H : Type) (enc : TypeId × Value → H) :
    ReturnsInHanded {} Try.checked os 5 .any (Rows.schedPlaysSpec.pre6 enc Try.prog Try.f5 Rows.schedPlaysRow.domain false) (Rows.schedPlaysSpec.post enc Try.prog Try.f5 false true false false) := by
  refine returnsInHanded_of_change (C := Try.checked) own started (by kernel_rfl) Try.func5
    (ChangeSpec.witness6 (enc := enc) (C := Try.checked) false ⟨#[], #[.agg #[.slice none 0 0, .slice none 0 0, .int .i64 0], .slice none 0 0], []⟩ 8 (by kernel_rfl) (by kernel_rfl) (by kernel_rfl) (by kernel_rfl)) ?_
  intro W base args ds gs before hval0 hW hcnd _
  have hval : ∀ (j : Nat) t v, Try.f5.params[j]? = some t → args[j]? = some v → Value.okWide Try.prog W .any base t v := hval0
  have hW' := hW
  obtain ⟨p, q, hA0, hV, rfl, hfz, hnd⟩ := hW
  have hA : DataW.TrodAll enc Try.prog W 0 (fun _ => true) true Try.f5.params.toList args.toList ds p := hA0
  rw [Try.params5] at hA hval
  obtain ⟨v0, vs0, d0, ds0, p0, q0, hargs, rfl, rfl, h0, r0⟩ := trodAll_cons hA
  obtain ⟨v1, vs1, d1, ds1, p1, q1, rfl, rfl, rfl, h1, r1⟩ := trodAll_cons r0
  obtain ⟨rfl, rfl, rfl⟩ := trodAll_nil r1
  obtain rfl : args = #[v0, v1] := by cases args; simp_all
  obtain ⟨rfl, rfl⟩ := trodVars_none hV
  have k0 := h0
  have k1 := h1
  have lt0 : ∀ x ∈ p0, x.block < W.heap.size := by obtain ⟨m, hm⟩ := k0; exact DataW.trod_lt m _ _ _ hm
  have lt1 : ∀ x ∈ p1, x.block < W.heap.size := by obtain ⟨m, hm⟩ := k1; exact DataW.trod_lt m _ _ _ hm
  obtain ⟨c0, c1, c2, _, _, _, m, rfl, _, _, _, _, _⟩ := Go.Joins.open_agg3 Try.underlying37 (by kernel_rfl) (by kernel_rfl) (hval 0 37 v0 rfl rfl) h0
  obtain ⟨L, A0, e0, idle, A1, e1, n, rfl, rfl, rfl, hc0, hC0, hc1, hC1⟩ : ∃ (L : List (List Int)) (A0 : Option Addr) (e0 : Nat) (idle : List Bool) (A1 : Option Addr) (e1 : Nat) (n : Int), c0 = .slice A0 L.length e0 ∧ c1 = .slice A1 idle.length e1 ∧ c2 = .int .i64 n ∧ L.length ≤ e0 ∧ Kd.C (Kd.slice 3 (Kd.int .i64)) W A0 L.length L ∧ idle.length ≤ e1 ∧ Kd.C Kd.bool W A1 idle.length idle := by
    obtain ⟨fuel, hf⟩ := k0
    obtain ⟨⟨L, idle, n⟩, _, hK⟩ := opens37 H enc W 0 _ true fuel _ _ hf
    obtain ⟨_, _, he, ⟨A0, e0, rfl, hl0, hC0⟩, _, _, rfl, ⟨A1, e1, rfl, hl1, hC1⟩, hn⟩ := hK
    have hn' : _ = [Value.int .i64 n] := hn
    subst hn'
    simp [Value.cells] at he
    obtain ⟨rfl, rfl, rfl⟩ := he
    exact ⟨L, A0, e0, idle, A1, e1, n, rfl, rfl, rfl, hl0, hC0, hl1, hC1⟩
  obtain ⟨a2, len2, cap2, rfl⟩ := okWide_slice Try.underlying38 (hval 1 38 v1 rfl rfl)
  obtain ⟨ps, _, rfl, hc2, hC2⟩ := in_slice opens38 h1
  clear hA0 hval0
  refine (plays_walk A0 e0 L A1 e1 idle n a2 cap2 ps W hC0 hc0 hC1 hc1 hC2 hc2).mono fun e W' ⟨he, bel⟩ => ?_
  subst he
  exact ⟨_, rfl, _, _, _, [], _, [], hW', trodAll_mk1 (shut_bool Try.underlying4 _), (trodAll_cons_mk (Below.trod laidOut (by kernel_rfl) (of_decide_eq_true (by kernel_rfl)) k0 bel lt0) (trodAll_cons_mk (Below.trod laidOut (by kernel_rfl) (of_decide_eq_true (by kernel_rfl)) k1 bel lt1) trodAll_mk0)), rfl, bel.frame _, fun h => by cases h⟩

theorem over : Rows.schedPlaysRow.holds Try.pinned (OpenSpec.ofChange Rows.schedPlaysSpec) :=
  OpenClaim.holds_of_wide 5 Try.f5 rfl rfl rfl rfl rfl rfl rfl ⟨rfl, rfl, rfl, rfl, rfl⟩ rfl rfl rfl rfl rfl (by kernel_rfl) Try.func5 (by kernel_rfl)
    (of_decide_eq_true (by kernel_rfl)) (by unfold Func.isWrapper; first | (rw [if_pos (by decide +kernel)]; kernel_rfl) | (rw [if_neg (by decide +kernel)]; exact ⟨rfl, rfl⟩))
    (fun os started H enc _ => lifted os started H enc)

theorem proved : Rows.SchedPlaysSaid := over
#print axioms proved
end Go.Proofs.Ytigpcfokmbnlaaa.schedPlays
