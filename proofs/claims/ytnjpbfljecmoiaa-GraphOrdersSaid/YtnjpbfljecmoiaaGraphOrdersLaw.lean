/- GraphOrders: for every list of feet and every order: it keeps what Least tells just if it keeps all. No condition beyond the given row's own. -/
import Derived.Test.YtnjpbfljecmoiaaRows
import Derived.Test.YtnjpbfljecmoiaaGraphOrdersWalk
import Derived.Test.YtnjpbfljecmoiaaOpen
import Derived.WalkKit
import Derived.ProofKit
import Derived.OpenShut
import Derived.ShutString
import Derived.ChangeOld
import Derived.Below
namespace Go.Proofs.Ytnjpbfljecmoiaa.graphOrders
open Go.ChangeShapes Go.WideShapes Go.ChangeAt Go.RowKit
open Go.ChangeMaps (open_string shut_string)
open Go.Proofs.Ytnjpbfljecmoiaa.PGraphLeans Go.Proofs.Ytnjpbfljecmoiaa.Graph Go.Proofs.Ytnjpbfljecmoiaa.Open Go.Proofs.YtnjpbfljecmoiaaW.PrintWords
set_option linter.unusedVariables false

theorem own : ownKnob Try.prog.godebug = none := by kernel_rfl
theorem laidOut : laidOutB Try.prog = true := by kernel_rfl
theorem opens46 : Opens Try.prog 46 k46 (fun _ => True) := by
  refine (fun H => ?_ : Opens Try.prog 46 (Kd.pair (Kd.int .i64) (Kd.int .i64)) (fun v => (Lit.int .i64 v.1).wf = true ∧ (Lit.int .i64 v.2).wf = true) → Opens Try.prog 46 k46 (fun _ => True)) ?_
  · exact fun H' enc w base spare held fuel cs x hx => by
      obtain ⟨v, _, hK⟩ := opens_iso (fun x : S46 => (x.f0, x.f1)) (fun v => ⟨v.1, v.2⟩) (fun _ => rfl) H H' enc w base spare held fuel cs x hx
      exact ⟨v, trivial, hK⟩
  · refine opens_struct Try.underlying46 (by kernel_rfl) ?_
    refine opensF_cons (oka := fun n : Int => (Lit.int .i64 n).wf = true) (okb := fun n : Int => (Lit.int .i64 n).wf = true) (opens_int Try.underlying3) rfl (by kernel_rfl) ?_
    exact opensF_one (opens_int Try.underlying3) rfl (by kernel_rfl)
theorem opens68 : Opens Try.prog 68 k68 (fun _ => True) := by
  refine (fun H => ?_ : Opens Try.prog 68 (Kd.pair (Kd.int .i64) (Kd.pair (Kd.int .i64) (Kd.int .i64))) (fun v => (Lit.int .i64 v.1).wf = true ∧ ((Lit.int .i64 v.2.1).wf = true ∧ (Lit.int .i64 v.2.2).wf = true)) → Opens Try.prog 68 k68 (fun _ => True)) ?_
  · exact fun H' enc w base spare held fuel cs x hx => by
      obtain ⟨v, _, hK⟩ := opens_iso (fun x : S68 => (x.f0, x.f1, x.f2)) (fun v => ⟨v.1, v.2.1, v.2.2⟩) (fun _ => rfl) H H' enc w base spare held fuel cs x hx
      exact ⟨v, trivial, hK⟩
  · refine opens_struct Try.underlying68 (by kernel_rfl) ?_
    refine opensF_cons (oka := fun n : Int => (Lit.int .i64 n).wf = true) (okb := fun v : Int × Int => (Lit.int .i64 v.1).wf = true ∧ (Lit.int .i64 v.2).wf = true) (opens_int Try.underlying3) rfl (by kernel_rfl) ?_
    refine opensF_cons (oka := fun n : Int => (Lit.int .i64 n).wf = true) (okb := fun n : Int => (Lit.int .i64 n).wf = true) (opens_int Try.underlying3) rfl (by kernel_rfl) ?_
    exact opensF_one (opens_int Try.underlying3) rfl (by kernel_rfl)
theorem opens24 : Opens Try.prog 24 (Kd.slice 46 k46) (fun xs => ∀ x ∈ xs, True) := opens_slice 46 Try.underlying24 (by kernel_rfl) opens46
theorem opens25 : Opens Try.prog 25 (Kd.slice 68 k68) (fun xs => ∀ x ∈ xs, True) := opens_slice 68 Try.underlying25 (by kernel_rfl) opens68
theorem opens27 : Opens Try.prog 27 k27 (fun _ => True) := by
  refine (fun H => ?_ : Opens Try.prog 27 (Kd.pair (Kd.slice 46 k46) (Kd.pair (Kd.slice 68 k68) (Kd.slice 46 k46))) (fun v => (∀ x ∈ v.1, True) ∧ ((∀ x ∈ v.2.1, True) ∧ (∀ x ∈ v.2.2, True))) → Opens Try.prog 27 k27 (fun _ => True)) ?_
  · exact fun H' enc w base spare held fuel cs x hx => by
      obtain ⟨v, _, hK⟩ := opens_iso (fun x : S27 => (x.f0, x.f1, x.f2)) (fun v => ⟨v.1, v.2.1, v.2.2⟩) (fun _ => rfl) H H' enc w base spare held fuel cs x hx
      exact ⟨v, trivial, hK⟩
  · refine opens_struct Try.underlying27 (by kernel_rfl) ?_
    refine opensF_cons (oka := fun xs : List S46 => ∀ x ∈ xs, True) (okb := fun v : List S68 × List S46 => (∀ x ∈ v.1, True) ∧ (∀ x ∈ v.2, True)) opens24 rfl (by kernel_rfl) ?_
    refine opensF_cons (oka := fun xs : List S68 => ∀ x ∈ xs, True) (okb := fun xs : List S46 => ∀ x ∈ xs, True) opens25 rfl (by kernel_rfl) ?_
    exact opensF_one opens24 rfl (by kernel_rfl)
theorem opens32 : Opens Try.prog 32 (Kd.slice 3 (Kd.int .i64)) (fun xs => ∀ x ∈ xs, (Lit.int .i64 x).wf = true) := opens_slice 3 Try.underlying32 (by kernel_rfl) (opens_int Try.underlying3)
theorem opens22 : Opens Try.prog 22 (Kd.slice 27 k27) (fun xs => ∀ x ∈ xs, True) := opens_slice 27 Try.underlying22 (by kernel_rfl) opens27

set_option maxRecDepth 100000 in
theorem lifted (os : Os) (started : os.Started) (H : Type) (enc : TypeId × Value → H) :
    ReturnsInHanded {} Try.checked os 6 .any (Rows.graphOrdersSpec.pre6 enc Try.prog Try.f6 Rows.graphOrdersRow.domain false) (Rows.graphOrdersSpec.post enc Try.prog Try.f6 false true false false) := by
  refine returnsInHanded_of_change (C := Try.checked) own started (by kernel_rfl) Try.func6
    (ChangeSpec.witness6 (enc := enc) (C := Try.checked) false ⟨#[], #[.slice none 0 0, .slice none 0 0], []⟩ 8 (by kernel_rfl) (by kernel_rfl) (by kernel_rfl) (by kernel_rfl)) ?_
  intro W base args ds gs before hval0 hW hcnd _
  have hval : ∀ (j : Nat) t v, Try.f6.params[j]? = some t → args[j]? = some v → Value.okWide Try.prog W .any base t v := hval0
  have hW' := hW
  obtain ⟨p, q, hA0, hV, rfl, hfz, hnd⟩ := hW
  have hA : DataW.TrodAll enc Try.prog W 0 (fun _ => true) true Try.f6.params.toList args.toList ds p := hA0
  rw [Try.params6] at hA hval
  obtain ⟨v0, vs0, d0, ds0, p0, q0, hargs, rfl, rfl, h0, r0⟩ := trodAll_cons hA
  obtain ⟨v1, vs1, d1, ds1, p1, q1, rfl, rfl, rfl, h1, r1⟩ := trodAll_cons r0
  obtain ⟨rfl, rfl, rfl⟩ := trodAll_nil r1
  obtain rfl : args = #[v0, v1] := by cases args; simp_all
  obtain ⟨rfl, rfl⟩ := trodVars_none hV
  obtain ⟨a0, len0, cap0, rfl⟩ := okWide_slice Try.underlying22 (hval 0 22 v0 rfl rfl)
  obtain ⟨a1, len1, cap1, rfl⟩ := okWide_slice Try.underlying32 (hval 1 32 v1 rfl rfl)
  have k0 := h0
  have k1 := h1
  have lt1 : ∀ x ∈ p1, x.block < W.heap.size := by obtain ⟨m, hm⟩ := k1; exact DataW.trod_lt m _ _ _ hm
  have lt0 : ∀ x ∈ p0, x.block < W.heap.size := by obtain ⟨m, hm⟩ := k0; exact DataW.trod_lt m _ _ _ hm
  obtain ⟨ps, _, rfl, _, hC⟩ := in_slice opens22 h0
  obtain ⟨qs, _, rfl, _, hC1⟩ := in_slice opens32 h1
  clear hA0 hval0
  refine (graphOrders_walk a0 cap0 ps a1 cap1 qs W hC hC1).mono fun e W' ⟨he, bel⟩ => ?_
  subst he
  exact ⟨_, rfl, _, _, _, [], _, [], hW', trodAll_mk1 (shut_bool Try.underlying4 _), (trodAll_cons_mk (Below.trod laidOut (by kernel_rfl) (of_decide_eq_true (by kernel_rfl)) k0 bel lt0) (trodAll_cons_mk (Below.trod laidOut (by kernel_rfl) (of_decide_eq_true (by kernel_rfl)) k1 bel lt1) trodAll_mk0)), rfl, bel.frame _, fun h => by cases h⟩

theorem over : Rows.graphOrdersRow.holds Try.pinned (OpenSpec.ofChange Rows.graphOrdersSpec) :=
  OpenClaim.holds_of_wide 6 Try.f6 rfl rfl rfl rfl rfl rfl rfl ⟨rfl, rfl, rfl, rfl, rfl⟩ rfl rfl rfl rfl rfl (by kernel_rfl) Try.func6 (by kernel_rfl)
    (of_decide_eq_true (by kernel_rfl)) (by unfold Func.isWrapper; first | (rw [if_pos (by decide +kernel)]; kernel_rfl) | (rw [if_neg (by decide +kernel)]; exact ⟨rfl, rfl⟩))
    (fun os started H enc _ => lifted os started H enc)

theorem proved : Rows.GraphOrdersSaid := over
#print axioms proved
end Go.Proofs.Ytnjpbfljecmoiaa.graphOrders
