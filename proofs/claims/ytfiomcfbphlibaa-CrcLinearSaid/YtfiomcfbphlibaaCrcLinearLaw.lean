/- CrcLinear: for every sum, two rows and place: turning nothing changes no sum, turning twice neither, and turning two rows is turning both. No condition beyond the given row's own. -/
import Derived.Test.YtfiomcfbphlibaaRows
import Derived.Test.YtfiomcfbphlibaaCrcLinearWalk
import Derived.Test.YtfiomcfbphlibaaOpen
import Derived.WalkKit
import Derived.Lib.SmallJoins
import Derived.ProofKit
import Derived.OpenShut
import Derived.ShutString
import Derived.ChangeOld
import Derived.Below
namespace Go.Proofs.Ytfiomcfbphlibaa.crcLinear
open Go.ChangeShapes Go.WideShapes Go.ChangeAt Go.RowKit
open Go.ChangeMaps (open_string shut_string)
open Go.Proofs.Ytfiomcfbphlibaa.Crc Go.Proofs.Ytfiomcfbphlibaa.Open Go.Proofs.YtfiomcfbphlibaaW.PrintWords
set_option linter.unusedVariables false

theorem own : ownKnob Try.prog.godebug = none := by kernel_rfl
theorem laidOut : laidOutB Try.prog = true := by kernel_rfl
theorem opens22 : Opens Try.prog 22 (Kd.slice 5 (Kd.int .u8)) (fun xs => ∀ x ∈ xs, (Lit.int .u8 x).wf = true) := opens_slice 5 Try.underlying22 (by kernel_rfl) (opens_int Try.underlying5)
theorem opens41 : Opens Try.prog 41 (Kd.pair (Kd.int .u32) (Kd.pair (Kd.slice 5 (Kd.int .u8)) (Kd.pair (Kd.slice 5 (Kd.int .u8)) (Kd.int .i64))))
    (fun v => (Lit.int .u32 v.1).wf = true ∧ (∀ x ∈ v.2.1, (Lit.int .u8 x).wf = true) ∧ (∀ x ∈ v.2.2.1, (Lit.int .u8 x).wf = true) ∧ (Lit.int .i64 v.2.2.2).wf = true) := by
  refine opens_struct Try.underlying41 (by kernel_rfl) ?_
  refine opensF_cons (oka := fun n => (Lit.int .u32 n).wf = true) (okb := fun v : List Int × List Int × Int => (∀ x ∈ v.1, (Lit.int .u8 x).wf = true) ∧ (∀ x ∈ v.2.1, (Lit.int .u8 x).wf = true) ∧ (Lit.int .i64 v.2.2).wf = true) (opens_int Try.underlying23) rfl (by kernel_rfl) ?_
  refine opensF_cons (oka := fun xs : List Int => ∀ x ∈ xs, (Lit.int .u8 x).wf = true) (okb := fun v : List Int × Int => (∀ x ∈ v.1, (Lit.int .u8 x).wf = true) ∧ (Lit.int .i64 v.2).wf = true) opens22 rfl (by kernel_rfl) ?_
  refine opensF_cons (oka := fun xs : List Int => ∀ x ∈ xs, (Lit.int .u8 x).wf = true) (okb := fun n : Int => (Lit.int .i64 n).wf = true) opens22 rfl (by kernel_rfl) ?_
  exact opensF_one (opens_int Try.underlying3) rfl (by kernel_rfl)

set_option maxRecDepth 100000 in
theorem lifted (os : Os) (started : os.Started) (H : Type) (enc : TypeId × Value → H) :
    ReturnsInHanded {} Try.checked os 8 .any (Rows.crcLinearSpec.pre6 enc Try.prog Try.f8 Rows.crcLinearRow.domain false) (Rows.crcLinearSpec.post enc Try.prog Try.f8 false true false false) := by
  refine returnsInHanded_of_change (C := Try.checked) own started (by kernel_rfl) Try.func8
    (ChangeSpec.witness6 (enc := enc) (C := Try.checked) false ⟨#[], #[.agg #[.int .u32 0, .slice none 0 0, .slice none 0 0, .int .i64 0]], []⟩ 8 (by kernel_rfl) (by kernel_rfl) (by kernel_rfl) (by kernel_rfl)) ?_
  intro W base args ds gs before hval0 hW hcnd _
  have hval : ∀ (j : Nat) t v, Try.f8.params[j]? = some t → args[j]? = some v → Value.okWide Try.prog W .any base t v := hval0
  have hW' := hW
  obtain ⟨p, q, hA0, hV, rfl, hfz, hnd⟩ := hW
  have hA : DataW.TrodAll enc Try.prog W 0 (fun _ => true) true Try.f8.params.toList args.toList ds p := hA0
  rw [Try.params8] at hA hval
  obtain ⟨v0, vs0, d0, ds0, p0, q0, hargs, rfl, rfl, h0, r0⟩ := trodAll_cons hA
  obtain ⟨rfl, rfl, rfl⟩ := trodAll_nil r0
  obtain rfl : args = #[v0] := by cases args; simp_all
  obtain ⟨rfl, rfl⟩ := trodVars_none hV
  have k0 := h0
  have lt0 : ∀ x ∈ p0, x.block < W.heap.size := by obtain ⟨m, hm⟩ := k0; exact DataW.trod_lt m _ _ _ hm
  obtain ⟨c0, c1, c2, c3, _, _, _, _, m, rfl, _, _, _, _, _⟩ := Go.Joins.open_agg4 Try.underlying41 (by kernel_rfl) (by kernel_rfl) (hval 0 41 v0 rfl rfl) h0
  obtain ⟨s, A, c, ys, A', c', ms, b, rfl, rfl, rfl, rfl, hs, hc, hc', hb, hy, hy0, hm, hm0⟩ : ∃ (s : Int) (A : Option Addr) (c : Nat) (ys : List Int) (A' : Option Addr) (c' : Nat) (ms : List Int) (b : Int), c0 = .int .u32 s ∧ c1 = .slice A ys.length c ∧ c2 = .slice A' ms.length c' ∧ c3 = .int .i64 b ∧ (Lit.int .u32 s).wf = true ∧ ys.length ≤ c ∧ ms.length ≤ c' ∧ (Lit.int .i64 b).wf = true ∧ (Kd.int .u8).C W A ys.length ys ∧ (∀ x ∈ ys, 0 ≤ x ∧ x < 256) ∧ (Kd.int .u8).C W A' ms.length ms ∧ ∀ x ∈ ms, 0 ≤ x ∧ x < 256 := by
    obtain ⟨fuel, hf⟩ := k0
    obtain ⟨⟨s, ys, ms, b⟩, ⟨o1, o2, o3, o4⟩, hK⟩ := opens41 H enc W 0 _ true fuel _ _ hf
    obtain ⟨_, _, he, hs, _, _, rfl, ⟨A, c, rfl, hl, hC⟩, _, _, rfl, ⟨A', c', rfl, hl', hC'⟩, hb⟩ := hK
    have hs' : _ = [Value.int .u32 s] := hs
    have hb' : _ = [Value.int .i64 b] := hb
    subst hs' hb'
    simp [Value.cells] at he
    obtain ⟨rfl, rfl, rfl, rfl⟩ := he
    exact ⟨s, A, c, ys, A', c', ms, b, rfl, rfl, rfl, rfl, o1, hl, hl', o4, hC, fun x hx => wf_u8 (o2 x hx), hC', fun x hx => wf_u8 (o3 x hx)⟩
  obtain ⟨s, rfl⟩ := wf_u32 hs
  have hhi : b ≤ 9223372036854775807 := by
    have : -9223372036854775808 ≤ b ∧ b ≤ 9223372036854775807 := by simpa [Lit.wf, IntKind.max, IntKind.min, IntKind.signed, IntKind.bits] using hb
    exact this.2
  clear hA0 hval0
  refine (crclinear_walk s A c ys A' c' ms b W hc hc' hhi hy hy0 hm hm0).mono fun e W' ⟨he, bel⟩ => ?_
  subst he
  exact ⟨_, rfl, _, _, _, [], _, [], hW', trodAll_mk1 (shut_bool Try.underlying4 _), (trodAll_cons_mk (Below.trod laidOut (by kernel_rfl) (of_decide_eq_true (by kernel_rfl)) k0 bel lt0) trodAll_mk0), rfl, bel.frame _, fun h => by cases h⟩

theorem over : Rows.crcLinearRow.holds Try.pinned (OpenSpec.ofChange Rows.crcLinearSpec) :=
  OpenClaim.holds_of_wide 8 Try.f8 rfl rfl rfl rfl rfl rfl rfl ⟨rfl, rfl, rfl, rfl, rfl⟩ rfl rfl rfl rfl rfl (by kernel_rfl) Try.func8 (by kernel_rfl)
    (of_decide_eq_true (by kernel_rfl)) (by unfold Func.isWrapper; first | (rw [if_pos (by decide +kernel)]; kernel_rfl) | (rw [if_neg (by decide +kernel)]; exact ⟨rfl, rfl⟩))
    (fun os started H enc _ => lifted os started H enc)

theorem proved : Rows.CrcLinearSaid := over
#print axioms proved
end Go.Proofs.Ytfiomcfbphlibaa.crcLinear
