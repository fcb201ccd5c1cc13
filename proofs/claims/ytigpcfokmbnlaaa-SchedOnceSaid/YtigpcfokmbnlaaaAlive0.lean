/- The picks of the chapter's example, one by one. -/
import Derived.Test.YtigpcfokmbnlaaaNew
import Derived.Test.YtigpcfokmbnlaaaTake
namespace Go.Proofs.Ytigpcfokmbnlaaa.Sched
open Go.RowKit Go.Proofs.YtigpcfokmbnlaaaW.PrintWords

def exT (A0 A1 : Option Addr) (c0 c1 : Nat) : Nat → List T
  | 0 => [⟨0, A0, c0, [1], -1, 0⟩, ⟨1, A1, c1, [], -1, 0⟩]
  | 1 => [⟨0, A0, c0, [1], 0, 1⟩, ⟨1, A1, c1, [], -1, 0⟩]
  | 2 => [⟨0, A0, c0, [1], 0, 2⟩, ⟨1, A1, c1, [], -1, 0⟩]
  | 3 => [⟨0, A0, c0, [1], -1, 3⟩, ⟨0, A1, c1, [], -1, 0⟩]
  | _ => [⟨0, A0, c0, [1], -1, 3⟩, ⟨0, A1, c1, [], 1, 1⟩]
def exH : Nat → List Int
  | 0 => [-1, -1]
  | 1 => [0, -1]
  | 2 => [0, -1]
  | 3 => [-1, -1]
  | _ => [-1, 1]
def exL : Nat → Int
  | 0 => 2
  | 1 => 2
  | 2 => 2
  | _ => 1
def exP (w : World) (P : Pl) (A0 A1 : Option Addr) (c0 c1 i : Nat) : Prop := IsPlan w P (exT A0 A1 c0 c1 i) (exH i) i (exL i)
variable {A0 A1 : Option Addr} {c0 c1 : Nat} {w : World} {P : Pl}
theorem ex_ran : ranTs (exT A0 A1 c0 c1 2) 0 = exT A0 A1 c0 c1 3 := by
  show [_, (⟨wrap64 (1 - 1), A1, c1, [], -1, 0⟩ : T)] = _
  rw [show wrap64 (1 - 1) = 0 by unfold wrap64; omega]
  rfl
theorem ex_pick0 (h : exP w P A0 A1 c0 c1 0) : Calls Try.prog 11 #[.pointer (some ⟨P.gp, 0, none⟩), .int .i64 0] w fun e w' => e = .returned (pickV 1 0 0 0) ∧ exP w' P A0 A1 c0 c1 1 ∧ Stp w w' P := by
  refine (pick_take P _ _ _ _ w 0 0 h (by decide) (by decide) rfl (by rfl) (by show 0 < 2; decide)).mono ?_
  rintro e w' ⟨rfl, hp, hs⟩
  rw [wrap_succ 0 (by omega)] at hp
  exact ⟨rfl, hp, hs⟩
theorem ex_pick1 (h : exP w P A0 A1 c0 c1 1) : Calls Try.prog 11 #[.pointer (some ⟨P.gp, 0, none⟩), .int .i64 1] w fun e w' => e = .returned (pickV 2 0 0 0) ∧ exP w' P A0 A1 c0 c1 2 ∧ Stp w w' P := by
  refine (pick_help P _ _ _ _ w 1 0 2 0 (exT A0 A1 c0 c1 2) (exH 2) (exL 2) h (by decide) (by decide) rfl (by rfl) (by rfl) (same_setState (exT A0 A1 c0 c1 1) 0 2)
    (fun W hW => goOn_took P _ _ _ _ 0 0 W hW (by show 0 < 2; decide) rfl rfl)).mono ?_
  rintro e w' ⟨rfl, hp, hs⟩
  rw [wrap_succ 1 (by omega)] at hp
  exact ⟨rfl, hp, hs⟩
theorem ex_pick2 (h : exP w P A0 A1 c0 c1 2) : Calls Try.prog 11 #[.pointer (some ⟨P.gp, 0, none⟩), .int .i64 1] w fun e w' => e = .returned (pickV 3 0 0 0) ∧ exP w' P A0 A1 c0 c1 3 ∧ Stp w w' P := by
  refine (pick_help P _ _ _ _ w 1 0 3 0 (exT A0 A1 c0 c1 3) (exH 3) (exL 3) h (by decide) (by decide) rfl (by rfl) (by rfl) (ex_ran ▸ same_ran (exT A0 A1 c0 c1 2) 0) (fun W hW => ?_)).mono ?_
  · refine (goOn_ran P _ _ _ _ 0 0 W hW (by show 0 < 2; decide) rfl rfl (by decide) ?_).mono ?_
    · intro k hk
      have : k = 1 := List.mem_singleton.1 hk
      subst this
      exact ⟨by decide, by show (1 : Int) < 2; decide⟩
    · rintro e w' ⟨rfl, hp, hs⟩
      rw [ex_ran, show wrap64 (exL 2 - 1) = exL 3 by show wrap64 (2 - 1) = 1; unfold wrap64; omega] at hp
      exact ⟨rfl, hp, hs⟩
  · rintro e w' ⟨rfl, hp, hs⟩
    rw [wrap_succ 2 (by omega)] at hp
    exact ⟨rfl, hp, hs⟩
theorem ex_pick3 (h : exP w P A0 A1 c0 c1 3) : Calls Try.prog 11 #[.pointer (some ⟨P.gp, 0, none⟩), .int .i64 1] w fun e w' => e = .returned (pickV 1 1 1 0) ∧ exP w' P A0 A1 c0 c1 4 ∧ Stp w w' P := by
  refine (pick_take P _ _ _ _ w 1 1 h (by decide) (by decide) rfl (by rfl) (by show 1 < 2; decide)).mono ?_
  rintro e w' ⟨rfl, hp, hs⟩
  rw [wrap_succ 3 (by omega)] at hp
  exact ⟨rfl, hp, hs⟩

theorem ex_new {ts : List T} (h : ts.map bare = upB [[], [0]] 2) : ∃ A0 A1 c0 c1, ts = exT A0 A1 c0 c1 0 := by
  have h2 : ts.map bare = [⟨0, none, 0, [1], -1, 0⟩, ⟨1, none, 0, [], -1, 0⟩] := h
  have hl : ts.length = 2 := by have := congrArg List.length h2; simpa using this
  obtain ⟨a, b, rfl⟩ : ∃ a b, ts = [a, b] := by
    rcases ts with _ | ⟨a, ts⟩
    · simp at hl
    · rcases ts with _ | ⟨b, ts⟩
      · simp at hl
      · rcases ts with _ | ⟨c, ts⟩
        · exact ⟨a, b, rfl⟩
        · simp at hl
  simp only [List.map_cons, List.map_nil, List.cons.injEq, and_true] at h2
  obtain ⟨ha, hb⟩ := h2
  cases a; cases b
  simp only [bare, T.mk.injEq, true_and] at ha hb
  obtain ⟨rfl, rfl, rfl, rfl⟩ := ha
  obtain ⟨rfl, rfl, rfl, rfl⟩ := hb
  exact ⟨_, _, _, _, rfl⟩
end Go.Proofs.Ytigpcfokmbnlaaa.Sched
