/- The contracts of slices.IndexFunc, ContainsFunc, Clone and DeleteFunc at []int. -/
import Derived.Test.YtnjpbfljecmoiaaLeans
import Derived.Lib.SliceRun
namespace Go.Proofs.Ytnjpbfljecmoiaa.Graph
open Go.RowKit Go.Proofs.YtnjpbfljecmoiaaW.PrintWords Go.Proofs.Ytnjpbfljecmoiaa.PGraphLeans

/-- The first number of which something is so; -1: there is none. -/
def idxI (p : Int → Bool) (xs : List Int) : Int := match xs.findIdx? p with
  | some i => i
  | none => -1
theorem idxI_some {p : Int → Bool} {xs : List Int} {k : Nat} (hk : k < xs.length) (h : p xs[k] = true) (hb : ∀ j (hj : j < k), p (xs[j]'(by omega)) = false) : idxI p xs = k := by
  have : xs.findIdx? p = some k := by
    rw [List.findIdx?_eq_some_iff_getElem]
    exact ⟨hk, h, fun j hj => by simpa using hb j hj⟩
  unfold idxI; rw [this]
theorem idxI_none {p : Int → Bool} {xs : List Int} (hb : ∀ j (hj : j < xs.length), p xs[j] = false) : idxI p xs = -1 := by
  have : xs.findIdx? p = none := by
    rw [List.findIdx?_eq_none_iff]
    intro x hx
    obtain ⟨j, hj, rfl⟩ := List.mem_iff_getElem.1 hx
    exact hb j hj
  unfold idxI; rw [this]
theorem idxI_cases (p : Int → Bool) (xs : List Int) : (idxI p xs = -1 ∧ ∀ x ∈ xs, p x = false) ∨ ∃ k : Nat, ∃ hk : k < xs.length, idxI p xs = k ∧ p xs[k] = true ∧ ∀ j (hj : j < k), p (xs[j]'(by omega)) = false := by
  unfold idxI
  cases h : xs.findIdx? p with
  | none => exact .inl ⟨rfl, fun x hx => by simpa using List.findIdx?_eq_none_iff.1 h x hx⟩
  | some k =>
    obtain ⟨hk, h1, h2⟩ := List.findIdx?_eq_some_iff_getElem.1 h
    exact .inr ⟨k, hk, rfl, h1, fun j hj => by simpa using h2 j hj⟩
theorem idxI_any (p : Int → Bool) (xs : List Int) : decide (0 ≤ idxI p xs) = xs.any p := by
  rcases idxI_cases p xs with ⟨h, hn⟩ | ⟨k, hk, h, hp, _⟩
  · rw [h, List.any_eq_false.2 (fun x hx => by rw [hn x hx]; decide)]; rfl
  · rw [h, List.any_eq_true.2 ⟨_, List.getElem_mem hk, hp⟩]; simp
theorem eg27 (args : Array Value) (w : World) : (callFunc 27 args).run Try.prog w = .ok (.enter 27 args) w := by rfl
theorem eg29 (args : Array Value) (w : World) : (callFunc 29 args).run Try.prog w = .ok (.enter 29 args) w := by rfl
theorem rd_nat (xs : List Int) (i : Nat) (h : i < xs.length) : rd xs (i : Int) = xs[i] := by simp [rd, h]
set_option maxHeartbeats 2000000 in
theorem idxInt_calls (fn : Nat) (eg : ∀ args w, (callFunc fn args).run Try.prog w = .ok (.enter fn args) w) (cv : Value) (p : Int → Bool) (A : Option Addr) (c : Nat) (xs : List Int) (w : World) (hx : Kd.C (Kd.int .i64) w A xs.length xs)
    (HC : ∀ x ∈ xs, ∀ m, Calls Try.prog fn #[.int .i64 x, cv] (w.drewN m) fun e w' => e = .returned (.bool (p x)) ∧ Drawn0 w w') :
    Calls Try.prog 36 #[.slice A xs.length c, .func (.func fn) #[] #[cv]] w fun e w' => e = .returned (.int .i64 (idxI p xs)) ∧ Drawn0 w w' := by
  have HX := Aside0.mk hx
  have HCC := Aside0.mk HC
  have hmax := Kd.C_max hx
  clear hx HC
  go_enter Try.func36, Try.ntmps36
  go_wp2
  go_loopw [8] (fun v wr => ∃ i : Nat, i ≤ xs.length ∧ v = .int .i64 i ∧ Aside0 (∀ j (hj : j < i) (hl : j < xs.length), p xs[j] = false) ∧ Drawn0 w wr) (fun v _ => xs.length - (intOf v).toNat)
  case atStart => exact ⟨0, by omega, rfl, ⟨fun j hj => by omega⟩, ⟨0, rfl⟩⟩
  case round =>
    obtain ⟨i, hi, rfl, HN, ⟨m, rfl⟩⟩ := hrel
    by_cases hlt : i < xs.length
    · have hb : decide (i < xs.length) = true := by simp; omega
      have hlt2 : (i : Int) < (xs.length : Int) := by omega
      obtain ⟨ad, hA, e0⟩ := Kd.at_int HX.out (i : Int) (by omega) (by omega)
      rw [Int.toNat_natCast, rd_nat xs i hlt] at e0
      have HCI := Aside0.mk (HCC.out xs[i] (List.getElem_mem hlt) m)
      have HS := Aside0.mk (fun h => idxI_some (p := p) hlt h (fun j hj => HN.out j hj (by omega)))
      have HN2 : Aside0 (p xs[i] = false → ∀ j (hj : j < i + 1) (hl : j < xs.length), p xs[j] = false) := ⟨fun hp j hj hl => by
        by_cases e : j = i
        · subst e; exact hp
        · exact HN.out j (by omega) hl⟩
      generalize xs[i] = s at e0 HCI HS HN2
      rw [hA]
      cases hp : p s with
      | true =>
        have HS2 := Aside0.mk (HS.out hp)
        rw [hp] at HCI
        clear hp HS HN2
        go_wp2_with fail
        refine HCI.out.mono ?_
        rintro e w1 ⟨rfl, ⟨m1, rfl⟩⟩
        go_wp2
        go_ret
        exact ⟨by rw [HS2.out]; rfl, _, rfl⟩
      | false =>
        have HN3 := Aside0.mk (HN2.out hp)
        rw [hp] at HCI
        clear hp HS HN2
        go_wp2_with fail
        refine HCI.out.mono ?_
        rintro e w1 ⟨rfl, ⟨m1, rfl⟩⟩
        go_wp2
        go_roundw
        case rel => exact ⟨i + 1, by omega, by go_num, HN3, ⟨_, rfl⟩⟩
        case measure => simp [intOf]; omega
    · have hb : decide (i < xs.length) = false := by simp; omega
      have HF := Aside0.mk (idxI_none (p := p) (xs := xs) (fun j hj => HN.out j (by omega) hj))
      go_wp2
      go_ret
      exact ⟨by rw [HF.out]; rfl, _, rfl⟩
set_option maxHeartbeats 1000000 in
theorem ctnInt_calls (fn : Nat) (eg : ∀ args w, (callFunc fn args).run Try.prog w = .ok (.enter fn args) w) (cv : Value) (p : Int → Bool) (A : Option Addr) (c : Nat) (xs : List Int) (w : World) (hx : Kd.C (Kd.int .i64) w A xs.length xs)
    (HC : ∀ x ∈ xs, ∀ m, Calls Try.prog fn #[.int .i64 x, cv] (w.drewN m) fun e w' => e = .returned (.bool (p x)) ∧ Drawn0 w w') :
    Calls Try.prog 30 #[.slice A xs.length c, .func (.func fn) #[] #[cv]] w fun e w' => e = .returned (.bool (xs.any p)) ∧ Drawn0 w w' := by
  have HI := Aside0.mk (idxInt_calls fn eg cv p A c xs w hx HC)
  have HA := Aside0.mk (idxI_any p xs)
  clear hx HC eg
  generalize idxI p xs = r at HI HA
  go_enter Try.func30, Try.ntmps30
  go_wp2_with (go_at_call 36; refine HI.out.mono ?_; rintro e w1 ⟨rfl, ⟨m1, rfl⟩⟩)
  go_ret
  exact ⟨by rw [← HA.out]; rfl, _, rfl⟩
end Go.Proofs.Ytnjpbfljecmoiaa.Graph
