/- The contract of (*Plan).first, with (*task).ready and with held. -/
import Derived.Test.YtigpcfokmbnlaaaEnd
namespace Go.Proofs.Ytigpcfokmbnlaaa.Sched
open Go.RowKit Go.Proofs.YtigpcfokmbnlaaaW.PrintWords

/-- The first task of which something is so; -1: there is none. -/
def firstI (so : T → Bool) (ts : List T) : Int := match ts.findIdx? so with
  | some i => i
  | none => -1
theorem firstI_some {so : T → Bool} {ts : List T} {k : Nat} (hk : k < ts.length) (h : so (ts.getD k zT) = true) (hb : ∀ j, j < k → so (ts.getD j zT) = false) : firstI so ts = k := by
  have : ts.findIdx? so = some k := by
    rw [List.findIdx?_eq_some_iff_getElem]
    refine ⟨hk, ?_, fun j hj => ?_⟩
    · rw [List.getD_eq_getElem?_getD, List.getElem?_eq_getElem hk] at h; exact h
    · have := hb j hj
      rw [List.getD_eq_getElem?_getD, List.getElem?_eq_getElem (by omega)] at this
      simpa using this
  unfold firstI
  rw [this]
theorem firstI_none {so : T → Bool} {ts : List T} (hb : ∀ j, j < ts.length → so (ts.getD j zT) = false) : firstI so ts = -1 := by
  have : ts.findIdx? so = none := by
    rw [List.findIdx?_eq_none_iff]
    intro x hx
    obtain ⟨j, hj, rfl⟩ := List.mem_iff_getElem.1 hx
    have := hb j hj
    rwa [List.getD_eq_getElem?_getD, List.getElem?_eq_getElem hj] at this
  unfold firstI
  rw [this]

set_option maxHeartbeats 1000000 in
theorem first_ready (P : Pl) (ts : List T) (has : List Int) (picks left : Int) (w : World) (h : IsPlan w P ts has picks left) :
    Calls Try.prog 25 #[.pointer (some ⟨P.gp, 0, none⟩), .func (.func 26) #[] #[]] w fun e w' => e = .returned (.int .i64 (firstI readyB ts)) ∧ Drawn0 w w' := by
  obtain ⟨c0, -, -, -⟩ := h.cellP
  have HI := Aside0.mk h
  have hlen := h.lent
  clear h
  go_enter Try.func25, Try.ntmps25
  go_wp2
  go_loopw [11] (fun i wr => ∃ k : Nat, k ≤ ts.length ∧ i = .int .i64 k ∧ Aside0 (∀ j, j < k → readyB (ts.getD j zT) = false) ∧ Drawn0 w wr) (fun i _ => ts.length - (intOf i).toNat)
  case atStart => exact ⟨0, by omega, rfl, ⟨fun j hj => by omega⟩, Drawn0.refl _⟩
  case round =>
    obtain ⟨k, hk, rfl, HK, ⟨m, rfl⟩⟩ := hrel
    by_cases hlt : k < ts.length
    · have hb : decide (k < ts.length) = true := by simp; omega
      have hlt2 : (k : Int) < (ts.length : Int) := by omega
      have t0 := HI.out.cellT k 0 hlt (by omega)
      have t3 := HI.out.cellT k 3 hlt (by omega)
      simp only [T.cells, List.getElem?_cons_zero, List.getElem?_cons_succ, Nat.add_zero] at t0 t3
      have HS := fun h : readyB (ts.getD k zT) = true => firstI_some hlt h HK.out
      have HN := fun h : readyB (ts.getD k zT) = false => (fun j (hj : j < k + 1) => if hjk : j < k then HK.out j hjk else by rw [show j = k by omega]; exact h : ∀ j, j < k + 1 → readyB (ts.getD j zT) = false)
      generalize ts.getD k zT = t at t0 t3 HS HN
      have HC := Aside0.mk (fun n => ready_calls P.gt (k * 4) t (w.drewN n) t0 t3)
      have HSa := Aside0.mk HS
      have HNa := Aside0.mk HN
      clear HS HN
      cases hr : readyB t
      · have HN2 := Aside0.mk (HNa.out hr)
        rw [hr] at HC
        clear hr HSa HNa
        go_wp2_with (go_at_call 26; refine (HC.out _).mono ?_; rintro e w' ⟨rfl, ⟨nd, rfl⟩⟩)
        go_roundw
        case rel => exact ⟨k + 1, by omega, by go_num, HN2, by repeat (first | exact Drawn0.refl _ | apply Drawn0.step)⟩
        case measure => simp [intOf]; omega
      · have HS2 := Aside0.mk (HSa.out hr)
        rw [hr] at HC
        clear hr HSa HNa
        go_wp2_with (go_at_call 26; refine (HC.out _).mono ?_; rintro e w' ⟨rfl, ⟨nd, rfl⟩⟩)
        go_ret
        exact ⟨by rw [HS2.out]; rfl, by repeat (first | exact Drawn0.refl _ | apply Drawn0.step)⟩
    · have hb : decide (k < ts.length) = false := by simp; omega
      have HF := Aside0.mk (firstI_none (so := readyB) (ts := ts) (fun j hj => HK.out j (by omega)))
      go_wp2
      go_ret
      exact ⟨by rw [HF.out]; rfl, by repeat (first | exact Drawn0.refl _ | apply Drawn0.step)⟩
set_option maxHeartbeats 1000000 in
theorem first_held (P : Pl) (ts : List T) (has : List Int) (picks left : Int) (w : World) (h : IsPlan w P ts has picks left) :
    Calls Try.prog 25 #[.pointer (some ⟨P.gp, 0, none⟩), .func (.func 27) #[] #[]] w fun e w' => e = .returned (.int .i64 (firstI heldB ts)) ∧ Drawn0 w w' := by
  obtain ⟨c0, -, -, -⟩ := h.cellP
  have HI := Aside0.mk h
  have hlen := h.lent
  clear h
  go_enter Try.func25, Try.ntmps25
  go_wp2
  go_loopw [11] (fun i wr => ∃ k : Nat, k ≤ ts.length ∧ i = .int .i64 k ∧ Aside0 (∀ j, j < k → heldB (ts.getD j zT) = false) ∧ Drawn0 w wr) (fun i _ => ts.length - (intOf i).toNat)
  case atStart => exact ⟨0, by omega, rfl, ⟨fun j hj => by omega⟩, Drawn0.refl _⟩
  case round =>
    obtain ⟨k, hk, rfl, HK, ⟨m, rfl⟩⟩ := hrel
    by_cases hlt : k < ts.length
    · have hb : decide (k < ts.length) = true := by simp; omega
      have hlt2 : (k : Int) < (ts.length : Int) := by omega
      have t2 := HI.out.cellT k 2 hlt (by omega)
      simp only [T.cells, List.getElem?_cons_zero, List.getElem?_cons_succ] at t2
      have HS := fun h : heldB (ts.getD k zT) = true => firstI_some hlt h HK.out
      have HN := fun h : heldB (ts.getD k zT) = false => (fun j (hj : j < k + 1) => if hjk : j < k then HK.out j hjk else by rw [show j = k by omega]; exact h : ∀ j, j < k + 1 → heldB (ts.getD j zT) = false)
      generalize ts.getD k zT = t at t2 HS HN
      have HC := Aside0.mk (fun n => held_calls P.gt (k * 4) t (w.drewN n) t2)
      have HSa := Aside0.mk HS
      have HNa := Aside0.mk HN
      clear HS HN
      cases hr : heldB t
      · have HN2 := Aside0.mk (HNa.out hr)
        rw [hr] at HC
        clear hr HSa HNa
        go_wp2_with (go_at_call 27; refine (HC.out _).mono ?_; rintro e w' ⟨rfl, ⟨nd, rfl⟩⟩)
        go_roundw
        case rel => exact ⟨k + 1, by omega, by go_num, HN2, by repeat (first | exact Drawn0.refl _ | apply Drawn0.step)⟩
        case measure => simp [intOf]; omega
      · have HS2 := Aside0.mk (HSa.out hr)
        rw [hr] at HC
        clear hr HSa HNa
        go_wp2_with (go_at_call 27; refine (HC.out _).mono ?_; rintro e w' ⟨rfl, ⟨nd, rfl⟩⟩)
        go_ret
        exact ⟨by rw [HS2.out]; rfl, by repeat (first | exact Drawn0.refl _ | apply Drawn0.step)⟩
    · have hb : decide (k < ts.length) = false := by simp; omega
      have HF := Aside0.mk (firstI_none (so := heldB) (ts := ts) (fun j hj => HK.out j (by omega)))
      go_wp2
      go_ret
      exact ⟨by rw [HF.out]; rfl, by repeat (first | exact Drawn0.refl _ | apply Drawn0.step)⟩
end Go.Proofs.Ytigpcfokmbnlaaa.Sched
