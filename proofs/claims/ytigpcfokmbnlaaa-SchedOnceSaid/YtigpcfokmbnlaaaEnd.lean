/- The contracts of (*task).ready, held, (*Plan).end. -/
import Derived.Test.YtigpcfokmbnlaaaPlan
namespace Go.Proofs.Ytigpcfokmbnlaaa.Sched
open Go.RowKit Go.Proofs.YtigpcfokmbnlaaaW.PrintWords

def readyB (t : T) : Bool := t.state == 0 && t.waits == 0
def heldB (t : T) : Bool := t.worker != -1

set_option maxHeartbeats 400000 in
theorem ready_calls (g o : Nat) (t : T) (w : World) (h0 : w.cell? ⟨g, o, none⟩ = some (.int .i64 t.waits)) (h3 : w.cell? ⟨g, o + 3, none⟩ = some (.int .i64 t.state)) :
    Calls Try.prog 26 #[.pointer (some ⟨g, o, none⟩)] w fun e w' => e = .returned (.bool (readyB t)) ∧ Drawn0 w w' := by
  unfold readyB
  cases e1 : (t.state == 0)
  · go_enter Try.func26, Try.ntmps26
    go_wp2
    try (go_quiet (fail); go_wp2)
    go_ret
    exact ⟨rfl, by repeat (first | exact Drawn0.refl _ | apply Drawn0.step)⟩
  · go_enter Try.func26, Try.ntmps26
    go_wp2
    try (go_quiet (fail); go_wp2)
    go_ret
    exact ⟨rfl, by repeat (first | exact Drawn0.refl _ | apply Drawn0.step)⟩
set_option maxHeartbeats 400000 in
theorem held_calls (g o : Nat) (t : T) (w : World) (h2 : w.cell? ⟨g, o + 2, none⟩ = some (.int .i64 t.worker)) :
    Calls Try.prog 27 #[.pointer (some ⟨g, o, none⟩)] w fun e w' => e = .returned (.bool (heldB t)) ∧ Drawn0 w w' := by
  unfold heldB
  go_enter Try.func27, Try.ntmps27
  go_wp2
  try (go_quiet (fail); go_wp2)
  go_ret
  exact ⟨rfl, by repeat (first | exact Drawn0.refl _ | apply Drawn0.step)⟩

def decW (ts : List T) (k : Nat) : List T := ts.set k { ts.getD k zT with waits := wrap64 ((ts.getD k zT).waits - 1) }
def setState (ts : List T) (i : Nat) (s : Int) : List T := ts.set i { ts.getD i zT with state := s }
def endTs (ts : List T) (i : Nat) : List T := ((ts.getD i zT).behind).foldl (fun ts k => decW ts k.toNat) (setState ts i 3)

theorem decW_len (ts : List T) (k : Nat) : (decW ts k).length = ts.length := by simp [decW]
theorem setState_len (ts : List T) (i : Nat) (s : Int) : (setState ts i s).length = ts.length := by simp [setState]
theorem foldl_len (l : List Int) (ts : List T) : (l.foldl (fun ts k => decW ts k.toNat) ts).length = ts.length := by
  induction l generalizing ts with
  | nil => rfl
  | cons k l ih => rw [List.foldl_cons, ih, decW_len]
theorem fold_take (l : List Int) (ts : List T) (k : Nat) (h : k < l.length) : (l.take (k + 1)).foldl (fun ts k => decW ts k.toNat) ts = decW ((l.take k).foldl (fun ts k => decW ts k.toNat) ts) (rd l k).toNat := by
  rw [List.take_succ_eq_append_getElem h, List.foldl_append]
  simp [rd, h]

set_option maxHeartbeats 1000000 in
theorem end_calls (P : Pl) (ts : List T) (has : List Int) (picks left : Int) (i : Nat) (w : World) (h : IsPlan w P ts has picks left) (hi : i < ts.length) (hb : ∀ k ∈ (ts.getD i zT).behind, 0 ≤ k ∧ k < ts.length) :
    Calls Try.prog 23 #[.pointer (some ⟨P.gp, 0, none⟩), .int .i64 i] w fun e w' => e = .returned (.tuple #[]) ∧ IsPlan w' P (endTs ts i) has picks (wrap64 (left - 1)) ∧ Stp w w' P := by
  obtain ⟨c0, c1, c2, c3⟩ := h.cellP
  have f0 := h.frP
  have ft := h.frT
  have t1 := h.cellT i 1 hi (by omega)
  have t3 := h.cellT i 3 hi (by omega)
  simp only [T.cells, List.getElem?_cons_zero, List.getElem?_cons_succ] at t1 t3
  have n1 := h.pt
  have n2 := h.pt.symm
  have hmem : ts.getD i zT ∈ ts := by rw [List.getD_eq_getElem?_getD, List.getElem?_eq_getElem hi]; exact List.getElem_mem hi
  have hR := h.rows _ hmem
  have hE : endTs ts i = ((ts.getD i zT).behind).foldl (fun ts k => decW ts k.toNat) (setState ts i 3) := rfl
  have hS := h.setT i 3 hi (by omega) (.int .i64 3) { ts.getD i zT with state := 3 } rfl ⟨rfl, rfl, rfl⟩
  have hS2 : IsPlan ((w.setCell ⟨P.gt, i * 4 + 3, none⟩ (.int .i64 3)).setCell ⟨P.gp, 3, none⟩ (.int .i64 (wrap64 (left - 1)))) P (setState ts i 3) has picks (wrap64 (left - 1)) := hS.setLeft _
  have hSt : Stp w ((w.setCell ⟨P.gt, i * 4 + 3, none⟩ (.int .i64 3)).setCell ⟨P.gp, 3, none⟩ (.int .i64 (wrap64 (left - 1)))) P := ((Stp.refl w P).setCell (.inr (.inl rfl)) _).setCell (.inl rfl) _
  clear hS hmem
  generalize ts.getD i zT = t at t1 t3 hb hR hE
  have HI := Aside0.mk h
  have HE := Aside0.mk hE
  have HS2 := Aside0.mk hS2
  have HSt := Aside0.mk hSt
  have HB := Aside0.mk hb
  have HR := Aside0.mk hR
  clear h hb hE hS2 hSt hR
  go_enter Try.func23, Try.ntmps23
  go_wp2
  generalize hW : (w.setCell ⟨P.gt, i * 4 + 3, none⟩ (.int .i64 3)).setCell ⟨P.gp, 3, none⟩ (.int .i64 (wrap64 (left - 1))) = W at HS2 HSt ⊢
  clear hW c0 c1 c2 c3 f0 ft t1 t3
  go_loopw [29] (fun j wr => ∃ k : Nat, k ≤ t.behind.length ∧ j = .int .i64 k ∧ Aside0 (IsPlan wr P ((t.behind.take k).foldl (fun ts k => decW ts k.toNat) (setState ts i 3)) has picks (wrap64 (left - 1))) ∧ Aside0 (Stp w wr P)) (fun i _ => t.behind.length - (intOf i).toNat)
  case atStart => exact ⟨0, by omega, rfl, HS2, HSt⟩
  case round =>
    obtain ⟨k, hk, rfl, HP, HT⟩ := hrel
    have hmax := Kd.C_max HR.out.2.1
    by_cases hlt : k < t.behind.length
    · have hb : decide (k < t.behind.length) = true := by simp; omega
      have hrows := rows_set (P := P) (ts := [t]) (w := w) (fun t' ht' => by rw [List.mem_singleton.1 ht']; exact HR.out) HT.out t (by simp)
      obtain ⟨ad, hA, hcell⟩ := Kd.at_int hrows.2.1 (k : Int) (by omega) (by omega)
      rw [Int.toNat_natCast] at hcell
      have hr : 0 ≤ rd t.behind k ∧ rd t.behind k < ts.length := by
        have := HB.out (rd t.behind k) (by unfold rd; rw [Int.toNat_natCast, List.getD_eq_getElem?_getD, List.getElem?_eq_getElem hlt]; exact List.getElem_mem hlt)
        exact this
      have HF := Aside0.mk (fold_take t.behind (setState ts i 3) k hlt)
      have hlen : ((t.behind.take k).foldl (fun ts k => decW ts k.toNat) (setState ts i 3)).length = ts.length := by rw [foldl_len, setState_len]
      generalize rd t.behind k = q at hcell hr HF
      obtain ⟨q, rfl⟩ := Int.eq_ofNat_of_zero_le hr.1
      rw [Int.toNat_natCast] at HF
      have hq : q < ts.length := by omega
      have hq2 : (q : Int) < (ts.length : Int) := by omega
      generalize (t.behind.take k).foldl (fun ts k => decW ts k.toNat) (setState ts i 3) = us at HP HF hlen
      obtain ⟨c0, c1, c2, c3⟩ := HP.out.cellP
      have ft := HP.out.frT
      have t0 := HP.out.cellT q 0 (by omega) (by omega)
      simp only [T.cells, List.getElem?_cons_zero, Nat.add_zero] at t0
      rw [hlen] at c0
      have HA := Aside0.mk hA
      have HL := Aside0.mk hlen
      clear hr hlen hA
      have hd := HP.out.setT q 0 (by rw [HL.out]; omega) (by omega) (.int .i64 (wrap64 ((us.getD q zT).waits - 1))) { us.getD q zT with waits := wrap64 ((us.getD q zT).waits - 1) } rfl ⟨rfl, rfl, rfl⟩
      have hd2 := Aside0.mk (show IsPlan _ P (decW us q) has picks (wrap64 (left - 1)) from hd)
      rw [Nat.add_zero] at hd2
      clear hd
      have HWt := Aside0.mk (show (us.getD q zT).waits = (us.getD q zT).waits from rfl)
      generalize (us.getD q zT).waits = wt at t0 hd2
      clear HWt
      rw [HA.out]
      go_wp2
      go_roundw
      case rel => exact ⟨k + 1, by omega, by go_num, ⟨by rw [HF.out]; exact hd2.out⟩, ⟨HT.out.setCell (.inr (.inl rfl)) _⟩⟩
      case measure => simp [intOf]; omega
    · have hb : decide (k < t.behind.length) = false := by simp; omega
      have hkl := Aside0.mk (show (t.behind.take k).foldl (fun ts k => decW ts k.toNat) (setState ts i 3) = endTs ts i by rw [HE.out, show k = t.behind.length by omega, List.take_length])
      go_wp2
      go_end0
      exact ⟨rfl, by rw [← hkl.out]; exact HP.out, HT.out⟩

theorem same_decW (ts : List T) (k : Nat) : SameRows ts (decW ts k) := SameRows.set ts k _ ⟨rfl, rfl, rfl⟩
theorem same_setState (ts : List T) (i : Nat) (s : Int) : SameRows ts (setState ts i s) := SameRows.set ts i _ ⟨rfl, rfl, rfl⟩
theorem same_fold (l : List Int) (ts : List T) : SameRows ts (l.foldl (fun ts k => decW ts k.toNat) ts) := by
  induction l generalizing ts with
  | nil => exact SameRows.refl _
  | cons k l ih => exact (same_decW ts k.toNat).trans (ih _)
theorem same_end (ts : List T) (i : Nat) : SameRows ts (endTs ts i) := (same_setState ts i 3).trans (same_fold _ _)
end Go.Proofs.Ytigpcfokmbnlaaa.Sched
