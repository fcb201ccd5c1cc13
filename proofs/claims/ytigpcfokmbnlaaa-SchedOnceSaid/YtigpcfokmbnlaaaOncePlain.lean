/- Plain law: three picks for each task that is not idle, and all has ended. -/
import Derived.Test.YtigpcfokmbnlaaaBegin
import Derived.Test.YtigpcfokmbnlaaaReady
namespace Go.Proofs.Ytigpcfokmbnlaaa.Sched
open Go.RowKit Go.Proofs.YtigpcfokmbnlaaaW.PrintWords

theorem getD_get (l : List Int) (j : Nat) (hj : j < l.length) : l.getD j 0 = l[j] := by simp [List.getD_eq_getElem?_getD, hj]
def sumS : List Int → Int
  | [] => 0
  | x :: l => x + sumS l
theorem sumS_set : ∀ (l : List Int) (i : Nat) (k : Int), i < l.length → sumS (l.set i k) = sumS l - l.getD i 0 + k
  | [], _, _, h => absurd h (by simp)
  | x :: l, 0, k, _ => by simp [sumS]; omega
  | x :: l, i + 1, k, h => by
    have := sumS_set l i k (by simpa using h)
    simp only [List.set_cons_succ, sumS, this]
    rw [List.getD_cons_succ]
    omega
theorem sumS_le : ∀ (l : List Int), (∀ x ∈ l, x ≤ 3) → sumS l ≤ 3 * l.length
  | [], _ => by simp [sumS]
  | x :: l, h => by
    have := sumS_le l (fun y hy => h y (List.mem_cons_of_mem _ hy))
    have := h x List.mem_cons_self
    simp only [sumS, List.length_cons]
    omega
theorem sumS_all : ∀ (l : List Int), (∀ x ∈ l, x ≤ 3) → sumS l = 3 * l.length → ∀ x ∈ l, x = 3
  | [], _, _ => by simp
  | x :: l, h, he => by
    have h1 := sumS_le l (fun y hy => h y (List.mem_cons_of_mem _ hy))
    have h2 := h x List.mem_cons_self
    simp only [sumS, List.length_cons] at he
    have h3 : sumS l = 3 * l.length := by omega
    intro y hy
    rcases List.mem_cons.1 hy with rfl | hy
    · omega
    · exact sumS_all l (fun y hy => h y (List.mem_cons_of_mem _ hy)) h3 y hy
theorem sumS_three : ∀ (l : List Int), (∀ x ∈ l, x = 3) → sumS l = 3 * l.length
  | [], _ => by simp [sumS]
  | x :: l, h => by
    have := sumS_three l (fun y hy => h y (List.mem_cons_of_mem _ hy))
    have := h x List.mem_cons_self
    simp only [sumS, List.length_cons]
    omega
/-- How many are not idle. -/
def busyN (idle : List Bool) : Nat := idle.countP (fun b => !b)
theorem sumS_idle : ∀ (l : List Bool), sumS (l.map idleS) = 3 * l.length - 3 * busyN l
  | [] => rfl
  | b :: l => by
    have := sumS_idle l
    have hle : busyN l ≤ l.length := List.countP_le_length
    cases b
    · have e : busyN (false :: l) = busyN l + 1 := by simp [busyN]
      simp only [List.map_cons, sumS, this, e, List.length_cons]
      simp [idleS]; omega
    · have e : busyN (true :: l) = busyN l := by simp [busyN]
      simp only [List.map_cons, sumS, this, e, List.length_cons]
      simp [idleS]; omega
theorem busy_take (idle : List Bool) (i : Nat) (h : i < idle.length) : busyN (idle.take (i + 1)) = busyN (idle.take i) + if idle.getD i false then 0 else 1 := by
  unfold busyN
  rw [List.take_succ_eq_append_getElem h, List.countP_append]
  have e : idle.getD i false = idle[i] := by simp [List.getD_eq_getElem?_getD, h]
  rw [e]
  cases idle[i] <;> simp

structure OnceS (L : List (List Int)) (idle : List Bool) (nw : Nat) (ts : List T) (has : List Int) (left : Int) (i : Nat) : Prop where
  pinv : Pinv L ts has left
  workers : has.length = nw
  sum : sumS (ts.map T.state) = 3 * L.length - 3 * busyN idle + i
theorem Pinv.le3 {L : List (List Int)} {ts : List T} {has : List Int} {left : Int} (h : Pinv L ts has left) : ∀ x ∈ ts.map T.state, 0 ≤ x ∧ x ≤ 3 := by
  intro x hx
  obtain ⟨t, ht, rfl⟩ := List.mem_map.1 hx
  obtain ⟨j, hj, rfl⟩ := List.mem_iff_getElem.1 ht
  have e : ts.getD j zT = ts[j] := by simp [List.getD_eq_getElem?_getD, hj]
  have := h.tsOk j (by rw [← h.inv.len]; exact hj)
  rw [e] at this
  rcases this with ⟨_, q | q⟩ | ⟨_, _, _, _, q | q⟩ <;> (rw [q]; decide)
theorem once_new (L : List (List Int)) (hL : goodB L = true) (hr : rowsAt L 1000) (hsz : L.length ≤ 1000) (ts : List T) (h : ts.map bare = upB L L.length) (idle : List Bool) (hid : idle.length = L.length) (n : Nat) :
    OnceS L idle n (idleUp ts idle L.length) (List.replicate n (-1)) (leftUp L.length idle L.length) 0 ∧ (idleUp ts idle L.length).map T.state = idle.map idleS := by
  obtain ⟨a, b⟩ := begin_plan L hL hr hsz ts h idle hid n
  refine ⟨⟨a, by simp, ?_⟩, b⟩
  rw [b, sumS_idle, hid]; omega
theorem OnceS.left {L : List (List Int)} {idle : List Bool} {nw : Nat} {ts : List T} {has : List Int} {left : Int} {i : Nat} (h : OnceS L idle nw ts has left i) (hi : i < 3 * busyN idle) : left ≠ 0 := by
  intro h0
  have h1 := h.pinv.left
  have h2 : nLeft (ts.map T.state) = 0 := by omega
  have h3 : sumS (ts.map T.state) = 3 * (ts.map T.state).length := sumS_three _ fun x hx => by
    obtain ⟨j, hj, rfl⟩ := List.mem_iff_getElem.1 hx
    have := nLeft_zero _ h2 j hj
    rwa [getD_get _ _ hj] at this
  rw [h.sum, List.length_map, h.pinv.inv.len] at h3
  omega
theorem OnceS.step {L : List (List Int)} {idle : List Bool} {nw : Nat} {ts : List T} {has : List Int} {left : Int} {i : Nat} (h : OnceS L idle nw ts has left i) {n : Nat} {k : Int} {j wk : Nat} {us : List T} {has' : List Int} {left' : Int} (hw : Went L ts has left n k j wk us has' left') :
    OnceS L idle nw us has' left' (i + 1) := by
  refine ⟨hw.pinv, ?_, ?_⟩
  · rw [hw.has_, ← h.workers]
    split
    · rw [List.length_set]
    · split
      · rw [List.length_set]
      · rfl
  · have hj := hw.lt
    rw [hw.states, sumS_set _ _ _ (by rw [List.length_map, h.pinv.inv.len]; exact hj), h.sum, map_getD, hw.kind]
    omega
/-- All has ended. -/
theorem OnceS.done {L : List (List Int)} {idle : List Bool} {nw : Nat} {ts : List T} {has : List Int} {left : Int} (h : OnceS L idle nw ts has left (3 * busyN idle)) : left = 0 ∧ (∀ x ∈ ts.map T.state, x = 3) ∧ readyL ts ts.length = [] := by
  have hall : ∀ x ∈ ts.map T.state, x = 3 := sumS_all _ (fun x hx => (h.pinv.le3 x hx).2) (by rw [h.sum, List.length_map, h.pinv.inv.len]; omega)
  refine ⟨?_, hall, ?_⟩
  · rw [h.pinv.left]
    have : nLeft (ts.map T.state) = 0 := List.countP_eq_zero.2 fun x hx => by rw [hall x hx]; decide
    rw [this]; rfl
  · unfold readyL
    rw [List.filter_eq_nil_iff.2]
    · rfl
    · intro j hj
      have hj := List.mem_range.1 hj
      have := hall (ts.getD j zT).state (List.mem_map.2 ⟨_, by rw [List.getD_eq_getElem?_getD, List.getElem?_eq_getElem hj]; exact List.getElem_mem hj, rfl⟩)
      unfold readyB
      rw [this]; simp
end Go.Proofs.Ytigpcfokmbnlaaa.Sched
