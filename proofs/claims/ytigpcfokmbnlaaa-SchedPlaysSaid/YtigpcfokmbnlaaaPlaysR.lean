/- From a reading of data (DataW.trod) to a kind's own words (Kd.K): whole numbers, bools, slices, structs, nested at will. -/
import Derived.Test.YtigpcfokmbnlaaaWMore
import Derived.Deep.Slices
import Derived.ChangeArms
namespace Go.Proofs.Ytigpcfokmbnlaaa.Open
open Go Go.RowKit Go.Proofs.YtigpcfokmbnlaaaW.PrintWords

/-- Whatever is read at this type has the kind's form. -/
def Opens {α : Type} (P : Program) (t : TypeId) (d : Kd α) (ok : α → Prop) : Prop :=
  ∀ (H : Type) (enc : TypeId × Value → H) (w : World) (base : Nat) (spare : Nat → Bool) (held : Bool) (fuel : Nat) (cs : List Value) (x : DataW H × List MemPlace),
    DataW.trod enc P w base spare held fuel t cs = some x → ∃ v, ok v ∧ d.K w v cs
def OpensF {α : Type} (P : Program) (fs : List Field) (off : Nat) (d : Kd α) (ok : α → Prop) : Prop :=
  ∀ (H : Type) (enc : TypeId × Value → H) (w : World) (base : Nat) (spare : Nat → Bool) (held : Bool) (n : Nat) (cs : List Value), cs.length = off + d.sz →
    (∀ f ∈ fs, ∃ x, DataW.trod enc P w base spare held n f.type ((cs.drop f.offset).take (P.cellsOf f.type)) = some x) → ∃ v, ok v ∧ d.K w v (cs.drop off)
section
variable {α β : Type} {P : Program} {t e : TypeId} {d : Kd α} {ok : α → Prop}

theorem opens_int {k : IntKind} (ht : P.underlying t = some (.int k)) : Opens P t (Kd.int k) (fun n => (Lit.int k n).wf = true) := by
  intro H enc w base spare held fuel cs x h
  obtain ⟨n, rfl, _, hw⟩ := DataW.trod_int ht h
  exact ⟨n, hw, rfl⟩
theorem opens_bool (ht : P.underlying t = some .bool) : Opens P t Kd.bool (fun _ => True) := by
  intro H enc w base spare held fuel cs x h
  obtain ⟨n, rfl, _⟩ := DataW.trod_bool ht h
  exact ⟨n, trivial, rfl⟩
theorem opens_slice (q : Nat) (ht : P.underlying t = some (.slice e)) (hc : P.cellsOf e = d.sz) (he : Opens P e d ok) : Opens P t (Kd.slice q d) (fun xs => ∀ x ∈ xs, ok x) := by
  intro H enc w base spare held fuel cs x h
  rcases Go.Deep.open_slice ht h with ⟨rfl, _⟩ | ⟨a, len, cap, m, n, D, Pl, rfl, _, hl, hm, hmm, _, hel⟩
  · exact ⟨[], by simp, none, 0, rfl, Nat.le_refl _, Kd.C_nil d w⟩
  · have hlm : len ≤ m := by rw [hmm]; split <;> omega
    have hex : ∀ i, i < len → ∃ v c, ok v ∧ d.K w v c ∧ c.length = d.sz ∧ ∀ j u, c[j]? = some u → w.cell? (a.add (i * d.sz + j)) = some u := by
      intro i hi
      obtain ⟨cs', h1, h2⟩ := hel i (by omega)
      obtain ⟨v, hv, hK⟩ := he H enc w base spare held n cs' _ h2
      rw [hc] at h1
      obtain ⟨_, hlen, hcell⟩ := World.cells?_some h1
      refine ⟨v, cs', hv, hK, hlen, fun j u hu => ?_⟩
      have hj : j < d.sz := by have := (List.getElem?_eq_some_iff.1 hu).1; omega
      have := hcell j hj
      rw [Go.Deep.add_add] at this
      rw [this, hu]
    have hlist : ∀ m, m ≤ len → ∃ xs : List α, xs.length = m ∧ (∀ x ∈ xs, ok x) ∧ ∀ j p, xs[j]? = some p → ∃ c, c.length = d.sz ∧ d.K w p c ∧ ∀ i u, c[i]? = some u → w.cell? (a.add (j * d.sz + i)) = some u := by
      intro m
      induction m with
      | zero => intro _; exact ⟨[], rfl, by simp, by simp⟩
      | succ m ih =>
        intro hle
        obtain ⟨xs, h1, h2, h3⟩ := ih (by omega)
        obtain ⟨v, c, hv, hK, hlen, hcell⟩ := hex m (by omega)
        refine ⟨xs ++ [v], by simp [h1], ?_, ?_⟩
        · intro x hx
          rcases List.mem_append.1 hx with hx | hx
          · exact h2 x hx
          · rw [List.mem_singleton.1 hx]; exact hv
        · intro j p hp
          rcases Nat.lt_or_ge j m with hj | hj
          · rw [List.getElem?_append_left (by omega)] at hp
            exact h3 j p hp
          · have hjm : j = m := by
              have := (List.getElem?_eq_some_iff.1 hp).1
              simp [h1] at this
              omega
            subst hjm
            rw [List.getElem?_append_right (by omega), h1, Nat.sub_self] at hp
            simp at hp
            subst hp
            exact ⟨c, hlen, hK, hcell⟩
    obtain ⟨xs, h1, h2, h3⟩ := hlist len (Nat.le_refl _)
    simp only [maxLen] at hm
    subst h1
    exact ⟨xs, h2, some a, cap, rfl, hl, rfl, by omega, fun _ => ⟨a, rfl, h3⟩⟩
theorem opens_struct {fs : Array Field} (ht : P.underlying t = some (.struct fs)) (hc : P.cellsOf t = d.sz) (h : OpensF P fs.toList 0 d ok) : Opens P t d ok := by
  intro H enc w base spare held fuel cs x hx
  obtain ⟨xs, n, _, _, hlen, hxs, hf⟩ := DataW.trod_struct ht hx
  obtain ⟨v, hv, hK⟩ := h H enc w base spare held n cs (by rw [hlen, hc]; omega) (fun f hfm => by
    obtain ⟨i, hi⟩ := List.mem_iff_getElem?.1 hfm
    rw [Array.getElem?_toList] at hi
    have h1 := hf i f hi
    have hlt : i < xs.length := by
      rw [hxs]
      rcases Nat.lt_or_ge i fs.size with h2 | h2
      · exact h2
      · rw [Array.getElem?_eq_none h2] at hi; cases hi
    rw [List.getElem?_eq_getElem hlt] at h1
    exact ⟨_, h1⟩)
  exact ⟨v, hv, by simpa using hK⟩
theorem opensF_one {f : Field} {off : Nat} (h : Opens P f.type d ok) (ho : f.offset = off) (hc : P.cellsOf f.type = d.sz) : OpensF P [f] off d ok := by
  intro H enc w base spare held n cs hlen hf
  obtain ⟨x, hx⟩ := hf f (by simp)
  obtain ⟨v, hv, hK⟩ := h H enc w base spare held n _ x hx
  refine ⟨v, hv, ?_⟩
  rw [ho, hc, List.take_of_length_le (by rw [List.length_drop]; omega)] at hK
  exact hK
theorem opensF_cons {a : Kd α} {b : Kd β} {oka : α → Prop} {okb : β → Prop} {f : Field} {fs : List Field} {off : Nat} (h : Opens P f.type a oka) (ho : f.offset = off) (hc : P.cellsOf f.type = a.sz)
    (hr : OpensF P fs (off + a.sz) b okb) : OpensF P (f :: fs) off (Kd.pair a b) (fun v => oka v.1 ∧ okb v.2) := by
  intro H enc w base spare held n cs hlen hf
  have hl : cs.length = off + (a.sz + b.sz) := hlen
  obtain ⟨x, hx⟩ := hf f (by simp)
  obtain ⟨v, hv, hK⟩ := h H enc w base spare held n _ x hx
  obtain ⟨v2, hv2, hK2⟩ := hr H enc w base spare held n cs (by omega) (fun g hg => hf g (by simp [hg]))
  rw [ho, hc] at hK
  refine ⟨(v, v2), ⟨hv, hv2⟩, (cs.drop off).take a.sz, cs.drop (off + a.sz), ?_, hK, hK2⟩
  rw [← List.drop_drop, List.take_append_drop]
theorem opens_iso (f : β → α) (g : α → β) (hfg : ∀ a, f (g a) = a) (h : Opens P t d ok) : Opens P t (Kd.iso d f) (fun b => ok (f b)) := by
  intro H enc w base spare held fuel cs x hx
  obtain ⟨v, hv, hK⟩ := h H enc w base spare held fuel cs x hx
  exact ⟨g v, by show ok (f (g v)); rw [hfg]; exact hv, by show d.K w (f (g v)) cs; rw [hfg]; exact hK⟩
/-- A slice that came in, read. -/
theorem in_slice {q : Nat} {H : Type} {enc : TypeId × Value → H} {w : World} {base : Nat} {spare : Nat → Bool} {held : Bool} {A : Option Addr} {n c : Nat} {x : DataW H} {ps : List MemPlace} {okl : List α → Prop}
    (ho : Opens P t (Kd.slice q d) okl) (h : DataW.Trod enc P w base spare held t (.slice A n c) x ps) : ∃ xs, okl xs ∧ xs.length = n ∧ n ≤ c ∧ d.C w A n xs := by
  obtain ⟨fuel, hf⟩ := h
  obtain ⟨xs, hok, A', c', he, hl, hC⟩ := ho H enc w base spare held fuel _ _ hf
  have he' : [Value.slice A n c] = [Value.slice A' xs.length c'] := he
  injection he' with he' _
  injection he' with h1 h2 h3
  subst h1 h2 h3
  exact ⟨xs, hok, rfl, hl, hC⟩
end
end Go.Proofs.Ytigpcfokmbnlaaa.Open
