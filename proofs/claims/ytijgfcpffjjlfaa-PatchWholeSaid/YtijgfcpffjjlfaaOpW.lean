/- Written by a program of this session. What an argument's cells read as, by its type, with the sizes of the slices inside. -/
import Derived.Test.YtijgfcpffjjlfaaOpen
namespace Go.Proofs.Ytijgfcpffjjlfaa.Open
open Go.RowKit Go.Proofs.YtijgfcpffjjlfaaW.PrintWords Go.Proofs.YtijgfcpffjjlfaaW.PrintLast
set_option linter.unusedVariables false
set_option linter.unusedSimpArgs false
/-- Cells of a type are a value of a kind, if no slice in it takes more than the reach. -/
def OpensW (P : Program) {α : Type} (d : Kd α) (ok : α → Prop) (t : TypeId) : Prop :=
  ∀ (H : Type) (enc : TypeId × Value → H) (w : World) (fuel : Nat) (cs : List Value) (x : DataW H × List MemPlace), DataW.trod enc P w 0 (fun _ => true) true fuel t cs = some x → (∀ z ∈ x.1.weights P t, z ≤ 140737488351232) → ∃ v, d.K w v cs ∧ ok v
section
variable {P : Program} {α β : Type}
theorem opensW_of {d : Kd α} {ok : α → Prop} {t : TypeId} (h : Opens P d ok t) : OpensW P d ok t := fun H enc w fuel cs x hx _ => h H enc w fuel cs x hx
theorem weights_all {H : Type} {e : TypeId} : ∀ {l : List (DataW H)} {d : DataW H}, d ∈ l → ∀ z ∈ d.weights P e, z ∈ DataW.weightsAll P e l
  | [], _, h => by cases h
  | a :: r, d, h => fun z hz => by
    rw [DataW.weightsAll]
    rcases List.mem_cons.1 h with rfl | h
    · exact List.mem_append_left _ hz
    · exact List.mem_append_right _ (weights_all h z hz)
theorem opensW_row {d : Kd α} {ok : α → Prop} {t e : TypeId} {B : Nat} (ht : P.underlying t = some (.slice e)) (hc : P.cellsOf e = d.sz) (hB : P.bytesOf e = B) (he : OpensW P d ok e)
    {H : Type} {enc : TypeId × Value → H} {w : World} {fuel : Nat} {cs : List Value} {x : DataW H × List MemPlace} (h : DataW.trod enc P w 0 (fun _ => true) true fuel t cs = some x) (hw : ∀ z ∈ x.1.weights P t, z ≤ 140737488351232) :
    ∃ l A c, cs = [.slice A l.length c] ∧ l.length ≤ c ∧ c ≤ maxLen ∧ d.C w A l.length l ∧ (∀ x ∈ l, ok x) ∧ l.length * B ≤ 140737488351232 := by
  rcases Deep.open_slice ht h with ⟨rfl, _⟩ | ⟨a, len, cap, m, n, D, Pl, rfl, _, hl, hm, hmm, hxx, hx⟩
  · exact ⟨[], none, 0, rfl, Nat.le_refl _, by simp [maxLen], ⟨rfl, by simp, fun h => absurd h (by simp)⟩, (fun x hx => by cases hx), by simp⟩
  · subst hxx
    simp only [DataW.weights, ht, hB] at hw
    have hw0 := hw _ (List.mem_cons_self ..)
    have hwe : ∀ i, i < len → ∀ z ∈ (D i).weights P e, z ≤ 140737488351232 := fun i hi z hz => hw z (List.mem_cons_of_mem _ (List.mem_append_left _ (weights_all (List.mem_map.2 ⟨i, List.mem_range.2 hi, rfl⟩) z hz)))
    have each : ∀ i, i < len → ∃ v, ok v ∧ ∃ c, c.length = d.sz ∧ d.K w v c ∧ ∀ j u, c[j]? = some u → w.cell? (a.add (i * d.sz + j)) = some u := by
      intro i hi
      obtain ⟨cs', h1, h2⟩ := hx i (by rw [hmm]; simp; omega)
      obtain ⟨v, hv, hok⟩ := he H enc w n cs' _ h2 (hwe i hi)
      rw [hc] at h1
      obtain ⟨_, hlen, hcell⟩ := World.cells?_some h1
      refine ⟨v, hok, cs', hlen, hv, fun j u hj => ?_⟩
      have hjl : j < cs'.length := by
        by_cases h0 : j < cs'.length
        · exact h0
        · rw [List.getElem?_eq_none (by omega)] at hj
          cases hj
      have := hcell j (by omega)
      rw [hj] at this
      rw [← this]
      congr 1
      unfold Addr.add
      by_cases h3 : i * d.sz = 0 <;> by_cases h4 : j = 0 <;> simp [h3, h4, Nat.add_assoc]
    obtain ⟨l, hll, hp⟩ := list_of len each
    subst hll
    refine ⟨l, some a, cap, rfl, hl, hm, ⟨rfl, by simp only [maxLen] at hm; omega, fun _ => ⟨a, rfl, fun j p hj => (hp j p hj).2⟩⟩, (fun x hx => ?_), ?_⟩
    · obtain ⟨i, hi⟩ := List.getElem?_of_mem hx
      exact (hp i x hi).1
    · simp only [List.length_map, List.length_range] at hw0
      exact Nat.le_trans (Nat.mul_le_mul_right _ (by omega)) hw0
theorem opensW_slice {d : Kd α} {ok : α → Prop} {t e : TypeId} {B : Nat} (ht : P.underlying t = some (.slice e)) (hc : P.cellsOf e = d.sz) (hB : P.bytesOf e = B) (he : OpensW P d ok e) : OpensW P (Kd.slice e d) (fun l => (∀ x ∈ l, ok x) ∧ l.length * B ≤ 140737488351232) t := by
  intro H enc w fuel cs x h hw
  obtain ⟨l, A, c, rfl, h1, _, h2, h3⟩ := opensW_row ht hc hB he h hw
  exact ⟨l, ⟨A, c, rfl, h1, h2⟩, h3⟩
def OpensFW (P : Program) {α : Type} (d : Kd α) (ok : α → Prop) (fs : List Field) (off : Nat) : Prop :=
  ∀ (H : Type) (enc : TypeId × Value → H) (w : World) (fuel : Nat) (cs : List Value), cs.length = d.sz →
    (∀ (j : Nat) (f : Field), fs[j]? = some f → ∃ x, DataW.trod enc P w 0 (fun _ => true) true fuel f.type ((cs.drop (f.offset - off)).take (P.cellsOf f.type)) = some x ∧ ∀ z ∈ x.1.weights P f.type, z ≤ 140737488351232) → ∃ v, d.K w v cs ∧ ok v
theorem fieldsW_one {d : Kd α} {ok : α → Prop} {f : Field} {off : Nat} (h0 : f.offset = off) (hc : P.cellsOf f.type = d.sz) (he : OpensW P d ok f.type) : OpensFW P d ok [f] off := by
  intro H enc w fuel cs hl h
  obtain ⟨x, hx, hw⟩ := h 0 f rfl
  rw [h0, Nat.sub_self, List.drop_zero, List.take_of_length_le (by omega)] at hx
  exact he H enc w fuel cs x hx hw
theorem fieldsW_cons {d : Kd α} {d' : Kd β} {ok : α → Prop} {ok' : β → Prop} {f : Field} {fs : List Field} {off : Nat} (h0 : f.offset = off) (hc : P.cellsOf f.type = d.sz) (he : OpensW P d ok f.type)
    (hr : OpensFW P d' ok' fs (off + d.sz)) (hge : ∀ g ∈ fs, off + d.sz ≤ g.offset) : OpensFW P (Kd.pair d d') (fun v => ok v.1 ∧ ok' v.2) (f :: fs) off := by
  intro H enc w fuel cs hl h
  have hsz : (Kd.pair d d').sz = d.sz + d'.sz := rfl
  rw [hsz] at hl
  obtain ⟨x, hx, hw⟩ := h 0 f rfl
  rw [h0, Nat.sub_self, List.drop_zero, hc] at hx
  obtain ⟨v, hv, hok⟩ := he H enc w fuel _ x hx hw
  obtain ⟨u, hu, hok'⟩ := hr H enc w fuel (cs.drop d.sz) (by rw [List.length_drop]; omega) (fun j g hg => by
    obtain ⟨y, hy, hwy⟩ := h (j + 1) g hg
    refine ⟨y, ?_, hwy⟩
    rw [List.drop_drop]
    have := hge g (List.mem_of_getElem? hg)
    rw [show d.sz + (g.offset - (off + d.sz)) = g.offset - off by omega]
    exact hy)
  exact ⟨(v, u), ⟨_, _, (List.take_append_drop d.sz cs).symm, hv, hu⟩, hok, hok'⟩
theorem opensW_struct {d : Kd α} {ok : α → Prop} {t : TypeId} {fs : Array Field} (ht : P.underlying t = some (.struct fs)) (hc : P.cellsOf t = d.sz) (hf : OpensFW P d ok fs.toList 0) : OpensW P d ok t := by
  intro H enc w fuel cs x h hw
  obtain ⟨xs, n, _, hxx, hl, hxl, hx⟩ := DataW.trod_struct ht h
  subst hxx
  simp only [DataW.weights, ht] at hw
  refine hf H enc w n cs (by omega) (fun j f hj => ?_)
  have hj' : fs[j]? = some f := by rw [← hj]; simp
  have hlt : j < xs.length := by
    rw [hxl]
    by_cases h0 : j < fs.size
    · exact h0
    · rw [Array.getElem?_eq_none (by omega)] at hj'
      cases hj'
  have := hx j f hj'
  rw [List.getElem?_eq_getElem hlt] at this
  refine ⟨xs[j], by simpa using this, fun z hz => hw z (DataW.weights_mem_each (j := j) (t := f.type) (d := xs[j].1) ?_ ?_ z hz)⟩
  · rw [List.getElem?_map, hj]; rfl
  · rw [List.getElem?_map, List.getElem?_eq_getElem hlt]; rfl
end
end Go.Proofs.Ytijgfcpffjjlfaa.Open
