/- What an argument's cells read as, by its type: whole numbers, texts, slices and structs of such. -/
import Derived.Test.YtijgfcpffjjlfaaWWords
import Derived.Test.YtijgfcpffjjlfaaWLast
import Derived.Test.YtijgfcpffjjlfaaWArr
import Derived.Deep.SlicePairs
import Derived.OpenShut
import Derived.ChangeArms
import Derived.SizedLaws
namespace Go.Proofs.Ytijgfcpffjjlfaa.Open
open Go.RowKit Go.Proofs.YtijgfcpffjjlfaaW.PrintWords Go.Proofs.YtijgfcpffjjlfaaW.PrintLast
set_option linter.unusedVariables false
set_option linter.unusedSimpArgs false

/-- Cells of a type, wherever they are read from an argument, are a value of a kind. -/
def Opens (P : Program) {α : Type} (d : Kd α) (ok : α → Prop) (t : TypeId) : Prop :=
  ∀ (H : Type) (enc : TypeId × Value → H) (w : World) (fuel : Nat) (cs : List Value) (x : DataW H × List MemPlace), DataW.trod enc P w 0 (fun _ => true) true fuel t cs = some x → ∃ v, d.K w v cs ∧ ok v

section
variable {P : Program} {α β : Type}
theorem opens_int {k : IntKind} {t : TypeId} (ht : P.underlying t = some (.int k)) : Opens P (Kd.int k) (fun n => (Lit.int k n).wf = true) t := by
  intro H enc w fuel cs x h
  obtain ⟨n, rfl, _, hw⟩ := DataW.trod_int ht h
  exact ⟨n, rfl, hw⟩
theorem opens_bool {t : TypeId} (ht : P.underlying t = some .bool) : Opens P Kd.bool (fun _ => True) t := by
  intro H enc w fuel cs x h
  obtain ⟨b, rfl, _⟩ := DataW.trod_bool ht h
  exact ⟨b, rfl, trivial⟩
theorem opens_string {t : TypeId} (ht : P.underlying t = some .string) : Opens P Kd.string (fun s => s.size ≤ maxLen) t := by
  intro H enc w fuel cs x h
  obtain ⟨s, rfl, _, hs⟩ := DataW.trod_string ht h
  exact ⟨s, rfl, hs⟩

theorem list_of {α : Type} {p : Nat → α → Prop} : ∀ (n : Nat), (∀ i, i < n → ∃ x, p i x) → ∃ l : List α, l.length = n ∧ ∀ i x, l[i]? = some x → p i x := by
  intro n
  induction n with
  | zero => intro _; exact ⟨[], rfl, fun i x h => by simp at h⟩
  | succ n ih =>
    intro h
    obtain ⟨l, hl, hp⟩ := ih (fun i hi => h i (by omega))
    obtain ⟨x, hx⟩ := h n (by omega)
    refine ⟨l ++ [x], by simp [hl], fun i y hy => ?_⟩
    by_cases hi : i < l.length
    · rw [List.getElem?_append_left hi] at hy
      exact hp i y hy
    · rw [List.getElem?_append_right (by omega)] at hy
      have : i - l.length = 0 := by
        by_cases h0 : i - l.length = 0
        · exact h0
        · rw [List.getElem?_eq_none (by simp; omega)] at hy
          cases hy
      rw [this] at hy
      simp at hy
      subst hy
      have : i = n := by omega
      subst this
      exact hx

theorem opens_row {d : Kd α} {ok : α → Prop} {t e : TypeId} (ht : P.underlying t = some (.slice e)) (hc : P.cellsOf e = d.sz) (he : Opens P d ok e)
    {H : Type} {enc : TypeId × Value → H} {w : World} {fuel : Nat} {cs : List Value} {x : DataW H × List MemPlace} (h : DataW.trod enc P w 0 (fun _ => true) true fuel t cs = some x) :
    ∃ l A c, cs = [.slice A l.length c] ∧ l.length ≤ c ∧ c ≤ maxLen ∧ d.C w A l.length l ∧ ∀ x ∈ l, ok x := by
  rcases Deep.open_slice ht h with ⟨rfl, _⟩ | ⟨a, len, cap, m, n, D, Pl, rfl, _, hl, hm, hmm, _, hx⟩
  · exact ⟨[], none, 0, rfl, Nat.le_refl _, by simp [maxLen], ⟨rfl, by simp, fun h => absurd h (by simp)⟩, fun x hx => by cases hx⟩
  · have each : ∀ i, i < len → ∃ v, ok v ∧ ∃ c, c.length = d.sz ∧ d.K w v c ∧ ∀ j u, c[j]? = some u → w.cell? (a.add (i * d.sz + j)) = some u := by
      intro i hi
      obtain ⟨cs', h1, h2⟩ := hx i (by rw [hmm]; simp; omega)
      obtain ⟨v, hv, hok⟩ := he H enc w n cs' _ h2
      rw [hc] at h1
      obtain ⟨_, hlen, hcell⟩ := World.cells?_some h1
      refine ⟨v, hok, cs', hlen, hv, fun j u hj => ?_⟩
      have hjl : j < cs'.length := by
        by_cases h0 : j < cs'.length
        · exact h0
        · rw [List.getElem?_eq_none (by omega)] at hj
          cases hj
      have := hcell j (by omega)
      rw [hj] at this
      rw [← this]
      congr 1
      unfold Addr.add
      by_cases h3 : i * d.sz = 0 <;> by_cases h4 : j = 0 <;> simp [h3, h4, Nat.add_assoc]
    obtain ⟨l, hll, hp⟩ := list_of len each
    subst hll
    refine ⟨l, some a, cap, rfl, hl, hm, ⟨rfl, by simp only [maxLen] at hm; omega, fun _ => ⟨a, rfl, fun j p hj => (hp j p hj).2⟩⟩, fun x hx => ?_⟩
    obtain ⟨i, hi⟩ := List.getElem?_of_mem hx
    exact (hp i x hi).1

theorem opens_slice {d : Kd α} {ok : α → Prop} {t e : TypeId} (ht : P.underlying t = some (.slice e)) (hc : P.cellsOf e = d.sz) (he : Opens P d ok e) : Opens P (Kd.slice e d) (fun l => ∀ x ∈ l, ok x) t := by
  intro H enc w fuel cs x h
  obtain ⟨l, A, c, rfl, h1, _, h2, h3⟩ := opens_row ht hc he h
  exact ⟨l, ⟨A, c, rfl, h1, h2⟩, h3⟩

/-- The same for a struct's fields, from one on. -/
def OpensF (P : Program) {α : Type} (d : Kd α) (ok : α → Prop) (fs : List Field) (off : Nat) : Prop :=
  ∀ (H : Type) (enc : TypeId × Value → H) (w : World) (fuel : Nat) (cs : List Value), cs.length = d.sz →
    (∀ (j : Nat) (f : Field), fs[j]? = some f → ∃ x, DataW.trod enc P w 0 (fun _ => true) true fuel f.type ((cs.drop (f.offset - off)).take (P.cellsOf f.type)) = some x) → ∃ v, d.K w v cs ∧ ok v

theorem fields_one {d : Kd α} {ok : α → Prop} {f : Field} {off : Nat} (h0 : f.offset = off) (hc : P.cellsOf f.type = d.sz) (he : Opens P d ok f.type) : OpensF P d ok [f] off := by
  intro H enc w fuel cs hl h
  obtain ⟨x, hx⟩ := h 0 f rfl
  rw [h0, Nat.sub_self, List.drop_zero, List.take_of_length_le (by omega)] at hx
  exact he H enc w fuel cs x hx

theorem fields_cons {d : Kd α} {d' : Kd β} {ok : α → Prop} {ok' : β → Prop} {f : Field} {fs : List Field} {off : Nat} (h0 : f.offset = off) (hc : P.cellsOf f.type = d.sz) (he : Opens P d ok f.type)
    (hr : OpensF P d' ok' fs (off + d.sz)) (hge : ∀ g ∈ fs, off + d.sz ≤ g.offset) : OpensF P (Kd.pair d d') (fun v => ok v.1 ∧ ok' v.2) (f :: fs) off := by
  intro H enc w fuel cs hl h
  have hsz : (Kd.pair d d').sz = d.sz + d'.sz := rfl
  rw [hsz] at hl
  obtain ⟨x, hx⟩ := h 0 f rfl
  rw [h0, Nat.sub_self, List.drop_zero, hc] at hx
  obtain ⟨v, hv, hok⟩ := he H enc w fuel _ x hx
  obtain ⟨u, hu, hok'⟩ := hr H enc w fuel (cs.drop d.sz) (by rw [List.length_drop]; omega) (fun j g hg => by
    obtain ⟨y, hy⟩ := h (j + 1) g hg
    refine ⟨y, ?_⟩
    rw [List.drop_drop]
    have := hge g (List.mem_of_getElem? hg)
    rw [show d.sz + (g.offset - (off + d.sz)) = g.offset - off by omega]
    exact hy)
  exact ⟨(v, u), ⟨_, _, (List.take_append_drop d.sz cs).symm, hv, hu⟩, hok, hok'⟩

theorem opens_struct {d : Kd α} {ok : α → Prop} {t : TypeId} {fs : Array Field} (ht : P.underlying t = some (.struct fs)) (hc : P.cellsOf t = d.sz) (hf : OpensF P d ok fs.toList 0) : Opens P d ok t := by
  intro H enc w fuel cs x h
  obtain ⟨xs, n, _, _, hl, hxl, hx⟩ := DataW.trod_struct ht h
  refine hf H enc w n cs (by omega) (fun j f hj => ?_)
  have hj' : fs[j]? = some f := by rw [← hj]; simp
  have hlt : j < xs.length := by
    rw [hxl]
    by_cases h0 : j < fs.size
    · exact h0
    · rw [Array.getElem?_eq_none (by omega)] at hj'
      cases hj'
  have := hx j f hj'
  rw [List.getElem?_eq_getElem hlt] at this
  exact ⟨_, by simpa using this⟩

theorem opens_array {d : Kd α} {ok : α → Prop} {t e : TypeId} {n : Nat} (hs : 0 < d.sz) (ht : P.underlying t = some (.array n e)) (hc : P.cellsOf e = d.sz) (hn : P.cellsOf t = n * d.sz) (he : Opens P d ok e) : Opens P (Kd.arr n d hs) (fun l => l.length = n ∧ ∀ x ∈ l, ok x) t := by
  intro H enc w fuel cs x h
  obtain ⟨xs, m, _, _, hl, hxl, hx⟩ := DataW.trod_array ht h
  have each : ∀ i, i < n → ∃ v, ok v ∧ d.K w v ((cs.drop (i * d.sz)).take d.sz) := by
    intro i hi
    have h1 := hx i hi
    rw [hc, List.getElem?_eq_getElem (by omega)] at h1
    obtain ⟨v, hv, hok⟩ := he H enc w m _ _ h1
    exact ⟨v, hok, hv⟩
  obtain ⟨l, hll, hp⟩ := list_of n each
  subst hll
  refine ⟨l, ⟨rfl, by rw [hl, hn], fun j p hj => (hp j p hj).2⟩, rfl, fun x hx => ?_⟩
  obtain ⟨i, hi⟩ := List.getElem?_of_mem hx
  exact (hp i x hi).1

theorem opens_iso {d : Kd α} {ok : α → Prop} {f : β → α} {t : TypeId} (g : α → β) (hg : ∀ x, f (g x) = x) (h : Opens P d ok t) : Opens P (Kd.iso d f) (fun x => ok (f x)) t := by
  intro H enc w fuel cs x hx
  obtain ⟨v, hv, hok⟩ := h H enc w fuel cs x hx
  exact ⟨g v, by show d.K w (f (g v)) cs; rw [hg]; exact hv, by show ok (f (g v)); rw [hg]; exact hok⟩
theorem sized_row {H : Type} {enc : TypeId × Value → H} {W : World} {t e : TypeId} {a : Option Addr} {len cap : Nat} {d : DataW H} {ps : List MemPlace} {ts : List TypeId} {ds : List (DataW H)} {j : Nat}
    (hsz : (DataW.weightsEach P ts ds).all (· ≤ reachBytes) = true) (ht : ts[j]? = some t) (hd : ds[j]? = some d) (hu : P.underlying t = some (.slice e)) {B : Nat} (hB : P.bytesOf e = B)
    (h : DataW.Trod enc P W 0 (fun _ => true) true t (.slice a len cap) d ps) : len * B ≤ 140737488351232 := by
  obtain ⟨fuel, hf⟩ := h
  rcases Deep.open_slice hu hf with ⟨hcs, _⟩ | ⟨a, len', cap', m, n, D, Pl, hcs, _, hl, hm, hmm, hx, _⟩
  · simp [Value.cells] at hcs
    obtain ⟨rfl, rfl, rfl⟩ := hcs
    simp
  · simp [Value.cells] at hcs
    obtain ⟨rfl, rfl, rfl⟩ := hcs
    obtain ⟨hx, _⟩ := Prod.mk.inj hx
    subst hx
    have z := sized_slice hsz ht hd hu
    rw [hB] at z
    refine Nat.le_trans (Nat.mul_le_mul_right _ ?_) z
    simp

/-- A slice of structs of two whole numbers. -/
theorem open_pairs {t e : TypeId} {f0 f1 : Field} {k0 k1 : IntKind} (ht : P.underlying t = some (.slice e)) (he : P.underlying e = some (.struct #[f0, f1])) (ce : P.cellsOf e = 2) (o0 : f0.offset = 0) (o1 : f1.offset = 1) (c0 : P.cellsOf f0.type = 1) (c1 : P.cellsOf f1.type = 1)
    (h0 : P.underlying f0.type = some (.int k0)) (h1 : P.underlying f1.type = some (.int k1)) {H : Type} {enc : TypeId × Value → H} {w : World} {fuel : Nat} {cs : List Value} {x : DataW H × List MemPlace} (h : DataW.trod enc P w 0 (fun _ => true) true fuel t cs = some x) :
    ∃ (l : List (Int × Int)) (A : Option Addr) (c : Nat), cs = [.slice A l.length c] ∧ l.length ≤ c ∧ c ≤ maxLen ∧ (Kd.pair (Kd.int k0) (Kd.int k1)).C w A l.length l ∧ ∀ x ∈ l, (Lit.int k0 x.1).wf = true ∧ (Lit.int k1 x.2).wf = true :=
  opens_row (d := Kd.pair (Kd.int k0) (Kd.int k1)) ht ce (opens_struct he ce (fields_cons o0 c0 (opens_int h0) (fields_one o1 c1 (opens_int h1)) (by
    intro g hg
    rw [List.mem_singleton.1 hg, o1]
    exact Nat.le_refl _))) h
end
end Go.Proofs.Ytijgfcpffjjlfaa.Open
