/- Written by a program of this session. What an argument's cells read as, by its type, and how much of it there is: for rows of the second form. -/
import Derived.Test.YtalmfdlnmhhbbaaOpen
import Derived.Test.YtalmfdlnmhhbbaaRows
namespace Go.Proofs.Ytalmfdlnmhhbbaa.Open
open Go.RowKit Go.Proofs.YtalmfdlnmhhbbaaW.PrintWords Go.Proofs.YtalmfdlnmhhbbaaW.PrintLast
set_option linter.unusedVariables false
set_option linter.unusedSimpArgs false
/-- Cells of a type are a value of a kind, whose measure is no more than what is counted of what is read. -/
def OpensB (P : Program) {α : Type} (d : Kd α) (ok : α → Prop) (m : α → Nat) (t : TypeId) : Prop :=
  ∀ (H : Type) (enc : TypeId × Value → H) (w : World) (fuel : Nat) (cs : List Value) (x : DataW H × List MemPlace), DataW.trod enc P w 0 (fun _ => true) true fuel t cs = some x → ∃ v, d.K w v cs ∧ ok v ∧ m v ≤ Rows.uptoBulk x.1
section
variable {P : Program} {α β : Type}
theorem opensB_int {k : IntKind} {t : TypeId} (ht : P.underlying t = some (.int k)) : OpensB P (Kd.int k) (fun n => (Lit.int k n).wf = true) (fun _ => 1) t := by
  intro H enc w fuel cs x h
  obtain ⟨n, rfl, hx, hw⟩ := DataW.trod_int ht h
  subst hx
  exact ⟨n, rfl, hw, by simp [Rows.uptoBulk]⟩
theorem bulk_append {H : Type} : ∀ a b : List (DataW H), Rows.uptoBulkAll (a ++ b) = Rows.uptoBulkAll a + Rows.uptoBulkAll b
  | [], b => by simp [Rows.uptoBulkAll]
  | x :: a, b => by rw [List.cons_append, Rows.uptoBulkAll, Rows.uptoBulkAll, bulk_append a b]; omega
theorem bulk_rows {H : Type} {m : α → Nat} (l : List α) (D : Nat → DataW H) : ∀ n, n ≤ l.length → (∀ i x, l[i]? = some x → m x ≤ Rows.uptoBulk (D i)) → ((l.take n).map m).sum ≤ Rows.uptoBulkAll ((List.range n).map D)
  | 0, _, _ => by simp
  | n + 1, hn, h => by
    have ih := bulk_rows l D n (by omega) h
    have h1 := h n l[n] (List.getElem?_eq_getElem (by omega))
    rw [List.range_succ, List.map_append, bulk_append, List.take_add_one, List.getElem?_eq_getElem (by omega)]
    simp only [Option.toList_some, List.map_append, List.map_cons, List.map_nil, List.sum_append, List.sum_cons, List.sum_nil, Rows.uptoBulkAll]
    omega
theorem opensB_row {d : Kd α} {ok : α → Prop} {m : α → Nat} {t e : TypeId} (ht : P.underlying t = some (.slice e)) (hc : P.cellsOf e = d.sz) (he : OpensB P d ok m e)
    {H : Type} {enc : TypeId × Value → H} {w : World} {fuel : Nat} {cs : List Value} {x : DataW H × List MemPlace} (h : DataW.trod enc P w 0 (fun _ => true) true fuel t cs = some x) :
    ∃ l A c, cs = [.slice A l.length c] ∧ l.length ≤ c ∧ c ≤ maxLen ∧ d.C w A l.length l ∧ (∀ x ∈ l, ok x) ∧ (l.map m).sum + 1 ≤ Rows.uptoBulk x.1 := by
  rcases Deep.open_slice ht h with ⟨rfl, hx⟩ | ⟨a, len, cap, k, n, D, Pl, rfl, _, hl, hm, hmm, hxx, hx⟩
  · subst hx
    exact ⟨[], none, 0, rfl, Nat.le_refl _, by simp [maxLen], ⟨rfl, by simp, fun h => absurd h (by simp)⟩, (fun x hx => by cases hx), by simp [Rows.uptoBulk]⟩
  · have each : ∀ i, i < len → ∃ v, (ok v ∧ m v ≤ Rows.uptoBulk (D i)) ∧ ∃ c, c.length = d.sz ∧ d.K w v c ∧ ∀ j u, c[j]? = some u → w.cell? (a.add (i * d.sz + j)) = some u := by
      intro i hi
      obtain ⟨cs', h1, h2⟩ := hx i (by rw [hmm]; simp; omega)
      obtain ⟨v, hv, hok, hmv⟩ := he H enc w n cs' _ h2
      rw [hc] at h1
      obtain ⟨_, hlen, hcell⟩ := World.cells?_some h1
      refine ⟨v, ⟨hok, hmv⟩, cs', hlen, hv, fun j u hj => ?_⟩
      have hjl : j < cs'.length := by
        by_cases h0 : j < cs'.length
        · exact h0
        · rw [List.getElem?_eq_none (by omega)] at hj
          cases hj
      have := hcell j (by omega)
      rw [hj] at this
      rw [← this]
      congr 1
      unfold Addr.add
      by_cases h3 : i * d.sz = 0 <;> by_cases h4 : j = 0 <;> simp [h3, h4, Nat.add_assoc]
    obtain ⟨l, hll, hp⟩ := list_of len each
    subst hll
    refine ⟨l, some a, cap, rfl, hl, hm, ⟨rfl, by simp only [maxLen] at hm; omega, fun _ => ⟨a, rfl, fun j p hj => (hp j p hj).2⟩⟩, (fun x hx => ?_), ?_⟩
    · obtain ⟨i, hi⟩ := List.getElem?_of_mem hx
      exact (hp i x hi).1.1
    · have hb := bulk_rows (m := m) l D l.length (Nat.le_refl _) (fun i x hi => (hp i x hi).1.2)
      rw [List.take_length] at hb
      rw [hxx]
      simp only [Rows.uptoBulk]
      omega
theorem opensB_slice {d : Kd α} {ok : α → Prop} {m : α → Nat} {t e : TypeId} (ht : P.underlying t = some (.slice e)) (hc : P.cellsOf e = d.sz) (he : OpensB P d ok m e) : OpensB P (Kd.slice e d) (fun l => ∀ x ∈ l, ok x) (fun l => (l.map m).sum + 1) t := by
  intro H enc w fuel cs x h
  obtain ⟨l, A, c, rfl, h1, _, h2, h3, h4⟩ := opensB_row ht hc he h
  exact ⟨l, ⟨A, c, rfl, h1, h2⟩, h3, h4⟩
theorem ones (l : List Int) : (l.map fun _ => 1).sum = l.length := by
  induction l with
  | nil => rfl
  | cons a l ih => simp [ih]; omega
theorem ones2 (xs : List (List Int)) : (xs.map fun l => (l.map fun _ => 1).sum + 1).sum = xs.flatten.length + xs.length := by
  induction xs with
  | nil => rfl
  | cons a l ih => rw [List.map_cons, List.sum_cons, ih, ones]; simp; omega
theorem small {H : Type} {l : List (DataW H)} (hk : Rows.uptoSmall H l = true) : Rows.uptoBulkAll l ≤ 1048576 := of_decide_eq_true hk
end
end Go.Proofs.Ytalmfdlnmhhbbaa.Open
