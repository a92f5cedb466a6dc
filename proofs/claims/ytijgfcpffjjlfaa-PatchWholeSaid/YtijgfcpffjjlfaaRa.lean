/- Written by a program of this session. what PatchWhole rests on, in plain words. -/
import Derived.Test.YtijgfcpffjjlfaaQn
import Derived.Test.YtijgfcpffjjlfaaQr
import Derived.Test.YtijgfcpffjjlfaaXIsx1
namespace Go.Proofs.Ytijgfcpffjjlfaa.Pq
open Go Go.RowKit Go.Shelf Go.Proofs Go.Maps Go.Sort Go.Proofs.Ytijgfcpffjjlfaa.XFb Go.Proofs.YtijgfcpffjjlfaaW.PrintWords Go.Proofs.YtijgfcpffjjlfaaW.PrintLast Go.Proofs.YtijgfcpffjjlfaaW.PrintMore
set_option linter.unusedVariables false
set_option linter.unusedSimpArgs false
theorem stepL_all (x : DoT) (s : List Pt × Int) (h0 : 0 ≤ s.2) (h : ∀ i : Int, 1 ≤ i → i ≤ s.2 → i ∈ ids s.1) : 0 ≤ (stepL s x).2 ∧ ∀ i : Int, 1 ≤ i → i ≤ (stepL s x).2 → i ∈ ids (stepL s x).1 := by
  have he := step_ok s.2 h0 x
  unfold stepL addL addN
  simp only [he, if_true]
  refine ⟨by omega, fun i h1 h2 => ?_⟩
  unfold ids
  rw [List.map_append, List.mem_append]
  by_cases h3 : i ≤ s.2
  · exact .inl (h i h1 h3)
  · refine .inr ?_
    have : i = s.2 + 1 := by omega
    subst this
    exact List.mem_singleton.2 rfl
theorem foldS_all (xs : List DoT) : ∀ (s : List Pt × Int), 0 ≤ s.2 → (∀ i : Int, 1 ≤ i → i ≤ s.2 → i ∈ ids s.1) → ∀ i : Int, 1 ≤ i → i ≤ (xs.foldl stepL s).2 → i ∈ ids (xs.foldl stepL s).1 := by
  induction xs with
  | nil => intro s _ h; exact h
  | cons x r ih =>
    intro s h0 h
    have h1 := stepL_all x s h0 h
    rw [List.foldl_cons]
    exact ih _ h1.1 h1.2
theorem made_all (l : List DoT) : ∀ i : Int, 1 ≤ i → i ≤ (madeS l).2 → i ∈ ids (madeS l).1 :=
  foldS_all _ ([], 0) (Int.le_refl _) (fun i h1 h2 => by have h3 : i ≤ 0 := h2; omega)
/-- All that must be there is no later. -/
theorem reach_le {l : List Pt} {last x : Int} (h : Fits l last) {i : Int} (hr : Reach l [x] i) : i ≤ x := by
  induction hr with
  | start h1 => rw [List.mem_singleton.1 (pen_sub h1).2]; exact Int.le_refl _
  | step h1 h2 ih =>
    obtain ⟨h3, h4⟩ := pen_sub h2
    have h5 := h.ndl _ (get_id h1.mem).2 _ h4
    rw [(get_id h1.mem).1] at h5
    omega
theorem reach_self {l : List Pt} {x : Int} (h : x ∈ ids l) : Reach l [x] x := Reach.start (List.mem_filter.2 ⟨h, by simp⟩)
theorem rises_last {r : List Int} {x : Int} (h : Rises r) (hx : x ∈ r) (hm : ∀ i ∈ r, i ≤ x) : ∃ q, r.length = q + 1 ∧ r.getD q 0 = x := by
  obtain ⟨j, hj, e⟩ := List.getElem_of_mem hx
  refine ⟨r.length - 1, by omega, ?_⟩
  rw [List.getD_eq_getElem?_getD, List.getElem?_eq_getElem (by omega), Option.getD_some]
  have h1 := hm r[r.length - 1] (List.getElem_mem _)
  by_cases h2 : j = r.length - 1
  · subst h2; exact e
  · have h3 := List.pairwise_iff_getElem.1 h j (r.length - 1) hj (by omega) (by omega)
    rw [e] at h3
    omega
open Go.Proofs.Ytijgfcpffjjlfaa.XIs in
theorem less_f (a b : Int) : cmp_Less_int.f a b = some (decide (a < b)) := by
  unfold cmp_Less_int.f cmp_isNaN_int.f
  simp
open Go.Proofs.Ytijgfcpffjjlfaa.XIs in
theorem sorted_l0 {r : List Int} (h : Rises r) (hl : r.length ≤ 1000000000000) : ∀ (k j : Nat), j < k → (j = 0 ∨ j < r.length) → slices_IsSorted_int_int.l0 k r (j : Int) = some true
  | 0, j, hk, _ => by omega
  | k + 1, 0, _, _ => by
    unfold slices_IsSorted_int_int.l0
    rw [if_neg (by decide)]
  | k + 1, j + 1, hk, hj => by
    have h0 : j + 1 < r.length := by omega
    have hw : wrap64 (((j + 1 : Nat) : Int) - 1) = (j : Int) := by unfold wrap64; omega
    unfold slices_IsSorted_int_int.l0
    rw [hw, if_pos (by omega), if_pos (by omega), if_pos (by omega), if_pos (by omega), if_pos (by omega), less_f, Option.bind_some]
    have h1 := List.pairwise_iff_getElem.1 h j (j + 1) (by omega) h0 (by omega)
    have h2 : decide (Go.Proofs.YtijgfcpffjjlfaaW.PrintWords.rd r ((j + 1 : Nat) : Int) < Go.Proofs.YtijgfcpffjjlfaaW.PrintWords.rd r (j : Int)) = false := by
      refine decide_eq_false ?_
      unfold Go.Proofs.YtijgfcpffjjlfaaW.PrintWords.rd
      rw [Int.toNat_natCast, Int.toNat_natCast, List.getD_eq_getElem?_getD, List.getD_eq_getElem?_getD, List.getElem?_eq_getElem h0, List.getElem?_eq_getElem (by omega : j < r.length)]
      simp only [Option.getD_some]
      omega
    rw [h2, if_neg (by decide)]
    exact sorted_l0 h hl k j (by omega) (by omega)
open Go.Proofs.Ytijgfcpffjjlfaa.XIs in
theorem issorted_f {r : List Int} (h : Rises r) (hl : r.length ≤ 1000000000000) : slices_IsSorted_int_int.f (r.length + 1) r = some true := by
  unfold slices_IsSorted_int_int.f
  cases r with
  | nil =>
    unfold slices_IsSorted_int_int.l0
    rw [show wrap64 ((([] : List Int).length : Int) - 1) = -1 from by unfold wrap64; rw [List.length_nil]; omega, if_neg (by decide)]
  | cons a t =>
    have hw : wrap64 (((a :: t).length : Int) - 1) = (t.length : Int) := by unfold wrap64; rw [List.length_cons] at *; omega
    rw [hw]
    exact sorted_l0 h hl _ _ (by rw [List.length_cons]; omega) (by rw [List.length_cons]; omega)
theorem planE_or (l : List Pt) (b : Int) {disk : List Int} (h : disk.length = 128) : planE l b disk = 0 ∨ planE l b disk = 71 := by
  unfold planE
  rw [if_neg (fun hh => hh h)]
  split
  · exact .inr rfl
  · exact .inl rfl
/-- What is free has all that it needs, and is of the block. -/
theorem free_whole {l : List Pt} {last b x : Int} (h : Fits l last) (hx : x ∈ freeL l b) : x ∈ ids l ∧ (get l x).blk = b ∧ ∀ n ∈ pen l (get l x).nd, n < x ∧ n ∈ freeL l b := by
  have h1 := freeL_sub hx
  have h2 := ofL_sub h1
  refine ⟨h2, ?_, fun n hn => ⟨?_, free_closed l (ofL l b) [] (fun i hi => by cases hi) x hx n hn⟩⟩
  · obtain ⟨p, hp, rfl⟩ := List.mem_map.1 h1
    have h3 := List.mem_filter.1 hp
    rw [get_mem h.rise h3.1]
    simpa using h3.2
  · have h3 := h.ndl _ (get_id h2).2 n (pen_sub hn).2
    rw [(get_id h2).1] at h3
    exact h3.2
end Go.Proofs.Ytijgfcpffjjlfaa.Pq
