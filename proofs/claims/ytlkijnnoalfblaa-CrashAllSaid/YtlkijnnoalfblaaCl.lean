/- Written by a program of this session. Plain laws for CrashAll. -/
import Derived.Test.YtlkijnnoalfblaaCk
namespace Go.Proofs.Ytlkijnnoalfblaa.Dk
open Go Go.RowKit Go.Shelf Go.Proofs Go.Maps Go.Proofs.Ytlkijnnoalfblaa.Sp Go.Proofs.Ytlkijnnoalfblaa.XFb Go.Proofs.YtlkijnnoalfblaaW.PrintWords Go.Proofs.YtlkijnnoalfblaaW.PrintLast Go.Proofs.YtlkijnnoalfblaaW.PrintMore
set_option linter.unusedVariables false
set_option linter.unusedSimpArgs false
theorem ixL_has : ∀ (q : List S49) (s : S49), s ∈ q → ∀ (i : Int), 0 ≤ i → 0 ≤ ixL (fun x : S49 => x.f0 == s.f0) q i
  | [], s, h, _, _ => by cases h
  | x :: r, s, h, i, h0 => by
    unfold ixL
    by_cases hp : (x.f0 == s.f0) = true
    · rw [if_pos hp]; exact h0
    · rw [if_neg hp]
      rcases List.mem_cons.1 h with rfl | h
      · exact absurd (beq_self_eq_true _) hp
      · exact ixL_has r s h _ (by omega)
theorem wrOf_at (q : List S49) (h : (q.map fun s => s.f0).Nodup) (s : S49) (hs : s ∈ q) : wrOf q s.f0 = s := by
  have key : ∀ (q : List S49), (q.map fun s => s.f0).Nodup → ∀ s ∈ q, ∀ i : Int, ∃ k : Nat, k < q.length ∧ ixL (fun x : S49 => x.f0 == s.f0) q i = i + k ∧ q.getD k z49 = s := by
    intro q
    induction q with
    | nil => intro _ s hs; cases hs
    | cons x r ih =>
      intro hn s hs i
      rw [List.map_cons, List.nodup_cons] at hn
      unfold ixL
      by_cases hp : (x.f0 == s.f0) = true
      · rw [if_pos hp]
        rcases List.mem_cons.1 hs with rfl | hs
        · exact ⟨0, by simp, by simp, rfl⟩
        · exact absurd (List.mem_map.2 ⟨s, hs, (beq_iff_eq.1 hp).symm⟩) hn.1
      · rw [if_neg hp]
        rcases List.mem_cons.1 hs with rfl | hs
        · exact absurd (beq_self_eq_true _) hp
        · obtain ⟨k, hk, e, g⟩ := ih hn.2 s hs (i + 1)
          exact ⟨k + 1, by simpa using hk, by rw [e]; push_cast; omega, by simpa using g⟩
  obtain ⟨k, hk, e, g⟩ := key q h s hs 0
  unfold wrOf
  rw [e, show ((0 : Int) + (k : Int)).toNat = k by omega]
  exact g
theorem crB_fold (q : List S49) (h : (q.map fun s => s.f0).Nodup) : ∀ (r : List S49), (∀ s ∈ r, s ∈ q) → ∀ bl : List (List Int), (r.map fun s => s.f0).foldl (crB q) bl = r.foldl (fun (b : List (List Int)) (s : S49) => b.set s.f1.toNat s.f2) bl
  | [], _, _ => rfl
  | x :: r, hr, bl => by
    rw [List.map_cons, List.foldl_cons, List.foldl_cons, crB_fold q h r (fun s hs => hr s (List.mem_cons_of_mem _ hs))]
    unfold crB
    rw [wrOf_at q h x (hr x (List.mem_cons_self ..))]
theorem keepL_congr {p q : Nat → Bool} : ∀ (l : List Int) (i : Nat), (∀ j, j < l.length → p (i + j) = q (i + j)) → keepL p l i = keepL q l i
  | [], _, _ => rfl
  | x :: r, i, h => by
    unfold keepL
    rw [keepL_congr (p := p) (q := q) r (i + 1) (fun j hj => by have := h (j + 1) (by simpa using hj); rwa [show i + (j + 1) = i + 1 + j by omega] at this), show p i = q i from h 0 (by simp)]
theorem keepL_true : ∀ (l : List Int) (i : Nat), keepL (fun _ => true) l i = l
  | [], _ => rfl
  | x :: r, i => by unfold keepL; rw [if_pos rfl, keepL_true r (i + 1)]
theorem keepL_false : ∀ (l : List Int) (i : Nat), keepL (fun _ => false) l i = []
  | [], _ => rfl
  | x :: r, i => by unfold keepL; rw [if_neg (by simp), keepL_false r (i + 1)]
theorem bit_zero (j : Nat) : bitP 0 j = false := by unfold bitP; simp
theorem bit_ones : ∀ (n j : Nat), j < n → bitP ((2 : Int) ^ n - 1) j = true
  | 0, j, h => absurd h (by omega)
  | n + 1, 0, _ => by
    unfold bitP
    rw [Int.pow_succ]
    generalize (2 : Int) ^ n = z
    simp only [Int.pow_zero, Int.ediv_one, decide_eq_true_eq]
    omega
  | n + 1, j + 1, h => by
    rw [← bit_half, show ((2 : Int) ^ (n + 1) - 1) / 2 = 2 ^ n - 1 by rw [Int.pow_succ]; generalize (2 : Int) ^ n = z; omega]
    exact bit_ones n j (by omega)
theorem bit_mod (n j : Nat) (h : j < n) (k : Int) : bitP (k % 2 ^ n) j = bitP k j := by
  unfold bitP
  have h1 : k = k % 2 ^ n + 2 ^ j * (2 * (2 ^ (n - j - 1) * (k / 2 ^ n))) := by
    have h2 : (2 : Int) ^ n = 2 ^ j * (2 * 2 ^ (n - j - 1)) := by
      rw [← Int.pow_succ', ← Int.pow_add]
      congr 1
      omega
    have h3 := Int.emod_add_mul_ediv k (2 ^ n)
    rw [← Int.mul_assoc 2, ← Int.mul_assoc (2 ^ j), ← h2]
    exact h3.symm
  generalize 2 ^ (n - j - 1) * (k / 2 ^ n) = z at h1
  generalize k % 2 ^ n = r at *
  rw [h1, Int.add_mul_ediv_left _ _ (Int.ne_of_gt (Int.pow_pos (by decide)))]
  generalize r / 2 ^ j = y
  exact decide_eq_decide.2 (by omega)
theorem keep_none (I : List Int) : keepL (bitP 0) I 0 = [] := by
  rw [keepL_congr (q := fun _ => false) I 0 (fun j _ => bit_zero _), keepL_false]
theorem keep_all (I : List Int) : keepL (bitP ((2 : Int) ^ I.length - 1)) I 0 = I := by
  rw [keepL_congr (q := fun _ => true) I 0 (fun j hj => by rw [Nat.zero_add]; exact bit_ones _ _ hj), keepL_true]
theorem keep_mod (I : List Int) (k : Int) : keepL (bitP k) I 0 = keepL (bitP (k % 2 ^ I.length)) I 0 :=
  keepL_congr I 0 (fun j hj => by rw [Nat.zero_add, bit_mod _ _ hj])
theorem imgs_in (F : List Int → List (List Int)) (I : List Int) (P : Nat) (hP : 2 ^ I.length = P) (k : Int) : F (keepL (bitP k) I 0) ∈ imgsL F I P := by
  rw [keep_mod]
  have e2 : ((2 : Int) ^ I.length) = (P : Int) := by rw [← hP]; simp
  have hp : 0 < P := by rw [← hP]; exact Nat.pow_pos (by decide)
  rw [e2]
  unfold imgsL
  have h3 := Int.emod_nonneg k (show (P : Int) ≠ 0 by omega)
  have h4 := Int.emod_lt_of_pos k (show (0 : Int) < P by omega)
  exact List.mem_map.2 ⟨(k % (P : Int)).toNat, List.mem_range.2 (by omega), by rw [Int.toNat_of_nonneg h3]⟩
end Go.Proofs.Ytlkijnnoalfblaa.Dk
