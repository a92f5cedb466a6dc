/- Sealed bytes with one byte turned: the plain part of LayoutTurned. -/
import Derived.Test.YtdaeanodgnmknaaTg
namespace Go.Proofs.Ytdaeanodgnmknaa.Ti
open Go.RowKit Go.Proofs.Ytdaeanodgnmknaa.Rd Go.Proofs.Ytdaeanodgnmknaa.XLayoutTurned Go.Proofs.YtdaeanodgnmknaaW.PrintWords Go.Proofs.YtdaeanodgnmknaaW.PrintLast Go.Proofs.YtdaeanodgnmknaaW.PrintMore
set_option linter.unusedVariables false
set_option linter.unusedSimpArgs false
theorem putL_u8 (w : Nat) : ∀ (x : List Int) (a : Nat) (n : Int), (∀ y ∈ x, (Lit.int .u8 y).wf = true) → ∀ y ∈ putL w x a n, (Lit.int .u8 y).wf = true := by
  induction w with
  | zero => intro x a n h; exact h
  | succ w ih =>
    intro x a n h
    simp only [putL]
    refine ih _ _ _ ?_
    intro y hy
    rcases List.mem_or_eq_of_mem_set hy with hy | rfl
    · exact h y hy
    · simp [Lit.wf, IntKind.min, IntKind.max, IntKind.bits, IntKind.signed]; omega
theorem sealS_len {l : List Int} (h : 4 ≤ l.length) : (sealS l).1.length = l.length := by
  unfold sealS
  rw [if_neg (by omega)]
  exact putL_length _ _ _ _
theorem sealS_u8 {l : List Int} (h : ∀ x ∈ l, (Lit.int .u8 x).wf = true) : ∀ x ∈ (sealS l).1, (Lit.int .u8 x).wf = true := by
  unfold sealS
  split
  · intro x hx; cases hx
  · exact putL_u8 4 l _ _ h
theorem sealS_ok {l : List Int} (h : 4 ≤ l.length) : (sealS l).2 = 0 ∧ sealedS (sealS l).1 = true := by
  unfold sealS
  rw [if_neg (by omega)]
  exact ⟨rfl, sealed_seal l h _ rfl⟩
/-- The place and the byte that the law turns. -/
def idxT (k : Int) (n : Nat) : Nat := (k % 18446744073709551616 % (n : Int)).toNat
def dT (b : Int) : Int := 1 + b % 18446744073709551616 % 255
theorem idxT_lt (k : Int) {n : Nat} (h : 0 < n) : idxT k n < n := by
  unfold idxT
  have := Int.emod_lt_of_pos (k % 18446744073709551616) (show 0 < (n : Int) by omega)
  have := Int.emod_nonneg (k % 18446744073709551616) (show (n : Int) ≠ 0 by omega)
  omega
def turnT (q : List Int) (k b : Int) : List Int := q.set (idxT k q.length) (Go.bits .xor .u8 (rd q (idxT k q.length : Nat)) (dT b))
theorem rd_get {q : List Int} {i : Nat} (h : i < q.length) : rd q (i : Nat) = q[i] := by
  unfold rd
  rw [Int.toNat_natCast, List.getD_eq_getElem?_getD, List.getElem?_eq_getElem h]
  rfl
theorem turn_facts {q : List Int} (h : ∀ x ∈ q, (Lit.int .u8 x).wf = true) (hq : 0 < q.length) (k b : Int) : 0 ≤ Go.bits .xor .u8 (rd q (idxT k q.length : Nat)) (dT b) ∧ Go.bits .xor .u8 (rd q (idxT k q.length : Nat)) (dT b) ≤ 255 ∧ Go.bits .xor .u8 (rd q (idxT k q.length : Nat)) (dT b) ≠ q[idxT k q.length]'(idxT_lt k hq) := by
  obtain ⟨b0, b1⟩ := rd_u8 h (idxT k q.length : Nat)
  have := xor_turn b0 b1 (d := dT b) (by unfold dT; omega) (by unfold dT; omega)
  rw [rd_get (idxT_lt k hq)] at this ⊢
  exact this
theorem turnT_len (q : List Int) (k b : Int) : (turnT q k b).length = q.length := by unfold turnT; rw [List.length_set]
theorem turnT_u8 {q : List Int} (h : ∀ x ∈ q, (Lit.int .u8 x).wf = true) (hq : 0 < q.length) (k b : Int) : ∀ x ∈ turnT q k b, 0 ≤ x ∧ x ≤ 255 := by
  intro x hx
  obtain ⟨h0, h1, _⟩ := turn_facts h hq k b
  rcases List.mem_or_eq_of_mem_set hx with hx | rfl
  · exact u8_bd (h x hx)
  · exact ⟨h0, h1⟩
theorem turnT_bad {q : List Int} (h : ∀ x ∈ q, (Lit.int .u8 x).wf = true) (hq : 4 ≤ q.length) (hs : sealedS q = true) (k b : Int) : sealedS (turnT q k b) = false := by
  obtain ⟨h0, h1, h2⟩ := turn_facts h (by omega) k b
  exact sealed_turn q h hq hs _ (idxT_lt k (by omega)) _ h0 h1 h2
theorem decS_bad {l : List Int} (h : sealedS l = false) : (decS l).2.2.2.2 ≠ 0 := by
  unfold decS
  rw [h]
  split
  · split
    · rw [if_neg (by decide)]; decide
    · decide
  · decide
theorem sumS_pos {l : List Int} (h : ∀ x ∈ l, 0 ≤ x ∧ x ≤ 255) (hl : l.length ≤ 100) : 1 ≤ sumS l := by
  have h1 := adl_fst l (1, 0) (by decide) (by decide)
  have h2 := adl_bd l (1, 0) (by decide) (by decide) (by decide) (by decide)
  have hs : ∀ m : List Int, (∀ x ∈ m, 0 ≤ x ∧ x ≤ 255) → 0 ≤ m.sum ∧ m.sum ≤ 255 * m.length := by
    intro m
    induction m with
    | nil => intro _; simp
    | cons x m ih =>
      intro hm
      obtain ⟨i1, i2⟩ := ih (fun y hy => hm y (List.mem_cons_of_mem _ hy))
      obtain ⟨j1, j2⟩ := hm x (by simp)
      simp only [List.sum_cons, List.length_cons]
      omega
  obtain ⟨s1, s2⟩ := hs l h
  unfold sumS
  rw [h1] at h2 ⊢
  simp only at h2 ⊢
  omega
theorem le_zeros (n : Nat) : le (List.replicate n 0) = 0 := by
  induction n with
  | zero => rfl
  | succ n ih => rw [List.replicate_succ, le, ih]; rfl
/-- An inode's sealed bytes with one byte turned are not all noughts. -/
theorem turnT_zero {q : List Int} (h : ∀ x ∈ q, (Lit.int .u8 x).wf = true) (hq : q.length = 32) (hs : sealedS q = true) (h0 : q[0]'(by omega) ≠ 0) (k b : Int) : zerosB (turnT q k b) = false := by
  rw [Bool.eq_false_iff]
  intro hz
  rw [zerosB_iff, turnT_len, hq] at hz
  have hi := idxT_lt k (n := q.length) (by omega)
  have hother : ∀ j (hj : j < 32), j ≠ idxT k q.length → q[j]'(by omega) = 0 := by
    intro j hj hne
    have h1 : (turnT q k b)[j]? = some 0 := by rw [hz]; exact List.getElem?_replicate_of_lt hj
    unfold turnT at h1
    rw [List.getElem?_set_ne (fun e => hne e.symm), List.getElem?_eq_getElem (by omega)] at h1
    exact Option.some.inj h1
  have hi0 : idxT k q.length = 0 := by
    by_cases e : idxT k q.length = 0
    · exact e
    · exact absurd (hother 0 (by omega) (fun e2 => e e2.symm)) h0
  unfold sealedS at hs
  rw [Bool.and_eq_true, beq_iff_eq] at hs
  have hd : q.drop (q.length - 4) = List.replicate 4 0 := by
    apply List.ext_getElem
    · rw [List.length_drop, List.length_replicate]; omega
    · intro j h1 h2
      rw [List.length_replicate] at h2
      rw [List.getElem_drop, List.getElem_replicate]
      exact hother _ (by omega) (by omega)
  rw [hd, le_zeros] at hs
  have := sumS_pos (l := q.take (q.length - 4)) (fun x hx => u8_bd (h x (List.mem_of_mem_take hx))) (by rw [List.length_take]; omega)
  omega
theorem decD_bad {l : List Int} (hz : zerosB l = false) (h : sealedS l = false) : (decD l).2 ≠ 0 := by
  unfold decD
  rw [h, hz]
  split
  · rw [if_neg (by decide), if_neg (by decide)]; decide
  · decide
theorem din_first {m l s a b c d u v : Int} (h0 : 0 ≤ m) (h2 : m ≤ 2) (hm : m ≠ 0) : ∀ hl, (sealS (dinL m l s a b c d u v)).1[0]'hl ≠ 0 := by
  intro hl
  have h4 : ¬ (dinL m l s a b c d u v).length < 4 := by rw [dinL_len]; omega
  have e : (sealS (dinL m l s a b c d u v)).1 = putL 4 (dinL m l s a b c d u v) ((dinL m l s a b c d u v).length - 4) (sumS ((dinL m l s a b c d u v).take ((dinL m l s a b c d u v).length - 4))) := by unfold sealS; rw [if_neg h4]
  have e2 : (sealS (dinL m l s a b c d u v)).1[0]? = some m := by
    rw [e, putL_eq _ _ _ _ (by rw [dinL_len]; decide), dinL_len]
    show some (m % 256) = some m
    rw [Int.emod_eq_of_lt h0 (by omega)]
  rw [List.getElem?_eq_getElem hl] at e2
  rw [Option.some.inj e2]
  exact hm
theorem awake_f : bollardlaw03_awake.f 600 = some true := by
  unfold bollardlaw03_awake.f
  rw [ds_f [] (fun x hx => by cases hx) 600 (by omega), Option.bind_some]
  rfl
end Go.Proofs.Ytdaeanodgnmknaa.Ti
