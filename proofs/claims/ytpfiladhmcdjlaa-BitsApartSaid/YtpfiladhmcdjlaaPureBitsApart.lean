/- BitsApart: for every two rows of bytes and every number n, the places where the rows part (bits.Apart) are those of the reference, whichever row comes first. Conditions: none beyond those of the row. -/
import Derived.Test.YtpfiladhmcdjlaaPBitsApartx1
import Derived.Test.YtpfiladhmcdjlaaWSized
namespace Go.Proofs.Ytpfiladhmcdjlaa
open Go.ChangeShapes Go.WideShapes Go.RowKit
/-- The word of that name, as the row's text calls it. -/
theorem PrintWords.sized_ints {H : Type} {enc : TypeId × Value → H} {P : Program} {W : World} {base : Nat} {spare : Nat → Bool} {held : Bool} {t e : TypeId} {k : IntKind} {a : Option Addr} {len cap : Nat} {d : DataW H} {ps : List MemPlace} {ts : List TypeId} {ds : List (DataW H)} {j : Nat}
    (hsz : (DataW.weightsEach P ts ds).all (· ≤ reachBytes) = true) (ht : ts[j]? = some t) (hd : ds[j]? = some d) (hu : P.underlying t = some (.slice e)) (he : P.underlying e = some (.int k)) (hc : P.cellsOf e = 1) {B : Nat} (hB : P.bytesOf e = B)
    (h : DataW.Trod enc P W base spare held t (.slice a len cap) d ps) : len * B ≤ 140737488351232 :=
  Go.Proofs.YtpfiladhmcdjlaaW.PrintWords.sized_ints hsz ht hd hu he hc hB h
end Go.Proofs.Ytpfiladhmcdjlaa
namespace Go.Proofs.Ytpfiladhmcdjlaa.Pure
open Go.RowKit Go.Proofs.Ytpfiladhmcdjlaa.PBitsApart Go.Proofs.YtpfiladhmcdjlaaW.PrintWords Go.Proofs.YtpfiladhmcdjlaaW.PrintLast

theorem u8_bd {x : Int} (h : (Lit.int .u8 x).wf = true) : 0 ≤ x ∧ x ≤ 255 := by
  simp [Lit.wf, IntKind.min, IntKind.max, IntKind.bits, IntKind.signed] at h
  omega

theorem rd_u8 {l : List Int} (h : ∀ x ∈ l, (Lit.int .u8 x).wf = true) (i : Int) : 0 ≤ rd l i ∧ rd l i ≤ 255 := by
  unfold rd
  rw [List.getD_eq_getElem?_getD]
  by_cases hi : i.toNat < l.length
  · rw [List.getElem?_eq_getElem hi]
    exact u8_bd (h _ (List.getElem_mem hi))
  · rw [List.getElem?_eq_none (by omega)]
    simp

theorem and_one {x : Int} (h0 : 0 ≤ x) (h1 : x ≤ 255) : Go.bits .and .u8 x 1 = Int.tmod x 2 := by
  rw [Int.tmod_eq_emod_of_nonneg h0]
  exact bits_mask .u8 8 (by decide) wraps_u8 1 (by decide) x h0 (by omega)

theorem shr_u8 {x : Int} (h0 : 0 ≤ x) (h1 : x ≤ 255) (y : Int) : 0 ≤ shr .u8 x y ∧ shr .u8 x y ≤ 255 := by
  unfold shr
  have hp : (0 : Int) < 2 ^ min y.toNat IntKind.u8.bits := Int.pow_pos (by omega)
  refine ⟨Int.ediv_nonneg h0 (by omega), ?_⟩
  exact Int.le_trans (Int.ediv_le_self _ h0) h1

theorem tdiv8 {i : Int} (h : 0 ≤ i) : wrap64 (Int.tdiv i 8) = wrap64 (i / 8) := by rw [Int.tdiv_eq_ediv_of_nonneg h]

/-- A bit is set, and the reference says the same. -/
theorem has_same {l : List Int} (h : ∀ x ∈ l, (Lit.int .u8 x).wf = true) (i : Int) : bits_Has.f l i = bollardref05_Has.f l i := by
  unfold bits_Has.f bollardref05_Has.f
  obtain ⟨a, b⟩ := rd_u8 h (wrap64 (Int.tdiv i 8))
  obtain ⟨c, d⟩ := shr_u8 a b (Int.tmod i 8)
  rw [and_one c d]

theorem has_some (l : List Int) (i : Int) (hi : i < 9223372036854775808) : ∃ b, bits_Has.f l i = some b := by
  unfold bits_Has.f
  by_cases h0 : i ≥ 0
  · have e : wrap64 (Int.tdiv i 8) = i / 8 := by rw [Int.tdiv_eq_ediv_of_nonneg h0]; unfold wrap64; omega
    have e' : 0 ≤ Int.tmod i 8 := by rw [Int.tmod_eq_emod_of_nonneg h0]; omega
    rw [if_pos h0, e, if_pos e']
    split
    · rw [if_pos (show 0 ≤ i / 8 by omega)]; exact ⟨_, rfl⟩
    · exact ⟨_, rfl⟩
  · rw [if_neg h0]; exact ⟨_, rfl⟩

theorem apart_l_same {l0 l1 : List Int} (h0 : ∀ x ∈ l0, (Lit.int .u8 x).wf = true) (h1 : ∀ x ∈ l1, (Lit.int .u8 x).wf = true) (k : Nat) :
    ∀ o n i, bits_Apart.l0 k l0 l1 o n i = bollardref05_Apart.l0 k l0 l1 o n i := by
  induction k with
  | zero => intro o n i; simp only [bits_Apart.l0, bollardref05_Apart.l0]
  | succ k ih => intro o n i; simp only [bits_Apart.l0, bollardref05_Apart.l0]; simp only [has_same h0, has_same h1, ih]

theorem apart_same {l0 l1 : List Int} (h0 : ∀ x ∈ l0, (Lit.int .u8 x).wf = true) (h1 : ∀ x ∈ l1, (Lit.int .u8 x).wf = true) (k : Nat) (n : Int) :
    bits_Apart.f k l0 l1 n = bollardref05_Apart.f k l0 l1 n := by
  simp only [bits_Apart.f, bollardref05_Apart.f, bits_many.f, bollardref05_first.f, Option.bind_some, apart_l_same h0 h1]

theorem apart_l_turn (l0 l1 : List Int) (n : Int) (hn : n ≤ 65536) (d : Nat) : ∀ (k : Nat) (o : List Int) (i : Int), 0 ≤ i → (i ≤ n ∨ n < 0 ∧ i = 0) → n - i ≤ d → d < k → o.length ≤ i →
    ∃ r, bits_Apart.l0 k l0 l1 o n i = some r ∧ bits_Apart.l0 k l1 l0 o n i = some r ∧ (r.length : Int) ≤ 65536 := by
  induction d with
  | zero =>
    intro k o i hi hin hd hk ho
    obtain ⟨k, rfl⟩ : ∃ m, k = m + 1 := ⟨k - 1, by omega⟩
    refine ⟨o, ?_, ?_, by omega⟩ <;> (simp only [bits_Apart.l0]; rw [if_neg (by omega)])
  | succ d ih =>
    intro k o i hi hin hd hk ho
    obtain ⟨k, rfl⟩ : ∃ m, k = m + 1 := ⟨k - 1, by omega⟩
    by_cases hlt : i < n
    · obtain ⟨b, hb⟩ := has_some l0 i (by omega)
      obtain ⟨c, hc⟩ := has_some l1 i (by omega)
      have hw : wrap64 (i + 1) = i + 1 := by unfold wrap64; omega
      simp only [bits_Apart.l0]
      rw [if_pos hlt, if_pos hlt, hb, hc, hw]
      simp only [Option.bind_some]
      by_cases e : b = c
      · subst e
        simp only [bne_self_eq_false, Bool.false_eq_true, if_false]
        exact ih k o (i + 1) (by omega) (by omega) (by omega) (by omega) (by omega)
      · have e1 : (b != c) = true := by simpa using e
        have e2 : (c != b) = true := by simpa using fun h => e h.symm
        rw [e1, e2]
        simp only [if_true]
        rw [if_pos (by omega), if_pos (by omega)]
        exact ih k (o ++ [i]) (i + 1) (by omega) (by omega) (by omega) (by omega) (by simp; omega)
    · refine ⟨o, ?_, ?_, by omega⟩ <;> (simp only [bits_Apart.l0]; rw [if_neg (by omega)])

theorem equal_self (l : List Int) (hl : (l.length : Int) ≤ 65536) (d : Nat) : ∀ (k : Nat) (i : Int), 0 ≤ i → i ≤ l.length → (l.length : Int) - i ≤ d → d < k →
    slices_Equal_int_int.l0 k l l (l.length : Int) i = some true := by
  induction d with
  | zero =>
    intro k i hi hin hd hk
    obtain ⟨k, rfl⟩ : ∃ m, k = m + 1 := ⟨k - 1, by omega⟩
    simp only [slices_Equal_int_int.l0]; rw [if_neg (by omega)]
  | succ d ih =>
    intro k i hi hin hd hk
    obtain ⟨k, rfl⟩ : ∃ m, k = m + 1 := ⟨k - 1, by omega⟩
    simp only [slices_Equal_int_int.l0]
    by_cases hlt : i < (l.length : Int)
    · rw [if_pos hlt, if_pos hi, if_pos hlt, if_pos hlt, if_pos trivial]
      have hw : wrap64 (i + 1) = i + 1 := by unfold wrap64; omega
      rw [hw]
      exact ih k (i + 1) (by omega) (by omega) (by omega) (by omega)
    · rw [if_neg hlt]

theorem many_bd (n : Int) : ∃ m, bits_many.f n = some m ∧ 0 ≤ m ∧ m ≤ 65536 := ⟨_, rfl, by unfold mx mn; repeat' split <;> omega, by unfold mx mn; repeat' split <;> omega⟩

theorem BitsApart : bollardlaw05_BitsApart.Pure := by
  intro l0 l1 n _ _ h0 _ _ h1 _
  refine ⟨65537, ?_⟩
  unfold bollardlaw05_BitsApart.f
  rw [← apart_same h0 h1]
  obtain ⟨m, hm, hm0, hm1⟩ := many_bd n
  obtain ⟨r, hr, hr', hl⟩ := apart_l_turn l0 l1 m hm1 65536 65537 [] 0 (by omega) (by omega) (by omega) (by omega) (by simp)
  have e : bits_Apart.f 65537 l0 l1 n = some r := by unfold bits_Apart.f; rw [hm]; exact hr
  have e' : bits_Apart.f 65537 l1 l0 n = some r := by unfold bits_Apart.f; rw [hm]; exact hr'
  have q : slices_Equal_int_int.f 65537 r r = some true := by
    unfold slices_Equal_int_int.f
    rw [if_pos rfl]
    exact equal_self r hl 65536 65537 0 (by omega) (by omega) (by omega) (by omega)
  rw [e, e']
  simp only [Option.bind_some, q, if_true]

end Go.Proofs.Ytpfiladhmcdjlaa.Pure
