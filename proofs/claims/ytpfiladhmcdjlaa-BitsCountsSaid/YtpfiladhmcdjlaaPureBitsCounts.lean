/- BitsCounts: for every row of bytes and all numbers n and from, how many bits are set (bits.Count) and the first that is not set, going round (bits.First), are those of the reference. Conditions: none beyond those of the row. -/
import Derived.Test.YtpfiladhmcdjlaaPBitsCountsx2
import Derived.Test.YtpfiladhmcdjlaaWSized
namespace Go.Proofs.Ytpfiladhmcdjlaa
open Go.ChangeShapes Go.WideShapes Go.RowKit
/-- The word of that name, as the row's text calls it. -/
theorem PrintWords.sized_ints {H : Type} {enc : TypeId × Value → H} {P : Program} {W : World} {base : Nat} {spare : Nat → Bool} {held : Bool} {t e : TypeId} {k : IntKind} {a : Option Addr} {len cap : Nat} {d : DataW H} {ps : List MemPlace} {ts : List TypeId} {ds : List (DataW H)} {j : Nat}
    (hsz : (DataW.weightsEach P ts ds).all (· ≤ reachBytes) = true) (ht : ts[j]? = some t) (hd : ds[j]? = some d) (hu : P.underlying t = some (.slice e)) (he : P.underlying e = some (.int k)) (hc : P.cellsOf e = 1) {B : Nat} (hB : P.bytesOf e = B)
    (h : DataW.Trod enc P W base spare held t (.slice a len cap) d ps) : len * B ≤ 140737488351232 :=
  Go.Proofs.YtpfiladhmcdjlaaW.PrintWords.sized_ints hsz ht hd hu he hc hB h
end Go.Proofs.Ytpfiladhmcdjlaa
namespace Go.Proofs.Ytpfiladhmcdjlaa.Pure
open Go.RowKit Go.Proofs.Ytpfiladhmcdjlaa.PBitsCounts Go.Proofs.YtpfiladhmcdjlaaW.PrintWords Go.Proofs.YtpfiladhmcdjlaaW.PrintLast

theorem u8_bd {x : Int} (h : (Lit.int .u8 x).wf = true) : 0 ≤ x ∧ x ≤ 255 := by
  simp [Lit.wf, IntKind.min, IntKind.max, IntKind.bits, IntKind.signed] at h
  omega

theorem rd_u8 {l : List Int} (h : ∀ x ∈ l, (Lit.int .u8 x).wf = true) (i : Int) : 0 ≤ rd l i ∧ rd l i ≤ 255 := by
  unfold rd
  rw [List.getD_eq_getElem?_getD]
  by_cases hi : i.toNat < l.length
  · rw [List.getElem?_eq_getElem hi]
    exact u8_bd (h _ (List.getElem_mem hi))
  · rw [List.getElem?_eq_none (by omega)]
    simp

theorem and_one {x : Int} (h0 : 0 ≤ x) (h1 : x ≤ 255) : Go.bits .and .u8 x 1 = Int.tmod x 2 := by
  rw [Int.tmod_eq_emod_of_nonneg h0]
  exact bits_mask .u8 8 (by decide) wraps_u8 1 (by decide) x h0 (by omega)

theorem shr_u8 {x : Int} (h0 : 0 ≤ x) (h1 : x ≤ 255) (y : Int) : 0 ≤ shr .u8 x y ∧ shr .u8 x y ≤ 255 := by
  unfold shr
  have hp : (0 : Int) < 2 ^ min y.toNat IntKind.u8.bits := Int.pow_pos (by omega)
  refine ⟨Int.ediv_nonneg h0 (by omega), ?_⟩
  exact Int.le_trans (Int.ediv_le_self _ h0) h1

theorem tdiv8 {i : Int} (h : 0 ≤ i) : wrap64 (Int.tdiv i 8) = wrap64 (i / 8) := by rw [Int.tdiv_eq_ediv_of_nonneg h]

/-- A bit is set, and the reference says the same. -/
theorem has_same {l : List Int} (h : ∀ x ∈ l, (Lit.int .u8 x).wf = true) (i : Int) : bits_Has.f l i = bollardref05_Has.f l i := by
  unfold bits_Has.f bollardref05_Has.f
  obtain ⟨a, b⟩ := rd_u8 h (wrap64 (Int.tdiv i 8))
  obtain ⟨c, d⟩ := shr_u8 a b (Int.tmod i 8)
  rw [and_one c d]

theorem has_some (l : List Int) (i : Int) (hi : i < 9223372036854775808) : ∃ b, bits_Has.f l i = some b := by
  unfold bits_Has.f
  by_cases h0 : i ≥ 0
  · have e : wrap64 (Int.tdiv i 8) = i / 8 := by rw [Int.tdiv_eq_ediv_of_nonneg h0]; unfold wrap64; omega
    have e' : 0 ≤ Int.tmod i 8 := by rw [Int.tmod_eq_emod_of_nonneg h0]; omega
    rw [if_pos h0, e, if_pos e']
    split
    · rw [if_pos (show 0 ≤ i / 8 by omega)]; exact ⟨_, rfl⟩
    · exact ⟨_, rfl⟩
  · rw [if_neg h0]; exact ⟨_, rfl⟩

theorem many_bd (n : Int) : ∃ m, bits_many.f n = some m ∧ bollardref05_first.f n = some m ∧ 0 ≤ m ∧ m ≤ 65536 := ⟨_, rfl, rfl, by unfold mx mn; repeat' split <;> omega, by unfold mx mn; repeat' split <;> omega⟩

/-- Counting: from place i on, with enough rounds. -/
theorem count_l (l : List Int) (h : ∀ x ∈ l, (Lit.int .u8 x).wf = true) (n : Int) (hn : n ≤ 65536) (d : Nat) : ∀ (k : Nat) (s i : Int), 0 ≤ i → n - i ≤ d → d < k →
    ∃ r, bits_Count.l0 k l s n i = some r ∧ bollardref05_Count.l0 k l s n i = some r := by
  induction d with
  | zero =>
    intro k s i hi hd hk
    obtain ⟨k, rfl⟩ : ∃ m, k = m + 1 := ⟨k - 1, by omega⟩
    refine ⟨s, ?_, ?_⟩
    · simp only [bits_Count.l0]; rw [if_neg (by omega)]
    · simp only [bollardref05_Count.l0]; rw [if_neg (by omega)]
  | succ d ih =>
    intro k s i hi hd hk
    obtain ⟨k, rfl⟩ : ∃ m, k = m + 1 := ⟨k - 1, by omega⟩
    simp only [bits_Count.l0, bollardref05_Count.l0]
    by_cases hlt : i < n
    · have hw : wrap64 (i + 1) = i + 1 := by unfold wrap64; omega
      obtain ⟨b, hb⟩ := has_some l i (by omega)
      rw [if_pos hlt, if_pos hlt, ← has_same h, hb, hw]
      simp only [Option.bind_some]
      cases b
      · simp only [Bool.false_eq_true, if_false]
        exact ih k s (i + 1) (by omega) (by omega) (by omega)
      · simp only [if_true]
        exact ih k _ (i + 1) (by omega) (by omega) (by omega)
    · rw [if_neg hlt, if_neg hlt]
      exact ⟨s, rfl, rfl⟩

/-- The search, going round: from the i-th look on. -/
theorem first_l (l : List Int) (h : ∀ x ∈ l, (Lit.int .u8 x).wf = true) (n f : Int) (hn : n ≤ 65536) (hf : 0 ≤ f) (hfn : f < n ∨ n = 0) (hf2 : f ≤ 65536) (d : Nat) : ∀ (k : Nat) (i : Int), 0 ≤ i → n - i ≤ d → d < k →
    ∃ r, bits_First.l0 k l n f n i = some r ∧ bollardref05_First.l0 k l n f n i = some r := by
  induction d with
  | zero =>
    intro k i hi hd hk
    obtain ⟨k, rfl⟩ : ∃ m, k = m + 1 := ⟨k - 1, by omega⟩
    refine ⟨(0, false), ?_, ?_⟩
    · simp only [bits_First.l0]; rw [if_neg (by omega)]
    · simp only [bollardref05_First.l0]; rw [if_neg (by omega)]
  | succ d ih =>
    intro k i hi hd hk
    obtain ⟨k, rfl⟩ : ∃ m, k = m + 1 := ⟨k - 1, by omega⟩
    simp only [bits_First.l0, bollardref05_First.l0]
    by_cases hlt : i < n
    · have hw : wrap64 (i + 1) = i + 1 := by unfold wrap64; omega
      have hs : wrap64 (f + i) = f + i := by unfold wrap64; omega
      have hz : ¬ n = 0 := by omega
      rw [if_pos hlt, if_pos hlt, if_neg hz, hs, hw]
      have hm : Int.tmod (f + i) n = if f + i ≥ n then f + i - n else f + i := by
        rw [Int.tmod_eq_emod_of_nonneg (by omega)]
        split
        · rw [show f + i = (f + i - n) + n from by omega, Int.add_emod_right, Int.emod_eq_of_lt (by omega) (by omega)]; omega
        · rw [Int.emod_eq_of_lt (by omega) (by omega)]
      rw [hm]
      by_cases hge : f + i ≥ n
      · have hs2 : wrap64 (f + i - n) = f + i - n := by unfold wrap64; omega
        obtain ⟨b, hb⟩ := has_some l (f + i - n) (by omega)
        rw [if_pos hge, if_pos hge, hs2, ← has_same h, hb]
        simp only [Option.bind_some]
        cases b
        · simp only [Bool.false_eq_true, if_false]
          exact ⟨_, rfl, rfl⟩
        · simp only [if_true]
          exact ih k (i + 1) (by omega) (by omega) (by omega)
      · obtain ⟨b, hb⟩ := has_some l (f + i) (by omega)
        rw [if_neg hge, if_neg hge, ← has_same h, hb]
        simp only [Option.bind_some]
        cases b
        · simp only [Bool.false_eq_true, if_false]
          exact ⟨_, rfl, rfl⟩
        · simp only [if_true]
          exact ih k (i + 1) (by omega) (by omega) (by omega)
    · rw [if_neg hlt, if_neg hlt]
      exact ⟨_, rfl, rfl⟩

theorem first_f (l : List Int) (h : ∀ x ∈ l, (Lit.int .u8 x).wf = true) (n f : Int) :
    ∃ r, bits_First.f 65540 l n f = some r ∧ bollardref05_First.f 65540 l n f = some r := by
  obtain ⟨m, hm, hm', h0, h1⟩ := many_bd n
  unfold bits_First.f bollardref05_First.f
  rw [hm, hm']
  simp only [Option.bind_some]
  have z : ∀ g : Int, 0 ≤ g → (g < m ∨ m = 0) → g ≤ 65536 → ∃ r, bits_First.l0 65538 l m g m 0 = some r ∧ bollardref05_First.l0 65538 l m g m 0 = some r :=
    fun g a b c => first_l l h m g h1 a b c 65537 65538 0 (by omega) (by omega) (by omega)
  by_cases hf : f < 0
  · rw [if_pos hf, if_pos hf]
    exact z 0 (by omega) (by omega) (by omega)
  · rw [if_neg hf, if_neg hf]
    by_cases hg : f ≥ m
    · rw [decide_eq_true hg]
      exact z 0 (by omega) (by omega) (by omega)
    · rw [decide_eq_false hg]
      exact z f (by omega) (by omega) (by omega)

theorem BitsCounts : bollardlaw05_BitsCounts.Pure := by
  intro l n f _ _ h _ _
  refine ⟨65540, ?_⟩
  unfold bollardlaw05_BitsCounts.f
  obtain ⟨r, hr, hr'⟩ := first_f l h n f
  obtain ⟨m, hm, hm', h0, h1⟩ := many_bd n
  obtain ⟨s, hs, hs'⟩ := count_l l h m h1 65539 65540 0 0 (by omega) (by omega) (by omega)
  rw [hr, hr']
  simp only [Option.bind_some, if_true, beq_self_eq_true]
  unfold bits_Count.f bollardref05_Count.f
  rw [hm, hm']
  simp only [Option.bind_some]
  rw [hs, hs']
  simp

end Go.Proofs.Ytpfiladhmcdjlaa.Pure
