/- Superblocks, inodes and entries as bytes: plain functions; what LayoutBack needs. -/
import Derived.Test.YtdaeanodgnmknaaTw
import Derived.Test.YtdaeanodgnmknaaXLayoutBackx5
namespace Go.Proofs.Ytdaeanodgnmknaa.Bi
open Go.RowKit Go.Proofs.Ytdaeanodgnmknaa.Rd Go.Proofs.Ytdaeanodgnmknaa.XLayoutBack Go.Proofs.YtdaeanodgnmknaaW.PrintWords Go.Proofs.YtdaeanodgnmknaaW.PrintLast
set_option linter.unusedVariables false
set_option linter.unusedSimpArgs false

theorem there_f (l : List Int) (hl : l.length ≤ 140737488351232) (a w : Int) (ha : (Lit.int .i64 a).wf = true) (hw : (Lit.int .i64 w).wf = true) (k : Nat) :
    word_there.f (k + 1) l a w = some (if w < 1 ∨ 4 < w ∨ a < 0 then 1 else if (l.length : Int) - w < a then 10 else 0) := by
  have hb := i64_bd ha
  unfold word_there.f
  simp only [word_there.j0, if_true]
  by_cases h1 : w < 1
  · rw [if_pos h1, if_pos (.inl h1)]
  · rw [if_neg h1]
    by_cases h2 : w > 4
    · rw [if_pos h2, if_pos (.inr (.inl h2))]
    · rw [if_neg h2]
      by_cases h3 : a < 0
      · rw [decide_eq_true h3, if_pos rfl, if_pos (by omega)]
      · rw [decide_eq_false h3]
        simp only [Bool.false_eq_true, if_false]
        have e : wrap64 ((l.length : Int) - a) = (l.length : Int) - a := by unfold wrap64; omega
        rw [e, if_neg (show ¬ (w < 1 ∨ 4 < w ∨ a < 0) by omega)]
        by_cases h4 : a > (l.length : Int)
        · rw [if_pos h4, if_pos (by omega)]
        · rw [if_neg h4]
          by_cases h5 : w > (l.length : Int) - a
          · rw [if_pos h5, if_pos (by omega)]
          · rw [if_neg h5, if_neg (by omega)]

theorem get_l (l : List Int) (h : ∀ x ∈ l, (Lit.int .u8 x).wf = true) (hl : l.length ≤ 140737488351232) (a w : Nat) (hw : w ≤ 4) (haw : a + w ≤ l.length) (d : Nat) :
    ∀ (k i : Nat) (acc : Int), i + d = w → d < k → 0 ≤ acc → acc < 256 ^ i → word_Get.l0 k l (a : Int) acc (w : Int) (i : Int) = some (acc + 256 ^ i * le ((l.drop (a + i)).take d), 0) := by
  induction d with
  | zero =>
    intro k i acc hi hk h0 h1
    obtain ⟨k, rfl⟩ : ∃ m, k = m + 1 := ⟨k - 1, by omega⟩
    simp only [word_Get.l0]
    rw [if_neg (by omega)]
    simp [le]
  | succ d ih =>
    intro k i acc hi hk h0 h1
    obtain ⟨k, rfl⟩ : ∃ m, k = m + 1 := ⟨k - 1, by omega⟩
    simp only [word_Get.l0]
    obtain ⟨b0, b1⟩ := rd_u8 h ((a + i : Nat) : Int)
    obtain ⟨p1, p0⟩ := pow_le4 i (by omega)
    rw [if_pos (by omega), w_add a i (by omega), if_pos (by omega), if_pos (by omega), w_mul8 i (by omega), if_pos (by omega), w_succ i (by omega), w_small _ (by omega) (by omega), shl_le i (by omega) b0 b1, or_add (by omega) h0 h1 b0 b1]
    obtain ⟨q0, q2, q1⟩ := mul_bd b0 b1 p0 p1
    have hb : 0 ≤ acc + rd l ((a + i : Nat) : Int) * 256 ^ i := Int.add_nonneg h0 q0
    have hc : acc + rd l ((a + i : Nat) : Int) * 256 ^ i < 256 ^ (i + 1) := by
      rw [Int.pow_succ]
      generalize (256 : Int) ^ i = p at *
      generalize rd l ((a + i : Nat) : Int) * p = q at *
      omega
    rw [ih k (i + 1) _ (by omega) (by omega) hb hc, drop_cons l (a + i) d (by omega)]
    simp only [le, Int.pow_succ, Int.mul_add]
    rw [show a + (i + 1) = a + i + 1 from rfl, Int.mul_assoc, Int.mul_comm (rd l _) (256 ^ i), Int.add_assoc]

theorem get_f (l : List Int) (h : ∀ x ∈ l, (Lit.int .u8 x).wf = true) (hl : l.length ≤ 140737488351232) (a w : Int) (ha : (Lit.int .i64 a).wf = true) (hw : (Lit.int .i64 w).wf = true) (k : Nat) (hk : 6 ≤ k) :
    word_Get.f k l a w = some (getS l a w) := by
  obtain ⟨k, rfl⟩ : ∃ m, k = m + 1 := ⟨k - 1, by omega⟩
  unfold word_Get.f getS
  rw [there_f l hl a w ha hw k]
  simp only [Option.bind_some]
  by_cases h1 : w < 1 ∨ 4 < w ∨ a < 0
  · rw [if_pos h1, if_pos h1, if_neg (by omega)]
  · rw [if_neg h1, if_neg h1]
    by_cases h2 : (l.length : Int) - w < a
    · rw [if_pos h2, if_pos h2, if_neg (by omega)]
    · rw [if_neg h2, if_neg h2, if_pos rfl]
      obtain ⟨a', rfl⟩ := Int.eq_ofNat_of_zero_le (show 0 ≤ a by omega)
      obtain ⟨w', rfl⟩ := Int.eq_ofNat_of_zero_le (show 0 ≤ w by omega)
      have := get_l l h hl a' w' (by omega) (by omega) w' (k + 1) 0 0 (by omega) (by omega) (by omega) (by decide)
      simpa using this

theorem put_l (a w : Nat) (n : Int) (hn : 0 ≤ n) (hw : w ≤ 4) (d : Nat) :
    ∀ (k i : Nat) (x : List Int), x.length ≤ 140737488351232 → a + w ≤ x.length → i + d = w → d < k → word_Put.l0 k (a : Int) n x (w : Int) (i : Int) = some (putL d x (a + i) (n / 256 ^ i), 0) := by
  induction d with
  | zero =>
    intro k i x hl haw hi hk
    obtain ⟨k, rfl⟩ : ∃ m, k = m + 1 := ⟨k - 1, by omega⟩
    simp only [word_Put.l0]
    rw [if_neg (by omega)]
    simp [putL]
  | succ d ih =>
    intro k i x hl haw hi hk
    obtain ⟨k, rfl⟩ : ∃ m, k = m + 1 := ⟨k - 1, by omega⟩
    simp only [word_Put.l0]
    rw [if_pos (by omega), w_add a i (by omega), w_mul8 i (by omega), if_pos (by omega), if_pos (by omega), if_pos (by omega), w_succ i (by omega), shr_le n i (by omega)]
    rw [ih k (i + 1) _ (by simpa using hl) (by simpa using haw) (by omega) (by omega)]
    simp only [putL]
    obtain ⟨_, p0⟩ := pow_le4 i (by omega)
    rw [Int.pow_succ, ← Int.ediv_ediv_of_nonneg (Int.le_trans (by decide) p0), show (((a + i : Nat) : Int)).toNat = a + i by omega, show a + (i + 1) = a + i + 1 from rfl]

theorem shr_zero (n : Int) (w : Nat) (hw : w ≤ 4) (hn : 0 ≤ n) : ((shr .i64 n ((8 * w : Nat) : Int)) != 0) = decide (256 ^ w ≤ n) := by
  obtain ⟨_, p0⟩ := pow_le4 w hw
  rw [shr_le n w hw]
  generalize (256 : Int) ^ w = p at *
  by_cases h : p ≤ n
  · rw [decide_eq_true h, bne_iff_ne]
    have := (Int.le_ediv_iff_mul_le (a := 1) (b := n) (c := p) (by omega)).2 (by omega)
    omega
  · rw [decide_eq_false h, Int.ediv_eq_zero_of_lt hn (by omega)]
    rfl

theorem putS_arg {l : List Int} {a w n : Int} (h : w < 1 ∨ 4 < w ∨ a < 0 ∨ n < 0 ∨ 256 ^ w.toNat ≤ n) : putS l a w n = ([], 1) := by
  unfold putS; rw [if_pos h]
theorem putS_past {l : List Int} {a w n : Int} (h : ¬ (w < 1 ∨ 4 < w ∨ a < 0 ∨ n < 0 ∨ 256 ^ w.toNat ≤ n)) (h2 : (l.length : Int) - w < a) : putS l a w n = ([], 10) := by
  unfold putS; rw [if_neg h, if_pos h2]
theorem putS_ok {l : List Int} {a w n : Int} (h : ¬ (w < 1 ∨ 4 < w ∨ a < 0 ∨ n < 0 ∨ 256 ^ w.toNat ≤ n)) (h2 : ¬ (l.length : Int) - w < a) : putS l a w n = (putL w.toNat l a.toNat n, 0) := by
  unfold putS; rw [if_neg h, if_neg h2]

theorem put_f (l : List Int) (hl : l.length ≤ 140737488351232) (a w n : Int) (ha : (Lit.int .i64 a).wf = true) (hw : (Lit.int .i64 w).wf = true) (k : Nat) (hk : 9 ≤ k) :
    word_Put.f k l a w n = some (putS l a w n) := by
  have hb := i64_bd hw
  obtain ⟨k, rfl⟩ : ∃ m, k = m + 3 := ⟨k - 3, by omega⟩
  unfold word_Put.f
  rw [there_f l hl a w ha hw (k + 2)]
  simp only [Option.bind_some]
  by_cases h1 : w < 1 ∨ 4 < w ∨ a < 0
  · rw [if_pos h1, if_pos rfl, putS_arg (by rcases h1 with h | h | h <;> simp [h])]
    simp [word_Put.j0, word_Put.j1]
  · rw [if_neg h1]
    have ne1 : ¬ (if (l.length : Int) - w < a then (10 : Int) else 0) = 1 := by split <;> omega
    rw [if_neg ne1]
    by_cases h3 : n < 0
    · rw [if_pos h3, putS_arg (by simp [h3])]
      simp [word_Put.j0, word_Put.j1]
    · rw [if_neg h3]
      obtain ⟨a', rfl⟩ := Int.eq_ofNat_of_zero_le (show 0 ≤ a by omega)
      obtain ⟨w', rfl⟩ := Int.eq_ofNat_of_zero_le (show 0 ≤ w by omega)
      rw [w_mul8 w' (by omega), if_pos (show 0 ≤ ((8 * w' : Nat) : Int) by omega), shr_zero n w' (by omega) (by omega)]
      by_cases h4 : 256 ^ w' ≤ n
      · rw [decide_eq_true h4, putS_arg (by simp [h4])]
        simp [word_Put.j0, word_Put.j1]
      · have hno : ¬ ((w' : Int) < 1 ∨ 4 < (w' : Int) ∨ (a' : Int) < 0 ∨ n < 0 ∨ 256 ^ ((w' : Int)).toNat ≤ n) := by
          rintro (h | h | h | h | h)
          · exact h1 (.inl h)
          · exact h1 (.inr (.inl h))
          · exact h1 (.inr (.inr h))
          · exact h3 h
          · exact h4 h
        rw [decide_eq_false h4]
        simp only [word_Put.j0, Bool.false_eq_true, if_false, word_Put.j1]
        by_cases h2 : (l.length : Int) - (w' : Int) < (a' : Int)
        · rw [if_pos h2, putS_past hno h2, if_neg (show ¬ (10 : Int) = 0 by decide)]
        · rw [if_neg h2, if_pos rfl, putS_ok hno h2, if_pos (show ([] : List Int).length + l.length < 140737488355328 by simp; omega)]
          have := put_l a' w' n (by omega) (by omega) w' (k + 1) 0 l hl (by omega) (by omega) (by omega)
          simpa using this

theorem rput_l (a w : Nat) (hw : w ≤ 4) (d : Nat) :
    ∀ (k i : Nat) (n : Int) (x : List Int), 0 ≤ n → n ≤ 9223372036854775807 → x.length ≤ 140737488351232 → a + w ≤ x.length → i + d = w → d < k → bollardref01_Put.l0 k (a : Int) n x (w : Int) (i : Int) = some (putL d x (a + i) n, 0) := by
  induction d with
  | zero =>
    intro k i n x _ _ hl haw hi hk
    obtain ⟨k, rfl⟩ : ∃ m, k = m + 1 := ⟨k - 1, by omega⟩
    simp only [bollardref01_Put.l0]
    rw [if_neg (by omega)]
    simp [putL]
  | succ d ih =>
    intro k i n x hn hn2 hl haw hi hk
    obtain ⟨k, rfl⟩ : ∃ m, k = m + 1 := ⟨k - 1, by omega⟩
    simp only [bollardref01_Put.l0]
    rw [if_pos (by omega), w_add a i (by omega), if_pos (by omega), if_pos (by omega), w_succ i (by omega), Int.tdiv_eq_ediv_of_nonneg hn, Int.tmod_eq_emod_of_nonneg hn, w_small (n / 256) (by omega) (by omega), show n % 256 % 256 = n % 256 by omega]
    rw [ih k (i + 1) _ _ (by omega) (by omega) (by simpa using hl) (by simpa using haw) (by omega) (by omega)]
    simp only [putL]
    rw [show (((a + i : Nat) : Int)).toNat = a + i by omega, show a + (i + 1) = a + i + 1 from rfl]

theorem rput_f (l : List Int) (hl : l.length ≤ 140737488351232) (a w n : Int) (ha : (Lit.int .i64 a).wf = true) (hw : (Lit.int .i64 w).wf = true) (hn : (Lit.int .i64 n).wf = true) (k : Nat) (hk : 8 ≤ k) :
    bollardref01_Put.f k l a w n = some (putS l a w n) := by
  have hb := i64_bd hw
  have hc := i64_bd hn
  obtain ⟨k, rfl⟩ : ∃ m, k = m + 1 := ⟨k - 1, by omega⟩
  unfold bollardref01_Put.f
  simp only [bollardref01_Put.j0, if_true]
  by_cases h1 : w < 1
  · rw [if_pos h1, putS_arg (.inl h1)]
  · rw [if_neg h1]
    by_cases h2 : w > 4
    · rw [if_pos h2, putS_arg (.inr (.inl h2))]
    · rw [if_neg h2]
      by_cases h3 : a < 0
      · rw [if_pos h3, putS_arg (.inr (.inr (.inl h3)))]
      · rw [if_neg h3]
        by_cases h4 : n < 0
        · rw [if_pos h4, putS_arg (.inr (.inr (.inr (.inl h4))))]
        · rw [if_neg h4]
          obtain ⟨a', rfl⟩ := Int.eq_ofNat_of_zero_le (show 0 ≤ a by omega)
          obtain ⟨w', rfl⟩ := Int.eq_ofNat_of_zero_le (show 0 ≤ w by omega)
          have es : shl .i64 1 ((8 * w' : Nat) : Int) = 256 ^ w' := by
            rw [shl_le w' (by omega) (by decide) (by decide), Int.one_mul]
          rw [w_mul8 w' (by omega), if_pos (show 0 ≤ ((8 * w' : Nat) : Int) by omega), es]
          clear es
          by_cases h5 : n ≥ 256 ^ w'
          · rw [decide_eq_true h5, if_pos rfl, putS_arg (.inr (.inr (.inr (.inr h5))))]
          · rw [decide_eq_false h5]
            have hno : ¬ ((w' : Int) < 1 ∨ 4 < (w' : Int) ∨ (a' : Int) < 0 ∨ n < 0 ∨ 256 ^ ((w' : Int)).toNat ≤ n) := by
              rintro (h | h | h | h | h)
              · exact h1 h
              · exact h2 h
              · exact h3 h
              · exact h4 h
              · exact h5 h
            simp only [Bool.false_eq_true, if_false]
            clear h5
            rw [w_small ((l.length : Int) - (w' : Int)) (by omega) (by omega)]
            by_cases h6 : (a' : Int) > (l.length : Int) - (w' : Int)
            · rw [if_pos h6, putS_past hno h6]
            · rw [if_neg h6, putS_ok hno h6]
              simp only [Option.bind_some, List.length_nil, List.nil_append]
              rw [if_pos (show 0 + l.length < 140737488355328 by omega)]
              have := rput_l a' w' (by omega) w' k 0 n l (by omega) (by omega) hl (by omega) (by omega) (by omega)
              simpa using this

/-- The two parts of the check sum, behind some more bytes. -/
def adl : List Int → Int × Int → Int × Int
  | [], s => s
  | c :: t, s => adl t ((s.1 + c) % 65521, (s.2 + (s.1 + c) % 65521) % 65521)

def sumS (l : List Int) : Int := (adl l (1, 0)).2 * 65536 + (adl l (1, 0)).1

theorem adl_bd (l : List Int) : ∀ s : Int × Int, 0 ≤ s.1 → s.1 < 65521 → 0 ≤ s.2 → s.2 < 65521 → 0 ≤ (adl l s).1 ∧ (adl l s).1 < 65521 ∧ 0 ≤ (adl l s).2 ∧ (adl l s).2 < 65521 := by
  induction l with
  | nil => intro s a b c d; exact ⟨a, b, c, d⟩
  | cons x t ih => intro s a b c d; simp only [adl]; exact ih _ (by simp only; omega) (by simp only; omega) (by simp only; omega) (by simp only; omega)

theorem sumS_bd (l : List Int) : 0 ≤ sumS l ∧ sumS l < 4294967296 := by
  obtain ⟨a, b, c, d⟩ := adl_bd l (1, 0) (by decide) (by decide) (by decide) (by decide)
  unfold sumS
  omega

def sealS (l : List Int) : List Int × Int := if l.length < 4 then ([], 10) else (putL 4 l (l.length - 4) (sumS (l.take (l.length - 4))), 0)

def sealedS (l : List Int) : Bool := decide (4 ≤ l.length) && (le (l.drop (l.length - 4)) == sumS (l.take (l.length - 4)))

theorem getS_end {l : List Int} (h : 4 ≤ l.length) : getS l ((l.length - 4 : Nat) : Int) 4 = (le (l.drop (l.length - 4)), 0) := by
  unfold getS
  rw [if_neg (by omega), if_neg (by omega)]
  have e : (l.drop (((l.length - 4 : Nat) : Int)).toNat).take ((4 : Int)).toNat = l.drop (l.length - 4) := by
    rw [Int.toNat_natCast]
    exact List.take_of_length_le (by simp; omega)
  rw [e]

theorem sum_l (l : List Int) (h : ∀ x ∈ l, (Lit.int .u8 x).wf = true) (hl : l.length ≤ 140737488351232) (d : Nat) :
    ∀ (k i : Nat) (x y : Int), i + d = l.length → d < k → 0 ≤ x → x < 65521 → 0 ≤ y → y < 65521 →
    word_Sum.l0 k x y l (l.length : Int) (i : Int) = some ((adl (l.drop i) (x, y)).2 * 65536 + (adl (l.drop i) (x, y)).1) := by
  induction d with
  | zero =>
    intro k i x y hi hk a b c e
    obtain ⟨k, rfl⟩ : ∃ m, k = m + 1 := ⟨k - 1, by omega⟩
    simp only [word_Sum.l0]
    rw [if_neg (by omega), List.drop_of_length_le (by omega)]
    simp only [adl]
    rw [w_small (y * 65536) (by omega) (by omega), w_small (y * 65536 + x) (by omega) (by omega)]
  | succ d ih =>
    intro k i x y hi hk a b c e
    obtain ⟨k, rfl⟩ : ∃ m, k = m + 1 := ⟨k - 1, by omega⟩
    simp only [word_Sum.l0]
    obtain ⟨b0, b1⟩ := rd_u8 h (i : Int)
    have e1 : wrap64 (x + wrap64 (rd l (i : Int))) = x + rd l (i : Int) := by rw [w_small (rd l (i : Int)) (by omega) (by omega), w_small (x + rd l (i : Int)) (by omega) (by omega)]
    rw [if_pos (by omega), if_pos (by omega), if_pos (by omega), w_succ i (by omega), e1, Int.tmod_eq_emod_of_nonneg (show 0 ≤ x + rd l (i : Int) by omega)]
    have m0 := Int.emod_nonneg (x + rd l (i : Int)) (show (65521 : Int) ≠ 0 by decide)
    have m1 := Int.emod_lt_of_pos (x + rd l (i : Int)) (show (0 : Int) < 65521 by decide)
    rw [w_small (y + (x + rd l (i : Int)) % 65521) (by omega) (by omega), Int.tmod_eq_emod_of_nonneg (show 0 ≤ y + (x + rd l (i : Int)) % 65521 by omega)]
    rw [ih k (i + 1) _ _ (by omega) (by omega) m0 m1 (Int.emod_nonneg _ (by decide)) (Int.emod_lt_of_pos _ (by decide))]
    rw [List.drop_eq_getElem_cons (show i < l.length by omega)]
    have hr : rd l (i : Int) = l[i]'(by omega) := by
      unfold rd
      rw [Int.toNat_natCast, List.getD_eq_getElem?_getD, List.getElem?_eq_getElem (show i < l.length by omega)]
      rfl
    rw [hr]
    simp only [adl]

theorem sum_f (l : List Int) (h : ∀ x ∈ l, (Lit.int .u8 x).wf = true) (hl : l.length ≤ 140737488351232) (k : Nat) (hk : l.length < k) : word_Sum.f k l = some (sumS l) := by
  unfold word_Sum.f sumS
  have := sum_l l h hl l.length k 0 1 0 (by omega) hk (by decide) (by decide) (by decide) (by decide)
  simpa using this

theorem seal_f (l : List Int) (h : ∀ x ∈ l, (Lit.int .u8 x).wf = true) (hl : l.length ≤ 140737488351232) (k : Nat) (hk : l.length + 9 ≤ k) : word_Seal.f k l = some (sealS l) := by
  unfold word_Seal.f sealS
  rw [w_small ((l.length : Int) - 4) (by omega) (by omega)]
  by_cases h4 : l.length < 4
  · rw [if_pos (show (l.length : Int) - 4 < 0 by omega), if_pos h4]
  · have e : (l.length : Int) - 4 = ((l.length - 4 : Nat) : Int) := by omega
    obtain ⟨s0, s1⟩ := sumS_bd (l.take (l.length - 4))
    rw [if_neg (show ¬ (l.length : Int) - 4 < 0 by omega), if_neg h4, if_pos (show 0 ≤ (l.length : Int) - 4 by omega), if_pos (show (l.length : Int) - 4 ≤ (l.length : Int) by omega), e, Int.toNat_natCast]
    rw [sum_f (l.take (l.length - 4)) (fun x hx => h x (List.mem_of_mem_take hx)) (by simp; omega) k (by simp; omega)]
    simp only [Option.bind_some]
    rw [put_f l hl _ 4 _ (by rw [← e]; simp [Lit.wf, IntKind.min, IntKind.max, IntKind.bits, IntKind.signed]; omega) (by decide) k (by omega)]
    have hno : ¬ ((4 : Int) < 1 ∨ 4 < (4 : Int) ∨ ((l.length - 4 : Nat) : Int) < 0 ∨ sumS (l.take (l.length - 4)) < 0 ∨ 256 ^ ((4 : Int)).toNat ≤ sumS (l.take (l.length - 4))) := by
      have : (256 : Int) ^ ((4 : Int)).toNat = 4294967296 := by decide
      rw [this]
      omega
    rw [putS_ok hno (by omega)]
    simp

theorem sealed_f (l : List Int) (h : ∀ x ∈ l, (Lit.int .u8 x).wf = true) (hl : l.length ≤ 140737488351232) (k : Nat) (hk : l.length + 9 ≤ k) : word_Sealed.f k l = some (sealedS l) := by
  unfold word_Sealed.f sealedS
  rw [w_small ((l.length : Int) - 4) (by omega) (by omega)]
  by_cases h4 : l.length < 4
  · have e : mx ((l.length : Int) - 4) 0 = 0 := by unfold mx; rw [if_pos (by omega)]
    rw [e, get_f l h hl 0 4 (by decide) (by decide) k (by omega)]
    have g : getS l 0 4 = (0, 10) := by unfold getS; rw [if_neg (by decide), if_pos (by omega)]
    rw [g]
    simp only [Option.bind_some]
    rw [if_neg (by decide)]
    simp [show ¬ 4 ≤ l.length by omega]
  · have e : (l.length : Int) - 4 = ((l.length - 4 : Nat) : Int) := by omega
    have e2 : mx ((l.length : Int) - 4) 0 = ((l.length - 4 : Nat) : Int) := by unfold mx; rw [if_neg (by omega)]; exact e
    rw [e2, get_f l h hl _ 4 (by rw [← e]; simp [Lit.wf, IntKind.min, IntKind.max, IntKind.bits, IntKind.signed]; omega) (by decide) k (by omega), getS_end (by omega)]
    simp only [Option.bind_some]
    rw [if_pos trivial, if_pos (show 0 ≤ (l.length : Int) - 4 by omega), if_pos (show (l.length : Int) - 4 ≤ (l.length : Int) by omega), e, Int.toNat_natCast]
    rw [sum_f (l.take (l.length - 4)) (fun x hx => h x (List.mem_of_mem_take hx)) (by simp; omega) k (by simp; omega)]
    simp [show 4 ≤ l.length by omega]

theorem rsum_l (l : List Int) (h : ∀ x ∈ l, (Lit.int .u8 x).wf = true) (hl : l.length ≤ 140737488351232) (d : Nat) :
    ∀ (k i : Nat) (x y : Int), i + d = l.length → d < k → 0 ≤ x → x < 65521 → 0 ≤ y → y < 65521 →
    bollardref01_Sum.l0 k x y l (l.length : Int) (i : Int) = some ((adl (l.drop i) (x, y)).2 * 65536 + (adl (l.drop i) (x, y)).1) := by
  induction d with
  | zero =>
    intro k i x y hi hk a b c e
    obtain ⟨k, rfl⟩ : ∃ m, k = m + 1 := ⟨k - 1, by omega⟩
    simp only [bollardref01_Sum.l0]
    rw [if_neg (by omega), List.drop_of_length_le (by omega)]
    simp only [adl]
    rw [w_small (y * 65536) (by omega) (by omega), w_small (y * 65536 + x) (by omega) (by omega)]
  | succ d ih =>
    intro k i x y hi hk a b c e
    obtain ⟨k, rfl⟩ : ∃ m, k = m + 1 := ⟨k - 1, by omega⟩
    simp only [bollardref01_Sum.l0]
    obtain ⟨b0, b1⟩ := rd_u8 h (i : Int)
    have e1 : wrap64 (x + wrap64 (rd l (i : Int))) = x + rd l (i : Int) := by rw [w_small (rd l (i : Int)) (by omega) (by omega), w_small (x + rd l (i : Int)) (by omega) (by omega)]
    rw [if_pos (by omega), if_pos (by omega), if_pos (by omega), w_succ i (by omega), e1, Int.tmod_eq_emod_of_nonneg (show 0 ≤ x + rd l (i : Int) by omega)]
    have m0 := Int.emod_nonneg (x + rd l (i : Int)) (show (65521 : Int) ≠ 0 by decide)
    have m1 := Int.emod_lt_of_pos (x + rd l (i : Int)) (show (0 : Int) < 65521 by decide)
    rw [w_small (y + (x + rd l (i : Int)) % 65521) (by omega) (by omega), Int.tmod_eq_emod_of_nonneg (show 0 ≤ y + (x + rd l (i : Int)) % 65521 by omega)]
    rw [ih k (i + 1) _ _ (by omega) (by omega) m0 m1 (Int.emod_nonneg _ (by decide)) (Int.emod_lt_of_pos _ (by decide))]
    rw [List.drop_eq_getElem_cons (show i < l.length by omega)]
    have hr : rd l (i : Int) = l[i]'(by omega) := by
      unfold rd
      rw [Int.toNat_natCast, List.getD_eq_getElem?_getD, List.getElem?_eq_getElem (show i < l.length by omega)]
      rfl
    rw [hr]
    simp only [adl]

theorem rsum_f (l : List Int) (h : ∀ x ∈ l, (Lit.int .u8 x).wf = true) (hl : l.length ≤ 140737488351232) (k : Nat) (hk : l.length < k) : bollardref01_Sum.f k l = some (sumS l) := by
  unfold bollardref01_Sum.f sumS
  have := rsum_l l h hl l.length k 0 1 0 (by omega) hk (by decide) (by decide) (by decide) (by decide)
  simpa using this

theorem rseal_f (l : List Int) (h : ∀ x ∈ l, (Lit.int .u8 x).wf = true) (hl : l.length ≤ 140737488351232) (k : Nat) (hk : l.length + 9 ≤ k) : bollardref01_Seal.f k l = some (sealS l) := by
  unfold bollardref01_Seal.f sealS
  by_cases h4 : l.length < 4
  · rw [if_pos (show (l.length : Int) < 4 by omega), if_pos h4]
  · have e : (l.length : Int) - 4 = ((l.length - 4 : Nat) : Int) := by omega
    obtain ⟨s0, s1⟩ := sumS_bd (l.take (l.length - 4))
    rw [if_neg (show ¬ (l.length : Int) < 4 by omega), if_neg h4, w_small ((l.length : Int) - 4) (by omega) (by omega), if_pos (show 0 ≤ (l.length : Int) - 4 by omega), if_pos (show (l.length : Int) - 4 ≤ (l.length : Int) by omega), e, Int.toNat_natCast]
    rw [rsum_f (l.take (l.length - 4)) (fun x hx => h x (List.mem_of_mem_take hx)) (by simp; omega) k (by simp; omega)]
    simp only [Option.bind_some]
    rw [rput_f l hl _ 4 _ (by rw [← e]; simp [Lit.wf, IntKind.min, IntKind.max, IntKind.bits, IntKind.signed]; omega) (by decide) (by simp [Lit.wf, IntKind.min, IntKind.max, IntKind.bits, IntKind.signed]; omega) k (by omega)]
    have hno : ¬ ((4 : Int) < 1 ∨ 4 < (4 : Int) ∨ ((l.length - 4 : Nat) : Int) < 0 ∨ sumS (l.take (l.length - 4)) < 0 ∨ 256 ^ ((4 : Int)).toNat ≤ sumS (l.take (l.length - 4))) := by
      have : (256 : Int) ^ ((4 : Int)).toNat = 4294967296 := by decide
      rw [this]
      omega
    rw [putS_ok hno (by omega)]
    simp

theorem xor_u8 (a b : Nat) (ha : a < 256) (hb : b < 256) : Go.bits .xor .u8 (a : Int) (b : Int) = ((a ^^^ b : Nat) : Int) := by
  have ha' : a % 256 = a := Nat.mod_eq_of_lt ha
  have hb' : b % 256 = b := Nat.mod_eq_of_lt hb
  have hx : a ^^^ b < 2 ^ 8 := Nat.xor_lt_two_pow (n := 8) ha hb
  have e : IntKind.u8.bits = 8 := rfl
  simp only [bits, e, BitVec.ofInt_natCast, BitVec.toNat_xor, BitVec.toNat_ofNat]
  rw [show (2 : Nat) ^ 8 = 256 by decide, ha', hb']
  exact wraps_u8 _ (by omega) (by omega)

theorem xor_turn {x d : Int} (h0 : 0 ≤ x) (h1 : x ≤ 255) (d0 : 1 ≤ d) (d1 : d ≤ 255) : 0 ≤ Go.bits .xor .u8 x d ∧ Go.bits .xor .u8 x d ≤ 255 ∧ Go.bits .xor .u8 x d ≠ x := by
  obtain ⟨a, rfl⟩ := Int.eq_ofNat_of_zero_le h0
  obtain ⟨b, rfl⟩ := Int.eq_ofNat_of_zero_le (show 0 ≤ d by omega)
  rw [xor_u8 a b (by omega) (by omega)]
  have hx : a ^^^ b < 2 ^ 8 := Nat.xor_lt_two_pow (n := 8) (by omega) (by omega)
  refine ⟨by omega, by omega, fun h => ?_⟩
  have h2 : a ^^^ b = a := by omega
  have h3 : a ^^^ (a ^^^ b) = a ^^^ a := by rw [h2]
  rw [← Nat.xor_assoc, Nat.xor_self, Nat.zero_xor] at h3
  omega

theorem adl_fst (l : List Int) : ∀ s : Int × Int, 0 ≤ s.1 → s.1 < 65521 → (adl l s).1 = (s.1 + l.sum) % 65521 := by
  induction l with
  | nil => intro s a b; simp only [adl, List.sum_nil]; omega
  | cons x t ih =>
    intro s a b
    simp only [adl]
    rw [ih _ (by simp only; omega) (by simp only; omega)]
    simp only [List.sum_cons]
    omega

theorem sum_set (l : List Int) : ∀ (i : Nat) (v : Int) (h : i < l.length), (l.set i v).sum = l.sum + (v - l[i]) := by
  induction l with
  | nil => intro i v h; simp at h
  | cons x t ih =>
    intro i v h
    cases i with
    | zero => simp only [List.set_cons_zero, List.sum_cons, List.getElem_cons_zero]; omega
    | succ i =>
      simp only [List.set_cons_succ, List.sum_cons, List.getElem_cons_succ]
      rw [ih i v (by simpa using h)]
      omega

theorem le_set (l : List Int) : ∀ (i : Nat) (v : Int) (h : i < l.length), le (l.set i v) = le l + 256 ^ i * (v - l[i]) := by
  induction l with
  | nil => intro i v h; simp at h
  | cons x t ih =>
    intro i v h
    cases i with
    | zero => simp only [List.set_cons_zero, le, List.getElem_cons_zero, Int.pow_zero, Int.one_mul]; omega
    | succ i =>
      simp only [List.set_cons_succ, le, List.getElem_cons_succ]
      rw [ih i v (by simpa using h), Int.pow_succ, Int.mul_add, Int.mul_comm (256 ^ i) 256, Int.mul_assoc]
      omega

theorem sumS_set (l : List Int) (i : Nat) (v : Int) (h : i < l.length) (h0 : 0 ≤ l[i]) (h1 : l[i] ≤ 255) (v0 : 0 ≤ v) (v1 : v ≤ 255) (hne : v ≠ l[i]) : sumS (l.set i v) ≠ sumS l := by
  intro e
  unfold sumS at e
  obtain ⟨a, b, _, _⟩ := adl_bd (l.set i v) (1, 0) (by decide) (by decide) (by decide) (by decide)
  obtain ⟨a', b', _, _⟩ := adl_bd l (1, 0) (by decide) (by decide) (by decide) (by decide)
  have f1 := adl_fst (l.set i v) (1, 0) (by decide) (by decide)
  have f2 := adl_fst l (1, 0) (by decide) (by decide)
  rw [sum_set l i v h] at f1
  simp only at f1 f2
  omega

/-- A sealed row is sealed. -/
theorem sealed_seal (l : List Int) (h4 : 4 ≤ l.length) (x : List Int) (hx : x = putL 4 l (l.length - 4) (sumS (l.take (l.length - 4)))) : sealedS x = true := by
  obtain ⟨s0, s1⟩ := sumS_bd (l.take (l.length - 4))
  have hl : x.length = l.length := by rw [hx, putL_length]
  have he := putL_eq 4 l (l.length - 4) (sumS (l.take (l.length - 4))) (by omega)
  rw [← hx] at he
  have hta : (l.take (l.length - 4)).length = l.length - 4 := by simp
  have ht : x.take (l.length - 4) = l.take (l.length - 4) := by
    rw [he, List.append_assoc, List.take_append_of_le_length (by rw [hta]; exact Nat.le_refl _), List.take_of_length_le (by rw [hta]; exact Nat.le_refl _)]
  have hd : x.drop (l.length - 4) = leb 4 (sumS (l.take (l.length - 4))) := by
    rw [he, List.append_assoc, List.drop_append_of_le_length (by rw [hta]; exact Nat.le_refl _), List.drop_of_length_le (by rw [hta]; exact Nat.le_refl _), List.nil_append, List.drop_of_length_le (by omega), List.append_nil]
  unfold sealedS
  rw [hl, ht, hd, le_leb 4 _ s0 (by have : (256 : Int) ^ 4 = 4294967296 := by decide
                                    omega)]
  simp [h4]

/-- With one byte turned it is none any more. -/
theorem sealed_turn (x : List Int) (h : ∀ y ∈ x, (Lit.int .u8 y).wf = true) (h4 : 4 ≤ x.length) (hs : sealedS x = true) (i : Nat) (hi : i < x.length) (v : Int) (v0 : 0 ≤ v) (v1 : v ≤ 255) (hne : v ≠ x[i]) : sealedS (x.set i v) = false := by
  unfold sealedS at hs ⊢
  simp only [Bool.and_eq_true, decide_eq_true_eq, beq_iff_eq] at hs
  obtain ⟨_, hs⟩ := hs
  obtain ⟨c0, c1⟩ := u8_bd (h x[i] (List.getElem_mem hi))
  rw [List.length_set]
  by_cases hm : i < x.length - 4
  · have e1 : (x.set i v).drop (x.length - 4) = x.drop (x.length - 4) := List.drop_set_of_lt hm
    have e2 : (x.set i v).take (x.length - 4) = (x.take (x.length - 4)).set i v := by rw [List.take_set]
    rw [e1, e2, hs]
    have hk : i < (x.take (x.length - 4)).length := by simp; omega
    have hg : (x.take (x.length - 4))[i]'hk = x[i] := by simp
    have := sumS_set (x.take (x.length - 4)) i v hk (by rw [hg]; exact c0) (by rw [hg]; exact c1) v0 v1 (by rw [hg]; exact hne)
    simp only [Bool.and_eq_false_imp, beq_eq_false_iff_ne]
    exact fun _ e => this e.symm
  · have e1 : (x.set i v).take (x.length - 4) = x.take (x.length - 4) := List.take_set_of_le (by omega)
    have e2 : (x.set i v).drop (x.length - 4) = (x.drop (x.length - 4)).set (i - (x.length - 4)) v := by rw [List.drop_set, if_neg hm]
    rw [e1, e2]
    have hk : i - (x.length - 4) < (x.drop (x.length - 4)).length := by simp; omega
    have hg : (x.drop (x.length - 4))[i - (x.length - 4)]'hk = x[i] := by
      rw [List.getElem_drop]
      congr 1
      omega
    rw [le_set _ _ v hk, hg, hs]
    simp only [Bool.and_eq_false_imp, beq_eq_false_iff_ne]
    intro _ e
    have hp := (pow_le4 (i - (x.length - 4)) (by omega)).2
    have hz : 256 ^ (i - (x.length - 4)) * (v - x[i]) = 0 := by omega
    rcases Int.mul_eq_zero.1 hz with hz | hz
    · omega
    · omega

theorem leb_snoc (i : Nat) : ∀ n : Int, leb (i + 1) n = leb i n ++ [n / 256 ^ i % 256] := by
  induction i with
  | zero => intro n; simp [leb]
  | succ i ih =>
    intro n
    rw [leb, ih (n / 256), leb, List.cons_append, Int.pow_succ, Int.mul_comm, Int.ediv_ediv_of_nonneg (by decide)]

/-- The bytes of numbers, one behind another. -/
def flatF (l : List S71) : List Int := (l.map fun f => leb f.f0.toNat f.f2).flatten
theorem flatF_len (l : List S71) (h : ∀ f ∈ l, f.f0.toNat ≤ 4) : (flatF l).length ≤ 4 * l.length := by
  induction l with
  | nil => simp [flatF]
  | cons f t ih =>
    have h1 := h f (by simp)
    have h2 := ih (fun g hg => h g (by simp [hg]))
    simp only [flatF, List.map_cons, List.flatten_cons, List.length_append, leb_length, List.length_cons] at h2 ⊢
    omega
theorem rd_T71_get (l : List S71) (i : Nat) (h : i < l.length) : rd_T71 l (i : Int) = l[i] := by
  unfold rd_T71
  rw [Int.toNat_natCast, List.getD_eq_getElem?_getD, List.getElem?_eq_getElem h]
  rfl

theorem fields_l1 (x8 : List S71) (x9 x10 c0 c1 n : Int) (r : List Int) (w K : Nat) (hw : w ≤ 4) (x0 : List Int) (hl : x0.length + 4 < 140737488355328)
    (hfin : ∀ k, K ≤ k → layout_fields.l0 k (x0 ++ leb w n) x8 x9 (wrap64 (x10 + 1)) = some r) (d : Nat) :
    ∀ (i : Nat) (k : Nat), i + d = w → K + d + 1 ≤ k → layout_fields.l1 k (x0 ++ leb i n) x8 x9 x10 (w : Int) (i : Int) c0 c1 n = some r := by
  induction d with
  | zero =>
    intro i k hi hk
    obtain ⟨k, rfl⟩ : ∃ m, k = m + 1 := ⟨k - 1, by omega⟩
    obtain rfl : i = w := by omega
    simp only [layout_fields.l1]
    rw [if_neg (by omega)]
    exact hfin k (by omega)
  | succ d ih =>
    intro i k hi hk
    obtain ⟨k, rfl⟩ : ∃ m, k = m + 1 := ⟨k - 1, by omega⟩
    simp only [layout_fields.l1]
    rw [if_pos (by omega), w_mul8 i (by omega), if_pos (by omega), if_pos (by rw [List.length_append, leb_length]; omega), shr_le n i (by omega), w_succ i (by omega), List.append_assoc, ← leb_snoc]
    exact ih (i + 1) k (by omega) (by omega)

theorem fields_l0 (l : List S71) (h : ∀ f ∈ l, 0 ≤ f.f0 ∧ f.f0 ≤ 4) (hll : l.length ≤ 1000000) (d : Nat) :
    ∀ (i : Nat) (x0 : List Int) (k : Nat), i + d = l.length → x0.length ≤ 4 * i → 6 * d + 1 ≤ k → layout_fields.l0 k x0 l (l.length : Int) (i : Int) = some (x0 ++ flatF (l.drop i)) := by
  induction d with
  | zero =>
    intro i x0 k hi hx hk
    obtain ⟨k, rfl⟩ : ∃ m, k = m + 1 := ⟨k - 1, by omega⟩
    simp only [layout_fields.l0]
    rw [if_neg (by omega), List.drop_eq_nil_of_le (by omega)]
    simp [flatF]
  | succ d ih =>
    intro i x0 k hi hx hk
    obtain ⟨k, rfl⟩ : ∃ m, k = m + 1 := ⟨k - 1, by omega⟩
    have hlt : i < l.length := by omega
    obtain ⟨h1, h2⟩ := h l[i] (List.getElem_mem hlt)
    simp only [layout_fields.l0]
    rw [if_pos (by omega), if_pos (by omega), if_pos (by omega), rd_T71_get l i hlt]
    obtain ⟨w, hw⟩ := Int.eq_ofNat_of_zero_le h1
    rw [hw]
    have := fields_l1 l (l.length : Int) (i : Int) (w : Int) (l[i]).f1 (l[i]).f2 (x0 ++ flatF (l.drop i)) w (6 * d + 1) (by omega) x0 (by omega) ?_ w 0 k (by omega) (by omega)
    · simpa [leb] using this
    · intro k hk2
      rw [w_succ i (by omega), ih (i + 1) (x0 ++ leb w (l[i]).f2) k (by omega) (by rw [List.length_append, leb_length]; omega) hk2]
      rw [List.drop_eq_getElem_cons hlt]
      simp only [flatF, List.map_cons, List.flatten_cons, hw, Int.toNat_natCast, List.append_assoc]
theorem fields_f (l : List S71) (h : ∀ f ∈ l, 0 ≤ f.f0 ∧ f.f0 ≤ 4) (hll : l.length ≤ 1000000) (k : Nat) (hk : 6 * l.length + 1 ≤ k) : layout_fields.f k [] l = some (flatF l) := by
  unfold layout_fields.f
  have := fields_l0 l h hll l.length 0 [] k (by omega) (by simp) hk
  simpa using this

/-- Are all numbers what they may be? -/
def fitF (l : List S71) : Bool := l.all fun f => decide (0 ≤ f.f2) && decide (f.f2 ≤ f.f1)
theorem fit_l0 (l : List S71) (hll : l.length ≤ 1000000) (d : Nat) : ∀ (i k : Nat), i + d = l.length → d < k → layout_fit.l0 k l (l.length : Int) (i : Int) = some (fitF (l.drop i)) := by
  induction d with
  | zero =>
    intro i k hi hk
    obtain ⟨k, rfl⟩ : ∃ m, k = m + 1 := ⟨k - 1, by omega⟩
    simp only [layout_fit.l0]
    rw [if_neg (by omega), List.drop_eq_nil_of_le (by omega)]
    rfl
  | succ d ih =>
    intro i k hi hk
    obtain ⟨k, rfl⟩ : ∃ m, k = m + 1 := ⟨k - 1, by omega⟩
    have hlt : i < l.length := by omega
    simp only [layout_fit.l0]
    rw [if_pos (by omega), if_pos (by omega), if_pos (by omega), rd_T71_get l i hlt, List.drop_eq_getElem_cons hlt]
    unfold fitF
    rw [List.all_cons]
    by_cases h1 : (l[i]).f2 < 0
    · rw [if_pos h1, decide_eq_false (show ¬ 0 ≤ (l[i]).f2 by omega)]
      rfl
    · rw [if_neg h1, decide_eq_true (show 0 ≤ (l[i]).f2 by omega)]
      by_cases h2 : (l[i]).f2 > (l[i]).f1
      · rw [if_pos h2, decide_eq_false (show ¬ (l[i]).f2 ≤ (l[i]).f1 by omega)]
        rfl
      · rw [if_neg h2, decide_eq_true (show (l[i]).f2 ≤ (l[i]).f1 by omega), w_succ i (by omega), ih (i + 1) k (by omega) (by omega)]
        rfl
theorem fit_f (l : List S71) (hll : l.length ≤ 1000000) (k : Nat) (hk : l.length < k) : layout_fit.f k l = some (fitF l) := by
  unfold layout_fit.f
  have := fit_l0 l hll l.length 0 k (by omega) hk
  simpa using this

/-- The bytes of numbers behind bytes that are there. -/
theorem fields_on (l : List S71) (h : ∀ f ∈ l, 0 ≤ f.f0 ∧ f.f0 ≤ 4) (hll : l.length ≤ 1000000) (d : Nat) :
    ∀ (i : Nat) (x0 : List Int) (k : Nat), i + d = l.length → x0.length ≤ 4 * i + 1000 → 6 * d + 1 ≤ k → layout_fields.l0 k x0 l (l.length : Int) (i : Int) = some (x0 ++ flatF (l.drop i)) := by
  induction d with
  | zero =>
    intro i x0 k hi hx hk
    obtain ⟨k, rfl⟩ : ∃ m, k = m + 1 := ⟨k - 1, by omega⟩
    simp only [layout_fields.l0]
    rw [if_neg (by omega), List.drop_eq_nil_of_le (by omega)]
    simp [flatF]
  | succ d ih =>
    intro i x0 k hi hx hk
    obtain ⟨k, rfl⟩ : ∃ m, k = m + 1 := ⟨k - 1, by omega⟩
    have hlt : i < l.length := by omega
    obtain ⟨h1, h2⟩ := h l[i] (List.getElem_mem hlt)
    simp only [layout_fields.l0]
    rw [if_pos (by omega), if_pos (by omega), if_pos (by omega), rd_T71_get l i hlt]
    obtain ⟨w, hw⟩ := Int.eq_ofNat_of_zero_le h1
    rw [hw]
    have := fields_l1 l (l.length : Int) (i : Int) (w : Int) (l[i]).f1 (l[i]).f2 (x0 ++ flatF (l.drop i)) w (6 * d + 1) (by omega) x0 (by omega) ?_ w 0 k (by omega) (by omega)
    · simpa [leb] using this
    · intro k hk2
      rw [w_succ i (by omega), ih (i + 1) (x0 ++ leb w (l[i]).f2) k (by omega) (by rw [List.length_append, leb_length]; omega) hk2]
      rw [List.drop_eq_getElem_cons hlt]
      simp only [flatF, List.map_cons, List.flatten_cons, hw, Int.toNat_natCast, List.append_assoc]
theorem fields_of (x0 : List Int) (hx : x0.length ≤ 1000) (l : List S71) (h : ∀ f ∈ l, 0 ≤ f.f0 ∧ f.f0 ≤ 4) (hll : l.length ≤ 1000000) (k : Nat) (hk : 6 * l.length + 1 ≤ k) : layout_fields.f k x0 l = some (x0 ++ flatF l) := by
  unfold layout_fields.f
  exact fields_on l h hll l.length 0 x0 k (by omega) (by omega) hk
theorem rnumb_f (l : List Int) (hl : l.length ≤ 140737488351232) (a w n : Int) (h1 : 1 ≤ w) (h2 : w ≤ 4) (ha : 0 ≤ a) (ha2 : a + w ≤ l.length) (hn : 0 ≤ n) (hn2 : n < 256 ^ w.toNat) (hn3 : n ≤ 4294967295) (k : Nat) (hk : 8 ≤ k) : bollardref03_number.f k l a w n = some (putL w.toNat l a.toNat n) := by
  unfold bollardref03_number.f
  rw [rput_f l hl a w n (WalkArith.wf_i64 (by omega)) (WalkArith.wf_i64 (by omega)) (WalkArith.wf_i64 (by omega)) k hk, putS_ok (by rintro (h | h | h | h | h) <;> first | omega | exact absurd hn2 (Int.not_lt.mpr h)) (by omega)]
  rfl
def mayG (g b i : Int) : Bool := decide (1 ≤ g ∧ g ≤ 8 ∧ 8 ≤ b ∧ b ≤ 256 ∧ 4 ≤ i ∧ i ≤ 64 ∧ Int.tmod i 4 = 0 ∧ 3 + i / 4 ≤ b)
theorem may_in (g b i : Int) : (if g ≥ 1 then (if g ≤ 8 then (if b ≥ 8 then (if b ≤ 256 then (if i ≥ 4 then (if i ≤ 64 then (if (Int.tmod i 4) = 0 then (some (decide (b ≥ (wrap64 (3 + (wrap64 (Int.tdiv i 4))))))) else (some false)) else (some false)) else (some false)) else (some false)) else (some false)) else (some false)) else (some false)) = some (mayG g b i) := by
  unfold mayG
  by_cases h1 : g ≥ 1
  · rw [if_pos h1]
    by_cases h2 : g ≤ 8
    · rw [if_pos h2]
      by_cases h3 : b ≥ 8
      · rw [if_pos h3]
        by_cases h4 : b ≤ 256
        · rw [if_pos h4]
          by_cases h5 : i ≥ 4
          · rw [if_pos h5]
            by_cases h6 : i ≤ 64
            · rw [if_pos h6]
              by_cases h7 : Int.tmod i 4 = 0
              · rw [if_pos h7, Int.tdiv_eq_ediv_of_nonneg (by omega), w_small (i / 4) (by omega) (by omega), w_small (3 + i / 4) (by omega) (by omega)]
                congr 1
                rw [decide_eq_decide]
                exact ⟨fun h => ⟨h1, h2, h3, h4, h5, h6, h7, h⟩, fun h => h.2.2.2.2.2.2.2⟩
              · rw [if_neg h7, decide_eq_false (fun h => h7 h.2.2.2.2.2.2.1)]
            · rw [if_neg h6, decide_eq_false (fun h => h6 h.2.2.2.2.2.1)]
          · rw [if_neg h5, decide_eq_false (fun h => h5 h.2.2.2.2.1)]
        · rw [if_neg h4, decide_eq_false (fun h => h4 h.2.2.2.1)]
      · rw [if_neg h3, decide_eq_false (fun h => h3 h.2.2.1)]
    · rw [if_neg h2, decide_eq_false (fun h => h2 h.2.1)]
  · rw [if_neg h1, decide_eq_false (fun h => h1 h.1)]
theorem may_f (g b i : Int) : layout_mayGeom.f g b i = some (mayG g b i) := may_in g b i
theorem rmay_f (g b i : Int) : bollardref03_may.f g b i = some (mayG g b i) := may_in g b i

/-! ### a superblock's bytes -/
def supL (g b i m : Int) : List Int := [98, 111, 108, 108] ++ leb 1 g ++ leb 1 (b - 1) ++ leb 1 i ++ leb 1 0 ++ leb 4 m ++ List.replicate 116 0
theorem supL_len (g b i m : Int) : (supL g b i m).length = 128 := by unfold supL; simp only [List.length_append, leb_length, List.length_replicate, List.length_cons, List.length_nil]
theorem supL_u8 (g b i m : Int) : ∀ x ∈ supL g b i m, (Lit.int .u8 x).wf = true := by
  intro x hx
  unfold supL at hx
  simp only [List.mem_append] at hx
  rcases hx with (((((hx | hx) | hx) | hx) | hx) | hx) | hx
  · simp only [List.mem_cons, List.not_mem_nil, or_false] at hx
    rcases hx with rfl | rfl | rfl | rfl <;> decide
  · exact leb_u8 _ _ x hx
  · exact leb_u8 _ _ x hx
  · exact leb_u8 _ _ x hx
  · exact leb_u8 _ _ x hx
  · exact leb_u8 _ _ x hx
  · rw [List.eq_of_mem_replicate hx]; decide
def encS (g b i m : Int) : List Int × Int := if mayG g b i = true ∧ 0 ≤ m ∧ m < 4294967296 then sealS (supL g b i m) else ([], 1)
theorem mayG_bd {g b i : Int} (h : mayG g b i = true) : 1 ≤ g ∧ g ≤ 8 ∧ 8 ≤ b ∧ b ≤ 256 ∧ 4 ≤ i ∧ i ≤ 64 := by
  unfold mayG at h
  have := of_decide_eq_true h
  exact ⟨this.1, this.2.1, this.2.2.1, this.2.2.2.1, this.2.2.2.2.1, this.2.2.2.2.2.1⟩
theorem es_f (g b i m : Int) (k : Nat) (hk : 500 ≤ k) : layout_EncodeSuper.f k g b i m = some (encS g b i m) := by
  unfold layout_EncodeSuper.f encS
  rw [Option.bind_some, may_f, Option.bind_some]
  obtain ⟨k, rfl⟩ : ∃ n, k = n + 1 := ⟨k - 1, by omega⟩
  by_cases hm : mayG g b i = true
  · have hb := mayG_bd hm
    rw [if_pos hm, w_small (b - 1) (by omega) (by omega), fit_f _ (by simp) _ (by simp; omega), Option.bind_some]
    have hfit : fitF [(⟨1, 255, g⟩ : S71), (⟨1, 255, b - 1⟩ : S71), (⟨1, 255, i⟩ : S71), (⟨1, 0, 0⟩ : S71), (⟨4, 4294967295, m⟩ : S71)] = decide (0 ≤ m ∧ m < 4294967296) := by
      simp only [fitF, List.all_cons, List.all_nil, Bool.and_true]
      rw [decide_eq_true (show 0 ≤ g by omega), decide_eq_true (show g ≤ 255 by omega), decide_eq_true (show 0 ≤ b - 1 by omega), decide_eq_true (show b - 1 ≤ 255 by omega), decide_eq_true (show 0 ≤ i by omega), decide_eq_true (show i ≤ 255 by omega)]
      simp only [Bool.true_and, Int.le_refl, decide_true]
      rw [← Bool.decide_and, decide_eq_decide]
      omega
    rw [hfit]
    simp only [layout_EncodeSuper.j0]
    by_cases hmm : 0 ≤ m ∧ m < 4294967296
    · rw [decide_eq_true hmm, if_neg (by decide), if_pos ⟨hm, hmm⟩, fields_of _ (by simp) _ (by
        intro f hf
        simp only [List.mem_cons, List.not_mem_nil, or_false] at hf
        rcases hf with rfl | rfl | rfl | rfl | rfl <;> exact ⟨by simp, by simp⟩) (by simp) k (by simp; omega), Option.bind_some]
      have e : layout_full.f ([98, 111, 108, 108] ++ flatF [(⟨1, 255, g⟩ : S71), (⟨1, 255, b - 1⟩ : S71), (⟨1, 255, i⟩ : S71), (⟨1, 0, 0⟩ : S71), (⟨4, 4294967295, m⟩ : S71)]) 128 = some (supL g b i m) := by
        unfold layout_full.f fullL supL
        rw [if_pos (by omega)]
        rfl
      rw [e, Option.bind_some, seal_f _ (supL_u8 g b i m) (by rw [supL_len]; omega) k (by rw [supL_len]; omega)]
      rfl
    · rw [decide_eq_false hmm, if_pos (by decide), if_neg (fun h => hmm h.2)]
  · rw [if_neg hm, if_neg (fun h => hm h.1)]
    simp only [layout_EncodeSuper.j0]
    rw [if_pos trivial]
theorem sup_put (g b i m : Int) : putL (4 : Int).toNat (putL (1 : Int).toNat (putL (1 : Int).toNat (putL (1 : Int).toNat (([98, 111, 108, 108] : List Int) ++ List.replicate 124 0) (4 : Int).toNat g) (5 : Int).toNat (b - 1)) (6 : Int).toNat i) (8 : Int).toNat m = supL g b i m := by
  have e1 : putL (1 : Int).toNat (([98, 111, 108, 108] : List Int) ++ List.replicate 124 0) (4 : Int).toNat g = [98, 111, 108, 108] ++ leb 1 g ++ List.replicate 123 0 := by
    rw [putL_eq _ _ _ _ (by simp)]; rfl
  have e2 : putL (1 : Int).toNat (([98, 111, 108, 108] ++ leb 1 g ++ List.replicate 123 0) : List Int) (5 : Int).toNat (b - 1) = [98, 111, 108, 108] ++ leb 1 g ++ leb 1 (b - 1) ++ List.replicate 122 0 := by
    rw [putL_eq _ _ _ _ (by simp only [List.length_append, leb_length, List.length_replicate, List.length_cons, List.length_nil]; decide)]; rfl
  have e3 : putL (1 : Int).toNat (([98, 111, 108, 108] ++ leb 1 g ++ leb 1 (b - 1) ++ List.replicate 122 0) : List Int) (6 : Int).toNat i = [98, 111, 108, 108] ++ leb 1 g ++ leb 1 (b - 1) ++ leb 1 i ++ List.replicate 121 0 := by
    rw [putL_eq _ _ _ _ (by simp only [List.length_append, leb_length, List.length_replicate, List.length_cons, List.length_nil]; decide)]; rfl
  have e4 : putL (4 : Int).toNat (([98, 111, 108, 108] ++ leb 1 g ++ leb 1 (b - 1) ++ leb 1 i ++ List.replicate 121 0) : List Int) (8 : Int).toNat m = supL g b i m := by
    rw [putL_eq _ _ _ _ (by simp only [List.length_append, leb_length, List.length_replicate, List.length_cons, List.length_nil]; decide)]; rfl
  rw [e1, e2, e3, e4]
theorem res_f (g b i m : Int) (k : Nat) (hk : 500 ≤ k) : bollardref03_EncodeSuper.f k g b i m = some (encS g b i m) := by
  unfold bollardref03_EncodeSuper.f encS
  rw [rmay_f, Option.bind_some]
  obtain ⟨k, rfl⟩ : ∃ n, k = n + 1 := ⟨k - 1, by omega⟩
  simp only [bollardref03_EncodeSuper.j0, if_true]
  by_cases hm : mayG g b i = true
  · have hb := mayG_bd hm
    rw [if_pos hm]
    by_cases h0 : m < 0
    · rw [if_pos h0, if_neg (fun h => by omega)]
    · rw [if_neg h0]
      by_cases h1 : m ≥ 4294967296
      · rw [decide_eq_true h1, if_pos rfl, if_neg (fun h => by omega)]
      · have l0 : (([98, 111, 108, 108] : List Int) ++ List.replicate 124 0).length = 128 := by simp
        rw [decide_eq_false h1, if_neg (by decide), if_pos ⟨hm, by omega⟩, Option.bind_some, if_pos (by simp), w_small (b - 1) (by omega) (by omega)]
        rw [rnumb_f _ (by rw [l0]; omega) 4 1 g (by omega) (by omega) (by omega) (by rw [l0]; omega) (by omega) (by simp; omega) (by omega) k (by omega), Option.bind_some]
        rw [rnumb_f _ (by rw [putL_length, l0]; omega) 5 1 (b - 1) (by omega) (by omega) (by omega) (by rw [putL_length, l0]; omega) (by omega) (by simp; omega) (by omega) k (by omega), Option.bind_some]
        rw [rnumb_f _ (by rw [putL_length, putL_length, l0]; omega) 6 1 i (by omega) (by omega) (by omega) (by rw [putL_length, putL_length, l0]; omega) (by omega) (by simp; omega) (by omega) k (by omega), Option.bind_some]
        rw [rnumb_f _ (by rw [putL_length, putL_length, putL_length, l0]; omega) 8 4 m (by omega) (by omega) (by omega) (by rw [putL_length, putL_length, putL_length, l0]; omega) (by omega) (by simp; omega) (by omega) k (by omega), Option.bind_some]
        rw [sup_put, rseal_f _ (supL_u8 g b i m) (by rw [supL_len]; omega) k (by rw [supL_len]; omega)]
        rfl
  · rw [if_neg hm, if_neg (fun h => hm h.1)]

/-! ### a superblock of bytes -/
def decS (l : List Int) : Int × Int × Int × Int × Int :=
  if l.length = 128 then (if (strOfNums (l.take 4)).toList = ([98, 111, 108, 108] : List UInt8) then (if sealedS l = true then
    (if (encS (le (cutL l 4 1)) (wrap64 (le (cutL l 5 1) + 1)) (le (cutL l 6 1)) (le (cutL l 8 4))).2 = 0 then
      (if ((strOfNums l).toList == (strOfNums (encS (le (cutL l 4 1)) (wrap64 (le (cutL l 5 1) + 1)) (le (cutL l 6 1)) (le (cutL l 8 4))).1).toList) = true then (le (cutL l 4 1), wrap64 (le (cutL l 5 1) + 1), le (cutL l 6 1), le (cutL l 8 4), 0) else (0, 0, 0, 0, 6))
    else (0, 0, 0, 0, 6)) else (0, 0, 0, 0, 30)) else (0, 0, 0, 0, 31)) else (0, 0, 0, 0, 6)
theorem ds_f (l : List Int) (h : ∀ x ∈ l, (Lit.int .u8 x).wf = true) (k : Nat) (hk : 600 ≤ k) : layout_DecodeSuper.f k l = some (decS l) := by
  unfold layout_DecodeSuper.f decS
  by_cases hl : (l.length : Int) = 128
  · have hl' : l.length = 128 := by omega
    rw [if_pos hl, if_pos (fun x hx => u8_bd (h x hx)), if_pos hl']
    by_cases hm : (strOfNums (l.take 4)).toList = ([98, 111, 108, 108] : List UInt8)
    · rw [if_pos hm, if_pos hm, sealed_f l h (by omega) k (by omega), Option.bind_some]
      by_cases hs : sealedS l = true
      · rw [if_pos hs, if_pos hs, es_f _ _ _ _ k (by omega), Option.bind_some]
        generalize encS (le (cutL l 4 1)) (wrap64 (le (cutL l 5 1) + 1)) (le (cutL l 6 1)) (le (cutL l 8 4)) = X
        by_cases hx : X.2 = 0
        · rw [if_pos hx, if_pos hx]
          unfold layout_same.f
          rw [Option.bind_some, Bool.beq_comm]
          split <;> rfl
        · rw [if_neg hx, if_neg hx]
      · rw [if_neg hs, if_neg hs]
    · rw [if_neg hm, if_neg hm]
  · rw [if_neg hl, if_neg (by omega)]
def zeroD (m l s a b c d u v : Int) : Bool := m == 0 && (l == 0 && (s == 0 && ((a == 0 && (b == 0 && (c == 0 && d == 0))) && (u == 0 && v == 0))))
def mayD (m l s a b c d u v : Int) : Bool := if m = 0 then zeroD m l s a b c d u v else if m = 1 then true else if m = 2 then Int.tmod s 128 == 0 else false
def rngD (m l s a b c d u v : Int) : Bool := decide (0 ≤ m ∧ m ≤ 2 ∧ 0 ≤ l ∧ l ≤ 1000 ∧ 0 ≤ s ∧ s ≤ 532992 ∧ 0 ≤ a ∧ a ≤ 2047 ∧ 0 ≤ b ∧ b ≤ 2047 ∧ 0 ≤ c ∧ c ≤ 2047 ∧ 0 ≤ d ∧ d ≤ 2047 ∧ 0 ≤ u ∧ u ≤ 2047 ∧ 0 ≤ v ∧ v ≤ 2047)
def okD (m l s a b c d u v : Int) : Bool := mayD m l s a b c d u v && rngD m l s a b c d u v
def L4 (m l s : Int) : List S71 := [⟨1, 2, m⟩, ⟨1, 0, 0⟩, ⟨2, 1000, l⟩, ⟨4, 532992, s⟩]
def LD (m l s a b c d u v : Int) : List S71 := L4 m l s ++ [⟨2, 2047, a⟩] ++ [⟨2, 2047, b⟩] ++ [⟨2, 2047, c⟩] ++ [⟨2, 2047, d⟩] ++ [⟨2, 2047, u⟩, ⟨2, 2047, v⟩]
theorem LD_len (m l s a b c d u v : Int) : (LD m l s a b c d u v).length = 10 := rfl
theorem fit_LD (m l s a b c d u v : Int) : fitF (LD m l s a b c d u v) = rngD m l s a b c d u v := by
  have e : ∀ x n : Int, (decide (0 ≤ x) && decide (x ≤ n)) = decide (0 ≤ x ∧ x ≤ n) := fun x n => by rw [Bool.decide_and]
  unfold fitF LD L4 rngD
  simp only [List.all_append, List.all_cons, List.all_nil, Bool.and_true, e]
  simp only [← Bool.decide_and]
  rw [decide_eq_decide]
  omega
theorem fitD_f (m l s a b c d u v : Int) : layout_fit.f 600 (LD m l s a b c d u v) = some (rngD m l s a b c d u v) := by
  rw [fit_f _ (by rw [LD_len]; omega) 600 (by rw [LD_len]; omega), fit_LD]
def dinL (m l s a b c d u v : Int) : List Int := leb 1 m ++ leb 1 0 ++ leb 2 l ++ leb 4 s ++ leb 2 a ++ leb 2 b ++ leb 2 c ++ leb 2 d ++ leb 2 u ++ leb 2 v ++ List.replicate 12 0
def flatD (m l s a b c d u v : Int) : List Int := leb 1 m ++ leb 1 0 ++ leb 2 l ++ leb 4 s ++ leb 2 a ++ leb 2 b ++ leb 2 c ++ leb 2 d ++ leb 2 u ++ leb 2 v
theorem flat_LD (m l s a b c d u v : Int) : flatF (LD m l s a b c d u v) = flatD m l s a b c d u v := by
  simp [flatF, LD, L4, flatD]
theorem fieldsD_f (m l s a b c d u v : Int) : layout_fields.f 600 [] (LD m l s a b c d u v) = some (flatD m l s a b c d u v) := by
  rw [fields_of [] (by simp) _ (by
    intro f hf
    simp only [LD, L4, List.mem_append, List.mem_cons, List.not_mem_nil, or_false] at hf
    rcases hf with (((((hf | hf | hf | hf) | hf) | hf) | hf) | hf) | hf | hf <;> subst hf <;> exact ⟨by simp, by simp⟩) (by rw [LD_len]; omega) 600 (by rw [LD_len]; omega), flat_LD]
  rfl
theorem flatD_len (m l s a b c d u v : Int) : (flatD m l s a b c d u v).length = 20 := by unfold flatD; simp only [List.length_append, leb_length]
theorem fullD_f (m l s a b c d u v : Int) : layout_full.f (flatD m l s a b c d u v) 32 = some (dinL m l s a b c d u v) := by
  unfold layout_full.f fullL
  rw [if_pos (by omega), List.take_of_length_le (by rw [flatD_len]; decide), flatD_len]
  rfl
theorem dinL_len (m l s a b c d u v : Int) : (dinL m l s a b c d u v).length = 32 := by unfold dinL; simp only [List.length_append, leb_length, List.length_replicate]
theorem dinL_u8 (m l s a b c d u v : Int) : ∀ x ∈ dinL m l s a b c d u v, (Lit.int .u8 x).wf = true := by
  intro x hx
  unfold dinL at hx
  simp only [List.mem_append] at hx
  rcases hx with ((((((((((hx | hx) | hx) | hx) | hx) | hx) | hx) | hx) | hx) | hx) | hx)
  all_goals first | exact leb_u8 _ _ x hx | (rw [List.eq_of_mem_replicate hx]; decide)
theorem sealD_f (m l s a b c d u v : Int) : word_Seal.f 600 (dinL m l s a b c d u v) = some (sealS (dinL m l s a b c d u v)) := seal_f _ (dinL_u8 m l s a b c d u v) (by rw [dinL_len]; omega) 600 (by rw [dinL_len]; omega)
theorem rsealD_f (m l s a b c d u v : Int) : bollardref01_Seal.f 600 (dinL m l s a b c d u v) = some (sealS (dinL m l s a b c d u v)) := rseal_f _ (dinL_u8 m l s a b c d u v) (by rw [dinL_len]; omega) 600 (by rw [dinL_len]; omega)
def encD (m l s a b c d u v : Int) : List Int × Int := if okD m l s a b c d u v = true then (if m = 0 then (List.replicate 32 0, 0) else sealS (dinL m l s a b c d u v)) else ([], 1)
theorem zero_dinL {m l s a b c d u v : Int} (h : okD m l s a b c d u v = true) (hm : m = 0) : dinL m l s a b c d u v = List.replicate 32 0 := by
  unfold okD mayD at h
  rw [if_pos hm, Bool.and_eq_true] at h
  have h := h.1
  unfold zeroD at h
  simp only [Bool.and_eq_true, beq_iff_eq] at h
  obtain ⟨rfl, rfl, rfl, ⟨rfl, rfl, rfl, rfl⟩, rfl, rfl⟩ := h
  rfl
theorem okD_rng {m l s a b c d u v : Int} (h : okD m l s a b c d u v = true) : 0 ≤ m ∧ m ≤ 2 ∧ 0 ≤ l ∧ l ≤ 1000 ∧ 0 ≤ s ∧ s ≤ 532992 ∧ 0 ≤ a ∧ a ≤ 2047 ∧ 0 ≤ b ∧ b ≤ 2047 ∧ 0 ≤ c ∧ c ≤ 2047 ∧ 0 ≤ d ∧ d ≤ 2047 ∧ 0 ≤ u ∧ u ≤ 2047 ∧ 0 ≤ v ∧ v ≤ 2047 := by
  unfold okD at h
  rw [Bool.and_eq_true] at h
  exact of_decide_eq_true h.2
/-! ### the reference's numbers, one behind another -/
def P0 : List Int := List.replicate 32 0
def P1 (m : Int) : List Int := leb 1 m ++ List.replicate 31 0
def P2 (m l : Int) : List Int := leb 1 m ++ leb 1 0 ++ leb 2 l ++ List.replicate 28 0
def P3 (m l s : Int) : List Int := leb 1 m ++ leb 1 0 ++ leb 2 l ++ leb 4 s ++ List.replicate 24 0
def P4 (m l s a : Int) : List Int := leb 1 m ++ leb 1 0 ++ leb 2 l ++ leb 4 s ++ leb 2 a ++ List.replicate 22 0
def P5 (m l s a b : Int) : List Int := leb 1 m ++ leb 1 0 ++ leb 2 l ++ leb 4 s ++ leb 2 a ++ leb 2 b ++ List.replicate 20 0
def P6 (m l s a b c : Int) : List Int := leb 1 m ++ leb 1 0 ++ leb 2 l ++ leb 4 s ++ leb 2 a ++ leb 2 b ++ leb 2 c ++ List.replicate 18 0
def P7 (m l s a b c d : Int) : List Int := leb 1 m ++ leb 1 0 ++ leb 2 l ++ leb 4 s ++ leb 2 a ++ leb 2 b ++ leb 2 c ++ leb 2 d ++ List.replicate 16 0
def P8 (m l s a b c d u : Int) : List Int := leb 1 m ++ leb 1 0 ++ leb 2 l ++ leb 4 s ++ leb 2 a ++ leb 2 b ++ leb 2 c ++ leb 2 d ++ leb 2 u ++ List.replicate 14 0
theorem num_step {L M : List Int} {a w n : Int} (hl : L.length = 32) (h1 : 1 ≤ w) (h2 : w ≤ 4) (ha : 0 ≤ a) (ha2 : a + w ≤ 32) (hn : 0 ≤ n) (hn2 : n < 256 ^ w.toNat) (hn3 : n ≤ 4294967295) (hm : L.take a.toNat ++ leb w.toNat n ++ L.drop (a.toNat + w.toNat) = M) : bollardref03_number.f 600 L a w n = some M := by
  rw [rnumb_f L (by omega) a w n h1 h2 ha (by omega) hn hn2 hn3 600 (by omega), putL_eq _ _ _ _ (by omega), hm]
theorem num_0 {m : Int} (h : 0 ≤ m) (h2 : m ≤ 2) : bollardref03_number.f 600 P0 0 1 m = some (P1 m) := num_step rfl (by omega) (by omega) (by omega) (by omega) h (by simp; omega) (by omega) rfl
theorem num_1 {m l : Int} (h : 0 ≤ l) (h2 : l ≤ 1000) : bollardref03_number.f 600 (P1 m) 2 2 l = some (P2 m l) := num_step rfl (by omega) (by omega) (by omega) (by omega) h (by simp; omega) (by omega) rfl
theorem num_2 {m l s : Int} (h : 0 ≤ s) (h2 : s ≤ 532992) : bollardref03_number.f 600 (P2 m l) 4 4 s = some (P3 m l s) := num_step rfl (by omega) (by omega) (by omega) (by omega) h (by simp; omega) (by omega) rfl
theorem num_3 {m l s a : Int} (h : 0 ≤ a) (h2 : a ≤ 2047) : bollardref03_number.f 600 (P3 m l s) 8 2 a = some (P4 m l s a) := num_step rfl (by omega) (by omega) (by omega) (by omega) h (by simp; omega) (by omega) rfl
theorem num_4 {m l s a b : Int} (h : 0 ≤ b) (h2 : b ≤ 2047) : bollardref03_number.f 600 (P4 m l s a) 10 2 b = some (P5 m l s a b) := num_step rfl (by omega) (by omega) (by omega) (by omega) h (by simp; omega) (by omega) rfl
theorem num_5 {m l s a b c : Int} (h : 0 ≤ c) (h2 : c ≤ 2047) : bollardref03_number.f 600 (P5 m l s a b) 12 2 c = some (P6 m l s a b c) := num_step rfl (by omega) (by omega) (by omega) (by omega) h (by simp; omega) (by omega) rfl
theorem num_6 {m l s a b c d : Int} (h : 0 ≤ d) (h2 : d ≤ 2047) : bollardref03_number.f 600 (P6 m l s a b c) 14 2 d = some (P7 m l s a b c d) := num_step rfl (by omega) (by omega) (by omega) (by omega) h (by simp; omega) (by omega) rfl
theorem num_7 {m l s a b c d u : Int} (h : 0 ≤ u) (h2 : u ≤ 2047) : bollardref03_number.f 600 (P7 m l s a b c d) 16 2 u = some (P8 m l s a b c d u) := num_step rfl (by omega) (by omega) (by omega) (by omega) h (by simp; omega) (by omega) rfl
theorem num_8 {m l s a b c d u v : Int} (h : 0 ≤ v) (h2 : v ≤ 2047) : bollardref03_number.f 600 (P8 m l s a b c d u) 18 2 v = some (dinL m l s a b c d u v) := num_step rfl (by omega) (by omega) (by omega) (by omega) h (by simp; omega) (by omega) rfl
/-! ### an inode of bytes -/
def zerosB (l : List Int) : Bool := l.all (· == 0)
theorem zero_l (x5 : List Int) (hl : x5.length ≤ 1000000) (n : Nat) : ∀ (i k : Nat), i + n = x5.length → n < k → layout_zero.l0 k x5 (x5.length : Int) (i : Int) = some (zerosB (x5.drop i)) := by
  induction n with
  | zero =>
    intro i k hi hk
    obtain ⟨k, rfl⟩ : ∃ m, k = m + 1 := ⟨k - 1, by omega⟩
    simp only [layout_zero.l0]
    rw [if_neg (by omega), List.drop_eq_nil_of_le (by omega)]
    rfl
  | succ n ih =>
    intro i k hi hk
    obtain ⟨k, rfl⟩ : ∃ m, k = m + 1 := ⟨k - 1, by omega⟩
    have hlt : i < x5.length := by omega
    have hr : rd x5 (i : Int) = x5[i] := by simp [rd, hlt]
    simp only [layout_zero.l0]
    rw [if_pos (by omega), if_pos (by omega), if_pos (by omega), hr, List.drop_eq_getElem_cons hlt]
    unfold zerosB
    rw [List.all_cons]
    by_cases h : x5[i] = 0
    · rw [if_pos h, w_succ i (by omega), ih (i + 1) k (by omega) (by omega), beq_iff_eq.mpr h]
      rfl
    · rw [if_neg h, beq_eq_false_iff_ne.mpr h]
      rfl
theorem zero_f (l : List Int) (hl : l.length ≤ 500) : layout_zero.f 600 l = some (zerosB l) := by
  unfold layout_zero.f
  have := zero_l l (by omega) l.length 0 600 (by omega) (by omega)
  simpa using this
theorem zerosB_iff (l : List Int) : zerosB l = true ↔ l = List.replicate l.length 0 := by
  unfold zerosB
  rw [List.all_eq_true]
  constructor
  · intro h; exact List.eq_replicate_iff.2 ⟨rfl, fun x hx => by simpa using h x hx⟩
  · intro h x hx; rw [h] at hx; rw [List.eq_of_mem_replicate hx]; rfl
abbrev D9 := Int × Int × Int × Int × Int × Int × Int × Int × Int
def readD (l : List Int) : D9 := (le (cutL l 0 1), le (cutL l 2 2), le (cutL l 4 4), le (cutL l 8 2), le (cutL l 10 2), le (cutL l 12 2), le (cutL l 14 2), le (cutL l 16 2), le (cutL l 18 2))
def encT (x : D9) : List Int × Int := encD x.1 x.2.1 x.2.2.1 x.2.2.2.1 x.2.2.2.2.1 x.2.2.2.2.2.1 x.2.2.2.2.2.2.1 x.2.2.2.2.2.2.2.1 x.2.2.2.2.2.2.2.2
def decD (l : List Int) : D9 × Int :=
  if (l.length : Int) = 32 then (if zerosB l = true then ((0, 0, 0, 0, 0, 0, 0, 0, 0), 0) else (if sealedS l = true then
    (if (encT (readD l)).2 = 0 then (if (strOfNums (encT (readD l)).1).toList = (strOfNums l).toList then (readD l, 0) else ((0, 0, 0, 0, 0, 0, 0, 0, 0), 6)) else ((0, 0, 0, 0, 0, 0, 0, 0, 0), 6))
  else ((0, 0, 0, 0, 0, 0, 0, 0, 0), 30))) else ((0, 0, 0, 0, 0, 0, 0, 0, 0), 6)

/-! ### which texts are names -/
def okB (x : Int) : Bool := !decide (x < 33) && (!decide (x > 126) && !decide (x = 47))
def okFrom (s : ByteArray) (i : Nat) : Nat → Bool
  | 0 => true
  | d + 1 => okB (bt s (i : Int)) && okFrom s (i + 1) d
def speltS (s : ByteArray) : Bool := okFrom s 0 s.size && (!decide (s.toList = []) && decide ((s.size : Int) ≤ 13))
def isNameS (s : ByteArray) : Bool := speltS s && (!decide (s.toList = [46]) && !decide (s.toList = [46, 46]))

theorem w_inc (i : Nat) (h : i < 9223372036854775807) : wrap64 ((i : Int) + 1) = ((i + 1 : Nat) : Int) := by unfold wrap64; omega
theorem spelt_l (s : ByteArray) (hs : s.size ≤ 9223372036854775807) (d : Nat) : ∀ (k i : Nat), i + d = s.size → d < k → layout_spelt.l0 k s (s.size : Int) (i : Int) = some (okFrom s i d && (!decide (s.toList = []) && decide ((s.size : Int) ≤ 13))) := by
  induction d with
  | zero =>
    intro k i hi hk
    obtain ⟨k, rfl⟩ : ∃ m, k = m + 1 := ⟨k - 1, by omega⟩
    simp only [layout_spelt.l0, okFrom, Bool.true_and]
    rw [if_neg (by omega)]
    by_cases he : s.toList = []
    · rw [if_pos he, decide_eq_true he]; rfl
    · rw [if_neg he, decide_eq_false he]; rfl
  | succ d ih =>
    intro k i hi hk
    obtain ⟨k, rfl⟩ : ∃ m, k = m + 1 := ⟨k - 1, by omega⟩
    simp only [layout_spelt.l0, okFrom]
    rw [if_pos (by omega), if_pos (by omega), if_pos (by omega)]
    unfold okB
    by_cases h1 : bt s (i : Int) < 33
    · rw [if_pos h1, decide_eq_true h1]; rfl
    · rw [if_neg h1, decide_eq_false h1]
      by_cases h2 : bt s (i : Int) > 126
      · rw [if_pos h2, decide_eq_true h2]; rfl
      · rw [if_neg h2, decide_eq_false h2]
        by_cases h3 : bt s (i : Int) = 47
        · rw [if_pos h3, decide_eq_true h3]; rfl
        · rw [if_neg h3, decide_eq_false h3, w_inc i (by omega), ih k (i + 1) (by omega) (by omega)]; rfl
theorem spelt_f (s : ByteArray) (hs : s.size ≤ 9223372036854775807) (k : Nat) (hk : s.size < k) : layout_spelt.f k s = some (speltS s) := by
  unfold layout_spelt.f speltS
  exact spelt_l s hs s.size k 0 (by omega) hk
theorem of_toList {s : ByteArray} {l : List UInt8} (h : s.toList = l) : s = ⟨l.toArray⟩ := by
  have h2 : s.data.toList = l := (ByteArray.toList_eq s).symm.trans h
  obtain ⟨⟨a⟩⟩ := s
  exact congrArg (fun x => (⟨⟨x⟩⟩ : ByteArray)) h2
theorem spelt_names (s : ByteArray) : (isNameS s = true ∨ s.toList = [46] ∨ s.toList = [46, 46]) ↔ speltS s = true := by
  unfold isNameS
  constructor
  · rintro (h | h | h)
    · rw [Bool.and_eq_true] at h; exact h.1
    · have := of_toList h; subst this; unfold speltS; rw [ByteArray.toList_eq]; decide
    · have := of_toList h; subst this; unfold speltS; rw [ByteArray.toList_eq]; decide
  · intro h
    by_cases h1 : s.toList = [46]
    · exact .inr (.inl h1)
    · by_cases h2 : s.toList = [46, 46]
      · exact .inr (.inr h2)
      · left; rw [h, decide_eq_false h1, decide_eq_false h2]; rfl
theorem spelt_size {s : ByteArray} (h : speltS s = true) : s.size ≤ 13 := by
  unfold speltS at h
  rw [Bool.and_eq_true, Bool.and_eq_true, decide_eq_true_eq] at h
  omega

/-! ### an entry's bytes -/
def entL (ino : Int) (s : ByteArray) : List Int := leb 2 ino ++ leb 1 (s.size : Int) ++ bytesOf s ++ List.replicate (13 - s.size) 0
def encE (ino : Int) (s : ByteArray) : List Int × Int := if ino = 0 ∧ s.toList = [] then (List.replicate 16 0, 0) else if ino < 1 ∨ 511 < ino then ([], 1) else if speltS s = true then (entL ino s, 0) else ([], 1)
theorem flat_e (ino n : Int) : flatF [(⟨2, 511, ino⟩ : S71), (⟨1, 13, n⟩ : S71)] = leb 2 ino ++ leb 1 n := by simp [flatF]
theorem full_e (ino : Int) (s : ByteArray) (h : s.size ≤ 13) : layout_full.f (leb 2 ino ++ leb 1 (s.size : Int) ++ bytesOf s) 16 = some (entL ino s) := by
  have hb := bytesOf_length s
  unfold layout_full.f entL fullL
  rw [if_pos (by omega), List.take_of_length_le (by simp only [List.length_append, leb_length, hb]; omega)]
  congr 3
  simp only [List.length_append, leb_length, hb]
  omega
theorem fe_f (ino n : Int) (k : Nat) (hk : 500 ≤ k) : layout_fields.f k ([] : List Int) [(⟨2, 511, ino⟩ : S71), (⟨1, 13, n⟩ : S71)] = some (leb 2 ino ++ leb 1 n) := by
  rw [fields_f _ (by intro f hf; simp only [List.mem_cons, List.not_mem_nil, or_false] at hf; rcases hf with rfl | rfl; exact ⟨show (0 : Int) ≤ 2 by decide, show (2 : Int) ≤ 4 by decide⟩; exact ⟨show (0 : Int) ≤ 1 by decide, show (1 : Int) ≤ 4 by decide⟩) (by simp) k (by simp; omega), flat_e]
theorem ee_f (ino : Int) (s : ByteArray) (hs : s.size ≤ 9223372036854775807) (k : Nat) (hk : s.size + 500 ≤ k) : layout_EncodeEntry.f k ino s = some (encE ino s) := by
  have hb := bytesOf_length s
  unfold layout_EncodeEntry.f encE
  by_cases hz : ino = 0 ∧ s.toList = []
  · have e0 : s = ⟨#[]⟩ := of_toList hz.2
    rw [if_pos (by rw [hz.1, hz.2]; rfl), if_pos hz, fe_f _ _ k (by omega), Option.bind_some, hz.1, e0]
    rfl
  · rw [if_neg (by intro h; rw [Bool.and_eq_true, beq_iff_eq, beq_iff_eq] at h; exact hz h), if_neg hz]
    by_cases h1 : ino < 1
    · rw [if_pos h1, if_pos (.inl h1)]
    · rw [if_neg h1]
      by_cases h2 : ino > 511
      · rw [if_pos h2, if_pos (.inr h2)]
      · rw [if_neg h2, if_neg (by omega), spelt_f s hs k (by omega), Option.bind_some]
        cases hsp : speltS s
        · rfl
        · have := spelt_size hsp
          rw [if_pos rfl, if_pos rfl, fe_f _ _ k (by omega), Option.bind_some, if_pos (by simp only [List.length_append, leb_length]; omega), full_e ino s this]
          rfl
/-! ### an entry of bytes -/
def decE (l : List Int) : Int × ByteArray × Int :=
  if l.length = 16 then (if 13 < rd l 2 then (0, ⟨#[]⟩, 6) else
    if (encE (le (cutL l 0 2)) (strOfNums ((l.take (3 + rd l 2).toNat).drop 3))).2 = 0 then
      (if ((strOfNums l).toList == (strOfNums (encE (le (cutL l 0 2)) (strOfNums ((l.take (3 + rd l 2).toNat).drop 3))).1).toList) = true then (le (cutL l 0 2), strOfNums ((l.take (3 + rd l 2).toNat).drop 3), 0) else (0, ⟨#[]⟩, 6))
    else (0, ⟨#[]⟩, 6)) else (0, ⟨#[]⟩, 6)
theorem cut21 (l : List Int) (h : l.length = 16) : le (cutL l 2 1) = rd l 2 := by
  have := drop_cons l 2 0 (by omega)
  unfold cutL
  rw [show ((2 : Int) + 1).toNat = 3 from rfl, show (2 : Int).toNat = 2 from rfl, List.drop_take, show 3 - 2 = 0 + 1 from rfl, this]
  simp [le]
theorem str_size (l : List Int) : (strOfNums l).size = l.length := by
  simp [strOfNums, ByteArray.size]
theorem de_f (l : List Int) (h : ∀ x ∈ l, (Lit.int .u8 x).wf = true) (k : Nat) (hk : 600 ≤ k) : layout_DecodeEntry.f k l = some (decE l) := by
  unfold layout_DecodeEntry.f decE
  by_cases hl : (l.length : Int) = 16
  · have hl' : l.length = 16 := by omega
    have hr := rd_u8 h 2
    rw [if_pos hl, if_pos (fun x hx => u8_bd (h x hx)), if_pos hl', cut21 l hl']
    by_cases hb : 13 < rd l 2
    · have e1 : texE l 3 0 (rd l 2) = 10 := by unfold texE; rw [if_neg (by decide), if_neg (by omega), if_pos (by omega)]
      have e2 : texV l 3 0 (rd l 2) = ⟨#[]⟩ := by unfold texV; rw [e1, if_neg (by decide)]
      rw [if_pos hb, e1, e2, ee_f _ _ (by decide) k (by show 0 + 500 ≤ k; omega), Option.bind_some, if_neg (by decide)]
    · have e1 : texE l 3 0 (rd l 2) = 0 := by unfold texE; rw [if_neg (by decide), if_neg (by omega), if_neg (by omega)]
      have e2 : texV l 3 0 (rd l 2) = strOfNums ((l.take (3 + rd l 2).toNat).drop 3) := by unfold texV; rw [e1, if_pos rfl]; rfl
      have hsz : (strOfNums ((l.take (3 + rd l 2).toNat).drop 3)).size ≤ 13 := by rw [str_size, List.length_drop, List.length_take]; omega
      rw [if_neg hb, e1, e2, ee_f _ _ (by omega) k (by omega), Option.bind_some, if_pos rfl]
      generalize encE (le (cutL l 0 2)) (strOfNums ((l.take (3 + rd l 2).toNat).drop 3)) = X
      by_cases hx : X.2 = 0
      · rw [if_pos hx, if_pos hx]
        unfold layout_same.f
        rw [Option.bind_some, Bool.beq_comm]
        split <;> rfl
      · rw [if_neg hx, if_neg hx]
  · rw [if_neg hl, if_neg (by omega)]
end Go.Proofs.Ytdaeanodgnmknaa.Bi
