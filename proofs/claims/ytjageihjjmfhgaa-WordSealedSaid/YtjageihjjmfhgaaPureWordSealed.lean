/- WordSealed: for every row of bytes and numbers k, by: the row (its first thousand bytes) sealed by word.Seal is sealed, and with one byte turned it is not (word.Sealed); of fewer than four bytes there is the error. Conditions: none beyond those of the row. -/
import Derived.Test.YtjageihjjmfhgaaXWordSealedx0
import Derived.Test.YtjageihjjmfhgaaXWordSealedx1
import Derived.Test.YtjageihjjmfhgaaXWordSealedx2
namespace Go.Proofs.Ytjageihjjmfhgaa.Pure
open Go.RowKit Go.Proofs.Ytjageihjjmfhgaa.XWordSealed Go.Proofs.YtjageihjjmfhgaaW.PrintWords Go.Proofs.YtjageihjjmfhgaaW.PrintLast
set_option linter.unusedVariables false
set_option linter.unusedSimpArgs false

theorem u8_bd {x : Int} (h : (Lit.int .u8 x).wf = true) : 0 ≤ x ∧ x ≤ 255 := by
  simp [Lit.wf, IntKind.min, IntKind.max, IntKind.bits, IntKind.signed] at h
  omega

theorem i64_bd {x : Int} (h : (Lit.int .i64 x).wf = true) : -9223372036854775808 ≤ x ∧ x ≤ 9223372036854775807 := by
  simp [Lit.wf, IntKind.min, IntKind.max, IntKind.bits, IntKind.signed] at h
  omega

theorem rd_u8 {l : List Int} (h : ∀ x ∈ l, (Lit.int .u8 x).wf = true) (i : Int) : 0 ≤ rd l i ∧ rd l i ≤ 255 := by
  unfold rd
  rw [List.getD_eq_getElem?_getD]
  by_cases hi : i.toNat < l.length
  · rw [List.getElem?_eq_getElem hi]
    exact u8_bd (h _ (List.getElem_mem hi))
  · rw [List.getElem?_eq_none (by omega)]
    simp

theorem rd_set (l : List Int) (i : Int) (v : Int) (h1 : i.toNat < l.length) : rd (l.set i.toNat v) i = v := by
  unfold rd
  rw [List.getD_eq_getElem?_getD, List.getElem?_set_self h1]
  rfl

/-- The number that bytes tell, the lowest first. -/
def le : List Int → Int
  | [] => 0
  | x :: t => x + 256 * le t

/-- So many bytes of a number, the lowest first. -/
def leb : Nat → Int → List Int
  | 0, _ => []
  | w + 1, n => (n % 256) :: leb w (n / 256)

/-- Bytes with so many of a number's at a place. -/
def putL : Nat → List Int → Nat → Int → List Int
  | 0, x, _, _ => x
  | w + 1, x, a, n => putL w (x.set a (n % 256)) (a + 1) (n / 256)

theorem leb_length (w : Nat) (n : Int) : (leb w n).length = w := by
  induction w generalizing n with
  | zero => rfl
  | succ w ih => simp only [leb, List.length_cons, ih]

theorem putL_eq (w : Nat) : ∀ (x : List Int) (a : Nat) (n : Int), a + w ≤ x.length → putL w x a n = x.take a ++ leb w n ++ x.drop (a + w) := by
  induction w with
  | zero => intro x a n _; simp [putL, leb]
  | succ w ih =>
    intro x a n h
    have e1 : (x.set a (n % 256)).take (a + 1) = x.take a ++ [n % 256] := by
      rw [List.take_succ_eq_append_getElem (by simp; omega), List.take_set_of_le (Nat.le_refl a)]
      simp
    have e2 : (x.set a (n % 256)).drop (a + 1 + w) = x.drop (a + 1 + w) := by
      rw [List.drop_set_of_lt (by omega)]
    simp only [putL, leb]
    rw [ih _ _ _ (by simp; omega), e1, e2]
    simp [show a + (w + 1) = a + 1 + w by omega]

theorem putL_length (w : Nat) : ∀ (x : List Int) (a : Nat) (n : Int), (putL w x a n).length = x.length := by
  induction w with
  | zero => intro x a n; rfl
  | succ w ih => intro x a n; simp only [putL, ih, List.length_set]

theorem le_leb (w : Nat) : ∀ n : Int, 0 ≤ n → n < 256 ^ w → le (leb w n) = n := by
  induction w with
  | zero => intro n h0 h1; simp at h1; simp only [leb, le]; omega
  | succ w ih =>
    intro n h0 h1
    have h2 : n / 256 < 256 ^ w := by
      rw [Int.pow_succ] at h1
      omega
    simp only [leb, le]
    rw [ih _ (by omega) h2]
    omega

theorem le_bd (l : List Int) (h : ∀ x ∈ l, (Lit.int .u8 x).wf = true) : 0 ≤ le l ∧ le l < 256 ^ l.length := by
  induction l with
  | nil => simp [le]
  | cons x t ih =>
    obtain ⟨a, b⟩ := u8_bd (h x (by simp))
    obtain ⟨c, d⟩ := ih (fun y hy => h y (by simp [hy]))
    simp only [le, List.length_cons, Int.pow_succ]
    omega

theorem le_snoc (l : List Int) (x : Int) : le (l ++ [x]) = le l + 256 ^ l.length * x := by
  induction l with
  | nil => simp [le]
  | cons y t ih => simp only [List.cons_append, le, ih, List.length_cons, Int.pow_succ, Int.mul_add]; rw [Int.mul_comm (256 ^ t.length) 256, Int.mul_assoc]; omega

theorem leb_u8 (w : Nat) : ∀ n : Int, ∀ x ∈ leb w n, (Lit.int .u8 x).wf = true := by
  induction w with
  | zero => intro n x hx; simp [leb] at hx
  | succ w ih =>
    intro n x hx
    simp only [leb, List.mem_cons] at hx
    rcases hx with rfl | hx
    · simp [Lit.wf, IntKind.min, IntKind.max, IntKind.bits, IntKind.signed]; omega
    · exact ih _ x hx

/-- What a reading of so many bytes at a place tells. -/
def getS (l : List Int) (a w : Int) : Int × Int :=
  if w < 1 ∨ 4 < w ∨ a < 0 then (0, 1) else if (l.length : Int) - w < a then (0, 10) else (le ((l.drop a.toNat).take w.toNat), 0)

/-- What a writing of a number there tells. -/
def putS (l : List Int) (a w n : Int) : List Int × Int :=
  if w < 1 ∨ 4 < w ∨ a < 0 ∨ n < 0 ∨ 256 ^ w.toNat ≤ n then ([], 1) else if (l.length : Int) - w < a then ([], 10) else (putL w.toNat l a.toNat n, 0)

theorem pow_8 (i : Nat) : (2 : Int) ^ (8 * i) = 256 ^ i := by rw [Int.pow_mul]; rfl

theorem pow_le4 (i : Nat) (h : i ≤ 4) : (256 : Int) ^ i ≤ 4294967296 ∧ 1 ≤ (256 : Int) ^ i := by
  match i, h with
  | 0, _ => decide
  | 1, _ => decide
  | 2, _ => decide
  | 3, _ => decide
  | 4, _ => decide

theorem or_add {i : Nat} (hi : i ≤ 3) {x b : Int} (h0 : 0 ≤ x) (h1 : x < 256 ^ i) (h2 : 0 ≤ b) (h3 : b ≤ 255) : Go.bits .or .i64 x (b * 256 ^ i) = x + b * 256 ^ i := by
  have hp := pow_le4 i (by omega)
  obtain ⟨n, rfl⟩ := Int.eq_ofNat_of_zero_le h0
  obtain ⟨m, rfl⟩ := Int.eq_ofNat_of_zero_le h2
  have hm : ((m : Int) * 256 ^ i) ≤ 255 * 4294967296 := by
    have := Int.mul_le_mul (a := (m : Int)) (b := 256 ^ i) (c := 255) (d := 4294967296) h3 hp.1 (by omega) (by omega)
    omega
  have e : ((m : Int) * 256 ^ i) = ((m * 256 ^ i : Nat) : Int) := by rw [Int.natCast_mul, Int.natCast_pow]; rfl
  have hn : n < 256 ^ i := by
    have h : (n : Int) < ((256 ^ i : Nat) : Int) := by rw [Int.natCast_pow]; exact h1
    omega
  rw [e] at hm ⊢
  have hwr : ∀ n : Int, 0 ≤ n → n < 2 ^ 63 → IntKind.i64.wrap n = n := by intro n h h'; rw [IntKind.wrap_i64]; omega
  rw [(bits_nat .i64 63 (by decide) hwr n (m * 256 ^ i) (by omega) (by omega)).2]
  have h8 : 256 ^ i = 2 ^ (8 * i) := by rw [Nat.pow_mul]
  rw [h8] at hn ⊢
  have hq := Nat.two_pow_add_eq_or_of_lt hn m
  rw [Nat.mul_comm m, Nat.or_comm, ← hq, Int.natCast_add, Int.add_comm]

theorem take_snoc (l : List Int) (a j : Nat) (h : a + j < l.length) : (l.drop a).take (j + 1) = (l.drop a).take j ++ [rd l ((a : Int) + (j : Int))] := by
  rw [List.take_succ_eq_append_getElem (by simp; omega)]
  congr 1
  unfold rd
  rw [show ((a : Int) + (j : Int)).toNat = a + j by omega, List.getD_eq_getElem?_getD, List.getElem?_eq_getElem h]
  simp

theorem drop_cons (l : List Int) (a j : Nat) (h : a < l.length) : (l.drop a).take (j + 1) = rd l (a : Int) :: (l.drop (a + 1)).take j := by
  rw [List.drop_eq_getElem_cons h, List.take_succ_cons]
  unfold rd
  rw [show ((a : Int)).toNat = a by omega, List.getD_eq_getElem?_getD, List.getElem?_eq_getElem h]
  rfl

theorem w_add (a i : Nat) (h : a + i ≤ 140737488351232) : wrap64 ((a : Int) + (i : Int)) = ((a + i : Nat) : Int) := by unfold wrap64; omega
theorem w_mul8 (i : Nat) (h : i ≤ 4) : wrap64 (8 * (i : Int)) = ((8 * i : Nat) : Int) := by unfold wrap64; omega
theorem w_succ (i : Nat) (h : i ≤ 140737488351232) : wrap64 ((i : Int) + 1) = ((i + 1 : Nat) : Int) := by unfold wrap64; omega
theorem w_small (x : Int) (h0 : -9223372036854775808 ≤ x) (h1 : x ≤ 9223372036854775807) : wrap64 x = x := by unfold wrap64; omega

theorem mul_bd {b p : Int} (b0 : 0 ≤ b) (b1 : b ≤ 255) (p0 : 1 ≤ p) (p1 : p ≤ 4294967296) : 0 ≤ b * p ∧ b * p ≤ 255 * p ∧ b * p ≤ 1095216660480 := by
  have h1 := Int.mul_le_mul_of_nonneg_right b1 (show 0 ≤ p by omega)
  have h2 := Int.mul_nonneg b0 (show 0 ≤ p by omega)
  omega

theorem shl_le {b : Int} (i : Nat) (hi : i ≤ 4) (b0 : 0 ≤ b) (b1 : b ≤ 255) : shl .i64 b ((8 * i : Nat) : Int) = b * 256 ^ i := by
  obtain ⟨p1, p0⟩ := pow_le4 i hi
  unfold shl
  have hm : min (((8 * i : Nat) : Int)).toNat IntKind.i64.bits = 8 * i := by
    have : IntKind.i64.bits = 64 := rfl
    rw [this]
    omega
  rw [hm, pow_8, IntKind.wrap_i64]
  generalize (256 : Int) ^ i = p at p0 p1 ⊢
  obtain ⟨q0, _, q1⟩ := mul_bd b0 b1 p0 p1
  generalize b * p = q at q0 q1 ⊢
  omega

theorem shr_le (n : Int) (i : Nat) (hi : i ≤ 4) : shr .i64 n ((8 * i : Nat) : Int) = n / 256 ^ i := by
  unfold shr
  have hm : min (((8 * i : Nat) : Int)).toNat IntKind.i64.bits = 8 * i := by
    have : IntKind.i64.bits = 64 := rfl
    rw [this]
    omega
  rw [hm, pow_8]

/-- The two parts of the check sum, behind some more bytes. -/
def adl : List Int → Int × Int → Int × Int
  | [], s => s
  | c :: t, s => adl t ((s.1 + c) % 65521, (s.2 + (s.1 + c) % 65521) % 65521)

def sumS (l : List Int) : Int := (adl l (1, 0)).2 * 65536 + (adl l (1, 0)).1

theorem adl_bd (l : List Int) : ∀ s : Int × Int, 0 ≤ s.1 → s.1 < 65521 → 0 ≤ s.2 → s.2 < 65521 → 0 ≤ (adl l s).1 ∧ (adl l s).1 < 65521 ∧ 0 ≤ (adl l s).2 ∧ (adl l s).2 < 65521 := by
  induction l with
  | nil => intro s a b c d; exact ⟨a, b, c, d⟩
  | cons x t ih => intro s a b c d; simp only [adl]; exact ih _ (by simp only; omega) (by simp only; omega) (by simp only; omega) (by simp only; omega)

theorem sumS_bd (l : List Int) : 0 ≤ sumS l ∧ sumS l < 4294967296 := by
  obtain ⟨a, b, c, d⟩ := adl_bd l (1, 0) (by decide) (by decide) (by decide) (by decide)
  unfold sumS
  omega

def sealS (l : List Int) : List Int × Int := if l.length < 4 then ([], 10) else (putL 4 l (l.length - 4) (sumS (l.take (l.length - 4))), 0)

def sealedS (l : List Int) : Bool := decide (4 ≤ l.length) && (le (l.drop (l.length - 4)) == sumS (l.take (l.length - 4)))

theorem getS_end {l : List Int} (h : 4 ≤ l.length) : getS l ((l.length - 4 : Nat) : Int) 4 = (le (l.drop (l.length - 4)), 0) := by
  unfold getS
  rw [if_neg (by omega), if_neg (by omega)]
  have e : (l.drop (((l.length - 4 : Nat) : Int)).toNat).take ((4 : Int)).toNat = l.drop (l.length - 4) := by
    rw [Int.toNat_natCast]
    exact List.take_of_length_le (by simp; omega)
  rw [e]

theorem there_f (l : List Int) (hl : l.length ≤ 140737488351232) (a w : Int) (ha : (Lit.int .i64 a).wf = true) (hw : (Lit.int .i64 w).wf = true) (k : Nat) :
    word_there.f (k + 1) l a w = some (if w < 1 ∨ 4 < w ∨ a < 0 then 1 else if (l.length : Int) - w < a then 10 else 0) := by
  have hb := i64_bd ha
  unfold word_there.f
  simp only [word_there.j0, if_true]
  by_cases h1 : w < 1
  · rw [if_pos h1, if_pos (.inl h1)]
  · rw [if_neg h1]
    by_cases h2 : w > 4
    · rw [if_pos h2, if_pos (.inr (.inl h2))]
    · rw [if_neg h2]
      by_cases h3 : a < 0
      · rw [decide_eq_true h3, if_pos rfl, if_pos (by omega)]
      · rw [decide_eq_false h3]
        simp only [Bool.false_eq_true, if_false]
        have e : wrap64 ((l.length : Int) - a) = (l.length : Int) - a := by unfold wrap64; omega
        rw [e, if_neg (show ¬ (w < 1 ∨ 4 < w ∨ a < 0) by omega)]
        by_cases h4 : a > (l.length : Int)
        · rw [if_pos h4, if_pos (by omega)]
        · rw [if_neg h4]
          by_cases h5 : w > (l.length : Int) - a
          · rw [if_pos h5, if_pos (by omega)]
          · rw [if_neg h5, if_neg (by omega)]

theorem get_l (l : List Int) (h : ∀ x ∈ l, (Lit.int .u8 x).wf = true) (hl : l.length ≤ 140737488351232) (a w : Nat) (hw : w ≤ 4) (haw : a + w ≤ l.length) (d : Nat) :
    ∀ (k i : Nat) (acc : Int), i + d = w → d < k → 0 ≤ acc → acc < 256 ^ i → word_Get.l0 k l (a : Int) acc (w : Int) (i : Int) = some (acc + 256 ^ i * le ((l.drop (a + i)).take d), 0) := by
  induction d with
  | zero =>
    intro k i acc hi hk h0 h1
    obtain ⟨k, rfl⟩ : ∃ m, k = m + 1 := ⟨k - 1, by omega⟩
    simp only [word_Get.l0]
    rw [if_neg (by omega)]
    simp [le]
  | succ d ih =>
    intro k i acc hi hk h0 h1
    obtain ⟨k, rfl⟩ : ∃ m, k = m + 1 := ⟨k - 1, by omega⟩
    simp only [word_Get.l0]
    obtain ⟨b0, b1⟩ := rd_u8 h ((a + i : Nat) : Int)
    obtain ⟨p1, p0⟩ := pow_le4 i (by omega)
    rw [if_pos (by omega), w_add a i (by omega), if_pos (by omega), if_pos (by omega), w_mul8 i (by omega), if_pos (by omega), w_succ i (by omega), w_small _ (by omega) (by omega), shl_le i (by omega) b0 b1, or_add (by omega) h0 h1 b0 b1]
    obtain ⟨q0, q2, q1⟩ := mul_bd b0 b1 p0 p1
    have hb : 0 ≤ acc + rd l ((a + i : Nat) : Int) * 256 ^ i := Int.add_nonneg h0 q0
    have hc : acc + rd l ((a + i : Nat) : Int) * 256 ^ i < 256 ^ (i + 1) := by
      rw [Int.pow_succ]
      generalize (256 : Int) ^ i = p at *
      generalize rd l ((a + i : Nat) : Int) * p = q at *
      omega
    rw [ih k (i + 1) _ (by omega) (by omega) hb hc, drop_cons l (a + i) d (by omega)]
    simp only [le, Int.pow_succ, Int.mul_add]
    rw [show a + (i + 1) = a + i + 1 from rfl, Int.mul_assoc, Int.mul_comm (rd l _) (256 ^ i), Int.add_assoc]

theorem get_f (l : List Int) (h : ∀ x ∈ l, (Lit.int .u8 x).wf = true) (hl : l.length ≤ 140737488351232) (a w : Int) (ha : (Lit.int .i64 a).wf = true) (hw : (Lit.int .i64 w).wf = true) (k : Nat) (hk : 6 ≤ k) :
    word_Get.f k l a w = some (getS l a w) := by
  obtain ⟨k, rfl⟩ : ∃ m, k = m + 1 := ⟨k - 1, by omega⟩
  unfold word_Get.f getS
  rw [there_f l hl a w ha hw k]
  simp only [Option.bind_some]
  by_cases h1 : w < 1 ∨ 4 < w ∨ a < 0
  · rw [if_pos h1, if_pos h1, if_neg (by omega)]
  · rw [if_neg h1, if_neg h1]
    by_cases h2 : (l.length : Int) - w < a
    · rw [if_pos h2, if_pos h2, if_neg (by omega)]
    · rw [if_neg h2, if_neg h2, if_pos rfl]
      obtain ⟨a', rfl⟩ := Int.eq_ofNat_of_zero_le (show 0 ≤ a by omega)
      obtain ⟨w', rfl⟩ := Int.eq_ofNat_of_zero_le (show 0 ≤ w by omega)
      have := get_l l h hl a' w' (by omega) (by omega) w' (k + 1) 0 0 (by omega) (by omega) (by omega) (by decide)
      simpa using this

theorem put_l (a w : Nat) (n : Int) (hn : 0 ≤ n) (hw : w ≤ 4) (d : Nat) :
    ∀ (k i : Nat) (x : List Int), x.length ≤ 140737488351232 → a + w ≤ x.length → i + d = w → d < k → word_Put.l0 k (a : Int) n x (w : Int) (i : Int) = some (putL d x (a + i) (n / 256 ^ i), 0) := by
  induction d with
  | zero =>
    intro k i x hl haw hi hk
    obtain ⟨k, rfl⟩ : ∃ m, k = m + 1 := ⟨k - 1, by omega⟩
    simp only [word_Put.l0]
    rw [if_neg (by omega)]
    simp [putL]
  | succ d ih =>
    intro k i x hl haw hi hk
    obtain ⟨k, rfl⟩ : ∃ m, k = m + 1 := ⟨k - 1, by omega⟩
    simp only [word_Put.l0]
    rw [if_pos (by omega), w_add a i (by omega), w_mul8 i (by omega), if_pos (by omega), if_pos (by omega), if_pos (by omega), w_succ i (by omega), shr_le n i (by omega)]
    rw [ih k (i + 1) _ (by simpa using hl) (by simpa using haw) (by omega) (by omega)]
    simp only [putL]
    obtain ⟨_, p0⟩ := pow_le4 i (by omega)
    rw [Int.pow_succ, ← Int.ediv_ediv_of_nonneg (Int.le_trans (by decide) p0), show (((a + i : Nat) : Int)).toNat = a + i by omega, show a + (i + 1) = a + i + 1 from rfl]

theorem shr_zero (n : Int) (w : Nat) (hw : w ≤ 4) (hn : 0 ≤ n) : ((shr .i64 n ((8 * w : Nat) : Int)) != 0) = decide (256 ^ w ≤ n) := by
  obtain ⟨_, p0⟩ := pow_le4 w hw
  rw [shr_le n w hw]
  generalize (256 : Int) ^ w = p at *
  by_cases h : p ≤ n
  · rw [decide_eq_true h, bne_iff_ne]
    have := (Int.le_ediv_iff_mul_le (a := 1) (b := n) (c := p) (by omega)).2 (by omega)
    omega
  · rw [decide_eq_false h, Int.ediv_eq_zero_of_lt hn (by omega)]
    rfl

theorem putS_arg {l : List Int} {a w n : Int} (h : w < 1 ∨ 4 < w ∨ a < 0 ∨ n < 0 ∨ 256 ^ w.toNat ≤ n) : putS l a w n = ([], 1) := by
  unfold putS; rw [if_pos h]
theorem putS_past {l : List Int} {a w n : Int} (h : ¬ (w < 1 ∨ 4 < w ∨ a < 0 ∨ n < 0 ∨ 256 ^ w.toNat ≤ n)) (h2 : (l.length : Int) - w < a) : putS l a w n = ([], 10) := by
  unfold putS; rw [if_neg h, if_pos h2]
theorem putS_ok {l : List Int} {a w n : Int} (h : ¬ (w < 1 ∨ 4 < w ∨ a < 0 ∨ n < 0 ∨ 256 ^ w.toNat ≤ n)) (h2 : ¬ (l.length : Int) - w < a) : putS l a w n = (putL w.toNat l a.toNat n, 0) := by
  unfold putS; rw [if_neg h, if_neg h2]

theorem put_f (l : List Int) (hl : l.length ≤ 140737488351232) (a w n : Int) (ha : (Lit.int .i64 a).wf = true) (hw : (Lit.int .i64 w).wf = true) (k : Nat) (hk : 9 ≤ k) :
    word_Put.f k l a w n = some (putS l a w n) := by
  have hb := i64_bd hw
  obtain ⟨k, rfl⟩ : ∃ m, k = m + 3 := ⟨k - 3, by omega⟩
  unfold word_Put.f
  rw [there_f l hl a w ha hw (k + 2)]
  simp only [Option.bind_some]
  by_cases h1 : w < 1 ∨ 4 < w ∨ a < 0
  · rw [if_pos h1, if_pos rfl, putS_arg (by rcases h1 with h | h | h <;> simp [h])]
    simp [word_Put.j0, word_Put.j1]
  · rw [if_neg h1]
    have ne1 : ¬ (if (l.length : Int) - w < a then (10 : Int) else 0) = 1 := by split <;> omega
    rw [if_neg ne1]
    by_cases h3 : n < 0
    · rw [if_pos h3, putS_arg (by simp [h3])]
      simp [word_Put.j0, word_Put.j1]
    · rw [if_neg h3]
      obtain ⟨a', rfl⟩ := Int.eq_ofNat_of_zero_le (show 0 ≤ a by omega)
      obtain ⟨w', rfl⟩ := Int.eq_ofNat_of_zero_le (show 0 ≤ w by omega)
      rw [w_mul8 w' (by omega), if_pos (show 0 ≤ ((8 * w' : Nat) : Int) by omega), shr_zero n w' (by omega) (by omega)]
      by_cases h4 : 256 ^ w' ≤ n
      · rw [decide_eq_true h4, putS_arg (by simp [h4])]
        simp [word_Put.j0, word_Put.j1]
      · have hno : ¬ ((w' : Int) < 1 ∨ 4 < (w' : Int) ∨ (a' : Int) < 0 ∨ n < 0 ∨ 256 ^ ((w' : Int)).toNat ≤ n) := by
          rintro (h | h | h | h | h)
          · exact h1 (.inl h)
          · exact h1 (.inr (.inl h))
          · exact h1 (.inr (.inr h))
          · exact h3 h
          · exact h4 h
        rw [decide_eq_false h4]
        simp only [word_Put.j0, Bool.false_eq_true, if_false, word_Put.j1]
        by_cases h2 : (l.length : Int) - (w' : Int) < (a' : Int)
        · rw [if_pos h2, putS_past hno h2, if_neg (show ¬ (10 : Int) = 0 by decide)]
        · rw [if_neg h2, if_pos rfl, putS_ok hno h2, if_pos (show ([] : List Int).length + l.length < 140737488355328 by simp; omega)]
          have := put_l a' w' n (by omega) (by omega) w' (k + 1) 0 l hl (by omega) (by omega) (by omega)
          simpa using this

theorem sum_l (l : List Int) (h : ∀ x ∈ l, (Lit.int .u8 x).wf = true) (hl : l.length ≤ 140737488351232) (d : Nat) :
    ∀ (k i : Nat) (x y : Int), i + d = l.length → d < k → 0 ≤ x → x < 65521 → 0 ≤ y → y < 65521 →
    word_Sum.l0 k x y l (l.length : Int) (i : Int) = some ((adl (l.drop i) (x, y)).2 * 65536 + (adl (l.drop i) (x, y)).1) := by
  induction d with
  | zero =>
    intro k i x y hi hk a b c e
    obtain ⟨k, rfl⟩ : ∃ m, k = m + 1 := ⟨k - 1, by omega⟩
    simp only [word_Sum.l0]
    rw [if_neg (by omega), List.drop_of_length_le (by omega)]
    simp only [adl]
    rw [w_small (y * 65536) (by omega) (by omega), w_small (y * 65536 + x) (by omega) (by omega)]
  | succ d ih =>
    intro k i x y hi hk a b c e
    obtain ⟨k, rfl⟩ : ∃ m, k = m + 1 := ⟨k - 1, by omega⟩
    simp only [word_Sum.l0]
    obtain ⟨b0, b1⟩ := rd_u8 h (i : Int)
    have e1 : wrap64 (x + wrap64 (rd l (i : Int))) = x + rd l (i : Int) := by rw [w_small (rd l (i : Int)) (by omega) (by omega), w_small (x + rd l (i : Int)) (by omega) (by omega)]
    rw [if_pos (by omega), if_pos (by omega), if_pos (by omega), w_succ i (by omega), e1, Int.tmod_eq_emod_of_nonneg (show 0 ≤ x + rd l (i : Int) by omega)]
    have m0 := Int.emod_nonneg (x + rd l (i : Int)) (show (65521 : Int) ≠ 0 by decide)
    have m1 := Int.emod_lt_of_pos (x + rd l (i : Int)) (show (0 : Int) < 65521 by decide)
    rw [w_small (y + (x + rd l (i : Int)) % 65521) (by omega) (by omega), Int.tmod_eq_emod_of_nonneg (show 0 ≤ y + (x + rd l (i : Int)) % 65521 by omega)]
    rw [ih k (i + 1) _ _ (by omega) (by omega) m0 m1 (Int.emod_nonneg _ (by decide)) (Int.emod_lt_of_pos _ (by decide))]
    rw [List.drop_eq_getElem_cons (show i < l.length by omega)]
    have hr : rd l (i : Int) = l[i]'(by omega) := by
      unfold rd
      rw [Int.toNat_natCast, List.getD_eq_getElem?_getD, List.getElem?_eq_getElem (show i < l.length by omega)]
      rfl
    rw [hr]
    simp only [adl]

theorem sum_f (l : List Int) (h : ∀ x ∈ l, (Lit.int .u8 x).wf = true) (hl : l.length ≤ 140737488351232) (k : Nat) (hk : l.length < k) : word_Sum.f k l = some (sumS l) := by
  unfold word_Sum.f sumS
  have := sum_l l h hl l.length k 0 1 0 (by omega) hk (by decide) (by decide) (by decide) (by decide)
  simpa using this

theorem seal_f (l : List Int) (h : ∀ x ∈ l, (Lit.int .u8 x).wf = true) (hl : l.length ≤ 140737488351232) (k : Nat) (hk : l.length + 9 ≤ k) : word_Seal.f k l = some (sealS l) := by
  unfold word_Seal.f sealS
  rw [w_small ((l.length : Int) - 4) (by omega) (by omega)]
  by_cases h4 : l.length < 4
  · rw [if_pos (show (l.length : Int) - 4 < 0 by omega), if_pos h4]
  · have e : (l.length : Int) - 4 = ((l.length - 4 : Nat) : Int) := by omega
    obtain ⟨s0, s1⟩ := sumS_bd (l.take (l.length - 4))
    rw [if_neg (show ¬ (l.length : Int) - 4 < 0 by omega), if_neg h4, if_pos (show 0 ≤ (l.length : Int) - 4 by omega), if_pos (show (l.length : Int) - 4 ≤ (l.length : Int) by omega), e, Int.toNat_natCast]
    rw [sum_f (l.take (l.length - 4)) (fun x hx => h x (List.mem_of_mem_take hx)) (by simp; omega) k (by simp; omega)]
    simp only [Option.bind_some]
    rw [put_f l hl _ 4 _ (by rw [← e]; simp [Lit.wf, IntKind.min, IntKind.max, IntKind.bits, IntKind.signed]; omega) (by decide) k (by omega)]
    have hno : ¬ ((4 : Int) < 1 ∨ 4 < (4 : Int) ∨ ((l.length - 4 : Nat) : Int) < 0 ∨ sumS (l.take (l.length - 4)) < 0 ∨ 256 ^ ((4 : Int)).toNat ≤ sumS (l.take (l.length - 4))) := by
      have : (256 : Int) ^ ((4 : Int)).toNat = 4294967296 := by decide
      rw [this]
      omega
    rw [putS_ok hno (by omega)]
    simp

theorem sealed_f (l : List Int) (h : ∀ x ∈ l, (Lit.int .u8 x).wf = true) (hl : l.length ≤ 140737488351232) (k : Nat) (hk : l.length + 9 ≤ k) : word_Sealed.f k l = some (sealedS l) := by
  unfold word_Sealed.f sealedS
  rw [w_small ((l.length : Int) - 4) (by omega) (by omega)]
  by_cases h4 : l.length < 4
  · have e : mx ((l.length : Int) - 4) 0 = 0 := by unfold mx; rw [if_pos (by omega)]
    rw [e, get_f l h hl 0 4 (by decide) (by decide) k (by omega)]
    have g : getS l 0 4 = (0, 10) := by unfold getS; rw [if_neg (by decide), if_pos (by omega)]
    rw [g]
    simp only [Option.bind_some]
    rw [if_neg (by decide)]
    simp [show ¬ 4 ≤ l.length by omega]
  · have e : (l.length : Int) - 4 = ((l.length - 4 : Nat) : Int) := by omega
    have e2 : mx ((l.length : Int) - 4) 0 = ((l.length - 4 : Nat) : Int) := by unfold mx; rw [if_neg (by omega)]; exact e
    rw [e2, get_f l h hl _ 4 (by rw [← e]; simp [Lit.wf, IntKind.min, IntKind.max, IntKind.bits, IntKind.signed]; omega) (by decide) k (by omega), getS_end (by omega)]
    simp only [Option.bind_some]
    rw [if_pos trivial, if_pos (show 0 ≤ (l.length : Int) - 4 by omega), if_pos (show (l.length : Int) - 4 ≤ (l.length : Int) by omega), e, Int.toNat_natCast]
    rw [sum_f (l.take (l.length - 4)) (fun x hx => h x (List.mem_of_mem_take hx)) (by simp; omega) k (by simp; omega)]
    simp [show 4 ≤ l.length by omega]

theorem xor_u8 (a b : Nat) (ha : a < 256) (hb : b < 256) : Go.bits .xor .u8 (a : Int) (b : Int) = ((a ^^^ b : Nat) : Int) := by
  have ha' : a % 256 = a := Nat.mod_eq_of_lt ha
  have hb' : b % 256 = b := Nat.mod_eq_of_lt hb
  have hx : a ^^^ b < 2 ^ 8 := Nat.xor_lt_two_pow (n := 8) ha hb
  have e : IntKind.u8.bits = 8 := rfl
  simp only [bits, e, BitVec.ofInt_natCast, BitVec.toNat_xor, BitVec.toNat_ofNat]
  rw [show (2 : Nat) ^ 8 = 256 by decide, ha', hb']
  exact wraps_u8 _ (by omega) (by omega)

theorem xor_turn {x d : Int} (h0 : 0 ≤ x) (h1 : x ≤ 255) (d0 : 1 ≤ d) (d1 : d ≤ 255) : 0 ≤ Go.bits .xor .u8 x d ∧ Go.bits .xor .u8 x d ≤ 255 ∧ Go.bits .xor .u8 x d ≠ x := by
  obtain ⟨a, rfl⟩ := Int.eq_ofNat_of_zero_le h0
  obtain ⟨b, rfl⟩ := Int.eq_ofNat_of_zero_le (show 0 ≤ d by omega)
  rw [xor_u8 a b (by omega) (by omega)]
  have hx : a ^^^ b < 2 ^ 8 := Nat.xor_lt_two_pow (n := 8) (by omega) (by omega)
  refine ⟨by omega, by omega, fun h => ?_⟩
  have h2 : a ^^^ b = a := by omega
  have h3 : a ^^^ (a ^^^ b) = a ^^^ a := by rw [h2]
  rw [← Nat.xor_assoc, Nat.xor_self, Nat.zero_xor] at h3
  omega

theorem adl_fst (l : List Int) : ∀ s : Int × Int, 0 ≤ s.1 → s.1 < 65521 → (adl l s).1 = (s.1 + l.sum) % 65521 := by
  induction l with
  | nil => intro s a b; simp only [adl, List.sum_nil]; omega
  | cons x t ih =>
    intro s a b
    simp only [adl]
    rw [ih _ (by simp only; omega) (by simp only; omega)]
    simp only [List.sum_cons]
    omega

theorem sum_set (l : List Int) : ∀ (i : Nat) (v : Int) (h : i < l.length), (l.set i v).sum = l.sum + (v - l[i]) := by
  induction l with
  | nil => intro i v h; simp at h
  | cons x t ih =>
    intro i v h
    cases i with
    | zero => simp only [List.set_cons_zero, List.sum_cons, List.getElem_cons_zero]; omega
    | succ i =>
      simp only [List.set_cons_succ, List.sum_cons, List.getElem_cons_succ]
      rw [ih i v (by simpa using h)]
      omega

theorem le_set (l : List Int) : ∀ (i : Nat) (v : Int) (h : i < l.length), le (l.set i v) = le l + 256 ^ i * (v - l[i]) := by
  induction l with
  | nil => intro i v h; simp at h
  | cons x t ih =>
    intro i v h
    cases i with
    | zero => simp only [List.set_cons_zero, le, List.getElem_cons_zero, Int.pow_zero, Int.one_mul]; omega
    | succ i =>
      simp only [List.set_cons_succ, le, List.getElem_cons_succ]
      rw [ih i v (by simpa using h), Int.pow_succ, Int.mul_add, Int.mul_comm (256 ^ i) 256, Int.mul_assoc]
      omega

theorem sumS_set (l : List Int) (i : Nat) (v : Int) (h : i < l.length) (h0 : 0 ≤ l[i]) (h1 : l[i] ≤ 255) (v0 : 0 ≤ v) (v1 : v ≤ 255) (hne : v ≠ l[i]) : sumS (l.set i v) ≠ sumS l := by
  intro e
  unfold sumS at e
  obtain ⟨a, b, _, _⟩ := adl_bd (l.set i v) (1, 0) (by decide) (by decide) (by decide) (by decide)
  obtain ⟨a', b', _, _⟩ := adl_bd l (1, 0) (by decide) (by decide) (by decide) (by decide)
  have f1 := adl_fst (l.set i v) (1, 0) (by decide) (by decide)
  have f2 := adl_fst l (1, 0) (by decide) (by decide)
  rw [sum_set l i v h] at f1
  simp only at f1 f2
  omega

/-- A sealed row is sealed. -/
theorem sealed_seal (l : List Int) (h4 : 4 ≤ l.length) (x : List Int) (hx : x = putL 4 l (l.length - 4) (sumS (l.take (l.length - 4)))) : sealedS x = true := by
  obtain ⟨s0, s1⟩ := sumS_bd (l.take (l.length - 4))
  have hl : x.length = l.length := by rw [hx, putL_length]
  have he := putL_eq 4 l (l.length - 4) (sumS (l.take (l.length - 4))) (by omega)
  rw [← hx] at he
  have hta : (l.take (l.length - 4)).length = l.length - 4 := by simp
  have ht : x.take (l.length - 4) = l.take (l.length - 4) := by
    rw [he, List.append_assoc, List.take_append_of_le_length (by rw [hta]; exact Nat.le_refl _), List.take_of_length_le (by rw [hta]; exact Nat.le_refl _)]
  have hd : x.drop (l.length - 4) = leb 4 (sumS (l.take (l.length - 4))) := by
    rw [he, List.append_assoc, List.drop_append_of_le_length (by rw [hta]; exact Nat.le_refl _), List.drop_of_length_le (by rw [hta]; exact Nat.le_refl _), List.nil_append, List.drop_of_length_le (by omega), List.append_nil]
  unfold sealedS
  rw [hl, ht, hd, le_leb 4 _ s0 (by have : (256 : Int) ^ 4 = 4294967296 := by decide
                                    omega)]
  simp [h4]

/-- With one byte turned it is none any more. -/
theorem sealed_turn (x : List Int) (h : ∀ y ∈ x, (Lit.int .u8 y).wf = true) (h4 : 4 ≤ x.length) (hs : sealedS x = true) (i : Nat) (hi : i < x.length) (v : Int) (v0 : 0 ≤ v) (v1 : v ≤ 255) (hne : v ≠ x[i]) : sealedS (x.set i v) = false := by
  unfold sealedS at hs ⊢
  simp only [Bool.and_eq_true, decide_eq_true_eq, beq_iff_eq] at hs
  obtain ⟨_, hs⟩ := hs
  obtain ⟨c0, c1⟩ := u8_bd (h x[i] (List.getElem_mem hi))
  rw [List.length_set]
  by_cases hm : i < x.length - 4
  · have e1 : (x.set i v).drop (x.length - 4) = x.drop (x.length - 4) := List.drop_set_of_lt hm
    have e2 : (x.set i v).take (x.length - 4) = (x.take (x.length - 4)).set i v := by rw [List.take_set]
    rw [e1, e2, hs]
    have hk : i < (x.take (x.length - 4)).length := by simp; omega
    have hg : (x.take (x.length - 4))[i]'hk = x[i] := by simp
    have := sumS_set (x.take (x.length - 4)) i v hk (by rw [hg]; exact c0) (by rw [hg]; exact c1) v0 v1 (by rw [hg]; exact hne)
    simp only [Bool.and_eq_false_imp, beq_eq_false_iff_ne]
    exact fun _ e => this e.symm
  · have e1 : (x.set i v).take (x.length - 4) = x.take (x.length - 4) := List.take_set_of_le (by omega)
    have e2 : (x.set i v).drop (x.length - 4) = (x.drop (x.length - 4)).set (i - (x.length - 4)) v := by rw [List.drop_set, if_neg hm]
    rw [e1, e2]
    have hk : i - (x.length - 4) < (x.drop (x.length - 4)).length := by simp; omega
    have hg : (x.drop (x.length - 4))[i - (x.length - 4)]'hk = x[i] := by
      rw [List.getElem_drop]
      congr 1
      omega
    rw [le_set _ _ v hk, hg, hs]
    simp only [Bool.and_eq_false_imp, beq_eq_false_iff_ne]
    intro _ e
    have hp := (pow_le4 (i - (x.length - 4)) (by omega)).2
    have hz : 256 ^ (i - (x.length - 4)) * (v - x[i]) = 0 := by omega
    rcases Int.mul_eq_zero.1 hz with hz | hz
    · omega
    · omega

theorem putL_u8 (w : Nat) : ∀ (x : List Int) (a : Nat) (n : Int), (∀ y ∈ x, (Lit.int .u8 y).wf = true) → ∀ y ∈ putL w x a n, (Lit.int .u8 y).wf = true := by
  induction w with
  | zero => intro x a n h; exact h
  | succ w ih =>
    intro x a n h
    refine ih _ _ _ ?_
    intro y hy
    rcases List.mem_or_eq_of_mem_set hy with hy | rfl
    · exact h y hy
    · simp [Lit.wf, IntKind.min, IntKind.max, IntKind.bits, IntKind.signed]; omega

theorem u64_wrap (x : Int) : IntKind.u64.wrap x = x % 18446744073709551616 := by simp [IntKind.wrap, IntKind.bits, IntKind.signed]

theorem turned (q : List Int) (h : ∀ x ∈ q, (Lit.int .u8 x).wf = true) (hl : q.length ≤ 140737488351232) (a1 a2 : Int) (k : Nat) (hk : q.length + 9 ≤ k) :
    ((word_Seal.f k q).bind fun bt129 => (if (q.length : Int) < 4 then (some (bt129.2 == 10)) else (if bt129.2 = 0 then ((word_Sealed.f k bt129.1).bind fun t133 => (if t133 = true then ((bytes_Clone.f bt129.1).bind fun t134 => (if (IntKind.u64.wrap ((t134.length : Int))) = 0 then (none) else (if 0 ≤ (wrap64 (Int.tmod (IntKind.u64.wrap (a1)) (IntKind.u64.wrap ((t134.length : Int))))) then (if (wrap64 (Int.tmod (IntKind.u64.wrap (a1)) (IntKind.u64.wrap ((t134.length : Int))))) < (t134.length : Int) then ((word_Sealed.f k (t134.set ((wrap64 (Int.tmod (IntKind.u64.wrap (a1)) (IntKind.u64.wrap ((t134.length : Int))))) : Int).toNat (Go.bits .xor .u8 (rd t134 (wrap64 (Int.tmod (IntKind.u64.wrap (a1)) (IntKind.u64.wrap ((t134.length : Int)))))) ((IntKind.u64.wrap (1 + (Int.tmod (IntKind.u64.wrap (a2)) 255))) % 256)))).bind fun t139 => (some (!t139))) else (none)) else (none)))) else (some false))) else (some false)))) = some true := by
  rw [seal_f q h hl k hk]
  simp only [Option.bind_some]
  unfold sealS
  by_cases h4 : q.length < 4
  · rw [if_pos h4, if_pos (by omega)]
    rfl
  · rw [if_neg h4, if_neg (by omega)]
    simp only
    rw [if_pos trivial]
    have hx := sealed_seal q (by omega) _ rfl
    have hxl := putL_length 4 q (q.length - 4) (sumS (q.take (q.length - 4)))
    have hxu := putL_u8 4 q (q.length - 4) (sumS (q.take (q.length - 4))) h
    generalize putL 4 q (q.length - 4) (sumS (q.take (q.length - 4))) = x at hx hxl hxu ⊢
    rw [sealed_f x hxu (by omega) k (by omega), hx]
    have hc : bytes_Clone.f x = some x := by unfold bytes_Clone.f; rw [if_pos (by omega)]
    simp only [Option.bind_some, if_true]
    rw [hc]
    simp only [Option.bind_some]
    rw [u64_wrap, u64_wrap, u64_wrap, u64_wrap]
    have e1 : (x.length : Int) % 18446744073709551616 = (x.length : Int) := by omega
    rw [e1, if_neg (by omega)]
    have t0 := Int.emod_nonneg (a1 % 18446744073709551616) (show (x.length : Int) ≠ 0 by omega)
    have t1 := Int.emod_lt_of_pos (a1 % 18446744073709551616) (show 0 < (x.length : Int) by omega)
    rw [Int.tmod_eq_emod_of_nonneg (show 0 ≤ a1 % 18446744073709551616 by omega), Int.tmod_eq_emod_of_nonneg (show 0 ≤ a2 % 18446744073709551616 by omega)]
    generalize (a1 % 18446744073709551616) % (x.length : Int) = i at t0 t1 ⊢
    generalize hd : (1 + a2 % 18446744073709551616 % 255) % 18446744073709551616 % 256 = d
    have d0 : 1 ≤ d := by omega
    have d1 : d ≤ 255 := by omega
    rw [w_small i (by omega) (by omega), if_pos t0, if_pos t1]
    obtain ⟨b0, b1⟩ := rd_u8 hxu i
    obtain ⟨y0, y1, y2⟩ := xor_turn b0 b1 d0 d1
    have hrd : rd x i = x[i.toNat]'(by omega) := by
      unfold rd
      rw [List.getD_eq_getElem?_getD, List.getElem?_eq_getElem (by omega)]
      rfl
    have hyu : ∀ y ∈ x.set i.toNat (Go.bits .xor .u8 (rd x i) d), (Lit.int .u8 y).wf = true := by
      intro y hy
      rcases List.mem_or_eq_of_mem_set hy with hy | rfl
      · exact hxu y hy
      · simp [Lit.wf, IntKind.min, IntKind.max, IntKind.bits, IntKind.signed]; omega
    rw [sealed_f _ hyu (by simp; omega) k (by simp; omega), sealed_turn x hxu (by omega) hx i.toNat (by omega) _ y0 y1 (by rw [← hrd]; exact y2)]
    rfl

theorem WordSealed : bollardlaw01_WordSealed.Pure := by
  intro l a1 a2 _ hl h _ _
  have hl' : l.length ≤ 140737488351232 := by omega
  refine ⟨140737488355400, ?_⟩
  unfold bollardlaw01_WordSealed.f
  by_cases hz : (l.length : Int) > 1000
  · rw [if_pos hz, if_pos (by omega)]
    exact turned (l.take 1000) (fun x hx => h x (List.mem_of_mem_take hx)) (by simp; omega) a1 a2 _ (by simp; omega)
  · rw [if_neg hz]
    exact turned l h hl' a1 a2 _ (by omega)

end Go.Proofs.Ytjageihjjmfhgaa.Pure
