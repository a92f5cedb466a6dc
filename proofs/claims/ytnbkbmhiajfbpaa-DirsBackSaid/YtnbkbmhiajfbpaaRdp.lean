/- What a reader's calls tell, as plain functions of its bytes, its place and its error. -/
import Derived.Test.YtnbkbmhiajfbpaaRdo
namespace Go.Proofs.Ytnbkbmhiajfbpaa.Rd
open Go.RowKit Go.Proofs.Ytnbkbmhiajfbpaa.XRd Go.Proofs.YtnbkbmhiajfbpaaW.PrintWords Go.Proofs.YtnbkbmhiajfbpaaW.PrintLast
set_option linter.unusedVariables false
set_option linter.unusedSimpArgs false
theorem u8_bd {x : Int} (h : (Lit.int .u8 x).wf = true) : 0 ≤ x ∧ x ≤ 255 := by
  simp [Lit.wf, IntKind.min, IntKind.max, IntKind.bits, IntKind.signed] at h
  omega

theorem i64_bd {x : Int} (h : (Lit.int .i64 x).wf = true) : -9223372036854775808 ≤ x ∧ x ≤ 9223372036854775807 := by
  simp [Lit.wf, IntKind.min, IntKind.max, IntKind.bits, IntKind.signed] at h
  omega

theorem rd_u8 {l : List Int} (h : ∀ x ∈ l, (Lit.int .u8 x).wf = true) (i : Int) : 0 ≤ rd l i ∧ rd l i ≤ 255 := by
  unfold rd
  rw [List.getD_eq_getElem?_getD]
  by_cases hi : i.toNat < l.length
  · rw [List.getElem?_eq_getElem hi]
    exact u8_bd (h _ (List.getElem_mem hi))
  · rw [List.getElem?_eq_none (by omega)]
    simp

theorem rd_set (l : List Int) (i : Int) (v : Int) (h1 : i.toNat < l.length) : rd (l.set i.toNat v) i = v := by
  unfold rd
  rw [List.getD_eq_getElem?_getD, List.getElem?_set_self h1]
  rfl

/-- The number that bytes tell, the lowest first. -/
def le : List Int → Int
  | [] => 0
  | x :: t => x + 256 * le t

/-- So many bytes of a number, the lowest first. -/
def leb : Nat → Int → List Int
  | 0, _ => []
  | w + 1, n => (n % 256) :: leb w (n / 256)

/-- Bytes with so many of a number's at a place. -/
def putL : Nat → List Int → Nat → Int → List Int
  | 0, x, _, _ => x
  | w + 1, x, a, n => putL w (x.set a (n % 256)) (a + 1) (n / 256)

theorem leb_length (w : Nat) (n : Int) : (leb w n).length = w := by
  induction w generalizing n with
  | zero => rfl
  | succ w ih => simp only [leb, List.length_cons, ih]

theorem putL_eq (w : Nat) : ∀ (x : List Int) (a : Nat) (n : Int), a + w ≤ x.length → putL w x a n = x.take a ++ leb w n ++ x.drop (a + w) := by
  induction w with
  | zero => intro x a n _; simp [putL, leb]
  | succ w ih =>
    intro x a n h
    have e1 : (x.set a (n % 256)).take (a + 1) = x.take a ++ [n % 256] := by
      rw [List.take_succ_eq_append_getElem (by simp; omega), List.take_set_of_le (Nat.le_refl a)]
      simp
    have e2 : (x.set a (n % 256)).drop (a + 1 + w) = x.drop (a + 1 + w) := by
      rw [List.drop_set_of_lt (by omega)]
    simp only [putL, leb]
    rw [ih _ _ _ (by simp; omega), e1, e2]
    simp [show a + (w + 1) = a + 1 + w by omega]

theorem putL_length (w : Nat) : ∀ (x : List Int) (a : Nat) (n : Int), (putL w x a n).length = x.length := by
  induction w with
  | zero => intro x a n; rfl
  | succ w ih => intro x a n; simp only [putL, ih, List.length_set]

theorem le_leb (w : Nat) : ∀ n : Int, 0 ≤ n → n < 256 ^ w → le (leb w n) = n := by
  induction w with
  | zero => intro n h0 h1; simp at h1; simp only [leb, le]; omega
  | succ w ih =>
    intro n h0 h1
    have h2 : n / 256 < 256 ^ w := by
      rw [Int.pow_succ] at h1
      omega
    simp only [leb, le]
    rw [ih _ (by omega) h2]
    omega

theorem le_bd (l : List Int) (h : ∀ x ∈ l, (Lit.int .u8 x).wf = true) : 0 ≤ le l ∧ le l < 256 ^ l.length := by
  induction l with
  | nil => simp [le]
  | cons x t ih =>
    obtain ⟨a, b⟩ := u8_bd (h x (by simp))
    obtain ⟨c, d⟩ := ih (fun y hy => h y (by simp [hy]))
    simp only [le, List.length_cons, Int.pow_succ]
    omega

theorem le_snoc (l : List Int) (x : Int) : le (l ++ [x]) = le l + 256 ^ l.length * x := by
  induction l with
  | nil => simp [le]
  | cons y t ih => simp only [List.cons_append, le, ih, List.length_cons, Int.pow_succ, Int.mul_add]; rw [Int.mul_comm (256 ^ t.length) 256, Int.mul_assoc]; omega

theorem leb_u8 (w : Nat) : ∀ n : Int, ∀ x ∈ leb w n, (Lit.int .u8 x).wf = true := by
  induction w with
  | zero => intro n x hx; simp [leb] at hx
  | succ w ih =>
    intro n x hx
    simp only [leb, List.mem_cons] at hx
    rcases hx with rfl | hx
    · simp [Lit.wf, IntKind.min, IntKind.max, IntKind.bits, IntKind.signed]; omega
    · exact ih _ x hx

/-- What a reading of so many bytes at a place tells. -/
def getS (l : List Int) (a w : Int) : Int × Int :=
  if w < 1 ∨ 4 < w ∨ a < 0 then (0, 1) else if (l.length : Int) - w < a then (0, 10) else (le ((l.drop a.toNat).take w.toNat), 0)

/-- What a writing of a number there tells. -/
def putS (l : List Int) (a w n : Int) : List Int × Int :=
  if w < 1 ∨ 4 < w ∨ a < 0 ∨ n < 0 ∨ 256 ^ w.toNat ≤ n then ([], 1) else if (l.length : Int) - w < a then ([], 10) else (putL w.toNat l a.toNat n, 0)

theorem pow_8 (i : Nat) : (2 : Int) ^ (8 * i) = 256 ^ i := by rw [Int.pow_mul]; rfl

theorem pow_le4 (i : Nat) (h : i ≤ 4) : (256 : Int) ^ i ≤ 4294967296 ∧ 1 ≤ (256 : Int) ^ i := by
  match i, h with
  | 0, _ => decide
  | 1, _ => decide
  | 2, _ => decide
  | 3, _ => decide
  | 4, _ => decide

theorem or_add {i : Nat} (hi : i ≤ 3) {x b : Int} (h0 : 0 ≤ x) (h1 : x < 256 ^ i) (h2 : 0 ≤ b) (h3 : b ≤ 255) : Go.bits .or .i64 x (b * 256 ^ i) = x + b * 256 ^ i := by
  have hp := pow_le4 i (by omega)
  obtain ⟨n, rfl⟩ := Int.eq_ofNat_of_zero_le h0
  obtain ⟨m, rfl⟩ := Int.eq_ofNat_of_zero_le h2
  have hm : ((m : Int) * 256 ^ i) ≤ 255 * 4294967296 := by
    have := Int.mul_le_mul (a := (m : Int)) (b := 256 ^ i) (c := 255) (d := 4294967296) h3 hp.1 (by omega) (by omega)
    omega
  have e : ((m : Int) * 256 ^ i) = ((m * 256 ^ i : Nat) : Int) := by rw [Int.natCast_mul, Int.natCast_pow]; rfl
  have hn : n < 256 ^ i := by
    have h : (n : Int) < ((256 ^ i : Nat) : Int) := by rw [Int.natCast_pow]; exact h1
    omega
  rw [e] at hm ⊢
  have hwr : ∀ n : Int, 0 ≤ n → n < 2 ^ 63 → IntKind.i64.wrap n = n := by intro n h h'; rw [IntKind.wrap_i64]; omega
  rw [(bits_nat .i64 63 (by decide) hwr n (m * 256 ^ i) (by omega) (by omega)).2]
  have h8 : 256 ^ i = 2 ^ (8 * i) := by rw [Nat.pow_mul]
  rw [h8] at hn ⊢
  have hq := Nat.two_pow_add_eq_or_of_lt hn m
  rw [Nat.mul_comm m, Nat.or_comm, ← hq, Int.natCast_add, Int.add_comm]

theorem take_snoc (l : List Int) (a j : Nat) (h : a + j < l.length) : (l.drop a).take (j + 1) = (l.drop a).take j ++ [rd l ((a : Int) + (j : Int))] := by
  rw [List.take_succ_eq_append_getElem (by simp; omega)]
  congr 1
  unfold rd
  rw [show ((a : Int) + (j : Int)).toNat = a + j by omega, List.getD_eq_getElem?_getD, List.getElem?_eq_getElem h]
  simp

theorem drop_cons (l : List Int) (a j : Nat) (h : a < l.length) : (l.drop a).take (j + 1) = rd l (a : Int) :: (l.drop (a + 1)).take j := by
  rw [List.drop_eq_getElem_cons h, List.take_succ_cons]
  unfold rd
  rw [show ((a : Int)).toNat = a by omega, List.getD_eq_getElem?_getD, List.getElem?_eq_getElem h]
  rfl

theorem w_add (a i : Nat) (h : a + i ≤ 140737488351232) : wrap64 ((a : Int) + (i : Int)) = ((a + i : Nat) : Int) := by unfold wrap64; omega
theorem w_mul8 (i : Nat) (h : i ≤ 4) : wrap64 (8 * (i : Int)) = ((8 * i : Nat) : Int) := by unfold wrap64; omega
theorem w_succ (i : Nat) (h : i ≤ 140737488351232) : wrap64 ((i : Int) + 1) = ((i + 1 : Nat) : Int) := by unfold wrap64; omega
theorem w_small (x : Int) (h0 : -9223372036854775808 ≤ x) (h1 : x ≤ 9223372036854775807) : wrap64 x = x := by unfold wrap64; omega

theorem mul_bd {b p : Int} (b0 : 0 ≤ b) (b1 : b ≤ 255) (p0 : 1 ≤ p) (p1 : p ≤ 4294967296) : 0 ≤ b * p ∧ b * p ≤ 255 * p ∧ b * p ≤ 1095216660480 := by
  have h1 := Int.mul_le_mul_of_nonneg_right b1 (show 0 ≤ p by omega)
  have h2 := Int.mul_nonneg b0 (show 0 ≤ p by omega)
  omega

theorem shl_le {b : Int} (i : Nat) (hi : i ≤ 4) (b0 : 0 ≤ b) (b1 : b ≤ 255) : shl .i64 b ((8 * i : Nat) : Int) = b * 256 ^ i := by
  obtain ⟨p1, p0⟩ := pow_le4 i hi
  unfold shl
  have hm : min (((8 * i : Nat) : Int)).toNat IntKind.i64.bits = 8 * i := by
    have : IntKind.i64.bits = 64 := rfl
    rw [this]
    omega
  rw [hm, pow_8, IntKind.wrap_i64]
  generalize (256 : Int) ^ i = p at p0 p1 ⊢
  obtain ⟨q0, _, q1⟩ := mul_bd b0 b1 p0 p1
  generalize b * p = q at q0 q1 ⊢
  omega

theorem shr_le (n : Int) (i : Nat) (hi : i ≤ 4) : shr .i64 n ((8 * i : Nat) : Int) = n / 256 ^ i := by
  unfold shr
  have hm : min (((8 * i : Nat) : Int)).toNat IntKind.i64.bits = 8 * i := by
    have : IntKind.i64.bits = 64 := rfl
    rw [this]
    omega
  rw [hm, pow_8]

theorem there_f (l : List Int) (hl : l.length ≤ 140737488351232) (a w : Int) (ha : (Lit.int .i64 a).wf = true) (hw : (Lit.int .i64 w).wf = true) (k : Nat) :
    word_there.f (k + 1) l a w = some (if w < 1 ∨ 4 < w ∨ a < 0 then 1 else if (l.length : Int) - w < a then 10 else 0) := by
  have hb := i64_bd ha
  unfold word_there.f
  simp only [word_there.j0, if_true]
  by_cases h1 : w < 1
  · rw [if_pos h1, if_pos (.inl h1)]
  · rw [if_neg h1]
    by_cases h2 : w > 4
    · rw [if_pos h2, if_pos (.inr (.inl h2))]
    · rw [if_neg h2]
      by_cases h3 : a < 0
      · rw [decide_eq_true h3, if_pos rfl, if_pos (by omega)]
      · rw [decide_eq_false h3]
        simp only [Bool.false_eq_true, if_false]
        have e : wrap64 ((l.length : Int) - a) = (l.length : Int) - a := by unfold wrap64; omega
        rw [e, if_neg (show ¬ (w < 1 ∨ 4 < w ∨ a < 0) by omega)]
        by_cases h4 : a > (l.length : Int)
        · rw [if_pos h4, if_pos (by omega)]
        · rw [if_neg h4]
          by_cases h5 : w > (l.length : Int) - a
          · rw [if_pos h5, if_pos (by omega)]
          · rw [if_neg h5, if_neg (by omega)]

theorem get_l (l : List Int) (h : ∀ x ∈ l, (Lit.int .u8 x).wf = true) (hl : l.length ≤ 140737488351232) (a w : Nat) (hw : w ≤ 4) (haw : a + w ≤ l.length) (d : Nat) :
    ∀ (k i : Nat) (acc : Int), i + d = w → d < k → 0 ≤ acc → acc < 256 ^ i → word_Get.l0 k l (a : Int) acc (w : Int) (i : Int) = some (acc + 256 ^ i * le ((l.drop (a + i)).take d), 0) := by
  induction d with
  | zero =>
    intro k i acc hi hk h0 h1
    obtain ⟨k, rfl⟩ : ∃ m, k = m + 1 := ⟨k - 1, by omega⟩
    simp only [word_Get.l0]
    rw [if_neg (by omega)]
    simp [le]
  | succ d ih =>
    intro k i acc hi hk h0 h1
    obtain ⟨k, rfl⟩ : ∃ m, k = m + 1 := ⟨k - 1, by omega⟩
    simp only [word_Get.l0]
    obtain ⟨b0, b1⟩ := rd_u8 h ((a + i : Nat) : Int)
    obtain ⟨p1, p0⟩ := pow_le4 i (by omega)
    rw [if_pos (by omega), w_add a i (by omega), if_pos (by omega), if_pos (by omega), w_mul8 i (by omega), if_pos (by omega), w_succ i (by omega), w_small _ (by omega) (by omega), shl_le i (by omega) b0 b1, or_add (by omega) h0 h1 b0 b1]
    obtain ⟨q0, q2, q1⟩ := mul_bd b0 b1 p0 p1
    have hb : 0 ≤ acc + rd l ((a + i : Nat) : Int) * 256 ^ i := Int.add_nonneg h0 q0
    have hc : acc + rd l ((a + i : Nat) : Int) * 256 ^ i < 256 ^ (i + 1) := by
      rw [Int.pow_succ]
      generalize (256 : Int) ^ i = p at *
      generalize rd l ((a + i : Nat) : Int) * p = q at *
      omega
    rw [ih k (i + 1) _ (by omega) (by omega) hb hc, drop_cons l (a + i) d (by omega)]
    simp only [le, Int.pow_succ, Int.mul_add]
    rw [show a + (i + 1) = a + i + 1 from rfl, Int.mul_assoc, Int.mul_comm (rd l _) (256 ^ i), Int.add_assoc]

theorem get_f (l : List Int) (h : ∀ x ∈ l, (Lit.int .u8 x).wf = true) (hl : l.length ≤ 140737488351232) (a w : Int) (ha : (Lit.int .i64 a).wf = true) (hw : (Lit.int .i64 w).wf = true) (k : Nat) (hk : 6 ≤ k) :
    word_Get.f k l a w = some (getS l a w) := by
  obtain ⟨k, rfl⟩ : ∃ m, k = m + 1 := ⟨k - 1, by omega⟩
  unfold word_Get.f getS
  rw [there_f l hl a w ha hw k]
  simp only [Option.bind_some]
  by_cases h1 : w < 1 ∨ 4 < w ∨ a < 0
  · rw [if_pos h1, if_pos h1, if_neg (by omega)]
  · rw [if_neg h1, if_neg h1]
    by_cases h2 : (l.length : Int) - w < a
    · rw [if_pos h2, if_pos h2, if_neg (by omega)]
    · rw [if_neg h2, if_neg h2, if_pos rfl]
      obtain ⟨a', rfl⟩ := Int.eq_ofNat_of_zero_le (show 0 ≤ a by omega)
      obtain ⟨w', rfl⟩ := Int.eq_ofNat_of_zero_le (show 0 ≤ w by omega)
      have := get_l l h hl a' w' (by omega) (by omega) w' (k + 1) 0 0 (by omega) (by omega) (by omega) (by decide)
      simpa using this

/-! ### what a reader's calls tell, as plain functions -/
/-- A reader's error behind Take; behind Text and Skip. -/
def takE (l : List Int) (p e n : Int) : Int := if e ≠ 0 then e else if n < 1 ∨ 4 < n then 1 else if (l.length : Int) - p < n then 10 else 0
def texE (l : List Int) (p e n : Int) : Int := if e ≠ 0 then e else if n < 0 then 1 else if (l.length : Int) - p < n then 10 else 0
/-- Its place. -/
def nxP (p n e : Int) : Int := if e = 0 then p + n else p
def cutL (l : List Int) (p n : Int) : List Int := (l.take (p + n).toNat).drop p.toNat
/-- What they tell. -/
def takV (l : List Int) (p e n : Int) : Int := if takE l p e n = 0 then le (cutL l p n) else 0
def texV (l : List Int) (p e n : Int) : ByteArray := if texE l p e n = 0 then strOfNums (cutL l p n) else ⟨#[]⟩

theorem takE_ok {l : List Int} {p e n : Int} (h : takE l p e n = 0) : e = 0 ∧ 1 ≤ n ∧ n ≤ 4 ∧ p + n ≤ l.length := by
  unfold takE at h
  split at h
  · omega
  · split at h
    · omega
    · split at h <;> omega
theorem texE_ok {l : List Int} {p e n : Int} (h : texE l p e n = 0) : e = 0 ∧ 0 ≤ n ∧ p + n ≤ l.length := by
  unfold texE at h
  split at h
  · omega
  · split at h
    · omega
    · split at h <;> omega
theorem nxP_tak {l : List Int} {p e n : Int} (hp : 0 ≤ p) (hp2 : p ≤ l.length) : 0 ≤ nxP p n (takE l p e n) ∧ nxP p n (takE l p e n) ≤ l.length := by
  unfold nxP
  split
  · rename_i h
    have := takE_ok h
    omega
  · exact ⟨hp, hp2⟩
theorem nxP_tex {l : List Int} {p e n : Int} (hp : 0 ≤ p) (hp2 : p ≤ l.length) : 0 ≤ nxP p n (texE l p e n) ∧ nxP p n (texE l p e n) ≤ l.length := by
  unfold nxP
  split
  · rename_i h
    have := texE_ok h
    omega
  · exact ⟨hp, hp2⟩
theorem cutL_length {l : List Int} {p n : Int} (hp : 0 ≤ p) (hn : 0 ≤ n) (h : p + n ≤ l.length) : (cutL l p n).length = n.toNat := by
  unfold cutL
  simp
  omega
theorem cutL_wf {l : List Int} {k : IntKind} (h : ∀ x ∈ l, (Lit.int k x).wf = true) (p n : Int) : ∀ x ∈ cutL l p n, (Lit.int k x).wf = true :=
  fun x hx => h x (List.mem_of_mem_take (List.mem_of_mem_drop hx))

theorem Take_spec (w0 : World) (g : Nat) (l : List Int) (p e n : Int) (w : World) (hI : IsRd w0 w g l p e) (hl : l.length ≤ 140737488351232) (hwf : ∀ x ∈ l, (Lit.int .u8 x).wf = true) (hp : 0 ≤ p) (hp2 : p ≤ l.length) (hn : (Lit.int .i64 n).wf = true) :
    Calls Try.prog 39 #[.pointer (some ⟨g, 0, none⟩), .int .i64 n] w fun q w' => q = .returned (.int .i64 (takV l p e n)) ∧ IsRd w0 w' g l (nxP p n (takE l p e n)) (takE l p e n) ∧ KeepBut w w' g none := by
  by_cases he : e = 0
  · subst he
    refine Take_run w0 g l p n _ _ _ w 6 hI hp hp2 (by omega) ?_
    by_cases h1 : n < 1 ∨ 4 < n
    · have hE : takE l p 0 n = 1 := by unfold takE; rw [if_neg (by decide), if_pos h1]
      left
      refine ⟨h1, ?_, ?_, hE⟩
      · unfold takV; rw [hE, if_neg (by decide)]
      · rw [hE]; rfl
    · by_cases h2 : (l.length : Int) - p < n
      · have hE : takE l p 0 n = 10 := by unfold takE; rw [if_neg (by decide), if_neg h1, if_pos h2]
        right; left
        refine ⟨by omega, by omega, h2, ?_, ?_, hE⟩
        · unfold takV; rw [hE, if_neg (by decide)]
        · rw [hE]; rfl
      · have hE : takE l p 0 n = 0 := by unfold takE; rw [if_neg (by decide), if_neg h1, if_neg h2]
        right; right
        refine ⟨by omega, by omega, by omega, ?_, hE, 0, ?_⟩
        · rw [hE]; rfl
        · have hlen := cutL_length (l := l) hp (show 0 ≤ n by omega) (by omega)
          have hg := get_f (cutL l p n) (cutL_wf hwf p n) (by omega) 0 n (by decide) hn 6 (by omega)
          unfold getS at hg
          rw [if_neg (by omega), if_neg (by omega)] at hg
          have e1 : ((cutL l p n).drop (0 : Int).toNat).take n.toNat = cutL l p n := by
            simp only [Int.toNat_zero, List.drop_zero]
            exact List.take_of_length_le (by omega)
          rw [e1] at hg
          unfold takV
          rw [hE, if_pos rfl]
          exact hg
  · have hE : takE l p e n = e := by unfold takE; rw [if_pos he]
    have hV : takV l p e n = 0 := by unfold takV; rw [hE, if_neg he]
    have hP : nxP p n e = p := by unfold nxP; rw [if_neg he]
    rw [hE, hV, hP]
    exact Take_stop w0 g l p e n w hI he

theorem Text_spec (w0 : World) (g : Nat) (l : List Int) (p e n : Int) (w : World) (hI : IsRd w0 w g l p e) (hl : l.length ≤ 140737488351232) (hp : 0 ≤ p) (hp2 : p ≤ l.length) :
    Calls Try.prog 40 #[.pointer (some ⟨g, 0, none⟩), .int .i64 n] w fun q w' => q = .returned (.string (texV l p e n)) ∧ IsRd w0 w' g l (nxP p n (texE l p e n)) (texE l p e n) ∧ KeepBut w w' g none := by
  by_cases he : e = 0
  · subst he
    refine Text_run w0 g l p n _ _ _ w hI hp hp2 (by omega) ?_
    by_cases h1 : n < 0
    · have hE : texE l p 0 n = 1 := by unfold texE; rw [if_neg (by decide), if_pos h1]
      left
      refine ⟨h1, ?_, ?_, hE⟩
      · unfold texV; rw [hE, if_neg (by decide)]
      · rw [hE]; rfl
    · by_cases h2 : (l.length : Int) - p < n
      · have hE : texE l p 0 n = 10 := by unfold texE; rw [if_neg (by decide), if_neg h1, if_pos h2]
        right; left
        refine ⟨by omega, h2, ?_, ?_, hE⟩
        · unfold texV; rw [hE, if_neg (by decide)]
        · rw [hE]; rfl
      · have hE : texE l p 0 n = 0 := by unfold texE; rw [if_neg (by decide), if_neg h1, if_neg h2]
        right; right
        refine ⟨by omega, by omega, ?_, hE, ?_⟩
        · rw [hE]; rfl
        · unfold texV; rw [hE, if_pos rfl]; rfl
  · have hE : texE l p e n = e := by unfold texE; rw [if_pos he]
    have hV : texV l p e n = ⟨#[]⟩ := by unfold texV; rw [hE, if_neg he]
    have hP : nxP p n e = p := by unfold nxP; rw [if_neg he]
    rw [hE, hV, hP]
    exact Text_stop w0 g l p e n w hI he

end Go.Proofs.Ytnbkbmhiajfbpaa.Rd
