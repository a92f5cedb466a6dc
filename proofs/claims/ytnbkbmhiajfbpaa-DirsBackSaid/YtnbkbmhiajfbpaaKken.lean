/- An entry's bytes, an entry of bytes, names: the program's functions and the reference's are these plain ones. -/
import Derived.Test.YtnbkbmhiajfbpaaDec
import Derived.Test.YtnbkbmhiajfbpaaOpen
import Derived.Test.YtnbkbmhiajfbpaaXDirsBackx0
import Derived.Test.YtnbkbmhiajfbpaaXDirsBackx1
import Derived.Test.YtnbkbmhiajfbpaaXDirsBackx2
import Derived.Test.YtnbkbmhiajfbpaaXDirsBackx3
import Derived.Test.YtnbkbmhiajfbpaaXDirsBackx4
import Derived.Test.YtnbkbmhiajfbpaaXDirsBackx5
import Derived.Test.YtnbkbmhiajfbpaaXDirsBackx6
import Derived.Test.YtnbkbmhiajfbpaaXDirsBackx7
import Derived.Test.YtnbkbmhiajfbpaaXDirsBackx8
namespace Go.Proofs.Ytnbkbmhiajfbpaa.Kk
open Go.RowKit Go.Proofs.Ytnbkbmhiajfbpaa.Rd Go.Proofs.Ytnbkbmhiajfbpaa.XDirsBack Go.Proofs.YtnbkbmhiajfbpaaW.PrintWords Go.Proofs.YtnbkbmhiajfbpaaW.PrintLast
set_option linter.unusedVariables false
set_option linter.unusedSimpArgs false

theorem putS_arg {l : List Int} {a w n : Int} (h : w < 1 ∨ 4 < w ∨ a < 0 ∨ n < 0 ∨ 256 ^ w.toNat ≤ n) : putS l a w n = ([], 1) := by
  unfold putS; rw [if_pos h]
theorem putS_past {l : List Int} {a w n : Int} (h : ¬ (w < 1 ∨ 4 < w ∨ a < 0 ∨ n < 0 ∨ 256 ^ w.toNat ≤ n)) (h2 : (l.length : Int) - w < a) : putS l a w n = ([], 10) := by
  unfold putS; rw [if_neg h, if_pos h2]
theorem putS_ok {l : List Int} {a w n : Int} (h : ¬ (w < 1 ∨ 4 < w ∨ a < 0 ∨ n < 0 ∨ 256 ^ w.toNat ≤ n)) (h2 : ¬ (l.length : Int) - w < a) : putS l a w n = (putL w.toNat l a.toNat n, 0) := by
  unfold putS; rw [if_neg h, if_neg h2]

theorem rget_l (l : List Int) (h : ∀ x ∈ l, (Lit.int .u8 x).wf = true) (hl : l.length ≤ 140737488351232) (a : Nat) (j : Nat) :
    ∀ (k : Nat) (acc : Int), j ≤ 4 → a + j ≤ l.length → j < k → 0 ≤ acc → acc < 256 ^ (4 - j) → bollardref01_Get.l0 k l (a : Int) acc ((j : Int) - 1) = some (acc * 256 ^ j + le ((l.drop a).take j), 0) := by
  induction j with
  | zero =>
    intro k acc _ _ hk h0 h1
    obtain ⟨k, rfl⟩ : ∃ m, k = m + 1 := ⟨k - 1, by omega⟩
    simp only [bollardref01_Get.l0]
    rw [if_neg (by omega)]
    simp [le]
  | succ j ih =>
    intro k acc hj haj hk h0 h1
    obtain ⟨k, rfl⟩ : ∃ m, k = m + 1 := ⟨k - 1, by omega⟩
    obtain ⟨p1, p0⟩ := pow_le4 (4 - (j + 1)) (by omega)
    have hq : (256 : Int) ^ (4 - j) = 256 ^ (4 - (j + 1)) * 256 := by rw [← Int.pow_succ]; congr 1; omega
    have hm : acc ≤ 4294967296 := Int.le_trans (Int.le_of_lt h1) p1
    have hlt : acc * 256 + 256 ≤ 256 ^ (4 - j) := by
      rw [hq]
      generalize (256 : Int) ^ (4 - (j + 1)) = p at *
      omega
    clear hq h1 p1 p0
    generalize (256 : Int) ^ (4 - j) = P at ih hlt
    obtain ⟨b0, b1⟩ := rd_u8 h ((a : Int) + (j : Int))
    rw [show (((j + 1 : Nat) : Int) - 1) = (j : Int) by omega]
    simp only [bollardref01_Get.l0]
    rw [if_pos (by omega), w_small ((a : Int) + (j : Int)) (by omega) (by omega), if_pos (by omega), if_pos (by omega), w_small (rd l ((a : Int) + (j : Int))) (by omega) (by omega), w_small ((j : Int) - 1) (by omega) (by omega), w_small (acc * 256) (by omega) (by omega), w_small (acc * 256 + rd l ((a : Int) + (j : Int))) (by omega) (by omega)]
    rw [ih k _ (by omega) (by omega) (by omega) (by omega) (by omega), take_snoc l a j (by omega), le_snoc]
    have hlen : ((l.drop a).take j).length = j := by simp; omega
    rw [hlen, Int.pow_succ, Int.add_mul, Int.mul_assoc, Int.mul_comm 256 (256 ^ j), Int.mul_comm (rd l _) (256 ^ j)]
    congr 2
    generalize acc * (256 ^ j * 256) = A
    generalize (256 : Int) ^ j * rd l ((a : Int) + (j : Int)) = B
    omega

theorem rget_f (l : List Int) (h : ∀ x ∈ l, (Lit.int .u8 x).wf = true) (hl : l.length ≤ 140737488351232) (a w : Int) (ha : (Lit.int .i64 a).wf = true) (hw : (Lit.int .i64 w).wf = true) (k : Nat) (hk : 7 ≤ k) :
    bollardref01_Get.f k l a w = some (getS l a w) := by
  have hb := i64_bd ha
  obtain ⟨k, rfl⟩ : ∃ m, k = m + 1 := ⟨k - 1, by omega⟩
  unfold bollardref01_Get.f getS
  simp only [bollardref01_Get.j0, if_true]
  by_cases h1 : w < 1
  · rw [if_pos h1, if_pos (.inl h1)]
  · rw [if_neg h1]
    by_cases h2 : w > 4
    · rw [if_pos h2, if_pos (.inr (.inl h2))]
    · rw [if_neg h2]
      by_cases h3 : a < 0
      · rw [decide_eq_true h3, if_pos rfl, if_pos (by omega)]
      · rw [decide_eq_false h3]
        simp only [Bool.false_eq_true, if_false]
        have e : wrap64 ((l.length : Int) - w) = (l.length : Int) - w := by unfold wrap64; omega
        have e' : wrap64 (w - 1) = w - 1 := by unfold wrap64; omega
        rw [e, e', if_neg (show ¬ (w < 1 ∨ 4 < w ∨ a < 0) by omega)]
        by_cases h4 : a > (l.length : Int) - w
        · rw [if_pos h4, if_pos (by omega)]
        · rw [if_neg h4, if_neg (by omega)]
          obtain ⟨a', rfl⟩ := Int.eq_ofNat_of_zero_le (show 0 ≤ a by omega)
          obtain ⟨w', rfl⟩ := Int.eq_ofNat_of_zero_le (show 0 ≤ w by omega)
          have hp := (pow_le4 (4 - w') (by omega)).2
          have := rget_l l h hl a' w' k 0 (by omega) (by omega) (by omega) (by omega) (Int.lt_of_lt_of_le (by decide) hp)
          simpa using this

theorem rput_l (a w : Nat) (hw : w ≤ 4) (d : Nat) :
    ∀ (k i : Nat) (n : Int) (x : List Int), 0 ≤ n → n ≤ 9223372036854775807 → x.length ≤ 140737488351232 → a + w ≤ x.length → i + d = w → d < k → bollardref01_Put.l0 k (a : Int) n x (w : Int) (i : Int) = some (putL d x (a + i) n, 0) := by
  induction d with
  | zero =>
    intro k i n x _ _ hl haw hi hk
    obtain ⟨k, rfl⟩ : ∃ m, k = m + 1 := ⟨k - 1, by omega⟩
    simp only [bollardref01_Put.l0]
    rw [if_neg (by omega)]
    simp [putL]
  | succ d ih =>
    intro k i n x hn hn2 hl haw hi hk
    obtain ⟨k, rfl⟩ : ∃ m, k = m + 1 := ⟨k - 1, by omega⟩
    simp only [bollardref01_Put.l0]
    rw [if_pos (by omega), w_add a i (by omega), if_pos (by omega), if_pos (by omega), w_succ i (by omega), Int.tdiv_eq_ediv_of_nonneg hn, Int.tmod_eq_emod_of_nonneg hn, w_small (n / 256) (by omega) (by omega), show n % 256 % 256 = n % 256 by omega]
    rw [ih k (i + 1) _ _ (by omega) (by omega) (by simpa using hl) (by simpa using haw) (by omega) (by omega)]
    simp only [putL]
    rw [show (((a + i : Nat) : Int)).toNat = a + i by omega, show a + (i + 1) = a + i + 1 from rfl]

theorem rput_f (l : List Int) (hl : l.length ≤ 140737488351232) (a w n : Int) (ha : (Lit.int .i64 a).wf = true) (hw : (Lit.int .i64 w).wf = true) (hn : (Lit.int .i64 n).wf = true) (k : Nat) (hk : 8 ≤ k) :
    bollardref01_Put.f k l a w n = some (putS l a w n) := by
  have hb := i64_bd hw
  have hc := i64_bd hn
  obtain ⟨k, rfl⟩ : ∃ m, k = m + 1 := ⟨k - 1, by omega⟩
  unfold bollardref01_Put.f
  simp only [bollardref01_Put.j0, if_true]
  by_cases h1 : w < 1
  · rw [if_pos h1, putS_arg (.inl h1)]
  · rw [if_neg h1]
    by_cases h2 : w > 4
    · rw [if_pos h2, putS_arg (.inr (.inl h2))]
    · rw [if_neg h2]
      by_cases h3 : a < 0
      · rw [if_pos h3, putS_arg (.inr (.inr (.inl h3)))]
      · rw [if_neg h3]
        by_cases h4 : n < 0
        · rw [if_pos h4, putS_arg (.inr (.inr (.inr (.inl h4))))]
        · rw [if_neg h4]
          obtain ⟨a', rfl⟩ := Int.eq_ofNat_of_zero_le (show 0 ≤ a by omega)
          obtain ⟨w', rfl⟩ := Int.eq_ofNat_of_zero_le (show 0 ≤ w by omega)
          have es : shl .i64 1 ((8 * w' : Nat) : Int) = 256 ^ w' := by
            rw [shl_le w' (by omega) (by decide) (by decide), Int.one_mul]
          rw [w_mul8 w' (by omega), if_pos (show 0 ≤ ((8 * w' : Nat) : Int) by omega), es]
          clear es
          by_cases h5 : n ≥ 256 ^ w'
          · rw [decide_eq_true h5, if_pos rfl, putS_arg (.inr (.inr (.inr (.inr h5))))]
          · rw [decide_eq_false h5]
            have hno : ¬ ((w' : Int) < 1 ∨ 4 < (w' : Int) ∨ (a' : Int) < 0 ∨ n < 0 ∨ 256 ^ ((w' : Int)).toNat ≤ n) := by
              rintro (h | h | h | h | h)
              · exact h1 h
              · exact h2 h
              · exact h3 h
              · exact h4 h
              · exact h5 h
            simp only [Bool.false_eq_true, if_false]
            clear h5
            rw [w_small ((l.length : Int) - (w' : Int)) (by omega) (by omega)]
            by_cases h6 : (a' : Int) > (l.length : Int) - (w' : Int)
            · rw [if_pos h6, putS_past hno h6]
            · rw [if_neg h6, putS_ok hno h6]
              simp only [Option.bind_some, List.length_nil, List.nil_append]
              rw [if_pos (show 0 + l.length < 140737488355328 by omega)]
              have := rput_l a' w' (by omega) w' k 0 n l (by omega) (by omega) hl (by omega) (by omega) (by omega)
              simpa using this

theorem leb_snoc (i : Nat) : ∀ n : Int, leb (i + 1) n = leb i n ++ [n / 256 ^ i % 256] := by
  induction i with
  | zero => intro n; simp [leb]
  | succ i ih =>
    intro n
    rw [leb, ih (n / 256), leb, List.cons_append, Int.pow_succ, Int.mul_comm, Int.ediv_ediv_of_nonneg (by decide)]

/-- The bytes of numbers, one behind another. -/
def flatF (l : List S73) : List Int := (l.map fun f => leb f.f0.toNat f.f2).flatten
theorem flatF_len (l : List S73) (h : ∀ f ∈ l, f.f0.toNat ≤ 4) : (flatF l).length ≤ 4 * l.length := by
  induction l with
  | nil => simp [flatF]
  | cons f t ih =>
    have h1 := h f (by simp)
    have h2 := ih (fun g hg => h g (by simp [hg]))
    simp only [flatF, List.map_cons, List.flatten_cons, List.length_append, leb_length, List.length_cons] at h2 ⊢
    omega
theorem rd_T73_get (l : List S73) (i : Nat) (h : i < l.length) : rd_T73 l (i : Int) = l[i] := by
  unfold rd_T73
  rw [Int.toNat_natCast, List.getD_eq_getElem?_getD, List.getElem?_eq_getElem h]
  rfl

theorem fields_l1 (x8 : List S73) (x9 x10 c0 c1 n : Int) (r : List Int) (w K : Nat) (hw : w ≤ 4) (x0 : List Int) (hl : x0.length + 4 < 140737488355328)
    (hfin : ∀ k, K ≤ k → layout_fields.l0 k (x0 ++ leb w n) x8 x9 (wrap64 (x10 + 1)) = some r) (d : Nat) :
    ∀ (i : Nat) (k : Nat), i + d = w → K + d + 1 ≤ k → layout_fields.l1 k (x0 ++ leb i n) x8 x9 x10 (w : Int) (i : Int) c0 c1 n = some r := by
  induction d with
  | zero =>
    intro i k hi hk
    obtain ⟨k, rfl⟩ : ∃ m, k = m + 1 := ⟨k - 1, by omega⟩
    obtain rfl : i = w := by omega
    simp only [layout_fields.l1]
    rw [if_neg (by omega)]
    exact hfin k (by omega)
  | succ d ih =>
    intro i k hi hk
    obtain ⟨k, rfl⟩ : ∃ m, k = m + 1 := ⟨k - 1, by omega⟩
    simp only [layout_fields.l1]
    rw [if_pos (by omega), w_mul8 i (by omega), if_pos (by omega), if_pos (by rw [List.length_append, leb_length]; omega), shr_le n i (by omega), w_succ i (by omega), List.append_assoc, ← leb_snoc]
    exact ih (i + 1) k (by omega) (by omega)

theorem fields_l0 (l : List S73) (h : ∀ f ∈ l, 0 ≤ f.f0 ∧ f.f0 ≤ 4) (hll : l.length ≤ 1000000) (d : Nat) :
    ∀ (i : Nat) (x0 : List Int) (k : Nat), i + d = l.length → x0.length ≤ 4 * i → 6 * d + 1 ≤ k → layout_fields.l0 k x0 l (l.length : Int) (i : Int) = some (x0 ++ flatF (l.drop i)) := by
  induction d with
  | zero =>
    intro i x0 k hi hx hk
    obtain ⟨k, rfl⟩ : ∃ m, k = m + 1 := ⟨k - 1, by omega⟩
    simp only [layout_fields.l0]
    rw [if_neg (by omega), List.drop_eq_nil_of_le (by omega)]
    simp [flatF]
  | succ d ih =>
    intro i x0 k hi hx hk
    obtain ⟨k, rfl⟩ : ∃ m, k = m + 1 := ⟨k - 1, by omega⟩
    have hlt : i < l.length := by omega
    obtain ⟨h1, h2⟩ := h l[i] (List.getElem_mem hlt)
    simp only [layout_fields.l0]
    rw [if_pos (by omega), if_pos (by omega), if_pos (by omega), rd_T73_get l i hlt]
    obtain ⟨w, hw⟩ := Int.eq_ofNat_of_zero_le h1
    rw [hw]
    have := fields_l1 l (l.length : Int) (i : Int) (w : Int) (l[i]).f1 (l[i]).f2 (x0 ++ flatF (l.drop i)) w (6 * d + 1) (by omega) x0 (by omega) ?_ w 0 k (by omega) (by omega)
    · simpa [leb] using this
    · intro k hk2
      rw [w_succ i (by omega), ih (i + 1) (x0 ++ leb w (l[i]).f2) k (by omega) (by rw [List.length_append, leb_length]; omega) hk2]
      rw [List.drop_eq_getElem_cons hlt]
      simp only [flatF, List.map_cons, List.flatten_cons, hw, Int.toNat_natCast, List.append_assoc]
theorem fields_f (l : List S73) (h : ∀ f ∈ l, 0 ≤ f.f0 ∧ f.f0 ≤ 4) (hll : l.length ≤ 1000000) (k : Nat) (hk : 6 * l.length + 1 ≤ k) : layout_fields.f k [] l = some (flatF l) := by
  unfold layout_fields.f
  have := fields_l0 l h hll l.length 0 [] k (by omega) (by simp) hk
  simpa using this

/-! ### which texts are names -/
def okB (x : Int) : Bool := !decide (x < 33) && (!decide (x > 126) && !decide (x = 47))
def okFrom (s : ByteArray) (i : Nat) : Nat → Bool
  | 0 => true
  | d + 1 => okB (bt s (i : Int)) && okFrom s (i + 1) d
def speltS (s : ByteArray) : Bool := okFrom s 0 s.size && (!decide (s.toList = []) && decide ((s.size : Int) ≤ 13))
def isNameS (s : ByteArray) : Bool := speltS s && (!decide (s.toList = [46]) && !decide (s.toList = [46, 46]))

theorem w_inc (i : Nat) (h : i < 9223372036854775807) : wrap64 ((i : Int) + 1) = ((i + 1 : Nat) : Int) := by unfold wrap64; omega
theorem spelt_l (s : ByteArray) (hs : s.size ≤ 9223372036854775807) (d : Nat) : ∀ (k i : Nat), i + d = s.size → d < k → layout_spelt.l0 k s (s.size : Int) (i : Int) = some (okFrom s i d && (!decide (s.toList = []) && decide ((s.size : Int) ≤ 13))) := by
  induction d with
  | zero =>
    intro k i hi hk
    obtain ⟨k, rfl⟩ : ∃ m, k = m + 1 := ⟨k - 1, by omega⟩
    simp only [layout_spelt.l0, okFrom, Bool.true_and]
    rw [if_neg (by omega)]
    by_cases he : s.toList = []
    · rw [if_pos he, decide_eq_true he]; rfl
    · rw [if_neg he, decide_eq_false he]; rfl
  | succ d ih =>
    intro k i hi hk
    obtain ⟨k, rfl⟩ : ∃ m, k = m + 1 := ⟨k - 1, by omega⟩
    simp only [layout_spelt.l0, okFrom]
    rw [if_pos (by omega), if_pos (by omega), if_pos (by omega)]
    unfold okB
    by_cases h1 : bt s (i : Int) < 33
    · rw [if_pos h1, decide_eq_true h1]; rfl
    · rw [if_neg h1, decide_eq_false h1]
      by_cases h2 : bt s (i : Int) > 126
      · rw [if_pos h2, decide_eq_true h2]; rfl
      · rw [if_neg h2, decide_eq_false h2]
        by_cases h3 : bt s (i : Int) = 47
        · rw [if_pos h3, decide_eq_true h3]; rfl
        · rw [if_neg h3, decide_eq_false h3, w_inc i (by omega), ih k (i + 1) (by omega) (by omega)]; rfl
theorem spelt_f (s : ByteArray) (hs : s.size ≤ 9223372036854775807) (k : Nat) (hk : s.size < k) : layout_spelt.f k s = some (speltS s) := by
  unfold layout_spelt.f speltS
  exact spelt_l s hs s.size k 0 (by omega) hk
theorem name_l (s : ByteArray) (hs : s.size ≤ 9223372036854775807) (d : Nat) : ∀ (k i : Nat), i + d = s.size → d < k → bollardref03_IsName.l0 k s (i : Int) = some (okFrom s i d) := by
  induction d with
  | zero =>
    intro k i hi hk
    obtain ⟨k, rfl⟩ : ∃ m, k = m + 1 := ⟨k - 1, by omega⟩
    simp only [bollardref03_IsName.l0, okFrom]
    rw [if_neg (by omega)]
  | succ d ih =>
    intro k i hi hk
    obtain ⟨k, rfl⟩ : ∃ m, k = m + 1 := ⟨k - 1, by omega⟩
    simp only [bollardref03_IsName.l0, okFrom]
    rw [if_pos (by omega), if_pos (by omega)]
    unfold okB
    by_cases h1 : bt s (i : Int) < 33
    · rw [if_pos h1, decide_eq_true h1]; rfl
    · rw [if_neg h1, decide_eq_false h1]
      by_cases h2 : bt s (i : Int) > 126
      · rw [if_pos h2, decide_eq_true h2]; rfl
      · rw [if_neg h2, decide_eq_false h2]
        by_cases h3 : bt s (i : Int) = 47
        · rw [if_pos h3, decide_eq_true h3]; rfl
        · rw [if_neg h3, decide_eq_false h3, w_inc i (by omega), ih k (i + 1) (by omega) (by omega)]; rfl
theorem rname_f (s : ByteArray) (hs : s.size ≤ 9223372036854775807) (k : Nat) (hk : s.size + 1 < k) : bollardref03_IsName.f k s = some (isNameS s) := by
  obtain ⟨k, rfl⟩ : ∃ m, k = m + 1 := ⟨k - 1, by omega⟩
  unfold bollardref03_IsName.f isNameS speltS
  simp only [bollardref03_IsName.j0, if_true]
  by_cases h1 : s.toList = []
  · rw [if_pos h1, decide_eq_true h1]; simp
  · rw [if_neg h1, decide_eq_false h1]
    by_cases h2 : (s.size : Int) > 13
    · rw [if_pos h2, decide_eq_false (show ¬ (s.size : Int) ≤ 13 by omega)]; simp
    · rw [if_neg h2, decide_eq_true (show (s.size : Int) ≤ 13 by omega)]
      by_cases h3 : s.toList = [46]
      · rw [if_pos h3, decide_eq_true h3]; simp
      · rw [if_neg h3, decide_eq_false h3]
        by_cases h4 : s.toList = [46, 46]
        · rw [beq_iff_eq.mpr h4, if_pos rfl, decide_eq_true h4]; simp
        · rw [beq_eq_false_iff_ne.mpr h4, if_neg (by decide), decide_eq_false h4, show (0 : Int) = ((0 : Nat) : Int) from rfl, name_l s hs s.size k 0 (by omega) (by omega)]; simp
theorem of_toList {s : ByteArray} {l : List UInt8} (h : s.toList = l) : s = ⟨l.toArray⟩ := by
  have h2 : s.data.toList = l := (ByteArray.toList_eq s).symm.trans h
  obtain ⟨⟨a⟩⟩ := s
  exact congrArg (fun x => (⟨⟨x⟩⟩ : ByteArray)) h2
theorem spelt_names (s : ByteArray) : (isNameS s = true ∨ s.toList = [46] ∨ s.toList = [46, 46]) ↔ speltS s = true := by
  unfold isNameS
  constructor
  · rintro (h | h | h)
    · rw [Bool.and_eq_true] at h; exact h.1
    · have := of_toList h; subst this; unfold speltS; rw [ByteArray.toList_eq]; decide
    · have := of_toList h; subst this; unfold speltS; rw [ByteArray.toList_eq]; decide
  · intro h
    by_cases h1 : s.toList = [46]
    · exact .inr (.inl h1)
    · by_cases h2 : s.toList = [46, 46]
      · exact .inr (.inr h2)
      · left; rw [h, decide_eq_false h1, decide_eq_false h2]; rfl
theorem spelt_size {s : ByteArray} (h : speltS s = true) : s.size ≤ 13 := by
  unfold speltS at h
  rw [Bool.and_eq_true, Bool.and_eq_true, decide_eq_true_eq] at h
  omega

/-! ### an entry's bytes -/
def entL (ino : Int) (s : ByteArray) : List Int := leb 2 ino ++ leb 1 (s.size : Int) ++ bytesOf s ++ List.replicate (13 - s.size) 0
def encE (ino : Int) (s : ByteArray) : List Int × Int := if ino = 0 ∧ s.toList = [] then (List.replicate 16 0, 0) else if ino < 1 ∨ 511 < ino then ([], 1) else if speltS s = true then (entL ino s, 0) else ([], 1)
theorem flat_e (ino n : Int) : flatF [(⟨2, 511, ino⟩ : S73), (⟨1, 13, n⟩ : S73)] = leb 2 ino ++ leb 1 n := by simp [flatF]
theorem full_e (ino : Int) (s : ByteArray) (h : s.size ≤ 13) : layout_full.f (leb 2 ino ++ leb 1 (s.size : Int) ++ bytesOf s) 16 = some (entL ino s) := by
  have hb := bytesOf_length s
  unfold layout_full.f entL fullL
  rw [if_pos (by omega), List.take_of_length_le (by simp only [List.length_append, leb_length, hb]; omega)]
  congr 3
  simp only [List.length_append, leb_length, hb]
  omega
theorem fe_f (ino n : Int) (k : Nat) (hk : 500 ≤ k) : layout_fields.f k ([] : List Int) [(⟨2, 511, ino⟩ : S73), (⟨1, 13, n⟩ : S73)] = some (leb 2 ino ++ leb 1 n) := by
  rw [fields_f _ (by intro f hf; simp only [List.mem_cons, List.not_mem_nil, or_false] at hf; rcases hf with rfl | rfl; exact ⟨show (0 : Int) ≤ 2 by decide, show (2 : Int) ≤ 4 by decide⟩; exact ⟨show (0 : Int) ≤ 1 by decide, show (1 : Int) ≤ 4 by decide⟩) (by simp) k (by simp; omega), flat_e]
theorem ee_f (ino : Int) (s : ByteArray) (hs : s.size ≤ 9223372036854775807) (k : Nat) (hk : s.size + 500 ≤ k) : layout_EncodeEntry.f k ino s = some (encE ino s) := by
  have hb := bytesOf_length s
  unfold layout_EncodeEntry.f encE
  by_cases hz : ino = 0 ∧ s.toList = []
  · have e0 : s = ⟨#[]⟩ := of_toList hz.2
    rw [if_pos (by rw [hz.1, hz.2]; rfl), if_pos hz, fe_f _ _ k (by omega), Option.bind_some, hz.1, e0]
    rfl
  · rw [if_neg (by intro h; rw [Bool.and_eq_true, beq_iff_eq, beq_iff_eq] at h; exact hz h), if_neg hz]
    by_cases h1 : ino < 1
    · rw [if_pos h1, if_pos (.inl h1)]
    · rw [if_neg h1]
      by_cases h2 : ino > 511
      · rw [if_pos h2, if_pos (.inr h2)]
      · rw [if_neg h2, if_neg (by omega), spelt_f s hs k (by omega), Option.bind_some]
        cases hsp : speltS s
        · rfl
        · have := spelt_size hsp
          rw [if_pos rfl, if_pos rfl, fe_f _ _ k (by omega), Option.bind_some, if_pos (by simp only [List.length_append, leb_length]; omega), full_e ino s this]
          rfl
theorem rnum_f (l : List Int) (hl : l.length ≤ 140737488351232) (a w n : Int) (h1 : 1 ≤ w) (h2 : w ≤ 2) (ha : 0 ≤ a) (ha2 : a + w ≤ l.length) (hn : 0 ≤ n) (hn2 : n < 256 ^ w.toNat) (hn3 : n ≤ 65535) (k : Nat) (hk : 8 ≤ k) : bollardref03_number.f k l a w n = some (putL w.toNat l a.toNat n) := by
  unfold bollardref03_number.f
  rw [rput_f l hl a w n (WalkArith.wf_i64 (by omega)) (WalkArith.wf_i64 (by omega)) (WalkArith.wf_i64 (by omega)) k hk, putS_ok (by rintro (h | h | h | h | h) <;> first | omega | exact absurd hn2 (Int.not_lt.mpr h)) (by omega)]
  rfl
theorem re_f (ino : Int) (s : ByteArray) (hs : s.size ≤ 9223372036854775807) (k : Nat) (hk : s.size + 500 ≤ k) : bollardref03_EncodeEntry.f k ino s = some (encE ino s) := by
  have hb := bytesOf_length s
  unfold bollardref03_EncodeEntry.f encE
  by_cases hz : ino = 0 ∧ s.toList = []
  · rw [if_pos hz, if_pos hz]
  · rw [if_neg hz, if_neg hz]
    by_cases h1 : ino < 1 ∨ 511 < ino
    · rw [if_pos h1, if_pos h1]
    · rw [if_neg h1, if_neg h1, rname_f s hs k (by omega), Option.bind_some]
      by_cases hsp : speltS s = true
      · have h13 := spelt_size hsp
        rw [if_pos ((spelt_names s).2 hsp), if_pos hsp, rnum_f _ (by rw [List.length_replicate]; omega) 0 2 ino (by omega) (by omega) (by omega) (by rw [List.length_replicate]; omega) (by omega) (by simp; omega) (by omega) k (by omega), Option.bind_some,
          rnum_f _ (by rw [putL_length, List.length_replicate]; omega) 2 1 _ (by omega) (by omega) (by omega) (by rw [putL_length, List.length_replicate]; omega) (by omega) (by simp; omega) (by omega) k (by omega), Option.bind_some]
        have e : putL (1 : Int).toNat (putL (2 : Int).toNat (List.replicate 16 (0 : Int)) (0 : Int).toNat ino) (2 : Int).toNat (s.size : Int) = leb 2 ino ++ leb 1 (s.size : Int) ++ List.replicate 13 0 := by
          rw [putL_eq _ _ _ _ (by rw [putL_length, List.length_replicate]; decide), putL_eq _ _ _ _ (by rw [List.length_replicate]; decide)]
          rfl
        rw [e, if_pos ⟨by simp only [List.length_append, leb_length, List.length_replicate], h13⟩]
        have hl3 : (leb 2 ino ++ leb 1 (s.size : Int)).length = 3 := by simp only [List.length_append, leb_length]
        have e1 : (leb 2 ino ++ leb 1 (s.size : Int) ++ List.replicate 13 0).take 3 = leb 2 ino ++ leb 1 (s.size : Int) := List.take_left' hl3
        have e2 : (leb 2 ino ++ leb 1 (s.size : Int) ++ List.replicate 13 0).drop (3 + s.size) = List.replicate (13 - s.size) 0 := by
          rw [List.drop_append, hl3, List.drop_eq_nil_of_le (by omega), List.nil_append, List.drop_replicate]
          congr 1
          omega
        rw [e1, e2]
        rfl
      · rw [if_neg (fun h => hsp ((spelt_names s).1 h)), if_neg hsp]

/-! ### an entry of bytes -/
def decE (l : List Int) : Int × ByteArray × Int :=
  if l.length = 16 then (if 13 < rd l 2 then (0, ⟨#[]⟩, 6) else
    if (encE (le (cutL l 0 2)) (strOfNums ((l.take (3 + rd l 2).toNat).drop 3))).2 = 0 then
      (if ((strOfNums l).toList == (strOfNums (encE (le (cutL l 0 2)) (strOfNums ((l.take (3 + rd l 2).toNat).drop 3))).1).toList) = true then (le (cutL l 0 2), strOfNums ((l.take (3 + rd l 2).toNat).drop 3), 0) else (0, ⟨#[]⟩, 6))
    else (0, ⟨#[]⟩, 6)) else (0, ⟨#[]⟩, 6)
theorem cut21 (l : List Int) (h : l.length = 16) : le (cutL l 2 1) = rd l 2 := by
  have := drop_cons l 2 0 (by omega)
  unfold cutL
  rw [show ((2 : Int) + 1).toNat = 3 from rfl, show (2 : Int).toNat = 2 from rfl, List.drop_take, show 3 - 2 = 0 + 1 from rfl, this]
  simp [le]
theorem str_size (l : List Int) : (strOfNums l).size = l.length := by
  simp [strOfNums, ByteArray.size]
theorem de_f (l : List Int) (h : ∀ x ∈ l, (Lit.int .u8 x).wf = true) (k : Nat) (hk : 600 ≤ k) : layout_DecodeEntry.f k l = some (decE l) := by
  unfold layout_DecodeEntry.f decE
  by_cases hl : (l.length : Int) = 16
  · have hl' : l.length = 16 := by omega
    have hr := rd_u8 h 2
    rw [if_pos hl, if_pos (fun x hx => u8_bd (h x hx)), if_pos hl', cut21 l hl']
    by_cases hb : 13 < rd l 2
    · have e1 : texE l 3 0 (rd l 2) = 10 := by unfold texE; rw [if_neg (by decide), if_neg (by omega), if_pos (by omega)]
      have e2 : texV l 3 0 (rd l 2) = ⟨#[]⟩ := by unfold texV; rw [e1, if_neg (by decide)]
      rw [if_pos hb, e1, e2, ee_f _ _ (by decide) k (by show 0 + 500 ≤ k; omega), Option.bind_some, if_neg (by decide)]
    · have e1 : texE l 3 0 (rd l 2) = 0 := by unfold texE; rw [if_neg (by decide), if_neg (by omega), if_neg (by omega)]
      have e2 : texV l 3 0 (rd l 2) = strOfNums ((l.take (3 + rd l 2).toNat).drop 3) := by unfold texV; rw [e1, if_pos rfl]; rfl
      have hsz : (strOfNums ((l.take (3 + rd l 2).toNat).drop 3)).size ≤ 13 := by rw [str_size, List.length_drop, List.length_take]; omega
      rw [if_neg hb, e1, e2, ee_f _ _ (by omega) k (by omega), Option.bind_some, if_pos rfl]
      generalize encE (le (cutL l 0 2)) (strOfNums ((l.take (3 + rd l 2).toNat).drop 3)) = X
      by_cases hx : X.2 = 0
      · rw [if_pos hx, if_pos hx]
        unfold layout_same.f
        rw [Option.bind_some, Bool.beq_comm]
        split <;> rfl
      · rw [if_neg hx, if_neg hx]
  · rw [if_neg hl, if_neg (by omega)]
theorem rde_f (l : List Int) (h : ∀ x ∈ l, (Lit.int .u8 x).wf = true) (k : Nat) (hk : 600 ≤ k) : bollardref03_DecodeEntry.f k l = some (decE l) := by
  unfold bollardref03_DecodeEntry.f decE
  by_cases hl : (l.length : Int) = 16
  · have hl' : l.length = 16 := by omega
    have hr := rd_u8 h 2
    rw [if_pos hl, if_pos hl']
    by_cases hb : 13 < rd l 2
    · rw [if_pos hb, if_pos hb]
    · have hg : bollardref03_get.f k l 0 2 = some (le (cutL l 0 2)) := by
        unfold bollardref03_get.f
        rw [rget_f l h (by omega) 0 2 (by decide) (by decide) k (by omega)]
        unfold getS
        rw [if_neg (by omega), if_neg (by omega)]
        rfl
      have hsz : (strOfNums ((l.take (3 + rd l 2).toNat).drop 3)).size ≤ 13 := by rw [str_size, List.length_drop, List.length_take]; omega
      rw [if_neg hb, if_neg hb, if_pos hr.1, hg, Option.bind_some, re_f _ _ (by omega) k (by omega), Option.bind_some]
      generalize encE (le (cutL l 0 2)) (strOfNums ((l.take (3 + rd l 2).toNat).drop 3)) = X
      by_cases hx : X.2 = 0
      · rw [if_pos hx, if_pos hx]
        unfold bollardref03_same.f
        rw [Option.bind_some]
        split <;> rfl
      · rw [if_neg hx, if_neg hx]
  · rw [if_neg hl, if_neg (by omega)]

theorem u8_of {x : Int} (h : 0 ≤ x ∧ x ≤ 255) : (Lit.int .u8 x).wf = true := by
  simp [Lit.wf, IntKind.min, IntKind.max, IntKind.bits, IntKind.signed]; omega
theorem str_bytes (s : ByteArray) : strOfNums (bytesOf s) = s := by
  obtain ⟨⟨l⟩⟩ := s
  have h : ∀ b : UInt8, UInt8.ofNat ((b.toNat : Int)).toNat = b := fun b => by simp
  simp [strOfNums, bytesOf, Function.comp_def, h]
theorem bytesOf_u8 (s : ByteArray) : ∀ x ∈ bytesOf s, (Lit.int .u8 x).wf = true := by
  intro x hx
  unfold bytesOf at hx
  obtain ⟨b, _, rfl⟩ := List.mem_map.1 hx
  have := b.toNat_lt
  exact u8_of (by omega)
theorem encE_u8 (ino : Int) (s : ByteArray) : ∀ x ∈ (encE ino s).1, (Lit.int .u8 x).wf = true := by
  unfold encE
  split
  · intro x hx; rw [List.eq_of_mem_replicate hx]; decide
  · split
    · intro x hx; cases hx
    · split
      · intro x hx
        simp only [entL, List.mem_append] at hx
        rcases hx with ((hx | hx) | hx) | hx
        · exact leb_u8 _ _ x hx
        · exact leb_u8 _ _ x hx
        · exact bytesOf_u8 s x hx
        · rw [List.eq_of_mem_replicate hx]; decide
      · intro x hx; cases hx
theorem ent_back {ino : Int} {s : ByteArray} {x : List Int} (hx : encE ino s = (x, 0)) : decE x = (ino, s, 0) := by
  have hx0 := hx
  unfold encE at hx
  split at hx
  · next h =>
    obtain ⟨rfl, hs⟩ := h
    obtain rfl := of_toList hs
    have e : x = List.replicate 16 0 := (congrArg Prod.fst hx).symm
    have c1 : rd x 2 = 0 := by rw [e]; rfl
    have c2 : le (cutL x 0 2) = 0 := by rw [e]; rfl
    have c3 : strOfNums ((x.take (3 + (0 : Int)).toNat).drop 3) = ⟨List.toArray []⟩ := by rw [e]; rfl
    unfold decE
    rw [if_pos (by rw [e]; rfl), c1, if_neg (by decide), c2, c3, hx0, if_pos rfl, if_pos (beq_self_eq_true _)]
  · next h =>
    split at hx
    · have h3 := congrArg Prod.snd hx; dsimp only at h3; omega
    · next h2 =>
      split at hx
      · next h3 =>
        have h13 := spelt_size h3
        have hb := bytesOf_length s
        have e : x = leb 2 ino ++ leb 1 (s.size : Int) ++ bytesOf s ++ List.replicate (13 - s.size) 0 := (congrArg Prod.fst hx).symm
        have hl : x.length = 16 := by rw [e]; simp only [List.length_append, leb_length, List.length_replicate, hb]; omega
        have c1 : rd x 2 = (s.size : Int) := by
          rw [e]
          show (s.size : Int) % 256 = _
          omega
        have c2 : le (cutL x 0 2) = ino := by rw [e]; exact le_leb 2 ino (by omega) (by simp; omega)
        have c3 : (x.take (3 + (s.size : Int)).toNat).drop 3 = bytesOf s := by
          have e2 : x = (leb 2 ino ++ leb 1 (s.size : Int)) ++ (bytesOf s ++ List.replicate (13 - s.size) 0) := by rw [e, List.append_assoc (leb 2 ino ++ leb 1 (s.size : Int))]
          have h3l : (leb 2 ino ++ leb 1 (s.size : Int)).length = 3 := by simp only [List.length_append, leb_length]
          rw [e2, show (3 + (s.size : Int)).toNat = 3 + s.size by omega, List.take_append, List.drop_append, h3l, List.take_of_length_le (by omega), List.drop_eq_nil_of_le (by omega), List.nil_append, show 3 + s.size - 3 = s.size by omega, List.take_append, hb, List.take_of_length_le (by omega)]
          simp [h3l]
        unfold decE
        rw [if_pos hl, c1, if_neg (by omega), c2, c3, str_bytes, hx0, if_pos rfl, if_pos (beq_self_eq_true _)]
      · have h3 := congrArg Prod.snd hx; dsimp only at h3; omega
theorem u8_cut {l : List Int} (h : ∀ x ∈ l, (Lit.int .u8 x).wf = true) (a b : Nat) : ∀ x ∈ (l.drop a).take b, (Lit.int .u8 x).wf = true := fun x hx => h x (List.mem_of_mem_drop (List.mem_of_mem_take hx))
def entD (l : List Int) (n : Nat) : Int × ByteArray × Int := decE ((l.drop (n * 16)).take 16)
def entsL (l : List Int) : Nat → Bool × List S27
  | 0 => (true, [])
  | n + 1 => if (entsL l n).1 = true then (if (entD l n).2.2 = 0 then (true, (entsL l n).2 ++ [⟨(entD l n).1, (entD l n).2.1⟩]) else (false, [])) else (false, [])
theorem ents_f (l : List Int) (h : ∀ x ∈ l, (Lit.int .u8 x).wf = true) (k : Nat) (hk : 600 ≤ k) : ∀ n, dirs_ents k l n = some (entsL l n)
  | 0 => rfl
  | n + 1 => by
    simp only [dirs_ents, entsL]
    rw [ents_f l h k hk n, Option.bind_some]
    unfold dirs_de
    rw [de_f _ (u8_cut h _ _) k hk, Option.bind_some]
    show (if (entsL l n).1 = true then (if (entD l n).2.2 = 0 then some (true, (entsL l n).2 ++ [(⟨(entD l n).1, (entD l n).2.1⟩ : S27)]) else some (false, [])) else some (false, [])) = _
    split
    · split <;> rfl
    · rfl
theorem decE_size (l : List Int) (h : ∀ x ∈ l, (Lit.int .u8 x).wf = true) : (decE l).2.1.size ≤ 13 := by
  have hr := rd_u8 h 2
  unfold decE
  split
  · split
    · decide
    · next hb =>
      have hsz : (strOfNums ((l.take (3 + rd l 2).toNat).drop 3)).size ≤ 13 := by rw [str_size, List.length_drop, List.length_take]; omega
      split
      · split
        · exact hsz
        · decide
      · decide
  · decide
theorem ents_size (l : List Int) (h : ∀ x ∈ l, (Lit.int .u8 x).wf = true) : ∀ n, ∀ e ∈ (entsL l n).2, e.f1.size ≤ 13
  | 0, e, he => by cases he
  | n + 1, e, he => by
    unfold entsL at he
    split at he
    · split at he
      · rcases List.mem_append.1 he with he | he
        · exact ents_size l h n e he
        · rw [List.mem_singleton.1 he]
          exact decE_size _ (u8_cut h _ _)
      · cases he
    · cases he
theorem ents_len (l : List Int) : ∀ n, (entsL l n).1 = true → (entsL l n).2.length = n
  | 0, _ => rfl
  | n + 1, h => by
    unfold entsL at h ⊢
    split at h
    · next h1 =>
      split at h
      · next h2 =>
        rw [if_pos h1, if_pos h2, List.length_append, ents_len l n h1]; rfl
      · cases h
    · cases h
theorem ents_le (l : List Int) (n : Nat) : (entsL l n).2.length ≤ n := by
  cases hb : (entsL l n).1 with
  | true => rw [ents_len l n hb]; exact Nat.le_refl _
  | false =>
    cases n with
    | zero => exact Nat.le_refl _
    | succ n =>
      unfold entsL at hb ⊢
      split
      · next h1 =>
        rw [if_pos h1] at hb
        split
        · next h2 => rw [if_pos h2] at hb; cases hb
        · exact Nat.zero_le _
      · exact Nat.zero_le _
theorem ents_down (l : List Int) (j : Nat) (h : (entsL l j).1 = false) : ∀ n, j ≤ n → (entsL l n).1 = false
  | 0, hn => by obtain rfl : j = 0 := by omega
                exact h
  | n + 1, hn => by
    by_cases e : j = n + 1
    · subst e; exact h
    · unfold entsL
      rw [if_neg (by rw [ents_down l j h n (by omega)]; decide)]
def decB (l : List Int) : List S27 × Int := if l.length = 128 then (if (entsL l 8).1 = true then (if twL [] (entsL l 8).2 = true then ([], 6) else ((entsL l 8).2, 0)) else ([], 6)) else ([], 6)
theorem twice_f (l : List S27) (hs : ∀ e ∈ l, e.f1.size ≤ maxLen) (hl : l.length < 1000000000000) : dirs_twice.f l = some (twL [] l) := by
  unfold dirs_twice.f
  rw [if_pos ⟨hs, hl⟩]
theorem dirsDecode_f (l : List Int) (h : ∀ x ∈ l, (Lit.int .u8 x).wf = true) (k : Nat) (hk : 600 ≤ k) : dirs_Decode.f k l = some (decB l) := by
  unfold dirs_Decode.f decB
  by_cases hl : (l.length : Int) = 128
  · rw [if_pos hl, if_pos (by omega), ents_f l h k hk 8, Option.bind_some]
    by_cases h8 : (entsL l 8).1 = true
    · rw [if_pos h8, if_pos h8, twice_f _ (fun e he => by have := ents_size l h 8 e he; simp only [maxLen]; omega) (by have := ents_le l 8; omega), Option.bind_some]
      split <;> rfl
    · rw [if_neg h8, if_neg h8]
  · rw [if_neg hl, if_neg (by omega)]

def metOf (p : List S27) : List (List UInt8) := ((p.filter fun e => !decide (e.f0 = 0)).map fun e => e.f1.data.toList).reverse
theorem metOf_snoc (p : List S27) (e : S27) : metOf (p ++ [e]) = if e.f0 = 0 then metOf p else e.f1.data.toList :: metOf p := by
  unfold metOf
  rw [List.filter_append]
  split
  · next h => simp [h]
  · next h => simp [h]
theorem mem_metOf (p : List S27) (n : List UInt8) : n ∈ metOf p ↔ ∃ e ∈ p, e.f0 ≠ 0 ∧ e.f1.data.toList = n := by
  unfold metOf
  simp only [List.mem_reverse, List.mem_map, List.mem_filter, Bool.not_eq_true', decide_eq_false_iff_not]
  exact ⟨fun ⟨e, ⟨h1, h2⟩, h3⟩ => ⟨e, h1, h2, h3⟩, fun ⟨e, h1, h2, h3⟩ => ⟨e, ⟨h1, h2⟩, h3⟩⟩
def hitL (e0 : Int) (e1 : ByteArray) : List S27 → Bool
  | [] => false
  | e :: r => if e0 = 0 then hitL e0 e1 r else if e.f0 = 0 then hitL e0 e1 r else if e1.toList = e.f1.toList then true else hitL e0 e1 r
theorem hitL_cons (e0 : Int) (e1 : ByteArray) (e : S27) (r : List S27) : hitL e0 e1 (e :: r) = if e0 = 0 then hitL e0 e1 r else if e.f0 = 0 then hitL e0 e1 r else if e1.toList = e.f1.toList then true else hitL e0 e1 r := rfl
theorem hit_iff (e0 : Int) (e1 : ByteArray) : ∀ p : List S27, hitL e0 e1 p = true ↔ e0 ≠ 0 ∧ ∃ e ∈ p, e.f0 ≠ 0 ∧ e.f1.data.toList = e1.data.toList
  | [] => by simp [hitL]
  | a :: r => by
    unfold hitL
    have ih := hit_iff e0 e1 r
    by_cases h0 : e0 = 0
    · rw [if_pos h0, ih]; simp [h0]
    · rw [if_neg h0]
      by_cases h1 : a.f0 = 0
      · rw [if_pos h1, ih]
        simp [h0, h1]
      · rw [if_neg h1, ByteArray.toList_eq, ByteArray.toList_eq]
        by_cases h2 : e1.data.toList = a.f1.data.toList
        · rw [if_pos h2]
          exact ⟨fun _ => ⟨h0, a, List.mem_cons_self, h1, h2.symm⟩, fun _ => rfl⟩
        · rw [if_neg h2, ih]
          refine and_congr_right fun _ => ⟨fun ⟨e, h3, h4⟩ => ⟨e, List.mem_cons_of_mem _ h3, h4⟩, fun ⟨e, h3, h4, h5⟩ => ?_⟩
          rcases List.mem_cons.1 h3 with rfl | h3
          · exact absurd h5.symm h2
          · exact ⟨e, h3, h4, h5⟩
theorem rd27_get (l : List S27) (i : Nat) (h : i < l.length) : rd_T27 l (i : Int) = l[i] := by
  simp [rd_T27, List.getD_eq_getElem?_getD, h]
theorem clash_l1 (x0 x7 : List S27) (x8 x9 : Int) (p : List S27) (hp : p.length ≤ 1000000) (e0 : Int) (e1 : ByteArray) (d : Nat) :
    ∀ (j K : Nat), j + d = p.length → d < K → bollardref12_clash.l1 K x0 x7 x8 x9 p (p.length : Int) (j : Int) e0 e1 = if hitL e0 e1 (p.drop j) = true then some true else bollardref12_clash.l0 (K - d - 1) x0 x7 x8 (wrap64 (x9 + 1)) := by
  induction d with
  | zero =>
    intro j K hj hK
    cases K with
    | zero => omega
    | succ K =>
      simp only [bollardref12_clash.l1]
      rw [if_neg (by omega), List.drop_eq_nil_of_le (by omega)]
      rfl
  | succ d ih =>
    intro j K hj hK
    cases K with
    | zero => omega
    | succ K =>
      have hjl : j < p.length := by omega
      simp only [bollardref12_clash.l1]
      rw [if_pos (by omega), if_pos (by omega), if_pos (by omega), rd27_get p j hjl, List.drop_eq_getElem_cons hjl]
      have hw : wrap64 ((j : Int) + 1) = ((j + 1 : Nat) : Int) := by unfold wrap64; omega
      rw [hw, ih (j + 1) K (by omega) (by omega)]
      rw [hitL_cons, show K + 1 - (d + 1) - 1 = K - d - 1 by omega]
      by_cases h0 : e0 = 0
      · rw [if_pos h0, if_pos h0]
      · rw [if_neg h0, if_neg h0]
        by_cases h1 : p[j].f0 = 0
        · rw [if_pos h1, if_pos h1]
        · rw [if_neg h1, if_neg h1]
          by_cases h2 : e1.toList = p[j].f1.toList
          · rw [if_pos h2, if_pos h2, if_pos rfl]
          · rw [if_neg h2, if_neg h2]
theorem clash_l0 (x : List S27) (hx : x.length ≤ 1000000) (d : Nat) :
    ∀ (i K : Nat), i + d = x.length → d * (x.length + 2) < K → bollardref12_clash.l0 K x x (x.length : Int) (i : Int) = some (twL (metOf (x.take i)) (x.drop i)) := by
  induction d with
  | zero =>
    intro i K hi hK
    cases K with
    | zero => omega
    | succ K =>
      simp only [bollardref12_clash.l0]
      rw [if_neg (by omega), List.drop_eq_nil_of_le (by omega)]
      rfl
  | succ d ih =>
    intro i K hi hK
    cases K with
    | zero => omega
    | succ K =>
      have hil : i < x.length := by omega
      have hK2 : d * (x.length + 2) + (x.length + 2) < K + 1 := by rw [Nat.add_mul, Nat.one_mul] at hK; exact hK
      simp only [bollardref12_clash.l0]
      rw [if_pos (by omega), if_pos (by omega), if_pos (by omega), if_pos (by omega), Option.bind_some, Int.toNat_natCast, rd27_get x i hil]
      have hlt : (x.take i).length = i := by rw [List.length_take]; omega
      have h1 := clash_l1 x x (x.length : Int) (i : Int) (x.take i) (by omega) x[i].f0 x[i].f1 i 0 K (by omega) (by omega)
      rw [show ((0 : Nat) : Int) = 0 from rfl] at h1
      rw [h1, List.drop_zero]
      have hw : wrap64 ((i : Int) + 1) = ((i + 1 : Nat) : Int) := by unfold wrap64; omega
      rw [hw, ih (i + 1) (K - i - 1) (by omega) (by omega), List.drop_eq_getElem_cons hil]
      have ht : x.take (i + 1) = x.take i ++ [x[i]] := by rw [List.take_add_one, List.getElem?_eq_getElem hil]; rfl
      rw [ht, metOf_snoc]
      simp only [twL]
      by_cases h0 : x[i].f0 = 0
      · rw [if_pos h0, if_pos h0, if_neg]
        intro hh
        exact ((hit_iff _ _ _).1 hh).1 h0
      · rw [if_neg h0, if_neg h0]
        by_cases hm : x[i].f1.data.toList ∈ metOf (x.take i)
        · rw [if_pos hm, if_pos]
          exact (hit_iff _ _ _).2 ⟨h0, (mem_metOf _ _).1 hm⟩
        · rw [if_neg hm, if_neg]
          intro hh
          exact hm ((mem_metOf _ _).2 ((hit_iff _ _ _).1 hh).2)
theorem clash_f (x : List S27) (hx : x.length ≤ 8) (k : Nat) (hk : 100 ≤ k) : bollardref12_clash.f k x = some (twL [] x) := by
  unfold bollardref12_clash.f
  have := clash_l0 x (by omega) x.length 0 k (by omega) (by
    have : x.length * (x.length + 2) ≤ 8 * (8 + 2) := Nat.mul_le_mul hx (by omega)
    omega)
  rw [show ((0 : Nat) : Int) = 0 from rfl] at this
  rw [this]
  rfl
theorem refDecode_l0 (l : List Int) (h : ∀ x ∈ l, (Lit.int .u8 x).wf = true) (hl : l.length = 128) (d : Nat) :
    ∀ (i K : Nat), i + d = 8 → 700 + d ≤ K → (entsL l i).1 = true → bollardref12_Decode.l0 K l (entsL l i).2 (i : Int) = some (decB l) := by
  induction d with
  | zero =>
    intro i K hi hK ht
    obtain rfl : i = 8 := by omega
    cases K with
    | zero => omega
    | succ K =>
      simp only [bollardref12_Decode.l0]
      rw [if_neg (by omega), clash_f _ (ents_le l 8) K (by omega), Option.bind_some]
      unfold decB
      rw [if_pos hl, if_pos ht]
      split <;> rfl
  | succ d ih =>
    intro i K hi hK ht
    cases K with
    | zero => omega
    | succ K =>
      have hi8 : i < 8 := by omega
      have w1 : wrap64 (16 * (i : Int)) = ((i * 16 : Nat) : Int) := by unfold wrap64; omega
      have w2 : wrap64 (((i * 16 : Nat) : Int) + 16) = ((i * 16 + 16 : Nat) : Int) := by unfold wrap64; omega
      have w3 : wrap64 ((i : Int) + 1) = ((i + 1 : Nat) : Int) := by unfold wrap64; omega
      simp only [bollardref12_Decode.l0]
      rw [w1, w2, w3, if_pos (by omega), if_pos (by omega), if_pos (by omega), if_pos (by omega), Int.toNat_natCast, Int.toNat_natCast, List.drop_take, show i * 16 + 16 - i * 16 = 16 by omega,
        rde_f _ (u8_cut h _ _) K (by omega), Option.bind_some]
      show (if (entD l i).2.2 = 0 then _ else _) = _
      by_cases h0 : (entD l i).2.2 = 0
      · rw [if_pos h0, if_pos (by have := ents_le l i; omega)]
        have e1 : (entsL l (i + 1)).1 = true := by simp only [entsL]; rw [if_pos ht, if_pos h0]
        have e2 : (entsL l (i + 1)).2 = (entsL l i).2 ++ [⟨(entD l i).1, (entD l i).2.1⟩] := by simp only [entsL]; rw [if_pos ht, if_pos h0]
        have := ih (i + 1) K (by omega) (by omega) e1
        rw [e2] at this
        exact this
      · rw [if_neg h0]
        have e1 : (entsL l (i + 1)).1 = false := by simp only [entsL]; rw [if_pos ht, if_neg h0]
        have e8 := ents_down l (i + 1) e1 8 (by omega)
        unfold decB
        rw [if_pos hl, if_neg (by rw [e8]; decide)]
theorem refDecode_f (l : List Int) (h : ∀ x ∈ l, (Lit.int .u8 x).wf = true) (k : Nat) (hk : 800 ≤ k) : bollardref12_Decode.f k l = some (decB l) := by
  unfold bollardref12_Decode.f
  by_cases hl : (l.length : Int) = 128
  · rw [if_pos hl]
    exact refDecode_l0 l h (by omega) 8 0 k rfl (by omega) rfl
  · rw [if_neg hl]
    unfold decB
    rw [if_neg (by omega)]
theorem decB_len (l : List Int) : (decB l).1.length ≤ 8 := by
  unfold decB
  split
  · split
    · split
      · exact Nat.zero_le _
      · exact ents_le l 8
    · exact Nat.zero_le _
  · exact Nat.zero_le _
theorem decB_size (l : List Int) (h : ∀ x ∈ l, (Lit.int .u8 x).wf = true) : ∀ e ∈ (decB l).1, e.f1.size ≤ 13 := by
  unfold decB
  split
  · split
    · split
      · intro e he; cases he
      · exact ents_size l h 8
    · intro e he; cases he
  · intro e he; cases he
theorem encE_len {ino : Int} {s : ByteArray} (h : (encE ino s).2 = 0) : (encE ino s).1.length = 16 := by
  unfold encE at h ⊢
  split
  · simp
  · next h1 =>
    rw [if_neg h1] at h
    split
    · next h2 => rw [if_pos h2] at h; exact absurd h (by decide)
    · next h2 =>
      rw [if_neg h2] at h
      split
      · next h3 =>
        have h13 := spelt_size h3
        have hb := bytesOf_length s
        simp only [entL, List.length_append, leb_length, List.length_replicate, hb]; omega
      · next h3 => rw [if_neg h3] at h; exact absurd h (by decide)
def encsL (l : List S27) : Nat → Bool × List Int
  | 0 => (true, [])
  | n + 1 => if (encsL l n).1 = true then (if (encE (rd_T27 l n).f0 (rd_T27 l n).f1).2 = 0 then (true, (encsL l n).2 ++ (encE (rd_T27 l n).f0 (rd_T27 l n).f1).1) else (false, [])) else (false, [])
theorem encs_f (l : List S27) (k : Nat) (hs : ∀ e ∈ l, e.f1.size ≤ maxLen) (hk : ∀ e ∈ l, e.f1.size + 500 ≤ k) : ∀ n, n ≤ l.length → dirs_encs k l n = some (encsL l n)
  | 0, _ => rfl
  | n + 1, hn => by
    have hm : rd_T27 l (n : Int) ∈ l := by rw [rd27_get l n (by omega)]; exact List.getElem_mem _
    have h1 := hs _ hm
    have h2 := hk _ hm
    simp only [maxLen] at h1
    simp only [dirs_encs, encsL]
    rw [encs_f l k hs hk n (by omega), Option.bind_some, ee_f _ _ (by omega) k h2, Option.bind_some]
    split
    · split
      · next h3 => rw [if_pos (encE_len h3)]
      · rfl
    · rfl
theorem encs_len (l : List S27) : ∀ n, (encsL l n).1 = true → (encsL l n).2.length = 16 * n
  | 0, _ => rfl
  | n + 1, h => by
    unfold encsL at h ⊢
    split at h
    · next h1 =>
      split at h
      · next h2 =>
        rw [if_pos h1, if_pos h2, List.length_append, encs_len l n h1, encE_len h2]; omega
      · cases h
    · cases h
theorem encs_down (l : List S27) (j : Nat) (h : (encsL l j).1 = false) : ∀ n, j ≤ n → (encsL l n).1 = false
  | 0, hn => by obtain rfl : j = 0 := by omega
                exact h
  | n + 1, hn => by
    by_cases e : j = n + 1
    · subst e; exact h
    · unfold encsL
      rw [if_neg (by rw [encs_down l j h n (by omega)]; decide)]
def encB (l : List S27) : List Int × Int := if 8 < l.length then ([], 1) else if twL [] l = true then ([], 1) else if (encsL l l.length).1 = true then ((encsL l l.length).2 ++ List.replicate (128 - (encsL l l.length).2.length) 0, 0) else ([], 1)
theorem dirsEncode_f (l : List S27) (k : Nat) (hs : ∀ e ∈ l, e.f1.size ≤ maxLen) (hk : ∀ e ∈ l, e.f1.size + 500 ≤ k) : dirs_Encode.f k l = some (encB l) := by
  unfold dirs_Encode.f encB
  by_cases h8 : 8 < l.length
  · rw [if_pos h8, if_pos h8]
  · rw [if_neg h8, if_neg h8, twice_f l hs (by omega), Option.bind_some, encs_f l k hs hk _ (Nat.le_refl _), Option.bind_some]
    split
    · rfl
    · split <;> rfl
theorem refEncode_l0 (l : List S27) (hl : l.length ≤ 8) (hs : ∀ e ∈ l, e.f1.size ≤ maxLen) (htw : ¬ twL [] l = true) (d : Nat) :
    ∀ (i K : Nat), i + d = l.length → (∀ e ∈ l, e.f1.size + 500 + d < K) → d < K → (encsL l i).1 = true → bollardref12_Encode.l0 K (encsL l i).2 l (l.length : Int) (i : Int) = some (encB l) := by
  induction d with
  | zero =>
    intro i K hi hk hK ht
    obtain rfl : i = l.length := by omega
    cases K with
    | zero => omega
    | succ K =>
      have hel := encs_len l _ ht
      have w1 : wrap64 (128 - ((encsL l l.length).2.length : Int)) = ((128 - (encsL l l.length).2.length : Nat) : Int) := by unfold wrap64; omega
      simp only [bollardref12_Encode.l0]
      rw [if_neg (by omega), w1, Int.toNat_natCast, if_pos (by omega), if_pos (by omega)]
      unfold encB
      rw [if_neg (by omega), if_neg htw, if_pos ht]
  | succ d ih =>
    intro i K hi hk hK ht
    cases K with
    | zero => omega
    | succ K =>
      have hil : i < l.length := by omega
      have hm : rd_T27 l (i : Int) ∈ l := by rw [rd27_get l i hil]; exact List.getElem_mem _
      have h1 := hs _ hm
      have h2 := hk _ hm
      simp only [maxLen] at h1
      have w3 : wrap64 ((i : Int) + 1) = ((i + 1 : Nat) : Int) := by unfold wrap64; omega
      simp only [bollardref12_Encode.l0]
      rw [w3, if_pos (by omega), if_pos (by omega), if_pos (by omega), re_f _ _ (by omega) K (by omega), Option.bind_some]
      by_cases h0 : (encE (rd_T27 l i).f0 (rd_T27 l i).f1).2 = 0
      · have hel := encs_len l _ ht
        rw [if_pos h0, if_pos (by rw [hel, encE_len h0]; omega)]
        have e1 : (encsL l (i + 1)).1 = true := by simp only [encsL]; rw [if_pos ht, if_pos h0]
        have e2 : (encsL l (i + 1)).2 = (encsL l i).2 ++ (encE (rd_T27 l i).f0 (rd_T27 l i).f1).1 := by simp only [encsL]; rw [if_pos ht, if_pos h0]
        have := ih (i + 1) K (by omega) (fun e he => by have := hk e he; omega) (by omega) e1
        rw [e2] at this
        exact this
      · rw [if_neg h0]
        have e1 : (encsL l (i + 1)).1 = false := by simp only [encsL]; rw [if_pos ht, if_neg h0]
        have e8 := encs_down l (i + 1) e1 l.length (by omega)
        unfold encB
        rw [if_neg (by omega), if_neg htw, if_neg (by rw [e8]; decide)]
theorem refEncode_f (l : List S27) (k : Nat) (hs : ∀ e ∈ l, e.f1.size ≤ maxLen) (hk : ∀ e ∈ l, e.f1.size + 600 ≤ k) (hk0 : 600 ≤ k) : bollardref12_Encode.f k l = some (encB l) := by
  unfold bollardref12_Encode.f
  cases k with
  | zero => omega
  | succ k =>
    by_cases h8 : (l.length : Int) > 8
    · rw [if_pos h8]
      simp only [bollardref12_Encode.j0]
      rw [if_pos trivial]
      unfold encB
      rw [if_pos (by omega)]
    · rw [if_neg h8, clash_f l (by omega) (k + 1) (by omega), Option.bind_some]
      simp only [bollardref12_Encode.j0]
      by_cases htw : twL [] l = true
      · rw [if_pos htw]
        unfold encB
        rw [if_neg (by omega), if_pos htw]
      · rw [if_neg htw]
        exact refEncode_l0 l (by omega) hs htw l.length 0 k (by omega) (fun e he => by have := hk e he; omega) (by omega) rfl
theorem sizes_bound : ∀ l : List S27, ∃ M, ∀ e ∈ l, e.f1.size ≤ M
  | [] => ⟨0, fun _ h => by cases h⟩
  | a :: r => by
    obtain ⟨M, hM⟩ := sizes_bound r
    refine ⟨M + a.f1.size, fun e he => ?_⟩
    rcases List.mem_cons.1 he with rfl | he
    · omega
    · have := hM e he; omega
def findB (a : ByteArray) (x : List S27) : Int × Int × Bool := (dirs_at (dirs_pFind a) x, (dirs_el (dirs_pFind a) x).f0, decide (0 ≤ dirs_ix (dirs_pFind a) x 0))
def freeB (x : List S27) : Int × Bool := (dirs_at dirs_pFree x, decide (0 ≤ dirs_ix dirs_pFree x 0))
theorem dirsFind_f (l : List Int) (a : ByteArray) (h : ∀ x ∈ l, (Lit.int .u8 x).wf = true) (k : Nat) (hk : 600 ≤ k) : dirs_Find.f k l a = some (findB a (decB l).1) := by
  unfold dirs_Find.f
  rw [dirsDecode_f l h k hk, Option.bind_some]
  rfl
theorem dirsFree_f (l : List Int) (h : ∀ x ∈ l, (Lit.int .u8 x).wf = true) (k : Nat) (hk : 600 ≤ k) : dirs_Free.f k l = some (freeB (decB l).1) := by
  unfold dirs_Free.f
  rw [dirsDecode_f l h k hk, Option.bind_some]
  rfl
theorem refFind_l0 (a : ByteArray) (x : List S27) (hx : x.length ≤ 8) (d : Nat) : ∀ (i K : Nat), i + d = x.length → d < K →
    bollardref12_Find.l0 K a x (x.length : Int) (i : Int) = some (if dirs_ix (dirs_pFind a) (x.drop i) (i : Int) < 0 then (0, 0, false) else (dirs_ix (dirs_pFind a) (x.drop i) (i : Int), (rd_T27 x (dirs_ix (dirs_pFind a) (x.drop i) (i : Int))).f0, true)) := by
  induction d with
  | zero =>
    intro i K hi hK
    cases K with
    | zero => omega
    | succ K =>
      unfold bollardref12_Find.l0
      rw [if_neg (by omega), List.drop_eq_nil_of_le (by omega)]
      rfl
  | succ d ih =>
    intro i K hi hK
    cases K with
    | zero => omega
    | succ K =>
      have hil : i < x.length := by omega
      have w3 : wrap64 ((i : Int) + 1) = ((i + 1 : Nat) : Int) := by unfold wrap64; omega
      unfold bollardref12_Find.l0
      rw [w3, if_pos (by omega), if_pos (by omega), if_pos (by omega), ih (i + 1) K (by omega) (by omega), List.drop_eq_getElem_cons hil, rd27_get x i hil]
      have hix : dirs_ix (dirs_pFind a) (x[i] :: x.drop (i + 1)) (i : Int) = if dirs_pFind a x[i] = true then (i : Int) else dirs_ix (dirs_pFind a) (x.drop (i + 1)) ((i + 1 : Nat) : Int) := rfl
      rw [hix]
      by_cases h0 : x[i].f0 = 0
      · rw [if_pos h0, show dirs_pFind a x[i] = false by simp [dirs_pFind, h0], if_neg (show ¬ (false = true) by decide)]
      · rw [if_neg h0]
        by_cases h1 : x[i].f1.toList = a.toList
        · rw [if_pos h1, show dirs_pFind a x[i] = true by simp [dirs_pFind, h0, h1], if_pos (show true = true from rfl), if_neg (by omega), rd27_get x i hil]
        · rw [if_neg h1, show dirs_pFind a x[i] = false by simp [dirs_pFind, h1], if_neg (show ¬ (false = true) by decide)]
theorem find_eq (a : ByteArray) (x : List S27) : (if dirs_ix (dirs_pFind a) x 0 < 0 then ((0 : Int), (0 : Int), false) else (dirs_ix (dirs_pFind a) x 0, (rd_T27 x (dirs_ix (dirs_pFind a) x 0)).f0, true)) = findB a x := by
  unfold findB dirs_at dirs_el
  split
  · next h => rw [show decide (0 ≤ dirs_ix (dirs_pFind a) x 0) = false from decide_eq_false (by omega)]; rfl
  · next h => rw [show decide (0 ≤ dirs_ix (dirs_pFind a) x 0) = true from decide_eq_true (by omega)]
theorem refFind_f (l : List Int) (a : ByteArray) (h : ∀ x ∈ l, (Lit.int .u8 x).wf = true) (k : Nat) (hk : 800 ≤ k) : bollardref12_Find.f k l a = some (findB a (decB l).1) := by
  unfold bollardref12_Find.f
  have := decB_len l
  rw [refDecode_f l h k hk, Option.bind_some, show (0 : Int) = ((0 : Nat) : Int) from rfl, refFind_l0 a _ this _ 0 k (Nat.zero_add _) (by omega), List.drop_zero, show ((0 : Nat) : Int) = (0 : Int) from rfl, find_eq]
theorem refFree_l0 (x : List S27) (hx : x.length ≤ 8) (d : Nat) : ∀ (i K : Nat), i + d = x.length → d < K →
    bollardref12_Free.l0 K x (x.length : Int) (i : Int) = some (if dirs_ix dirs_pFree (x.drop i) (i : Int) < 0 then (0, false) else (dirs_ix dirs_pFree (x.drop i) (i : Int), true)) := by
  induction d with
  | zero =>
    intro i K hi hK
    cases K with
    | zero => omega
    | succ K =>
      unfold bollardref12_Free.l0
      rw [if_neg (by omega), List.drop_eq_nil_of_le (by omega)]
      rfl
  | succ d ih =>
    intro i K hi hK
    cases K with
    | zero => omega
    | succ K =>
      have hil : i < x.length := by omega
      have w3 : wrap64 ((i : Int) + 1) = ((i + 1 : Nat) : Int) := by unfold wrap64; omega
      unfold bollardref12_Free.l0
      rw [w3, if_pos (by omega), if_pos (by omega), if_pos (by omega), ih (i + 1) K (by omega) (by omega), List.drop_eq_getElem_cons hil, rd27_get x i hil]
      have hix : dirs_ix dirs_pFree (x[i] :: x.drop (i + 1)) (i : Int) = if dirs_pFree x[i] = true then (i : Int) else dirs_ix dirs_pFree (x.drop (i + 1)) ((i + 1 : Nat) : Int) := rfl
      rw [hix]
      by_cases h0 : x[i].f0 = 0
      · rw [if_pos h0, show dirs_pFree x[i] = true by simp [dirs_pFree, h0], if_pos (show true = true from rfl), if_neg (by omega)]
      · rw [if_neg h0, show dirs_pFree x[i] = false by simp [dirs_pFree, h0], if_neg (show ¬ (false = true) by decide)]
theorem free_eq (x : List S27) : (if dirs_ix dirs_pFree x 0 < 0 then ((0 : Int), false) else (dirs_ix dirs_pFree x 0, true)) = freeB x := by
  unfold freeB dirs_at
  split
  · next h => rw [show decide (0 ≤ dirs_ix dirs_pFree x 0) = false from decide_eq_false (by omega)]
  · next h => rw [show decide (0 ≤ dirs_ix dirs_pFree x 0) = true from decide_eq_true (by omega)]
theorem refFree_f (l : List Int) (h : ∀ x ∈ l, (Lit.int .u8 x).wf = true) (k : Nat) (hk : 800 ≤ k) : bollardref12_Free.f k l = some (freeB (decB l).1) := by
  unfold bollardref12_Free.f
  have := decB_len l
  rw [refDecode_f l h k hk, Option.bind_some, show (0 : Int) = ((0 : Nat) : Int) from rfl, refFree_l0 _ this _ 0 k (Nat.zero_add _) (by omega), List.drop_zero, show ((0 : Nat) : Int) = (0 : Int) from rfl, free_eq]
theorem str_list (l : List Int) : (strOfNums l).toList = l.map fun n => UInt8.ofNat n.toNat := by
  rw [ByteArray.toList_eq]; simp [strOfNums]
theorem u8_inj {x y : Int} (hx : (Lit.int .u8 x).wf = true) (hy : (Lit.int .u8 y).wf = true) (h : UInt8.ofNat x.toNat = UInt8.ofNat y.toNat) : x = y := by
  have h1 := u8_bd hx
  have h2 := u8_bd hy
  have h3 := congrArg UInt8.toNat h
  rw [UInt8.toNat_ofNat', UInt8.toNat_ofNat'] at h3
  omega
theorem str_inj : ∀ (l m : List Int), (∀ x ∈ l, (Lit.int .u8 x).wf = true) → (∀ x ∈ m, (Lit.int .u8 x).wf = true) → (l.map fun n : Int => UInt8.ofNat n.toNat) = (m.map fun n => UInt8.ofNat n.toNat) → l = m
  | [], [], _, _, _ => rfl
  | [], _ :: _, _, _, h => by cases h
  | _ :: _, [], _, _, h => by cases h
  | x :: l, y :: m, hl, hm, h => by
    simp only [List.map_cons, List.cons.injEq] at h
    rw [u8_inj (hl x List.mem_cons_self) (hm y List.mem_cons_self) h.1, str_inj l m (fun z hz => hl z (List.mem_cons_of_mem _ hz)) (fun z hz => hm z (List.mem_cons_of_mem _ hz)) h.2]
theorem decE_ok {c : List Int} (h : ∀ x ∈ c, (Lit.int .u8 x).wf = true) : (decE c).2.2 = 0 → encE (decE c).1 (decE c).2.1 = (c, 0) := by
  unfold decE
  split
  · split
    · intro h0; exact absurd h0 (by decide)
    · split
      · next h2 =>
        split
        · next h3 =>
          intro _
          have h4 := eq_of_beq h3
          rw [str_list, str_list] at h4
          exact Prod.ext (str_inj _ _ h (encE_u8 _ _) h4).symm h2
        · intro h0; exact absurd h0 (by decide)
      · intro h0; exact absurd h0 (by decide)
  · intro h0; exact absurd h0 (by decide)
theorem ents_get (l : List Int) : ∀ n, (entsL l n).1 = true → ∀ j, j < n → (entD l j).2.2 = 0 ∧ rd_T27 (entsL l n).2 (j : Int) = ⟨(entD l j).1, (entD l j).2.1⟩
  | 0, _, j, hj => absurd hj (Nat.not_lt_zero _)
  | n + 1, h, j, hj => by
    have hlen := ents_len l n
    unfold entsL at h ⊢
    split at h
    · next h1 =>
      split at h
      · next h2 =>
        rw [if_pos h1, if_pos h2]
        by_cases e : j = n
        · subst e
          refine ⟨h2, ?_⟩
          rw [rd27_get _ _ (by rw [List.length_append, hlen h1]; simp)]
          rw [List.getElem_append_right (by rw [hlen h1]; exact Nat.le_refl _)]
          simp [hlen h1]
        · obtain ⟨h3, h4⟩ := ents_get l n h1 j (by omega)
          refine ⟨h3, ?_⟩
          rw [rd27_get _ _ (by rw [List.length_append, hlen h1]; simp; omega), List.getElem_append_left (by rw [hlen h1]; omega), ← rd27_get _ _ (by rw [hlen h1]; omega)]
          exact h4
      · cases h
    · cases h
theorem encs_chunks (E : List S27) (l : List Int) : ∀ n, 16 * n ≤ l.length → (∀ j : Nat, j < n → encE (rd_T27 E j).f0 (rd_T27 E j).f1 = ((l.drop (j * 16)).take 16, 0)) → encsL E n = (true, l.take (16 * n))
  | 0, _, _ => rfl
  | n + 1, hl, h => by
    have ih := encs_chunks E l n (by omega) (fun j hj => h j (by omega))
    have hn := h n (by omega)
    unfold encsL
    rw [ih, if_pos rfl, hn, if_pos rfl]
    refine Prod.ext rfl ?_
    show l.take (16 * n) ++ (l.drop (n * 16)).take 16 = l.take (16 * (n + 1))
    rw [show 16 * (n + 1) = 16 * n + 16 by omega, List.take_add, Nat.mul_comm n 16]
def nm (l : List S27) : List (List UInt8) := (l.filter fun e => !decide (e.f0 = 0)).map fun e => e.f1.data.toList
theorem nm_append (a b : List S27) : nm (a ++ b) = nm a ++ nm b := by unfold nm; rw [List.filter_append, List.map_append]
theorem nm_cons0 (e : S27) (b : List S27) (h : e.f0 = 0) : nm (e :: b) = nm b := by unfold nm; rw [List.filter_cons_of_neg (by simp [h])]
theorem nm_cons1 (e : S27) (b : List S27) (h : e.f0 ≠ 0) : nm (e :: b) = e.f1.data.toList :: nm b := by unfold nm; rw [List.filter_cons_of_pos (by simp [h]), List.map_cons]
theorem mem_nm (p : List S27) (n : List UInt8) : n ∈ nm p ↔ ∃ e ∈ p, e.f0 ≠ 0 ∧ e.f1.data.toList = n := by
  unfold nm
  simp only [List.mem_map, List.mem_filter, Bool.not_eq_true', decide_eq_false_iff_not]
  exact ⟨fun ⟨e, ⟨h1, h2⟩, h3⟩ => ⟨e, h1, h2, h3⟩, fun ⟨e, h1, h2, h3⟩ => ⟨e, ⟨h1, h2⟩, h3⟩⟩
theorem tw_iff : ∀ (l : List S27) (met : List (List UInt8)), twL met l = false ↔ (nm l).Nodup ∧ ∀ n ∈ nm l, n ∉ met
  | [], met => ⟨fun _ => ⟨List.nodup_nil, fun n hn => by cases hn⟩, fun _ => rfl⟩
  | e :: r, met => by
    unfold twL
    by_cases h0 : e.f0 = 0
    · rw [if_pos h0, nm_cons0 e r h0]; exact tw_iff r met
    · rw [if_neg h0, nm_cons1 e r h0]
      by_cases hm : e.f1.data.toList ∈ met
      · rw [if_pos hm]
        exact ⟨fun h => (by cases h), fun h => absurd hm (h.2 _ List.mem_cons_self)⟩
      · rw [if_neg hm, tw_iff r _, List.nodup_cons]
        constructor
        · rintro ⟨h1, h2⟩
          refine ⟨⟨fun h3 => h2 _ h3 List.mem_cons_self, h1⟩, fun n hn => ?_⟩
          rcases List.mem_cons.1 hn with rfl | hn
          · exact hm
          · exact fun h4 => h2 n hn (List.mem_cons_of_mem _ h4)
        · rintro ⟨⟨h1, h2⟩, h3⟩
          refine ⟨h2, fun n hn h4 => ?_⟩
          rcases List.mem_cons.1 h4 with rfl | h4
          · exact h1 hn
          · exact h3 n (List.mem_cons_of_mem _ hn) h4
theorem tw_nodup (l : List S27) : twL [] l = false ↔ (nm l).Nodup := by
  rw [tw_iff l []]
  exact ⟨fun h => h.1, fun h => ⟨h, fun n _ hn => by cases hn⟩⟩
theorem ix_spec (p : S27 → Bool) : ∀ (x : List S27) (i : Int), (dirs_ix p x i = -1 ∧ ∀ e ∈ x, p e = false) ∨ ∃ j, ∃ h : j < x.length, dirs_ix p x i = i + (j : Int) ∧ p x[j] = true
  | [], i => .inl ⟨rfl, fun e he => by cases he⟩
  | a :: r, i => by
    have hc : dirs_ix p (a :: r) i = if p a = true then i else dirs_ix p r (i + 1) := rfl
    cases hp : p a with
    | true =>
      right
      refine ⟨0, by simp, ?_, hp⟩
      rw [hc, hp, if_pos rfl]; simp
    | false =>
      rw [hc, hp, if_neg (by decide)]
      rcases ix_spec p r (i + 1) with ⟨h1, h2⟩ | ⟨j, h, h1, h2⟩
      · left
        refine ⟨h1, fun e he => ?_⟩
        rcases List.mem_cons.1 he with rfl | he
        · exact hp
        · exact h2 e he
      · right
        exact ⟨j + 1, by simp; omega, by rw [h1]; omega, h2⟩
theorem find_spec (a : ByteArray) (x : List S27) : ((findB a x).2.2 = false ∧ (findB a x).1 = 0 ∧ (findB a x).2.1 = 0 ∧ a.data.toList ∉ nm x) ∨ ∃ j, ∃ h : j < x.length, findB a x = ((j : Int), x[j].f0, true) ∧ x[j].f0 ≠ 0 ∧ x[j].f1.data.toList = a.data.toList := by
  rcases ix_spec (dirs_pFind a) x 0 with ⟨h1, h2⟩ | ⟨j, h, h1, h2⟩
  · left
    unfold findB dirs_at dirs_el
    rw [h1]
    refine ⟨rfl, rfl, rfl, fun hm => ?_⟩
    obtain ⟨e, he, h3, h4⟩ := (mem_nm _ _).1 hm
    have := h2 e he
    unfold dirs_pFind at this
    rw [ByteArray.toList_eq, ByteArray.toList_eq, h4] at this
    simp [h3] at this
  · right
    refine ⟨j, h, ?_, ?_⟩
    · unfold findB dirs_at dirs_el
      rw [h1, Int.zero_add, if_neg (by omega), if_neg (by omega), rd27_get x j h, decide_eq_true (by omega)]
    · unfold dirs_pFind at h2
      rw [ByteArray.toList_eq, ByteArray.toList_eq] at h2
      simpa using h2
theorem free_spec (x : List S27) : ((freeB x).2 = false) ∨ ∃ j, ∃ h : j < x.length, freeB x = ((j : Int), true) ∧ x[j].f0 = 0 := by
  rcases ix_spec dirs_pFree x 0 with ⟨h1, h2⟩ | ⟨j, h, h1, h2⟩
  · left
    unfold freeB
    rw [h1]; rfl
  · right
    refine ⟨j, h, ?_, ?_⟩
    · unfold freeB dirs_at
      rw [h1, Int.zero_add, if_neg (by omega), decide_eq_true (by omega)]
    · unfold dirs_pFree at h2
      simpa using h2
def putAt (l : List Int) (i : Nat) (c : List Int) : List Int := l.take (16 * i) ++ c ++ l.drop (16 * i + 16)
theorem putAt_get (l c : List Int) (i k : Nat) (hl : 16 * i + 16 ≤ l.length) (hc : c.length = 16) : (putAt l i c)[k]? = if k < 16 * i then l[k]? else if k < 16 * i + 16 then c[k - 16 * i]? else l[k]? := by
  unfold putAt
  have ht : (l.take (16 * i)).length = 16 * i := by rw [List.length_take]; omega
  rw [List.append_assoc, List.getElem?_append, ht]
  split
  · next h => rw [List.getElem?_take, if_pos h]
  · next h =>
    rw [List.getElem?_append, hc]
    split
    · next h2 => rw [if_pos (by omega)]
    · next h2 => rw [if_neg (by omega), List.getElem?_drop]; congr 1; omega
theorem putAt_len (l c : List Int) (i : Nat) (hl : 16 * i + 16 ≤ l.length) (hc : c.length = 16) : (putAt l i c).length = l.length := by
  unfold putAt
  simp only [List.length_append, List.length_take, List.length_drop, hc]; omega
theorem putAt_chunk (l c : List Int) (i j : Nat) (hl : 16 * i + 16 ≤ l.length) (hc : c.length = 16) : ((putAt l i c).drop (j * 16)).take 16 = if j = i then c else (l.drop (j * 16)).take 16 := by
  apply List.ext_getElem?
  intro m
  rw [List.getElem?_take, List.getElem?_drop, putAt_get l c i _ hl hc]
  by_cases e : j = i
  · subst e
    rw [if_pos rfl]
    split
    · rw [if_neg (by omega), if_pos (by omega)]; congr 1; omega
    · rw [List.getElem?_eq_none (by omega)]
  · rw [if_neg e, List.getElem?_take, List.getElem?_drop]
    split
    · split
      · rfl
      · rw [if_neg (by omega)]
    · rfl
theorem rd_set (E : List S27) (i j : Nat) (e : S27) (hi : i < E.length) : rd_T27 (E.set i e) (j : Int) = if j = i then e else rd_T27 E (j : Int) := by
  unfold rd_T27
  rw [Int.toNat_natCast, List.getD_eq_getElem?_getD, List.getD_eq_getElem?_getD, List.getElem?_set]
  by_cases h : i = j
  · subst h; rw [if_pos rfl, if_pos hi, if_pos rfl]; rfl
  · rw [if_neg h, if_neg (fun e => h e.symm)]
theorem dec_chunks {l : List Int} (h : ∀ x ∈ l, (Lit.int .u8 x).wf = true) (h0 : (decB l).2 = 0) : l.length = 128 ∧ (decB l).1.length = 8 ∧ twL [] (decB l).1 = false ∧ ∀ j : Nat, j < 8 → encE (rd_T27 (decB l).1 j).f0 (rd_T27 (decB l).1 j).f1 = ((l.drop (j * 16)).take 16, 0) := by
  by_cases h1 : l.length = 128
  · by_cases h2 : (entsL l 8).1 = true
    · by_cases h3 : twL [] (entsL l 8).2 = true
      · unfold decB at h0
        rw [if_pos h1, if_pos h2, if_pos h3] at h0
        exact absurd h0 (by decide)
      · have e : decB l = ((entsL l 8).2, 0) := by unfold decB; rw [if_pos h1, if_pos h2, if_neg h3]
        rw [e]
        refine ⟨h1, ents_len l 8 h2, by simpa using h3, fun j hj => ?_⟩
        obtain ⟨h4, h5⟩ := ents_get l 8 h2 j hj
        rw [h5]
        exact decE_ok (u8_cut h _ _) h4
    · unfold decB at h0
      rw [if_pos h1, if_neg h2] at h0
      exact absurd h0 (by decide)
  · unfold decB at h0
    rw [if_neg h1] at h0
    exact absurd h0 (by decide)
theorem enc_put {l : List Int} (h : ∀ x ∈ l, (Lit.int .u8 x).wf = true) (h0 : (decB l).2 = 0) (i : Nat) (hi : i < 8) (e : S27) (he : (encE e.f0 e.f1).2 = 0) (htw : twL [] ((decB l).1.set i e) = false) :
    encB ((decB l).1.set i e) = (putAt l i (encE e.f0 e.f1).1, 0) := by
  obtain ⟨h1, h2, h3, h4⟩ := dec_chunks h h0
  have hc := encE_len he
  have hlen : ((decB l).1.set i e).length = 8 := by rw [List.length_set, h2]
  have hp := putAt_len l (encE e.f0 e.f1).1 i (by omega) hc
  have hch := encs_chunks ((decB l).1.set i e) (putAt l i (encE e.f0 e.f1).1) 8 (by omega) (fun j hj => by
    rw [rd_set _ _ _ _ (by omega), putAt_chunk _ _ _ _ (by omega) hc]
    split
    · exact Prod.ext rfl he
    · exact h4 j hj)
  unfold encB
  rw [hlen, if_neg (by decide), htw, if_neg (by decide), hch, if_pos rfl]
  refine Prod.ext ?_ rfl
  show List.take (16 * 8) (putAt l i _) ++ List.replicate (128 - (List.take (16 * 8) (putAt l i _)).length) 0 = _
  rw [List.take_of_length_le (by omega), hp, h1]
  simp
theorem set_split (E : List S27) (i : Nat) (e : S27) (h : i < E.length) : E.set i e = E.take i ++ e :: E.drop (i + 1) := by
  rw [List.set_eq_take_append_cons_drop, if_pos h]
theorem self_split (E : List S27) (i : Nat) (h : i < E.length) : E = E.take i ++ E[i] :: E.drop (i + 1) := by
  rw [← List.drop_eq_getElem_cons h, List.take_append_drop]
theorem tw_with {E : List S27} {i : Nat} (hi : i < E.length) (h0 : E[i].f0 = 0) (htw : twL [] E = false) (e : S27) (hn : e.f1.data.toList ∉ nm E) : twL [] (E.set i e) = false := by
  rw [tw_nodup] at htw ⊢
  have hs : nm E = nm (E.take i) ++ nm (E.drop (i + 1)) := by
    conv => lhs; rw [self_split E i hi]
    rw [nm_append, nm_cons0 _ _ h0]
  rw [hs] at htw hn
  rw [set_split E i e hi, nm_append]
  by_cases he : e.f0 = 0
  · rw [nm_cons0 _ _ he]; exact htw
  · rw [nm_cons1 _ _ he, List.nodup_append]
    rw [List.nodup_append] at htw
    rw [List.mem_append, not_or] at hn
    refine ⟨htw.1, List.nodup_cons.2 ⟨hn.2, htw.2.1⟩, fun a ha b hb => ?_⟩
    rcases List.mem_cons.1 hb with rfl | hb
    · exact fun h => hn.1 (h ▸ ha)
    · exact htw.2.2 a ha b hb
theorem tw_without {E : List S27} {i : Nat} (hi : i < E.length) (htw : twL [] E = false) (e : S27) (he : e.f0 = 0) : twL [] (E.set i e) = false := by
  rw [tw_nodup] at htw ⊢
  rw [set_split E i e hi, nm_append, nm_cons0 _ _ he]
  rw [self_split E i hi, nm_append] at htw
  refine htw.sublist (List.Sublist.append (List.Sublist.refl _) ?_)
  by_cases h0 : E[i].f0 = 0
  · rw [nm_cons0 _ _ h0]; exact List.Sublist.refl _
  · rw [nm_cons1 _ _ h0]; exact List.sublist_cons_self _ _
def withB (l : List Int) (n : Int) (s : ByteArray) : List Int × Int × Int :=
  if (decB l).2 = 0 then (if (encE n s).2 = 0 then (if n = 0 then ([], 0, 1) else if (findB s (decB l).1).2.2 = true then ([], 0, 212) else if (freeB (decB l).1).2 = true then (putAt l (freeB (decB l).1).1.toNat (encE n s).1, (freeB (decB l).1).1, 0) else ([], 0, 120)) else ([], 0, 1)) else ([], 0, (decB l).2)
def withoutB (l : List Int) (s : ByteArray) : List Int × Int × Int :=
  if (decB l).2 = 0 then (if (findB s (decB l).1).2.2 = true then (putAt l (findB s (decB l).1).1.toNat (encE 0 ⟨#[]⟩).1, (findB s (decB l).1).1, 0) else ([], 0, 211)) else ([], 0, (decB l).2)
theorem empty_e : (encE 0 ⟨#[]⟩).2 = 0 := by unfold encE; rw [if_pos ⟨rfl, by rw [ByteArray.toList_eq]⟩]
theorem with_f (l : List Int) (i : Nat) (n : Int) (s : ByteArray) (hl : l.length = 128) (hi : i < 8) (hs : s.size ≤ maxLen) (he : (encE n s).2 = 0) (k : Nat) (hk : s.size + 500 ≤ k) : dirs_with.f k l (i : Int) n s = some (putAt l i (encE n s).1) := by
  simp only [maxLen] at hs
  unfold dirs_with.f
  rw [if_pos ⟨hl, by omega, by omega⟩, ee_f n s (by omega) k hk, Option.bind_some, if_pos (encE_len he)]
  rfl
theorem dirsWith_f (l : List Int) (h : ∀ x ∈ l, (Lit.int .u8 x).wf = true) (n : Int) (s : ByteArray) (hs : s.size ≤ maxLen) (k : Nat) (hk : s.size + 1000 ≤ k) : dirs_With.f k l n s = some (withB l n s) := by
  have hs' := hs
  simp only [maxLen] at hs'
  cases k with
  | zero => omega
  | succ k =>
    unfold dirs_With.f withB
    rw [dirsDecode_f l h _ (by omega), Option.bind_some]
    by_cases h0 : (decB l).2 = 0
    · rw [if_pos h0, if_pos h0, ee_f n s (by omega) _ (by omega), Option.bind_some]
      by_cases h1 : (encE n s).2 = 0
      · rw [if_pos h1, if_pos h1]
        simp only [dirs_With.j0]
        by_cases h2 : n = 0
        · rw [if_pos (by simp [h2]), if_pos h2]
        · rw [if_neg (by simp [h2]), if_neg h2, dirsFind_f l s h _ (by omega), Option.bind_some]
          by_cases h3 : (findB s (decB l).1).2.2 = true
          · rw [if_pos h3, if_pos h3]
          · rw [if_neg h3, if_neg h3, dirsFree_f l h _ (by omega), Option.bind_some]
            rcases free_spec (decB l).1 with h4 | ⟨j, hj, h4, h5⟩
            · rw [if_neg (by rw [h4]; decide), if_neg (by rw [h4]; decide)]
            · obtain ⟨g1, g2, g3, g4⟩ := dec_chunks h h0
              rw [h4, if_pos rfl, if_pos rfl, with_f l j n s g1 (by omega) hs h1 k (by omega), Option.bind_some, Int.toNat_natCast]
      · rw [if_neg h1, if_neg h1]
        simp only [dirs_With.j0]
        rw [if_pos trivial]
    · rw [if_neg h0, if_neg h0]
theorem refWith_f (l : List Int) (h : ∀ x ∈ l, (Lit.int .u8 x).wf = true) (n : Int) (s : ByteArray) (hs : s.size ≤ maxLen) (k : Nat) (hk : s.size + 1000 ≤ k) : bollardref12_With.f k l n s = some (withB l n s) := by
  have hs' := hs
  simp only [maxLen] at hs'
  cases k with
  | zero => omega
  | succ k =>
    unfold bollardref12_With.f withB
    rw [refDecode_f l h _ (by omega), Option.bind_some]
    by_cases h0 : (decB l).2 = 0
    · rw [if_pos h0, if_pos h0, re_f n s (by omega) _ (by omega), Option.bind_some]
      by_cases h1 : (encE n s).2 = 0
      · rw [if_pos h1, if_pos h1]
        simp only [bollardref12_With.j0]
        by_cases h2 : n = 0
        · rw [if_pos (by simp [h2]), if_pos h2]
        · rw [if_neg (by simp [h2]), if_neg h2, refFind_f l s h _ (by omega), Option.bind_some]
          by_cases h3 : (findB s (decB l).1).2.2 = true
          · rw [if_pos h3, if_pos h3]
          · rw [if_neg h3, if_neg h3, refFree_f l h _ (by omega), Option.bind_some]
            rcases free_spec (decB l).1 with h4 | ⟨j, hj, h4, h5⟩
            · rw [if_neg (by rw [h4]; decide), if_neg (by rw [h4]; decide)]
            · obtain ⟨g1, g2, g3, g4⟩ := dec_chunks h h0
              have hnm : s.data.toList ∉ nm (decB l).1 := by
                rcases find_spec s (decB l).1 with h6 | ⟨j', hj', h6, _⟩
                · exact h6.2.2.2
                · exact absurd (by rw [h6]) h3
              have htw := tw_with hj h5 g3 ⟨n, s⟩ hnm
              have hsz : ∀ e ∈ (decB l).1.set j ⟨n, s⟩, e.f1.size ≤ max 13 s.size := fun e he => by
                rcases List.mem_or_eq_of_mem_set he with he | rfl
                · have := decB_size l h e he; omega
                · show s.size ≤ max 13 s.size; omega
              rw [h4, if_pos rfl, if_pos rfl, if_pos (by omega), if_pos (by omega), Int.toNat_natCast, refEncode_f _ k (fun e he => by have := hsz e he; simp only [maxLen]; omega) (fun e he => by have := hsz e he; omega) (by omega), Option.bind_some,
                enc_put h h0 j (by omega) ⟨n, s⟩ h1 htw]
      · rw [if_neg h1, if_neg h1]
        simp only [bollardref12_With.j0]
        rw [if_pos trivial]
    · rw [if_neg h0, if_neg h0]
theorem dirsWithout_f (l : List Int) (h : ∀ x ∈ l, (Lit.int .u8 x).wf = true) (s : ByteArray) (k : Nat) (hk : 1000 ≤ k) : dirs_Without.f k l s = some (withoutB l s) := by
  unfold dirs_Without.f withoutB
  rw [dirsDecode_f l h _ (by omega), Option.bind_some]
  by_cases h0 : (decB l).2 = 0
  · rw [if_pos h0, if_pos h0, dirsFind_f l s h _ (by omega), Option.bind_some]
    obtain ⟨g1, g2, g3, g4⟩ := dec_chunks h h0
    rcases find_spec s (decB l).1 with h6 | ⟨j, hj, h6, _⟩
    · rw [if_neg (by rw [h6.1]; decide), if_neg (by rw [h6.1]; decide)]
    · rw [h6, if_pos rfl, if_pos rfl, with_f l j 0 ⟨#[]⟩ g1 (by omega) (by decide) empty_e k (by show 0 + 500 ≤ k; omega), Option.bind_some, Int.toNat_natCast]
  · rw [if_neg h0, if_neg h0]
theorem entEq_l0 (x : List S27) (hx : x.length ≤ 9000000000000) (d : Nat) : ∀ (i K : Nat), i + d = x.length → d < K → api_Entry_13.l0 K x x (x.length : Int) (i : Int) = some true := by
  induction d with
  | zero =>
    intro i K hi hK
    cases K with
    | zero => omega
    | succ K => simp only [api_Entry_13.l0]; rw [if_neg (by omega)]
  | succ d ih =>
    intro i K hi hK
    cases K with
    | zero => omega
    | succ K =>
      have w3 : wrap64 ((i : Int) + 1) = ((i + 1 : Nat) : Int) := by unfold wrap64; omega
      simp only [api_Entry_13.l0]
      rw [if_pos (by omega), if_pos (by omega), if_pos (by omega), if_pos (by omega), if_neg (by simp), w3]
      exact ih (i + 1) K (by omega) (by omega)
theorem entEq_f (x : List S27) (hx : x.length ≤ 9000000000000) (k : Nat) (hk : x.length < k) : api_Entry_13.f k x x = some true := by
  unfold api_Entry_13.f
  rw [if_pos rfl]
  exact entEq_l0 x hx x.length 0 k (by omega) hk
theorem bytesEq_f (x : List Int) : bytes_Equal.f x x = some true := by unfold bytes_Equal.f; simp
theorem encs_u8 (l : List S27) : ∀ n, ∀ x ∈ (encsL l n).2, (Lit.int .u8 x).wf = true
  | 0, x, hx => by cases hx
  | n + 1, x, hx => by
    unfold encsL at hx
    split at hx
    · split at hx
      · rcases List.mem_append.1 hx with hx | hx
        · exact encs_u8 l n x hx
        · exact encE_u8 _ _ x hx
      · cases hx
    · cases hx
theorem put_u8 {l c : List Int} {i : Nat} (h : ∀ x ∈ l, (Lit.int .u8 x).wf = true) (hc : ∀ x ∈ c, (Lit.int .u8 x).wf = true) : ∀ x ∈ putAt l i c, (Lit.int .u8 x).wf = true := by
  intro x hx
  unfold putAt at hx
  rcases List.mem_append.1 hx with hx | hx
  · rcases List.mem_append.1 hx with hx | hx
    · exact h x (List.mem_of_mem_take hx)
    · exact hc x hx
  · exact h x (List.mem_of_mem_drop hx)
theorem encs_get (l : List S27) : ∀ n, (encsL l n).1 = true → ∀ j : Nat, j < n → encE (rd_T27 l j).f0 (rd_T27 l j).f1 = (((encsL l n).2.drop (j * 16)).take 16, 0)
  | 0, _, j, hj => absurd hj (Nat.not_lt_zero _)
  | n + 1, h, j, hj => by
    have hlen := encs_len l n
    unfold encsL at h ⊢
    split at h
    · next h1 =>
      split at h
      · next h2 =>
        rw [if_pos h1, if_pos h2]
        have hl := hlen h1
        have h16 := encE_len h2
        by_cases e : j = n
        · subst e
          rw [List.drop_append, List.drop_eq_nil_of_le (by omega), List.nil_append, show j * 16 - (encsL l j).2.length = 0 by omega, List.drop_zero, List.take_of_length_le (by omega)]
          exact Prod.ext rfl h2
        · have ih := encs_get l n h1 j (by omega)
          rw [List.drop_append_of_le_length (by omega), List.take_append_of_le_length (by rw [List.length_drop]; omega)]
          exact ih
      · cases h
    · cases h
theorem ents_of (b : List Int) (E : List S27) : ∀ n, n ≤ E.length → (∀ j : Nat, j < n → entD b j = ((rd_T27 E j).f0, (rd_T27 E j).f1, 0)) → entsL b n = (true, E.take n)
  | 0, _, _ => rfl
  | n + 1, hn, h => by
    have ih := ents_of b E n (by omega) (fun j hj => h j (by omega))
    have h1 := h n (by omega)
    unfold entsL
    rw [ih, if_pos rfl, h1, if_pos rfl]
    refine Prod.ext rfl ?_
    show E.take n ++ [(⟨(rd_T27 E n).f0, (rd_T27 E n).f1⟩ : S27)] = E.take (n + 1)
    rw [List.take_add_one, List.getElem?_eq_getElem (by omega), rd27_get E n (by omega)]
    rfl
theorem decB_of {b : List Int} {E : List S27} (hb : b.length = 128) (hE : E.length = 8) (htw : twL [] E = false) (h : ∀ j : Nat, j < 8 → encE (rd_T27 E j).f0 (rd_T27 E j).f1 = ((b.drop (j * 16)).take 16, 0)) : decB b = (E, 0) := by
  have h8 := ents_of b E 8 (by omega) (fun j hj => ent_back (h j hj))
  rw [List.take_of_length_le (by omega)] at h8
  unfold decB
  rw [if_pos hb, h8, if_pos rfl, htw, if_neg (by decide)]
theorem empty_enc : encE 0 ⟨#[]⟩ = (List.replicate 16 0, 0) := by unfold encE; rw [if_pos ⟨rfl, by rw [ByteArray.toList_eq]⟩]
theorem zero_enc {e : S27} (h0 : e.f0 = 0) (h : (encE e.f0 e.f1).2 = 0) : (encE e.f0 e.f1).1 = List.replicate 16 0 := by
  unfold encE at h ⊢
  by_cases hs : e.f0 = 0 ∧ e.f1.toList = []
  · rw [if_pos hs]
  · rw [if_neg hs, if_pos (by omega)] at h
    exact absurd h (by decide)
theorem nm_zeros : ∀ n, nm (List.replicate n z27) = []
  | 0 => rfl
  | n + 1 => by rw [List.replicate_succ, nm_cons0 _ _ rfl, nm_zeros n]
def padE (l : List S27) : List S27 := l ++ List.replicate (8 - l.length) z27
theorem enc_dec {l : List S27} (h0 : (encB l).2 = 0) : l.length ≤ 8 ∧ decB (encB l).1 = (padE l, 0) ∧ ∀ x ∈ (encB l).1, (Lit.int .u8 x).wf = true := by
  by_cases h8 : 8 < l.length
  · unfold encB at h0; rw [if_pos h8] at h0; exact absurd h0 (by decide)
  by_cases htw : twL [] l = true
  · unfold encB at h0; rw [if_neg h8, if_pos htw] at h0; exact absurd h0 (by decide)
  by_cases he : (encsL l l.length).1 = true
  · have e : encB l = ((encsL l l.length).2 ++ List.replicate (128 - (encsL l l.length).2.length) 0, 0) := by unfold encB; rw [if_neg h8, if_neg htw, if_pos he]
    have hl := encs_len l _ he
    rw [e]
    have hpl : (padE l).length = 8 := by unfold padE; rw [List.length_append, List.length_replicate]; omega
    refine ⟨by omega, decB_of ?_ hpl ?_ ?_, ?_⟩
    · show ((encsL l l.length).2 ++ List.replicate (128 - (encsL l l.length).2.length) (0 : Int)).length = 128
      rw [List.length_append, List.length_replicate]; omega
    · rw [tw_nodup]
      have h1 : twL [] l = false := by simpa using htw
      rw [tw_nodup] at h1
      unfold padE
      rw [nm_append, nm_zeros, List.append_nil]
      exact h1
    · intro j hj
      show encE _ _ = ((((encsL l l.length).2 ++ List.replicate (128 - (encsL l l.length).2.length) (0 : Int)).drop (j * 16)).take 16, 0)
      rw [rd27_get _ j (by omega)]
      by_cases hjl : j < l.length
      · have hg : (padE l)[j]'(by omega) = l[j] := by unfold padE; rw [List.getElem_append_left hjl]
        rw [hg, ← rd27_get l j hjl, encs_get l l.length he j hjl, List.drop_append_of_le_length (by omega), List.take_append_of_le_length (by rw [List.length_drop]; omega)]
      · have hg : (padE l)[j]'(by omega) = z27 := by unfold padE; rw [List.getElem_append_right (by omega), List.getElem_replicate]
        rw [hg, List.drop_append, List.drop_eq_nil_of_le (by omega), List.nil_append, List.drop_replicate, List.take_replicate, hl, show min 16 (128 - 16 * l.length - (j * 16 - 16 * l.length)) = 16 by omega]
        exact empty_enc
    · intro x hx
      rcases List.mem_append.1 hx with hx | hx
      · exact encs_u8 l _ x hx
      · rw [List.eq_of_mem_replicate hx]; decide
  · unfold encB at h0; rw [if_neg h8, if_neg htw, if_neg he] at h0; exact absurd h0 (by decide)
theorem enc_bad {l : List S27} (h0 : (encB l).2 ≠ 0) : (encB l).1 = [] := by
  unfold encB at h0 ⊢
  split
  · rfl
  · split
    · rfl
    · next h1 h2 =>
      split
      · next h3 => rw [if_neg h1, if_neg h2, if_pos h3] at h0; exact absurd rfl h0
      · rfl
theorem put_back {b c z : List Int} {i : Nat} (hb : 16 * i + 16 ≤ b.length) (hc : c.length = 16) (hz : z.length = 16) (h : (b.drop (i * 16)).take 16 = z) : putAt (putAt b i c) i z = b := by
  apply List.ext_getElem?
  intro k
  have hp := putAt_len b c i hb hc
  rw [putAt_get _ z i k (by omega) hz, putAt_get b c i k hb hc]
  by_cases h1 : k < 16 * i
  · rw [if_pos h1, if_pos h1]
  · rw [if_neg h1, if_neg h1]
    by_cases h2 : k < 16 * i + 16
    · rw [if_pos h2, ← h, List.getElem?_take, if_pos (by omega), List.getElem?_drop]; congr 1; omega
    · rw [if_neg h2, if_neg h2]
theorem with_back {b : List Int} (h : ∀ x ∈ b, (Lit.int .u8 x).wf = true) (n : Int) (s : ByteArray) (h0 : (decB b).2 = 0) (hw : (withB b n s).2.2 = 0) :
    (∀ x ∈ (withB b n s).1, (Lit.int .u8 x).wf = true) ∧ findB s (decB (withB b n s).1).1 = ((withB b n s).2.1, n, true) ∧ withoutB (withB b n s).1 s = (b, (withB b n s).2.1, 0) := by
  obtain ⟨g1, g2, g3, g4⟩ := dec_chunks h h0
  by_cases h1 : (encE n s).2 = 0
  · by_cases h2 : n = 0
    · unfold withB at hw; rw [if_pos h0, if_pos h1, if_pos h2] at hw; exact absurd hw (by decide)
    · rcases find_spec s (decB b).1 with h3 | ⟨j, hj, h3, _⟩
      · rcases free_spec (decB b).1 with h4 | ⟨j, hj, h4, h5⟩
        · unfold withB at hw
          rw [if_pos h0, if_pos h1, if_neg h2, if_neg (by rw [h3.1]; decide), if_neg (by rw [h4]; decide)] at hw
          exact absurd hw (by decide)
        · have hW : withB b n s = (putAt b j (encE n s).1, (j : Int), 0) := by
            unfold withB
            rw [if_pos h0, if_pos h1, if_neg h2, if_neg (by rw [h3.1]; decide), h4, if_pos rfl, Int.toNat_natCast]
          rw [hW]
          have hc := encE_len h1
          have htw := tw_with hj h5 g3 ⟨n, s⟩ h3.2.2.2
          have hp := putAt_len b (encE n s).1 j (by omega) hc
          have hd : decB (putAt b j (encE n s).1) = ((decB b).1.set j ⟨n, s⟩, 0) := decB_of (by omega) (by rw [List.length_set]; exact g2) htw (fun i hi => by
            rw [rd_set _ _ _ _ hj, putAt_chunk _ _ _ _ (by omega) hc]
            split
            · exact Prod.ext rfl h1
            · exact g4 i hi)
          have hf : findB s ((decB b).1.set j ⟨n, s⟩) = ((j : Int), n, true) := by
            rcases find_spec s ((decB b).1.set j ⟨n, s⟩) with h6 | ⟨i, hi, h6, h7, h8⟩
            · exfalso
              refine h6.2.2.2 ((mem_nm _ _).2 ⟨⟨n, s⟩, ?_, h2, rfl⟩)
              rw [set_split _ _ _ hj]
              exact List.mem_append.2 (.inr List.mem_cons_self)
            · by_cases e : i = j
              · subst e
                rw [h6]
                simp
              · exfalso
                rw [List.getElem_set_ne (fun h => e h.symm)] at h7 h8
                exact h3.2.2.2 ((mem_nm _ _).2 ⟨_, List.getElem_mem _, h7, h8⟩)
          refine ⟨put_u8 h (encE_u8 _ _), ?_, ?_⟩
          · show findB s (decB (putAt b j (encE n s).1)).1 = ((j : Int), n, true)
            rw [hd]; exact hf
          · show withoutB (putAt b j (encE n s).1) s = (b, (j : Int), 0)
            unfold withoutB
            rw [hd, if_pos rfl]
            show (if (findB s ((decB b).1.set j ⟨n, s⟩)).2.2 = true then _ else _) = _
            rw [hf, if_pos rfl]
            have hz := g4 j (by omega)
            have hzz := zero_enc (e := rd_T27 (decB b).1 j) (by rw [rd27_get _ j hj]; exact h5) (by rw [hz])
            rw [hz] at hzz
            refine Prod.ext ?_ rfl
            show putAt (putAt b j (encE n s).1) ((j : Int)).toNat (encE 0 ⟨#[]⟩).1 = b
            rw [Int.toNat_natCast, empty_enc]
            exact put_back (by omega) hc (by simp) hzz
      · unfold withB at hw
        rw [if_pos h0, if_pos h1, if_neg h2, if_pos (by rw [h3])] at hw
        exact absurd hw (by decide)
  · unfold withB at hw; rw [if_pos h0, if_neg h1] at hw; exact absurd hw (by decide)
theorem DirsBack_pure (l : List S27) (n : Int) (s : ByteArray) (hs : ∀ e ∈ l, e.f1.size ≤ maxLen) (hsz : s.size ≤ maxLen) : ∃ k, bollardlaw12_DirsBack.f k l n s = some true := by
  obtain ⟨M, hM⟩ := sizes_bound l
  refine ⟨M + s.size + 2000 + 1, ?_⟩
  unfold bollardlaw12_DirsBack.f
  rw [dirsEncode_f l _ hs (fun e he => by have := hM e he; omega), Option.bind_some, refEncode_f l _ hs (fun e he => by have := hM e he; omega) (by omega), Option.bind_some, if_pos rfl]
  by_cases h0 : (encB l).2 = 0
  · obtain ⟨h8, hd, hu⟩ := enc_dec h0
    generalize (encB l).1 = b at *
    have hpl : (padE l).length = 8 := by unfold padE; rw [List.length_append, List.length_replicate]; omega
    have ht : (padE l).take ((l.length : Nat) : Int).toNat = l := by unfold padE; rw [Int.toNat_natCast, List.take_left']; rfl
    rw [if_pos h0, dirsDecode_f b hu _ (by omega), Option.bind_some, hd, if_pos rfl]
    show (if ((padE l).length : Int) = 8 then _ else _) = _
    rw [if_pos (by omega), if_pos (by omega)]
    show (if (l.length : Int) ≤ ((padE l).length : Int) then (api_Entry_13.f _ ((padE l).take ((l.length : Nat) : Int).toNat) l).bind _ else _) = _
    rw [if_pos (by omega), ht, entEq_f l (by omega) _ (by omega), Option.bind_some]
    simp only [bollardlaw12_DirsBack.j0, Bool.not_true]
    rw [if_neg (by decide), dirsWith_f b hu n s hsz _ (by omega), Option.bind_some, refWith_f b hu n s hsz _ (by omega), Option.bind_some, if_pos rfl]
    by_cases hw : (withB b n s).2.2 = 0
    · obtain ⟨hu2, hf, hwo⟩ := with_back hu n s (by rw [hd]) hw
      rw [if_pos hw, dirsFind_f _ s hu2 _ (by omega), Option.bind_some, dirsWithout_f _ hu2 s _ (by omega), Option.bind_some, hf, if_pos rfl]
      show (if n = n then _ else _) = _
      rw [if_pos rfl, hwo, if_pos rfl]
      show (bytes_Equal.f b b).bind _ = _
      rw [bytesEq_f, Option.bind_some]
    · rw [if_neg hw]
  · rw [if_neg h0, enc_bad h0]
    rfl
theorem DirsBack_walk (A0 : Option Addr) (c0 : Nat) (l0 : List S27) (n : Int) (s : ByteArray) (w : World) (hr0 : Kd.C k27 w A0 l0.length l0) (hc0 : l0.length ≤ c0) (hs : ∀ x ∈ l0, (Lit.int .i64 x.f0).wf = true ∧ x.f1.size ≤ maxLen) (hl0 : l0.length * 24 ≤ 140737488351232) (hsz : s.size ≤ maxLen) :
    Calls Try.prog 6 #[.slice A0 l0.length c0, .agg #[.int .i64 n, .string s]] w fun e w' => e = .returned (.bool true) ∧ Below w.heap.size w w' := by
  obtain ⟨k, hk⟩ := DirsBack_pure l0 n s (fun e he => (hs e he).2) hsz
  exact bollardlaw12_DirsBack.calls k A0 c0 l0 n s true w hr0 hc0 hk
theorem opens_T27 : Open.Opens Try.prog k27 (fun x => (Lit.int .i64 x.f0).wf = true ∧ x.f1.size ≤ maxLen) 27 :=
  Open.opens_iso (fun p => ⟨p.1, p.2⟩) (fun _ => rfl) (Open.opens_struct Try.underlying27 (by kernel_rfl) (Open.fields_cons rfl (by kernel_rfl) (Open.opens_int Try.underlying3) (Open.fields_one rfl (by kernel_rfl) (Open.opens_string Try.underlying9)) (by intro g hg; rw [List.mem_singleton.1 hg]; decide)))
end Go.Proofs.Ytnbkbmhiajfbpaa.Kk
