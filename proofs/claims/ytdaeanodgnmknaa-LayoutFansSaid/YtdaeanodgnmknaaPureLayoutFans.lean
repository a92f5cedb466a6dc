/- LayoutFans: for every row of numbers l and every row of bytes b: an indirect block's bytes (layout.EncodeFan) and the addresses of one (layout.DecodeFan) are the reference's, with the same errors, and what was handed in stays. Conditions: none beyond those of the row. -/
import Derived.Test.YtdaeanodgnmknaaXLayoutFansx0
import Derived.Test.YtdaeanodgnmknaaXLayoutFansx1
import Derived.Test.YtdaeanodgnmknaaXLayoutFansx2
import Derived.Test.YtdaeanodgnmknaaXLayoutFansx3
import Derived.Test.YtdaeanodgnmknaaDec
namespace Go.Proofs.Ytdaeanodgnmknaa.Pure
open Go.RowKit Go.Proofs.Ytdaeanodgnmknaa.XLayoutFans Go.Proofs.YtdaeanodgnmknaaW.PrintWords Go.Proofs.YtdaeanodgnmknaaW.PrintLast Go.Proofs.Ytdaeanodgnmknaa.Rd
set_option linter.unusedVariables false
set_option linter.unusedSimpArgs false

theorem putS_arg {l : List Int} {a w n : Int} (h : w < 1 ∨ 4 < w ∨ a < 0 ∨ n < 0 ∨ 256 ^ w.toNat ≤ n) : putS l a w n = ([], 1) := by
  unfold putS; rw [if_pos h]
theorem putS_past {l : List Int} {a w n : Int} (h : ¬ (w < 1 ∨ 4 < w ∨ a < 0 ∨ n < 0 ∨ 256 ^ w.toNat ≤ n)) (h2 : (l.length : Int) - w < a) : putS l a w n = ([], 10) := by
  unfold putS; rw [if_neg h, if_pos h2]
theorem putS_ok {l : List Int} {a w n : Int} (h : ¬ (w < 1 ∨ 4 < w ∨ a < 0 ∨ n < 0 ∨ 256 ^ w.toNat ≤ n)) (h2 : ¬ (l.length : Int) - w < a) : putS l a w n = (putL w.toNat l a.toNat n, 0) := by
  unfold putS; rw [if_neg h, if_neg h2]

theorem rget_l (l : List Int) (h : ∀ x ∈ l, (Lit.int .u8 x).wf = true) (hl : l.length ≤ 140737488351232) (a : Nat) (j : Nat) :
    ∀ (k : Nat) (acc : Int), j ≤ 4 → a + j ≤ l.length → j < k → 0 ≤ acc → acc < 256 ^ (4 - j) → bollardref01_Get.l0 k l (a : Int) acc ((j : Int) - 1) = some (acc * 256 ^ j + le ((l.drop a).take j), 0) := by
  induction j with
  | zero =>
    intro k acc _ _ hk h0 h1
    obtain ⟨k, rfl⟩ : ∃ m, k = m + 1 := ⟨k - 1, by omega⟩
    simp only [bollardref01_Get.l0]
    rw [if_neg (by omega)]
    simp [le]
  | succ j ih =>
    intro k acc hj haj hk h0 h1
    obtain ⟨k, rfl⟩ : ∃ m, k = m + 1 := ⟨k - 1, by omega⟩
    obtain ⟨p1, p0⟩ := pow_le4 (4 - (j + 1)) (by omega)
    have hq : (256 : Int) ^ (4 - j) = 256 ^ (4 - (j + 1)) * 256 := by rw [← Int.pow_succ]; congr 1; omega
    have hm : acc ≤ 4294967296 := Int.le_trans (Int.le_of_lt h1) p1
    have hlt : acc * 256 + 256 ≤ 256 ^ (4 - j) := by
      rw [hq]
      generalize (256 : Int) ^ (4 - (j + 1)) = p at *
      omega
    clear hq h1 p1 p0
    generalize (256 : Int) ^ (4 - j) = P at ih hlt
    obtain ⟨b0, b1⟩ := rd_u8 h ((a : Int) + (j : Int))
    rw [show (((j + 1 : Nat) : Int) - 1) = (j : Int) by omega]
    simp only [bollardref01_Get.l0]
    rw [if_pos (by omega), w_small ((a : Int) + (j : Int)) (by omega) (by omega), if_pos (by omega), if_pos (by omega), w_small (rd l ((a : Int) + (j : Int))) (by omega) (by omega), w_small ((j : Int) - 1) (by omega) (by omega), w_small (acc * 256) (by omega) (by omega), w_small (acc * 256 + rd l ((a : Int) + (j : Int))) (by omega) (by omega)]
    rw [ih k _ (by omega) (by omega) (by omega) (by omega) (by omega), take_snoc l a j (by omega), le_snoc]
    have hlen : ((l.drop a).take j).length = j := by simp; omega
    rw [hlen, Int.pow_succ, Int.add_mul, Int.mul_assoc, Int.mul_comm 256 (256 ^ j), Int.mul_comm (rd l _) (256 ^ j)]
    congr 2
    generalize acc * (256 ^ j * 256) = A
    generalize (256 : Int) ^ j * rd l ((a : Int) + (j : Int)) = B
    omega

theorem rget_f (l : List Int) (h : ∀ x ∈ l, (Lit.int .u8 x).wf = true) (hl : l.length ≤ 140737488351232) (a w : Int) (ha : (Lit.int .i64 a).wf = true) (hw : (Lit.int .i64 w).wf = true) (k : Nat) (hk : 7 ≤ k) :
    bollardref01_Get.f k l a w = some (getS l a w) := by
  have hb := i64_bd ha
  obtain ⟨k, rfl⟩ : ∃ m, k = m + 1 := ⟨k - 1, by omega⟩
  unfold bollardref01_Get.f getS
  simp only [bollardref01_Get.j0, if_true]
  by_cases h1 : w < 1
  · rw [if_pos h1, if_pos (.inl h1)]
  · rw [if_neg h1]
    by_cases h2 : w > 4
    · rw [if_pos h2, if_pos (.inr (.inl h2))]
    · rw [if_neg h2]
      by_cases h3 : a < 0
      · rw [decide_eq_true h3, if_pos rfl, if_pos (by omega)]
      · rw [decide_eq_false h3]
        simp only [Bool.false_eq_true, if_false]
        have e : wrap64 ((l.length : Int) - w) = (l.length : Int) - w := by unfold wrap64; omega
        have e' : wrap64 (w - 1) = w - 1 := by unfold wrap64; omega
        rw [e, e', if_neg (show ¬ (w < 1 ∨ 4 < w ∨ a < 0) by omega)]
        by_cases h4 : a > (l.length : Int) - w
        · rw [if_pos h4, if_pos (by omega)]
        · rw [if_neg h4, if_neg (by omega)]
          obtain ⟨a', rfl⟩ := Int.eq_ofNat_of_zero_le (show 0 ≤ a by omega)
          obtain ⟨w', rfl⟩ := Int.eq_ofNat_of_zero_le (show 0 ≤ w by omega)
          have hp := (pow_le4 (4 - w') (by omega)).2
          have := rget_l l h hl a' w' k 0 (by omega) (by omega) (by omega) (by omega) (Int.lt_of_lt_of_le (by decide) hp)
          simpa using this

theorem rput_l (a w : Nat) (hw : w ≤ 4) (d : Nat) :
    ∀ (k i : Nat) (n : Int) (x : List Int), 0 ≤ n → n ≤ 9223372036854775807 → x.length ≤ 140737488351232 → a + w ≤ x.length → i + d = w → d < k → bollardref01_Put.l0 k (a : Int) n x (w : Int) (i : Int) = some (putL d x (a + i) n, 0) := by
  induction d with
  | zero =>
    intro k i n x _ _ hl haw hi hk
    obtain ⟨k, rfl⟩ : ∃ m, k = m + 1 := ⟨k - 1, by omega⟩
    simp only [bollardref01_Put.l0]
    rw [if_neg (by omega)]
    simp [putL]
  | succ d ih =>
    intro k i n x hn hn2 hl haw hi hk
    obtain ⟨k, rfl⟩ : ∃ m, k = m + 1 := ⟨k - 1, by omega⟩
    simp only [bollardref01_Put.l0]
    rw [if_pos (by omega), w_add a i (by omega), if_pos (by omega), if_pos (by omega), w_succ i (by omega), Int.tdiv_eq_ediv_of_nonneg hn, Int.tmod_eq_emod_of_nonneg hn, w_small (n / 256) (by omega) (by omega), show n % 256 % 256 = n % 256 by omega]
    rw [ih k (i + 1) _ _ (by omega) (by omega) (by simpa using hl) (by simpa using haw) (by omega) (by omega)]
    simp only [putL]
    rw [show (((a + i : Nat) : Int)).toNat = a + i by omega, show a + (i + 1) = a + i + 1 from rfl]

theorem rput_f (l : List Int) (hl : l.length ≤ 140737488351232) (a w n : Int) (ha : (Lit.int .i64 a).wf = true) (hw : (Lit.int .i64 w).wf = true) (hn : (Lit.int .i64 n).wf = true) (k : Nat) (hk : 8 ≤ k) :
    bollardref01_Put.f k l a w n = some (putS l a w n) := by
  have hb := i64_bd hw
  have hc := i64_bd hn
  obtain ⟨k, rfl⟩ : ∃ m, k = m + 1 := ⟨k - 1, by omega⟩
  unfold bollardref01_Put.f
  simp only [bollardref01_Put.j0, if_true]
  by_cases h1 : w < 1
  · rw [if_pos h1, putS_arg (.inl h1)]
  · rw [if_neg h1]
    by_cases h2 : w > 4
    · rw [if_pos h2, putS_arg (.inr (.inl h2))]
    · rw [if_neg h2]
      by_cases h3 : a < 0
      · rw [if_pos h3, putS_arg (.inr (.inr (.inl h3)))]
      · rw [if_neg h3]
        by_cases h4 : n < 0
        · rw [if_pos h4, putS_arg (.inr (.inr (.inr (.inl h4))))]
        · rw [if_neg h4]
          obtain ⟨a', rfl⟩ := Int.eq_ofNat_of_zero_le (show 0 ≤ a by omega)
          obtain ⟨w', rfl⟩ := Int.eq_ofNat_of_zero_le (show 0 ≤ w by omega)
          have es : shl .i64 1 ((8 * w' : Nat) : Int) = 256 ^ w' := by
            rw [shl_le w' (by omega) (by decide) (by decide), Int.one_mul]
          rw [w_mul8 w' (by omega), if_pos (show 0 ≤ ((8 * w' : Nat) : Int) by omega), es]
          clear es
          by_cases h5 : n ≥ 256 ^ w'
          · rw [decide_eq_true h5, if_pos rfl, putS_arg (.inr (.inr (.inr (.inr h5))))]
          · rw [decide_eq_false h5]
            have hno : ¬ ((w' : Int) < 1 ∨ 4 < (w' : Int) ∨ (a' : Int) < 0 ∨ n < 0 ∨ 256 ^ ((w' : Int)).toNat ≤ n) := by
              rintro (h | h | h | h | h)
              · exact h1 h
              · exact h2 h
              · exact h3 h
              · exact h4 h
              · exact h5 h
            simp only [Bool.false_eq_true, if_false]
            clear h5
            rw [w_small ((l.length : Int) - (w' : Int)) (by omega) (by omega)]
            by_cases h6 : (a' : Int) > (l.length : Int) - (w' : Int)
            · rw [if_pos h6, putS_past hno h6]
            · rw [if_neg h6, putS_ok hno h6]
              simp only [Option.bind_some, List.length_nil, List.nil_append]
              rw [if_pos (show 0 + l.length < 140737488355328 by omega)]
              have := rput_l a' w' (by omega) w' k 0 n l (by omega) (by omega) hl (by omega) (by omega) (by omega)
              simpa using this

theorem leb_snoc (i : Nat) : ∀ n : Int, leb (i + 1) n = leb i n ++ [n / 256 ^ i % 256] := by
  induction i with
  | zero => intro n; simp [leb]
  | succ i ih =>
    intro n
    rw [leb, ih (n / 256), leb, List.cons_append, Int.pow_succ, Int.mul_comm, Int.ediv_ediv_of_nonneg (by decide)]

/-- The bytes of numbers, one behind another. -/
def flatF (l : List S71) : List Int := (l.map fun f => leb f.f0.toNat f.f2).flatten
theorem flatF_len (l : List S71) (h : ∀ f ∈ l, f.f0.toNat ≤ 4) : (flatF l).length ≤ 4 * l.length := by
  induction l with
  | nil => simp [flatF]
  | cons f t ih =>
    have h1 := h f (by simp)
    have h2 := ih (fun g hg => h g (by simp [hg]))
    simp only [flatF, List.map_cons, List.flatten_cons, List.length_append, leb_length, List.length_cons] at h2 ⊢
    omega
theorem rd_T71_get (l : List S71) (i : Nat) (h : i < l.length) : rd_T71 l (i : Int) = l[i] := by
  unfold rd_T71
  rw [Int.toNat_natCast, List.getD_eq_getElem?_getD, List.getElem?_eq_getElem h]
  rfl

theorem fields_l1 (x8 : List S71) (x9 x10 c0 c1 n : Int) (r : List Int) (w K : Nat) (hw : w ≤ 4) (x0 : List Int) (hl : x0.length + 4 < 140737488355328)
    (hfin : ∀ k, K ≤ k → layout_fields.l0 k (x0 ++ leb w n) x8 x9 (wrap64 (x10 + 1)) = some r) (d : Nat) :
    ∀ (i : Nat) (k : Nat), i + d = w → K + d + 1 ≤ k → layout_fields.l1 k (x0 ++ leb i n) x8 x9 x10 (w : Int) (i : Int) c0 c1 n = some r := by
  induction d with
  | zero =>
    intro i k hi hk
    obtain ⟨k, rfl⟩ : ∃ m, k = m + 1 := ⟨k - 1, by omega⟩
    obtain rfl : i = w := by omega
    simp only [layout_fields.l1]
    rw [if_neg (by omega)]
    exact hfin k (by omega)
  | succ d ih =>
    intro i k hi hk
    obtain ⟨k, rfl⟩ : ∃ m, k = m + 1 := ⟨k - 1, by omega⟩
    simp only [layout_fields.l1]
    rw [if_pos (by omega), w_mul8 i (by omega), if_pos (by omega), if_pos (by rw [List.length_append, leb_length]; omega), shr_le n i (by omega), w_succ i (by omega), List.append_assoc, ← leb_snoc]
    exact ih (i + 1) k (by omega) (by omega)

theorem fields_l0 (l : List S71) (h : ∀ f ∈ l, 0 ≤ f.f0 ∧ f.f0 ≤ 4) (hll : l.length ≤ 1000000) (d : Nat) :
    ∀ (i : Nat) (x0 : List Int) (k : Nat), i + d = l.length → x0.length ≤ 4 * i → 6 * d + 1 ≤ k → layout_fields.l0 k x0 l (l.length : Int) (i : Int) = some (x0 ++ flatF (l.drop i)) := by
  induction d with
  | zero =>
    intro i x0 k hi hx hk
    obtain ⟨k, rfl⟩ : ∃ m, k = m + 1 := ⟨k - 1, by omega⟩
    simp only [layout_fields.l0]
    rw [if_neg (by omega), List.drop_eq_nil_of_le (by omega)]
    simp [flatF]
  | succ d ih =>
    intro i x0 k hi hx hk
    obtain ⟨k, rfl⟩ : ∃ m, k = m + 1 := ⟨k - 1, by omega⟩
    have hlt : i < l.length := by omega
    obtain ⟨h1, h2⟩ := h l[i] (List.getElem_mem hlt)
    simp only [layout_fields.l0]
    rw [if_pos (by omega), if_pos (by omega), if_pos (by omega), rd_T71_get l i hlt]
    obtain ⟨w, hw⟩ := Int.eq_ofNat_of_zero_le h1
    rw [hw]
    have := fields_l1 l (l.length : Int) (i : Int) (w : Int) (l[i]).f1 (l[i]).f2 (x0 ++ flatF (l.drop i)) w (6 * d + 1) (by omega) x0 (by omega) ?_ w 0 k (by omega) (by omega)
    · simpa [leb] using this
    · intro k hk2
      rw [w_succ i (by omega), ih (i + 1) (x0 ++ leb w (l[i]).f2) k (by omega) (by rw [List.length_append, leb_length]; omega) hk2]
      rw [List.drop_eq_getElem_cons hlt]
      simp only [flatF, List.map_cons, List.flatten_cons, hw, Int.toNat_natCast, List.append_assoc]
theorem fields_f (l : List S71) (h : ∀ f ∈ l, 0 ≤ f.f0 ∧ f.f0 ≤ 4) (hll : l.length ≤ 1000000) (k : Nat) (hk : 6 * l.length + 1 ≤ k) : layout_fields.f k [] l = some (flatF l) := by
  unfold layout_fields.f
  have := fields_l0 l h hll l.length 0 [] k (by omega) (by simp) hk
  simpa using this

/-- Are all numbers what they may be? -/
def fitF (l : List S71) : Bool := l.all fun f => decide (0 ≤ f.f2) && decide (f.f2 ≤ f.f1)
theorem fit_l0 (l : List S71) (hll : l.length ≤ 1000000) (d : Nat) : ∀ (i k : Nat), i + d = l.length → d < k → layout_fit.l0 k l (l.length : Int) (i : Int) = some (fitF (l.drop i)) := by
  induction d with
  | zero =>
    intro i k hi hk
    obtain ⟨k, rfl⟩ : ∃ m, k = m + 1 := ⟨k - 1, by omega⟩
    simp only [layout_fit.l0]
    rw [if_neg (by omega), List.drop_eq_nil_of_le (by omega)]
    rfl
  | succ d ih =>
    intro i k hi hk
    obtain ⟨k, rfl⟩ : ∃ m, k = m + 1 := ⟨k - 1, by omega⟩
    have hlt : i < l.length := by omega
    simp only [layout_fit.l0]
    rw [if_pos (by omega), if_pos (by omega), if_pos (by omega), rd_T71_get l i hlt, List.drop_eq_getElem_cons hlt]
    unfold fitF
    rw [List.all_cons]
    by_cases h1 : (l[i]).f2 < 0
    · rw [if_pos h1, decide_eq_false (show ¬ 0 ≤ (l[i]).f2 by omega)]
      rfl
    · rw [if_neg h1, decide_eq_true (show 0 ≤ (l[i]).f2 by omega)]
      by_cases h2 : (l[i]).f2 > (l[i]).f1
      · rw [if_pos h2, decide_eq_false (show ¬ (l[i]).f2 ≤ (l[i]).f1 by omega)]
        rfl
      · rw [if_neg h2, decide_eq_true (show (l[i]).f2 ≤ (l[i]).f1 by omega), w_succ i (by omega), ih (i + 1) k (by omega) (by omega)]
        rfl
theorem fit_f (l : List S71) (hll : l.length ≤ 1000000) (k : Nat) (hk : l.length < k) : layout_fit.f k l = some (fitF l) := by
  unfold layout_fit.f
  have := fit_l0 l hll l.length 0 k (by omega) hk
  simpa using this

theorem eqi_l (l : List Int) (hl : l.length ≤ 140737488355328) (d : Nat) : ∀ (k i : Nat), i + d = l.length → d < k → slices_Equal_int_int.l0 k l l (l.length : Int) (i : Int) = some true := by
  induction d with
  | zero =>
    intro k i hi hk
    obtain ⟨k, rfl⟩ : ∃ m, k = m + 1 := ⟨k - 1, by omega⟩
    simp only [slices_Equal_int_int.l0]
    rw [if_neg (by omega)]
  | succ d ih =>
    intro k i hi hk
    obtain ⟨k, rfl⟩ : ∃ m, k = m + 1 := ⟨k - 1, by omega⟩
    simp only [slices_Equal_int_int.l0]
    rw [if_pos (by omega), if_pos (by omega), if_pos (by omega), if_pos (by omega), if_pos trivial, show wrap64 ((i : Int) + 1) = ((i + 1 : Nat) : Int) by unfold wrap64; omega]
    exact ih k (i + 1) (by omega) (by omega)
theorem eqi_f (l : List Int) (hl : l.length ≤ 140737488355328) (k : Nat) (hk : l.length < k) : slices_Equal_int_int.f k l l = some true := by
  unfold slices_Equal_int_int.f
  rw [if_pos rfl]
  exact eqi_l l hl l.length k 0 (by omega) hk

def addr (a : Int) : Bool := decide (0 ≤ a) && decide (a ≤ 2047)
/-- An indirect block's bytes. -/
def encFan (l : List Int) : List Int × Int := if l.length = 64 then (if l.all addr then ((l.map fun a => leb 2 a).flatten, 0) else ([], 1)) else ([], 1)
def mkF (a : Int) : S71 := ⟨2, 2047, a⟩

theorem ef_l (l : List Int) (hl : l.length ≤ 64) (d : Nat) : ∀ (i k : Nat), i + d = l.length → 6 * 64 + 3 + d ≤ k →
    layout_EncodeFan.l0 k ((l.take i).map mkF) l (l.length : Int) (i : Int) = some (if l.all addr then ((l.map fun a => leb 2 a).flatten, 0) else ([], 1)) := by
  induction d with
  | zero =>
    intro i k hi hk
    obtain ⟨k, rfl⟩ : ∃ m, k = m + 1 := ⟨k - 1, by omega⟩
    simp only [layout_EncodeFan.l0]
    rw [if_neg (by omega), List.take_of_length_le (by omega), fit_f _ (by rw [List.length_map]; omega) k (by rw [List.length_map]; omega)]
    have hfit : fitF (l.map mkF) = l.all addr := by
      unfold fitF
      rw [List.all_map]
      rfl
    rw [hfit, Option.bind_some]
    cases hall : l.all addr
    · rfl
    · rw [if_pos rfl, if_pos rfl, fields_f _ (by intro f hf; obtain ⟨a, _, rfl⟩ := List.mem_map.1 hf; exact ⟨show (0 : Int) ≤ 2 by decide, show (2 : Int) ≤ 4 by decide⟩) (by rw [List.length_map]; omega) k (by rw [List.length_map]; omega)]
      rw [Option.bind_some]
      unfold flatF
      rw [List.map_map]
      rfl
  | succ d ih =>
    intro i k hi hk
    obtain ⟨k, rfl⟩ : ∃ m, k = m + 1 := ⟨k - 1, by omega⟩
    have hlt : i < l.length := by omega
    simp only [layout_EncodeFan.l0]
    rw [if_pos (by omega), if_pos (by omega), if_pos (by omega), if_pos (by rw [List.length_map, List.length_take]; omega), w_succ i (by omega)]
    have e : (l.take i).map mkF ++ [(⟨2, 2047, rd l (i : Int)⟩ : S71)] = (l.take (i + 1)).map mkF := by
      rw [List.take_succ_eq_append_getElem hlt, List.map_append]
      congr 1
      unfold rd
      rw [Int.toNat_natCast, List.getD_eq_getElem?_getD, List.getElem?_eq_getElem hlt]
      rfl
    rw [e]
    exact ih (i + 1) k (by omega) (by omega)
theorem ef_f (l : List Int) (hl : l.length ≤ 140737488355328) (k : Nat) (hk : 500 ≤ k) : layout_EncodeFan.f k l = some (encFan l) := by
  unfold layout_EncodeFan.f encFan
  by_cases h : (l.length : Int) = 64
  · rw [if_pos h, if_pos (by omega)]
    have := ef_l l (by omega) l.length 0 k (by omega) (by omega)
    simpa using this
  · rw [if_neg h, if_neg (by omega)]

theorem rn_f (l : List Int) (hl : l.length ≤ 140737488351232) (a n : Int) (ha : 0 ≤ a) (ha2 : a + 2 ≤ l.length) (hn : 0 ≤ n) (hn2 : n ≤ 2047) (k : Nat) (hk : 8 ≤ k) : bollardref03_number.f k l a 2 n = some (putL 2 l a.toNat n) := by
  unfold bollardref03_number.f
  rw [rput_f l hl a 2 n (WalkArith.wf_i64 (by omega)) (by decide) (WalkArith.wf_i64 (by omega)) k hk, putS_ok (by rintro (h | h | h | h | h); all_goals first | omega | (simp at h; omega)) (by omega)]
  rfl
theorem adr_f (a : Int) : bollardref03_address.f a = some (addr a) := by
  unfold bollardref03_address.f addr
  by_cases h : a ≥ 0
  · rw [if_pos h, decide_eq_true (show 0 ≤ a from h), Bool.true_and]
    congr 1
    rw [decide_eq_decide]
    omega
  · rw [if_neg h, decide_eq_false (show ¬ 0 ≤ a by omega)]
    rfl
theorem flat2_len (l : List Int) : ((l.map fun a => leb 2 a).flatten).length = 2 * l.length := by
  induction l with
  | nil => rfl
  | cons a t ih => simp only [List.map_cons, List.flatten_cons, List.length_append, leb_length, ih, List.length_cons]; omega
theorem rd_get (l : List Int) (i : Nat) (h : i < l.length) : rd l (i : Int) = l[i] := by
  unfold rd
  rw [Int.toNat_natCast, List.getD_eq_getElem?_getD, List.getElem?_eq_getElem h]
  rfl

theorem ref_l (l : List Int) (hl : l.length = 64) (d : Nat) : ∀ (i k : Nat), i + d = 64 → 10 + d ≤ k →
    bollardref03_EncodeFan.l0 k (((l.take i).map fun a => leb 2 a).flatten ++ List.replicate (128 - 2 * i) 0) l (l.length : Int) (i : Int) = some (if (l.drop i).all addr then ((l.map fun a => leb 2 a).flatten, 0) else ([], 1)) := by
  induction d with
  | zero =>
    intro i k hi hk
    obtain ⟨k, rfl⟩ : ∃ m, k = m + 1 := ⟨k - 1, by omega⟩
    simp only [bollardref03_EncodeFan.l0]
    rw [if_neg (by omega), List.take_of_length_le (by omega), List.drop_eq_nil_of_le (by omega), show 128 - 2 * i = 0 by omega]
    simp
  | succ d ih =>
    intro i k hi hk
    obtain ⟨k, rfl⟩ : ∃ m, k = m + 1 := ⟨k - 1, by omega⟩
    have hlt : i < l.length := by omega
    have hfl := flat2_len (l.take i)
    rw [List.length_take, Nat.min_eq_left (by omega)] at hfl
    simp only [bollardref03_EncodeFan.l0]
    rw [if_pos (by omega), if_pos (by omega), if_pos (by omega), adr_f, Option.bind_some, rd_get l i hlt, List.drop_eq_getElem_cons hlt, List.all_cons]
    cases had : addr l[i]
    · rfl
    · rw [if_pos rfl, w_small (2 * (i : Int)) (by omega) (by omega)]
      unfold addr at had
      rw [Bool.and_eq_true, decide_eq_true_eq, decide_eq_true_eq] at had
      rw [rn_f _ (by rw [List.length_append, hfl, List.length_replicate]; omega) _ _ (by omega) (by rw [List.length_append, hfl, List.length_replicate]; omega) had.1 had.2 k (by omega), Option.bind_some, w_succ i (by omega), show (2 * (i : Int)).toNat = 2 * i by omega, putL_eq _ _ _ _ (by rw [List.length_append, hfl, List.length_replicate]; omega)]
      have e : (((l.take i).map fun a => leb 2 a).flatten ++ List.replicate (128 - 2 * i) (0 : Int)).take (2 * i) ++ leb 2 l[i] ++ (((l.take i).map fun a => leb 2 a).flatten ++ List.replicate (128 - 2 * i) (0 : Int)).drop (2 * i + 2) = ((l.take (i + 1)).map fun a => leb 2 a).flatten ++ List.replicate (128 - 2 * (i + 1)) 0 := by
        rw [List.take_left' hfl, List.drop_append, hfl, List.drop_eq_nil_of_le (by omega), List.nil_append, List.drop_replicate, List.take_succ_eq_append_getElem hlt, List.map_append, List.flatten_append]
        simp only [List.map_cons, List.map_nil, List.flatten_cons, List.flatten_nil, List.append_nil]
        rw [show 128 - 2 * i - (2 * i + 2 - 2 * i) = 128 - 2 * (i + 1) by omega]
      rw [e, ih (i + 1) k (by omega) (by omega)]
      rfl
theorem ref_f (l : List Int) (k : Nat) (hk : 500 ≤ k) : bollardref03_EncodeFan.f k l = some (encFan l) := by
  unfold bollardref03_EncodeFan.f encFan
  by_cases h : (l.length : Int) = 64
  · rw [if_pos h, if_pos (by decide), if_pos (show l.length = 64 by omega)]
    have := ref_l l (by omega) 64 0 k (by omega) (by omega)
    simpa using this
  · rw [if_neg h, if_neg (by omega)]

def decFan (l : List Int) : List Int × Int := if l.length = 128 then (if (fanL l 64).all addr then (fanL l 64, 0) else ([], 6)) else ([], 6)
theorem df_f (l : List Int) (h : ∀ x ∈ l, (Lit.int .u8 x).wf = true) (k : Nat) (hk : 500 ≤ k) : layout_DecodeFan.f k l = some (decFan l) := by
  unfold layout_DecodeFan.f decFan
  by_cases hl : (l.length : Int) = 128
  · rw [if_pos hl, if_pos (fun x hx => u8_bd (h x hx)), if_pos (show l.length = 128 by omega), ef_f _ (by rw [fanL_len]; omega) k hk, Option.bind_some]
    unfold encFan
    rw [fanL_len, if_pos rfl]
    cases (fanL l 64).all addr <;> rfl
  · rw [if_neg hl, if_neg (by omega)]

theorem cut_get (l : List Int) (i : Nat) (h : 2 * i + 2 ≤ l.length) : le ((l.drop (2 * (i : Int)).toNat).take 2) = le (cutL l (2 * (i : Int)) 2) := by
  unfold cutL
  rw [show (2 * (i : Int)).toNat = 2 * i by omega, show (2 * (i : Int) + 2).toNat = 2 * i + 2 by omega, List.drop_take, show 2 * i + 2 - 2 * i = 2 by omega]
theorem rg_f (l : List Int) (h : ∀ x ∈ l, (Lit.int .u8 x).wf = true) (hl : l.length = 128) (i : Nat) (hi : i < 64) (k : Nat) (hk : 7 ≤ k) : bollardref03_get.f k l (2 * (i : Int)) 2 = some (le (cutL l (2 * (i : Int)) 2)) := by
  unfold bollardref03_get.f
  rw [rget_f l h (by omega) _ 2 (WalkArith.wf_i64 (by omega)) (by decide) k hk]
  unfold getS
  rw [if_neg (by omega), if_neg (by omega), ← cut_get l i (by omega)]
  rfl
theorem rd_l (l : List Int) (h : ∀ x ∈ l, (Lit.int .u8 x).wf = true) (hl : l.length = 128) (d : Nat) : ∀ (i k : Nat), i + d = 64 → 10 + d ≤ k → (fanL l i).all addr = true →
    bollardref03_DecodeFan.l0 k l (fanL l i) (i : Int) = some (if (fanL l 64).all addr then (fanL l 64, 0) else ([], 6)) := by
  induction d with
  | zero =>
    intro i k hi hk ha
    obtain ⟨k, rfl⟩ : ∃ m, k = m + 1 := ⟨k - 1, by omega⟩
    obtain rfl : i = 64 := by omega
    simp only [bollardref03_DecodeFan.l0]
    rw [if_neg (by omega), if_pos ha]
  | succ d ih =>
    intro i k hi hk ha
    obtain ⟨k, rfl⟩ : ∃ m, k = m + 1 := ⟨k - 1, by omega⟩
    simp only [bollardref03_DecodeFan.l0]
    rw [if_pos (by omega), w_small (2 * (i : Int)) (by omega) (by omega), rg_f l h hl i (by omega) k (by omega), Option.bind_some, adr_f, Option.bind_some]
    cases had : addr (le (cutL l (2 * (i : Int)) 2))
    · have hno : (fanL l 64).all addr = false := by
        rw [List.all_eq_false]
        refine ⟨_, ?_, by rw [had]; simp⟩
        unfold fanL
        exact List.mem_map.2 ⟨i, List.mem_range.2 (by omega), rfl⟩
      rw [hno]
      rfl
    · rw [if_pos rfl, if_pos (by rw [fanL_len]; omega), w_succ i (by omega), ← fanL_next]
      refine ih (i + 1) k (by omega) (by omega) ?_
      rw [fanL_next, List.all_append, ha, Bool.true_and, List.all_cons, had]
      rfl
theorem rdf_f (l : List Int) (h : ∀ x ∈ l, (Lit.int .u8 x).wf = true) (k : Nat) (hk : 500 ≤ k) : bollardref03_DecodeFan.f k l = some (decFan l) := by
  unfold bollardref03_DecodeFan.f decFan
  by_cases hl : (l.length : Int) = 128
  · rw [if_pos hl, if_pos (by omega)]
    have := rd_l l h (by omega) 64 0 k (by omega) (by omega) rfl
    simpa [fanL] using this
  · rw [if_neg hl, if_neg (by omega)]

theorem decFan_len (l : List Int) : (decFan l).1.length ≤ 64 := by
  unfold decFan
  split
  · split
    · simp [fanL_len]
    · simp
  · simp

theorem LayoutFans : bollardlaw03_LayoutFans.Pure := by
  intro l0 l1 _ h0 hw0 _ h1 hw1
  refine ⟨140737488355400, ?_⟩
  have hc : bytes_Clone.f l1 = some l1 := by unfold bytes_Clone.f; rw [if_pos (by omega)]
  have hc2 : slices_Clone_int_int.f l0 = some l0 := by unfold slices_Clone_int_int.f; rw [if_pos (by omega)]
  unfold bollardlaw03_LayoutFans.f
  rw [hc, Option.bind_some, hc2, Option.bind_some, ef_f l0 (by omega) _ (by omega), Option.bind_some, ref_f l0 _ (by omega), Option.bind_some, df_f l1 hw1 _ (by omega), Option.bind_some, rdf_f l1 hw1 _ (by omega), Option.bind_some, if_pos rfl]
  simp only [bytes_Equal.f, beq_self_eq_true, Option.bind_some, if_true]
  rw [eqi_f _ (by have := decFan_len l1; omega) _ (by have := decFan_len l1; omega)]
  simp only [Option.bind_some, if_true]
  rw [eqi_f l0 (by omega) _ (by omega)]
  rfl

end Go.Proofs.Ytdaeanodgnmknaa.Pure
