/- Written by a program of this session. The plain law of a path's names. -/
import Derived.Test.YtnbkbmhiajfbpaaDoorXDpx
import Derived.Lib.SplitLaws
import Derived.Lib.IndexBytes
namespace Go.Proofs.YtnbkbmhiajfbpaaDoor.Sp
open Go Go.RowKit Go.Proofs Go.Proofs.YtnbkbmhiajfbpaaDoor.XDp Go.Proofs.YtnbkbmhiajfbpaaDoorW.PrintWords Go.Proofs.YtnbkbmhiajfbpaaDoorW.PrintLast
set_option linter.unusedVariables false
set_option linter.unusedSimpArgs false

/-! ### which texts are names -/
def okB (x : Int) : Bool := !decide (x < 33) && (!decide (x > 126) && !decide (x = 47))
def okFrom (s : ByteArray) (i : Nat) : Nat → Bool
  | 0 => true
  | d + 1 => okB (bt s (i : Int)) && okFrom s (i + 1) d
def speltS (s : ByteArray) : Bool := okFrom s 0 s.size && (!decide (s.toList = []) && decide ((s.size : Int) ≤ 13))
def isNameS (s : ByteArray) : Bool := speltS s && (!decide (s.toList = [46]) && !decide (s.toList = [46, 46]))

theorem w_inc (i : Nat) (h : i < 9223372036854775807) : wrap64 ((i : Int) + 1) = ((i + 1 : Nat) : Int) := by unfold wrap64; omega
theorem spelt_l (s : ByteArray) (hs : s.size ≤ 9223372036854775807) (d : Nat) : ∀ (k i : Nat), i + d = s.size → d < k → layout_spelt.l0 k s (s.size : Int) (i : Int) = some (okFrom s i d && (!decide (s.toList = []) && decide ((s.size : Int) ≤ 13))) := by
  induction d with
  | zero =>
    intro k i hi hk
    obtain ⟨k, rfl⟩ : ∃ m, k = m + 1 := ⟨k - 1, by omega⟩
    simp only [layout_spelt.l0, okFrom, Bool.true_and]
    rw [if_neg (by omega)]
    by_cases he : s.toList = []
    · rw [if_pos he, decide_eq_true he]; rfl
    · rw [if_neg he, decide_eq_false he]; rfl
  | succ d ih =>
    intro k i hi hk
    obtain ⟨k, rfl⟩ : ∃ m, k = m + 1 := ⟨k - 1, by omega⟩
    simp only [layout_spelt.l0, okFrom]
    rw [if_pos (by omega), if_pos (by omega), if_pos (by omega)]
    unfold okB
    by_cases h1 : bt s (i : Int) < 33
    · rw [if_pos h1, decide_eq_true h1]; rfl
    · rw [if_neg h1, decide_eq_false h1]
      by_cases h2 : bt s (i : Int) > 126
      · rw [if_pos h2, decide_eq_true h2]; rfl
      · rw [if_neg h2, decide_eq_false h2]
        by_cases h3 : bt s (i : Int) = 47
        · rw [if_pos h3, decide_eq_true h3]; rfl
        · rw [if_neg h3, decide_eq_false h3, w_inc i (by omega), ih k (i + 1) (by omega) (by omega)]; rfl
theorem spelt_f (s : ByteArray) (hs : s.size ≤ 9223372036854775807) (k : Nat) (hk : s.size < k) : layout_spelt.f k s = some (speltS s) := by
  unfold layout_spelt.f speltS
  exact spelt_l s hs s.size k 0 (by omega) hk
theorem name_l (s : ByteArray) (hs : s.size ≤ 9223372036854775807) (d : Nat) : ∀ (k i : Nat), i + d = s.size → d < k → bollardref03_IsName.l0 k s (i : Int) = some (okFrom s i d) := by
  induction d with
  | zero =>
    intro k i hi hk
    obtain ⟨k, rfl⟩ : ∃ m, k = m + 1 := ⟨k - 1, by omega⟩
    simp only [bollardref03_IsName.l0, okFrom]
    rw [if_neg (by omega)]
  | succ d ih =>
    intro k i hi hk
    obtain ⟨k, rfl⟩ : ∃ m, k = m + 1 := ⟨k - 1, by omega⟩
    simp only [bollardref03_IsName.l0, okFrom]
    rw [if_pos (by omega), if_pos (by omega)]
    unfold okB
    by_cases h1 : bt s (i : Int) < 33
    · rw [if_pos h1, decide_eq_true h1]; rfl
    · rw [if_neg h1, decide_eq_false h1]
      by_cases h2 : bt s (i : Int) > 126
      · rw [if_pos h2, decide_eq_true h2]; rfl
      · rw [if_neg h2, decide_eq_false h2]
        by_cases h3 : bt s (i : Int) = 47
        · rw [if_pos h3, decide_eq_true h3]; rfl
        · rw [if_neg h3, decide_eq_false h3, w_inc i (by omega), ih k (i + 1) (by omega) (by omega)]; rfl
theorem isName_f (s : ByteArray) (hs : s.size ≤ 9223372036854775807) (k : Nat) (hk : s.size < k) : layout_IsName.f k s = some (isNameS s) := by
  unfold layout_IsName.f isNameS
  rw [spelt_f s hs k hk, Option.bind_some]
  cases speltS s
  · rfl
  · rw [if_pos rfl, Bool.true_and]
    by_cases h : s.toList = [46]
    · rw [if_pos h, decide_eq_true h]; rfl
    · rw [if_neg h, decide_eq_false h]
      by_cases h2 : s.toList = [46, 46]
      · rw [decide_eq_true h2, h2]; rfl
      · rw [decide_eq_false h2, bne_iff_ne.mpr h2]; rfl
theorem rname_f (s : ByteArray) (hs : s.size ≤ 9223372036854775807) (k : Nat) (hk : s.size + 1 < k) : bollardref03_IsName.f k s = some (isNameS s) := by
  obtain ⟨k, rfl⟩ : ∃ m, k = m + 1 := ⟨k - 1, by omega⟩
  unfold bollardref03_IsName.f isNameS speltS
  simp only [bollardref03_IsName.j0, if_true]
  by_cases h1 : s.toList = []
  · rw [if_pos h1, decide_eq_true h1]; simp
  · rw [if_neg h1, decide_eq_false h1]
    by_cases h2 : (s.size : Int) > 13
    · rw [if_pos h2, decide_eq_false (show ¬ (s.size : Int) ≤ 13 by omega)]; simp
    · rw [if_neg h2, decide_eq_true (show (s.size : Int) ≤ 13 by omega)]
      by_cases h3 : s.toList = [46]
      · rw [if_pos h3, decide_eq_true h3]; simp
      · rw [if_neg h3, decide_eq_false h3]
        by_cases h4 : s.toList = [46, 46]
        · rw [beq_iff_eq.mpr h4, if_pos rfl, decide_eq_true h4]; simp
        · rw [beq_eq_false_iff_ne.mpr h4, if_neg (by decide), decide_eq_false h4, show (0 : Int) = ((0 : Nat) : Int) from rfl, name_l s hs s.size k 0 (by omega) (by omega)]; simp

def mk (l : List UInt8) : ByteArray := ⟨l.toArray⟩
theorem mk_data (l : List UInt8) : (mk l).data.toList = l := rfl
theorem mk_size (l : List UInt8) : (mk l).size = l.length := by rw [Lib.size_eq, mk_data]
theorem mk_toList (l : List UInt8) : (mk l).toList = l := by rw [Lib.toList_data, mk_data]
theorem ba_ext {a b : ByteArray} (h : a.data.toList = b.data.toList) : a = b := by
  cases a; cases b; congr 1; exact Array.toList_inj.1 h
theorem mk_of (s : ByteArray) : mk s.data.toList = s := ba_ext rfl
theorem extract_mk (s : ByteArray) (a b : Nat) : s.extract a b = mk ((s.data.toList.drop a).take (b - a)) := by
  apply ba_ext
  rw [mk_data, ByteArray.data_extract, Array.toList_extract, List.extract_eq_take_drop]

/-- A text cut at each '/'. -/
def cutsL : List UInt8 → List UInt8 → List (List UInt8)
  | cur, [] => [cur]
  | cur, c :: t => if c = 47 then cur :: cutsL [] t else cutsL (cur ++ [c]) t
theorem cutsL_none : ∀ (cur t : List UInt8), (∀ x ∈ t, x ≠ 47) → cutsL cur t = [cur ++ t]
  | cur, [], _ => by simp [cutsL]
  | cur, c :: t, h => by
    rw [cutsL, if_neg (h c List.mem_cons_self), cutsL_none _ _ (fun x hx => h x (List.mem_cons_of_mem _ hx))]
    simp
theorem cutsL_hit : ∀ (cur a b : List UInt8), (∀ x ∈ a, x ≠ 47) → cutsL cur (a ++ 47 :: b) = (cur ++ a) :: cutsL [] b
  | cur, [], b, _ => by simp [cutsL]
  | cur, c :: a, b, h => by
    rw [List.cons_append, cutsL, if_neg (h c List.mem_cons_self), cutsL_hit _ _ _ (fun x hx => h x (List.mem_cons_of_mem _ hx))]
    simp
theorem cutsL_pos : ∀ (cur t : List UInt8), 0 < (cutsL cur t).length
  | cur, [] => by simp [cutsL]
  | cur, c :: t => by
    rw [cutsL]; split
    · simp
    · exact cutsL_pos _ _
theorem cutsL_len : ∀ (cur t : List UInt8), (cutsL cur t).length ≤ t.length + 1
  | cur, [] => by simp [cutsL]
  | cur, c :: t => by
    rw [cutsL]; split
    · have := cutsL_len [] t; simp; omega
    · have := cutsL_len (cur ++ [c]) t; simp; omega
theorem cutsL_sz : ∀ (cur t : List UInt8), ∀ x ∈ cutsL cur t, x.length ≤ cur.length + t.length
  | cur, [], x, hx => by
    rw [cutsL, List.mem_singleton] at hx; subst hx; simp
  | cur, c :: t, x, hx => by
    rw [cutsL] at hx
    split at hx
    · rcases List.mem_cons.1 hx with rfl | hx
      · simp
      · have := cutsL_sz [] t x hx; simp at this ⊢; omega
    · have := cutsL_sz (cur ++ [c]) t x hx; simp at this ⊢; omega
/-- All pieces, each behind a '/', are the text behind a '/'. -/
theorem cutsL_join : ∀ (cur t : List UInt8), (cutsL cur t).flatMap (fun x => (47 : UInt8) :: x) = 47 :: (cur ++ t)
  | cur, [] => by simp [cutsL]
  | cur, c :: t => by
    rw [cutsL]
    by_cases h : c = 47
    · rw [if_pos h, List.flatMap_cons, cutsL_join [] t, h]; simp
    · rw [if_neg h, cutsL_join (cur ++ [c]) t]; simp

theorem splitK_cuts : ∀ (n : Nat) (s : List UInt8), s.length ≤ n → Lib.splitK [47] 0 (Lib.count s [47]) s = cutsL [] s := by
  intro n
  induction n with
  | zero =>
    intro s hs
    obtain rfl : s = [] := List.eq_nil_of_length_eq_zero (by omega)
    rfl
  | succ n ih =>
    intro s hs
    have hx := Lib.index_one s 47
    rcases (show Lib.indexByte s 47 < 0 ∨ 0 ≤ Lib.indexByte s 47 by omega) with h | h
    · have h1 : Lib.indexByte s 47 = -1 := by have := Lib.indexByte_ge s 47; omega
      rw [Lib.count_miss (hx.trans h1), Lib.splitK, cutsL_none _ _ (fun x hx' e => ?_)]
      · simp
      · obtain ⟨k, hk⟩ := List.getElem?_of_mem hx'
        exact Lib.indexByte_none h1 k (by rw [hk, e])
    · obtain ⟨i, hi⟩ := Int.eq_ofNat_of_zero_le h
      have hi' : Lib.index s [47] = (i : Int) := hx.trans hi
      obtain ⟨h1, h2⟩ := Lib.indexByte_some hi
      obtain ⟨hlt, he⟩ := List.getElem?_eq_some_iff.1 h1
      rw [Lib.count_hit (by simp) hi', Nat.add_comm 1, Lib.splitK, if_neg (by rw [hi']; simp), hi']
      have es : s = s.take i ++ 47 :: s.drop (i + 1) := by
        conv => lhs; rw [← List.take_append_drop i s, List.drop_eq_getElem_cons hlt, he]
      have ec : cutsL [] s = s.take i :: cutsL [] (s.drop (i + 1)) := by
        conv => lhs; rw [es]
        rw [cutsL_hit _ _ _ (fun x hx' e => ?_)]
        · simp
        · obtain ⟨k, hk, hk2⟩ := List.getElem_of_mem hx'
          rw [List.length_take] at hk
          rw [List.getElem_take] at hk2
          exact h2 k (by omega) (by rw [List.getElem?_eq_getElem (by omega), hk2, e])
      rw [ec, ← ih (s.drop (i + 1)) (by rw [List.length_drop]; omega)]
      simp

theorem splitB_eq (s : ByteArray) : Lib.splitB ⟨#[47]⟩ 0 (Lib.countB s ⟨#[47]⟩) s = (cutsL [] s.data.toList).map mk := by
  have h := Lib.splitB_data ⟨#[47]⟩ 0 (Lib.countB s ⟨#[47]⟩) s
  have h2 : Lib.splitK (⟨#[47]⟩ : ByteArray).data.toList 0 (Lib.countB s ⟨#[47]⟩) s.data.toList = cutsL [] s.data.toList := splitK_cuts s.data.toList.length s.data.toList (Nat.le_refl _)
  rw [h2] at h
  rw [← h, List.map_map]
  conv => lhs; rw [← List.map_id (Lib.splitB _ _ _ _)]
  exact List.map_congr_left (fun x _ => (mk_of x).symm)

def nameL (l : List UInt8) : Bool := isNameS (mk l)
/-- What Split answers of a path's bytes. -/
def splitL (p : List UInt8) : List (List UInt8) × Int :=
  if p = [47] then ([], 0) else if p.head? = some 47 then (let ps := cutsL [] p.tail; if ps.all nameL then (if 32 < ps.length then ([], 219) else (ps, 0)) else ([], 7)) else ([], 7)

theorem bt_get (s : ByteArray) (i : Nat) (h : i < s.data.toList.length) : bt s (i : Int) = ((s.data.toList[i]'h).toNat : Int) := by
  unfold bt
  rw [dif_pos (by rw [Lib.size_eq]; simpa using h)]
  rfl

theorem ref_l (p : ByteArray) (hp : p.size < 1000000000) : ∀ (d k i from_ : Nat) (acc : List (List UInt8)), i + d = p.size → from_ ≤ i → acc.length ≤ i → 2 * d + p.size + 20 ≤ k →
    bollardref12_Split.l0 k p (acc.map mk) (from_ : Int) (i : Int) =
      some (if (cutsL ((p.data.toList.drop from_).take (i - from_)) (p.data.toList.drop i)).all nameL then
        (if 32 < acc.length + (cutsL ((p.data.toList.drop from_).take (i - from_)) (p.data.toList.drop i)).length then ([], 219) else ((acc ++ cutsL ((p.data.toList.drop from_).take (i - from_)) (p.data.toList.drop i)).map mk, 0)) else ([], 7)) := by
  have hsz := Lib.size_eq p
  intro d
  induction d with
  | zero =>
    intro k i from_ acc hi hf ha hk
    obtain ⟨k, rfl⟩ : ∃ j, k = j + 1 + 1 + 1 := ⟨k - 3, by omega⟩
    have hnil : p.data.toList.drop i = [] := List.drop_eq_nil_of_le (by omega)
    rw [hnil]
    simp only [bollardref12_Split.l0, bollardref12_Split.j2, cutsL]
    rw [if_pos (by omega), if_pos (by omega), if_pos trivial, if_pos (by omega), if_pos (by omega), if_pos (by omega)]
    simp only [Int.toNat_natCast]
    rw [extract_mk, rname_f _ (by rw [mk_size, List.length_take]; omega) _ (by rw [mk_size, List.length_take]; omega), Option.bind_some]
    have hw : wrap64 ((i : Int) + 1) = ((i + 1 : Nat) : Int) := w_inc i (by omega)
    cases hn : isNameS (mk ((p.data.toList.drop from_).take (i - from_))) with
    | true =>
      have hn' : nameL ((p.data.toList.drop from_).take (i - from_)) = true := hn
      rw [if_pos rfl, if_pos (by rw [List.length_map]; omega), hw, if_neg (by omega)]
      simp only [List.all_cons, List.all_nil, hn', Bool.and_true, if_true, List.length_singleton, List.map_append, List.map_cons, List.map_nil]
      by_cases h32 : 32 < acc.length + 1
      · rw [if_pos h32, if_pos (by rw [List.length_append, List.length_map, List.length_singleton]; omega)]
      · rw [if_neg h32, if_neg (by rw [List.length_append, List.length_map, List.length_singleton]; omega)]
    | false =>
      have hn' : nameL ((p.data.toList.drop from_).take (i - from_)) = false := hn
      rw [if_neg (by simp)]
      simp [hn']
  | succ d ih =>
    intro k i from_ acc hi hf ha hk
    obtain ⟨k, rfl⟩ : ∃ j, k = j + 1 + 1 := ⟨k - 2, by omega⟩
    have hlt : i < p.data.toList.length := by omega
    have hw : wrap64 ((i : Int) + 1) = ((i + 1 : Nat) : Int) := w_inc i (by omega)
    have hd : p.data.toList.drop i = p.data.toList[i] :: p.data.toList.drop (i + 1) := List.drop_eq_getElem_cons hlt
    simp only [bollardref12_Split.l0, bollardref12_Split.j2]
    rw [if_pos (by omega), if_neg (by omega), if_pos (by omega), if_pos (by omega), bt_get p i hlt, hd, cutsL]
    by_cases hc : p.data.toList[i] = 47
    · rw [if_pos hc, hc]
      rw [if_pos (by rfl), if_pos (by omega), if_pos (by omega), if_pos (by omega)]
      simp only [Int.toNat_natCast]
      rw [extract_mk, rname_f _ (by rw [mk_size, List.length_take]; omega) _ (by rw [mk_size, List.length_take]; omega), Option.bind_some]
      cases hn : isNameS (mk ((p.data.toList.drop from_).take (i - from_))) with
      | true =>
        have hn' : nameL ((p.data.toList.drop from_).take (i - from_)) = true := hn
        have ih' := ih k (i + 1) (i + 1) (acc ++ [(p.data.toList.drop from_).take (i - from_)]) (by omega) (Nat.le_refl _) (by simp; omega) (by omega)
        rw [Nat.sub_self, List.take_zero, List.map_append, List.map_cons, List.map_nil] at ih'
        rw [if_pos rfl, if_pos (by rw [List.length_map]; omega), hw, ih']
        simp only [List.all_cons, hn', Bool.true_and, List.length_append, List.length_cons, List.length_nil, Nat.zero_add, List.append_assoc, List.singleton_append]
        rw [show acc.length + 1 + (cutsL [] (p.data.toList.drop (i + 1))).length = acc.length + ((cutsL [] (p.data.toList.drop (i + 1))).length + 1) by omega]
      | false =>
        have hn' : nameL ((p.data.toList.drop from_).take (i - from_)) = false := hn
        rw [if_neg (by simp)]
        simp [hn']
    · rw [if_neg hc]
      have hb : (((p.data.toList[i]).toNat : Int) == 47) = false := by
        rw [beq_eq_false_iff_ne]
        intro e
        apply hc
        have : (p.data.toList[i]).toNat = 47 := by omega
        exact UInt8.toNat_inj.1 this
      rw [hb, if_neg (by simp), hw]
      have ih' := ih k (i + 1) from_ acc (by omega) (by omega) (by omega) (by omega)
      have ht : (p.data.toList.drop from_).take (i + 1 - from_) = (p.data.toList.drop from_).take (i - from_) ++ [p.data.toList[i]] := by
        rw [show i + 1 - from_ = (i - from_) + 1 by omega, List.take_succ_eq_append_getElem (by rw [List.length_drop]; omega)]
        congr 2
        rw [List.getElem_drop]
        congr 1
        omega
      rw [ht] at ih'
      exact ih'

theorem ref_f (p : ByteArray) (hp : p.size < 1000000000) (k : Nat) (hk : 3 * p.size + 40 ≤ k) : bollardref12_Split.f k p = some ((splitL p.data.toList).1.map mk, (splitL p.data.toList).2) := by
  have hsz := Lib.size_eq p
  have htl := Lib.toList_data p
  obtain ⟨k, rfl⟩ : ∃ j, k = j + 1 := ⟨k - 1, by omega⟩
  unfold bollardref12_Split.f splitL
  rw [htl]
  by_cases h1 : p.data.toList = [47]
  · rw [if_pos h1, if_pos h1]; rfl
  · rw [if_neg h1, if_neg h1]
    by_cases h2 : p.data.toList = []
    · rw [if_pos h2, h2]
      simp [bollardref12_Split.j0]
    · rw [if_neg h2]
      have hl : 0 < p.data.toList.length := List.length_pos_iff.2 h2
      have hb := bt_get p 0 hl
      rw [if_pos (by omega), show bt p 0 = bt p ((0 : Nat) : Int) from rfl, hb]
      simp only [bollardref12_Split.j0]
      have hh : p.data.toList.head? = some p.data.toList[0] := by rw [List.head?_eq_getElem?, List.getElem?_eq_getElem hl]
      rw [hh]
      by_cases h3 : p.data.toList[0] = 47
      · rw [h3, if_pos rfl, if_neg (by decide)]
        have := ref_l p hp (p.size - 1) k 1 1 [] (by omega) (Nat.le_refl _) (by simp) (by omega)
        rw [Nat.sub_self, List.take_zero, List.map_nil, List.nil_append, List.length_nil, Nat.zero_add] at this
        rw [show p.data.toList.tail = p.data.toList.drop 1 from List.drop_one.symm]
        refine Eq.trans this ?_
        congr 1
        by_cases ha : (cutsL [] (p.data.toList.drop 1)).all nameL = true
        · rw [if_pos ha, if_pos ha]
          by_cases h32 : 32 < (cutsL [] (p.data.toList.drop 1)).length
          · rw [if_pos h32, if_pos h32]; rfl
          · rw [if_neg h32, if_neg h32]
        · rw [if_neg ha, if_neg ha]; rfl
      · have hb2 : ((p.data.toList[0].toNat : Int) != 47) = true := by
          rw [bne_iff_ne]
          intro e
          exact h3 (UInt8.toNat_inj.1 (show p.data.toList[0].toNat = (47 : UInt8).toNat from (show p.data.toList[0].toNat = 47 by omega)))
        have hs3 : ¬ some p.data.toList[0] = some (47 : UInt8) := fun e => h3 (Option.some.inj e)
        rw [hb2, if_pos rfl, if_neg hs3]
        rfl

end Go.Proofs.YtnbkbmhiajfbpaaDoor.Sp
