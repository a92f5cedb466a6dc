/- BitsRuns: for every row of bytes and every n: the lengths of the stretches of bits that are not set among the first n (bits.Runs), and where the longest begins and how long it is (bits.Longest), are the reference's. Conditions: none beyond those of the row. -/
import Derived.Test.YtpfiladhmcdjlaaXBitsRunsx0
import Derived.Test.YtpfiladhmcdjlaaXBitsRunsx1
import Derived.Test.YtpfiladhmcdjlaaXHsx
import Derived.Test.YtpfiladhmcdjlaaSu
namespace Go.Proofs.Ytpfiladhmcdjlaa.Pure
open Go.RowKit Go.Proofs.Ytpfiladhmcdjlaa.XBitsRuns Go.Proofs.YtpfiladhmcdjlaaW.PrintWords Go.Proofs.YtpfiladhmcdjlaaW.PrintLast Go.Proofs.Ytpfiladhmcdjlaa.XHs
set_option linter.unusedVariables false
set_option linter.unusedSimpArgs false

theorem u8_bd {x : Int} (h : (Lit.int .u8 x).wf = true) : 0 ≤ x ∧ x ≤ 255 := by
  simp [Lit.wf, IntKind.min, IntKind.max, IntKind.bits, IntKind.signed] at h
  omega

theorem i64_bd {x : Int} (h : (Lit.int .i64 x).wf = true) : -9223372036854775808 ≤ x ∧ x ≤ 9223372036854775807 := by
  simp [Lit.wf, IntKind.min, IntKind.max, IntKind.bits, IntKind.signed] at h
  omega

theorem rd_u8 {l : List Int} (h : ∀ x ∈ l, (Lit.int .u8 x).wf = true) (i : Int) : 0 ≤ rd l i ∧ rd l i ≤ 255 := by
  unfold rd
  rw [List.getD_eq_getElem?_getD]
  by_cases hi : i.toNat < l.length
  · rw [List.getElem?_eq_getElem hi]
    exact u8_bd (h _ (List.getElem_mem hi))
  · rw [List.getElem?_eq_none (by omega)]
    simp

theorem rd_set (l : List Int) (i : Int) (v : Int) (h1 : i.toNat < l.length) : rd (l.set i.toNat v) i = v := by
  unfold rd
  rw [List.getD_eq_getElem?_getD, List.getElem?_set_self h1]
  rfl

theorem and_one {x : Int} (h0 : 0 ≤ x) (h1 : x ≤ 255) : Go.bits .and .u8 x 1 = Int.tmod x 2 := by
  rw [Int.tmod_eq_emod_of_nonneg h0]
  exact bits_mask .u8 8 (by decide) wraps_u8 1 (by decide) x h0 (by omega)

theorem shr_u8 {x : Int} (h0 : 0 ≤ x) (h1 : x ≤ 255) (y : Int) : 0 ≤ shr .u8 x y ∧ shr .u8 x y ≤ 255 := by
  unfold shr
  have hp : (0 : Int) < 2 ^ min y.toNat IntKind.u8.bits := Int.pow_pos (by omega)
  refine ⟨Int.ediv_nonneg h0 (by omega), ?_⟩
  exact Int.le_trans (Int.ediv_le_self _ h0) h1

/-- The bit of a place, as bits.Has tells it where the place lies in the row. -/
def bitAt (l : List Int) (i : Int) : Bool := Go.bits .and .u8 (shr .u8 (rd l (i / 8)) (i % 8)) 1 == 1

theorem has_f (l : List Int) (i : Int) (hi : i < 9223372036854775808) : bits_Has.f l i = some (decide (0 ≤ i) && decide (i / 8 < (l.length : Int)) && bitAt l i) := by
  unfold bits_Has.f bitAt
  by_cases h0 : i ≥ 0
  · have e : wrap64 (Int.tdiv i 8) = i / 8 := by rw [Int.tdiv_eq_ediv_of_nonneg h0]; unfold wrap64; omega
    have e' : Int.tmod i 8 = i % 8 := Int.tmod_eq_emod_of_nonneg h0
    rw [if_pos h0, e, e', if_pos (show 0 ≤ i / 8 by omega), if_pos (show 0 ≤ i % 8 by omega)]
    have h0' : 0 ≤ i := h0
    by_cases h1 : i / 8 < (l.length : Int)
    · rw [if_pos h1]; simp [h0', h1]
    · rw [if_neg h1]; simp [h1]
  · rw [if_neg h0]
    have h0' : ¬ 0 ≤ i := h0
    simp [h0']

/-- A bit is set, and the reference says the same. -/
theorem has_same {l : List Int} (h : ∀ x ∈ l, (Lit.int .u8 x).wf = true) (i : Int) : bits_Has.f l i = bollardref05_Has.f l i := by
  unfold bits_Has.f bollardref05_Has.f
  obtain ⟨a, b⟩ := rd_u8 h (wrap64 (Int.tdiv i 8))
  obtain ⟨c, d⟩ := shr_u8 a b (Int.tmod i 8)
  rw [and_one c d]

theorem eqi_l (l : List Int) (hl : l.length ≤ 140737488355328) (d : Nat) : ∀ (k i : Nat), i + d = l.length → d < k → slices_Equal_int_int.l0 k l l (l.length : Int) (i : Int) = some true := by
  induction d with
  | zero =>
    intro k i hi hk
    obtain ⟨k, rfl⟩ : ∃ m, k = m + 1 := ⟨k - 1, by omega⟩
    simp only [slices_Equal_int_int.l0]
    rw [if_neg (by omega)]
  | succ d ih =>
    intro k i hi hk
    obtain ⟨k, rfl⟩ : ∃ m, k = m + 1 := ⟨k - 1, by omega⟩
    simp only [slices_Equal_int_int.l0]
    rw [if_pos (by omega), if_pos (by omega), if_pos (by omega), if_pos (by omega), if_pos trivial, show wrap64 ((i : Int) + 1) = ((i + 1 : Nat) : Int) by unfold wrap64; omega]
    exact ih k (i + 1) (by omega) (by omega)
theorem eqi_f (l : List Int) (hl : l.length ≤ 140737488355328) (k : Nat) (hk : l.length < k) : slices_Equal_int_int.f k l l = some true := by
  unfold slices_Equal_int_int.f
  rw [if_pos rfl]
  exact eqi_l l hl l.length k 0 (by omega) hk

open Go.Proofs.Ytpfiladhmcdjlaa.St in
theorem has_ref {l : List Int} (h : ∀ x ∈ l, (Lit.int .u8 x).wf = true) (i : Nat) (hi : i < 65536) : bollardref05_Has.f l i = some (has l i) := by
  rw [← has_same h, has_ok l i hi]

open Go.Proofs.Ytpfiladhmcdjlaa.St in
theorem ref_runs {l : List Int} (h : ∀ x ∈ l, (Lit.int .u8 x).wf = true) (m : Nat) (hm : m ≤ 65536) : ∀ (d k i : Nat), i + d = m → d < k →
    bollardref05_Runs.l0 k l ((st l i).1.map Prod.snd) (st l i).2.2 (m : Int) (i : Int) = some ((strs l m).map Prod.snd) := by
  intro d
  induction d with
  | zero =>
    intro k i hi hk
    obtain ⟨k, rfl⟩ : ∃ j, k = j + 1 := ⟨k - 1, by omega⟩
    obtain rfl : i = m := by omega
    have hb := st_bounds l i
    simp only [bollardref05_Runs.l0]
    rw [if_neg (by omega)]
    unfold strs
    split
    · rw [if_pos (by rw [List.length_map]; omega)]; simp
    · rfl
  | succ d ih =>
    intro k i hi hk
    obtain ⟨k, rfl⟩ : ∃ j, k = j + 1 := ⟨k - 1, by omega⟩
    have hb := st_bounds l i
    have hI : wrap64 ((i : Int) + 1) = ((i + 1 : Nat) : Int) := by rw [w_small _ (by omega) (by omega)]; omega
    have ih' := ih k (i + 1) (by omega) (by omega)
    simp only [bollardref05_Runs.l0]
    rw [if_pos (by omega), has_ref h i (by omega), Option.bind_some, hI]
    cases hh : has l i with
    | true =>
      rw [if_pos rfl]
      by_cases hz : (st l i).2.2 > 0
      · rw [if_pos hz, if_pos (by rw [List.length_map]; omega)]
        rw [st_set l hh hz] at ih'
        simpa using ih'
      · rw [if_neg hz]
        rw [st_set0 l hh (by omega)] at ih'
        exact ih'
    | false =>
      rw [if_neg (by simp), w_small _ (by omega) (by omega)]
      by_cases hz : (st l i).2.2 = 0
      · rw [st_un0 l hh hz] at ih'
        rw [hz]
        exact ih'
      · rw [st_un l hh hz] at ih'
        exact ih'

open Go.Proofs.Ytpfiladhmcdjlaa.St in
theorem best_snoc (ys : List (Int × Int)) (x : Int × Int) : bestOf (ys ++ [x]) = if x.2 > (bestOf ys).2 then x else bestOf ys := by
  unfold bestOf; rw [List.foldl_append]; rfl

open Go.Proofs.Ytpfiladhmcdjlaa.St in
theorem best_nn (ys : List (Int × Int)) : 0 ≤ (bestOf ys).2 := by
  have : ∀ (ys : List (Int × Int)) (b : Int × Int), 0 ≤ b.2 → 0 ≤ (ys.foldl (fun b x => if x.2 > b.2 then x else b) b).2 := by
    intro ys
    induction ys with
    | nil => intro b hb; exact hb
    | cons y ys ih =>
      intro b hb
      rw [List.foldl_cons]
      refine ih _ ?_
      split <;> omega
  exact this ys (0, 0) (by simp)

open Go.Proofs.Ytpfiladhmcdjlaa.St in
theorem best_strs (l : List Int) (m : Nat) : bestOf (strs l m) = bestOf ((st l m).1 ++ [(st l m).2]) := by
  unfold strs
  split
  · rfl
  · rw [best_snoc, if_neg (by have := best_nn (st l m).1; omega)]

open Go.Proofs.Ytpfiladhmcdjlaa.St in
theorem st_at (l : List Int) : ∀ k : Nat, 0 < (st l k).2.2 → (st l k).2.1 + (st l k).2.2 = k
  | 0 => by simp [st]
  | k + 1 => by
    intro hz
    have ih := st_at l k
    have hb := st_bounds l k
    cases hh : has l k with
    | true =>
      exfalso
      by_cases hz0 : (st l k).2.2 > 0
      · rw [st_set l hh hz0] at hz; simp at hz
      · rw [st_set0 l hh (by omega)] at hz; simp at hz
    | false =>
      by_cases hz0 : (st l k).2.2 = 0
      · rw [st_un0 l hh hz0]; simp
      · rw [st_un l hh hz0]
        have := ih (by omega)
        simp only
        omega

open Go.Proofs.Ytpfiladhmcdjlaa.St in
theorem ref_longest {l : List Int} (h : ∀ x ∈ l, (Lit.int .u8 x).wf = true) (m : Nat) (hm : m ≤ 65536) : ∀ (d k i : Nat), i + d = m → d < k →
    bollardref05_Longest.l0 k l (bestOf ((st l i).1 ++ [(st l i).2])).1 (bestOf ((st l i).1 ++ [(st l i).2])).2 (st l i).2.2 (m : Int) (i : Int) = some (bestOf (strs l m)) := by
  intro d
  induction d with
  | zero =>
    intro k i hi hk
    obtain ⟨k, rfl⟩ : ∃ j, k = j + 1 := ⟨k - 1, by omega⟩
    obtain rfl : i = m := by omega
    simp only [bollardref05_Longest.l0]
    rw [if_neg (by omega), best_strs]
  | succ d ih =>
    intro k i hi hk
    obtain ⟨k, rfl⟩ : ∃ j, k = j + 1 := ⟨k - 1, by omega⟩
    have hb := st_bounds l i
    have hI : wrap64 ((i : Int) + 1) = ((i + 1 : Nat) : Int) := by rw [w_small _ (by omega) (by omega)]; omega
    have ih' := ih k (i + 1) (by omega) (by omega)
    have hn := best_nn (st l i).1
    simp only [bollardref05_Longest.l0]
    rw [if_pos (by omega), has_ref h i (by omega), Option.bind_some, hI]
    cases hh : has l i with
    | true =>
      rw [if_pos rfl]
      by_cases hz : (st l i).2.2 > 0
      · rw [st_set l hh hz, best_snoc] at ih'
        simp only at ih'
        rw [if_neg (by have := best_nn ((st l i).1 ++ [((st l i).2.1, (st l i).2.2)]); omega)] at ih'
        exact ih'
      · rw [st_set0 l hh (by omega), best_snoc] at ih'
        simp only at ih'
        rw [if_neg (by omega)] at ih'
        rw [best_snoc, if_neg (by omega)]
        exact ih'
    | false =>
      rw [if_neg (by simp), w_small ((st l i).2.2 + 1) (by omega) (by omega)]
      have e2 : wrap64 (wrap64 ((i : Int) - ((st l i).2.2 + 1)) + 1) = (i : Int) - (st l i).2.2 := by
        rw [w_small ((i : Int) - ((st l i).2.2 + 1)) (by omega) (by omega), w_small _ (by omega) (by omega)]; omega
      rw [e2]
      have e3 : st l (i + 1) = ((st l i).1, (i : Int) - (st l i).2.2, (st l i).2.2 + 1) := by
        by_cases hz : (st l i).2.2 = 0
        · rw [st_un0 l hh hz, hz]; simp
        · rw [st_un l hh hz]
          have := st_at l i (by omega)
          have e4 : (st l i).2.1 = (i : Int) - (st l i).2.2 := by omega
          rw [e4]
      rw [e3] at ih'
      simp only at ih'
      rw [best_snoc] at ih'
      simp only at ih'
      rw [best_snoc]
      by_cases h1 : (st l i).2.2 > (bestOf (st l i).1).2
      · rw [if_pos h1]
        rw [if_pos (by omega)]
        rw [if_pos (by omega)] at ih'
        exact ih'
      · rw [if_neg h1]
        by_cases h2 : (st l i).2.2 + 1 > (bestOf (st l i).1).2
        · rw [if_pos h2]
          rw [if_pos h2] at ih'
          exact ih'
        · rw [if_neg h2]
          rw [if_neg h2] at ih'
          exact ih'

open Go.Proofs.Ytpfiladhmcdjlaa.St in
theorem BitsRuns : bollardlaw05_BitsRuns.Pure := by
  intro l n _ _ hwf _
  obtain ⟨m, hm, _, he⟩ := many_ok n
  have hm' : (mx 0 (mn n 65536)).toNat = m := by omega
  have hlen : (strs l m).length ≤ 65537 := by
    have := st_bounds l m
    unfold strs
    split
    · rw [List.length_append, List.length_singleton]; omega
    · omega
  refine ⟨70000, ?_⟩
  have r1 := ref_longest hwf m hm m 70000 0 (by omega) (by omega)
  have r2 := ref_runs hwf m hm m 70000 0 (by omega) (by omega)
  have e1 : bollardref05_Longest.f 70000 l n = some (bestOf (strs l m)) := by
    unfold bollardref05_Longest.f bollardref05_first.f
    rw [Option.bind_some, ← he]
    exact r1
  have e2 : bollardref05_Runs.f 70000 l n = some ((strs l m).map Prod.snd) := by
    unfold bollardref05_Runs.f bollardref05_first.f
    rw [Option.bind_some, ← he]
    exact r2
  unfold bollardlaw05_BitsRuns.f
  rw [e1, e2]
  unfold bits_Longest.f bits_Runs.f
  rw [hm']
  simp only [Option.bind_some]
  rw [if_pos trivial, if_pos trivial]
  rw [eqi_f _ (by rw [List.length_map]; omega) _ (by rw [List.length_map]; omega)]
  rfl

end Go.Proofs.Ytpfiladhmcdjlaa.Pure
