/- BitsAll: for every row of bytes and every n: each stretch that bits.Runs tells is at least one bit long, all of them are as many bits as are not set among the first n, and the longest of them is as long as bits.Longest tells. Conditions: none beyond those of the row. -/
import Derived.Test.YtpfiladhmcdjlaaXBitsAllx0
import Derived.Test.YtpfiladhmcdjlaaXBitsAllx1
import Derived.Test.YtpfiladhmcdjlaaXHsx
import Derived.Test.YtpfiladhmcdjlaaSu
namespace Go.Proofs.Ytpfiladhmcdjlaa.Pure
open Go.RowKit Go.Proofs.Ytpfiladhmcdjlaa.XBitsAll Go.Proofs.YtpfiladhmcdjlaaW.PrintWords Go.Proofs.YtpfiladhmcdjlaaW.PrintLast
set_option linter.unusedVariables false
set_option linter.unusedSimpArgs false

theorem has_xh {l : List Int} (i : Nat) (hi : i < 65536) : Go.Proofs.Ytpfiladhmcdjlaa.XBitsAll.bits_Has.f l i = some (Go.Proofs.Ytpfiladhmcdjlaa.St.has l i) :=
  Go.Proofs.Ytpfiladhmcdjlaa.St.has_ok l i hi

def cnt (l : List Int) : Nat → Int
  | 0 => 0
  | k + 1 => if Go.Proofs.Ytpfiladhmcdjlaa.St.has l k then cnt l k + 1 else cnt l k

theorem cnt_b (l : List Int) : ∀ k : Nat, 0 ≤ cnt l k ∧ cnt l k ≤ k
  | 0 => by simp [cnt]
  | k + 1 => by
    have := cnt_b l k
    unfold cnt
    split <;> omega

theorem count_l (l : List Int) (m : Nat) (hm : m ≤ 65536) : ∀ (d k i : Nat), i + d = m → d < k → bits_Count.l0 k l (cnt l i) (m : Int) (i : Int) = some (cnt l m) := by
  intro d
  induction d with
  | zero =>
    intro k i hi hk
    obtain ⟨k, rfl⟩ : ∃ j, k = j + 1 := ⟨k - 1, by omega⟩
    obtain rfl : i = m := by omega
    simp only [bits_Count.l0]
    rw [if_neg (by omega)]
  | succ d ih =>
    intro k i hi hk
    obtain ⟨k, rfl⟩ : ∃ j, k = j + 1 := ⟨k - 1, by omega⟩
    have hb := cnt_b l i
    have hI : wrap64 ((i : Int) + 1) = ((i + 1 : Nat) : Int) := by rw [Go.Proofs.Ytpfiladhmcdjlaa.St.w_small _ (by omega) (by omega)]; omega
    have ih' := ih k (i + 1) (by omega) (by omega)
    simp only [bits_Count.l0]
    rw [if_pos (by omega), has_xh i (by omega), Option.bind_some, hI]
    have ec : cnt l (i + 1) = if Go.Proofs.Ytpfiladhmcdjlaa.St.has l i then cnt l i + 1 else cnt l i := rfl
    rw [ec] at ih'
    cases hh : Go.Proofs.Ytpfiladhmcdjlaa.St.has l i with
    | true =>
      rw [hh, if_pos rfl] at ih'
      rw [if_pos rfl, Go.Proofs.Ytpfiladhmcdjlaa.St.w_small _ (by omega) (by omega)]
      exact ih'
    | false =>
      rw [hh, if_neg (by simp)] at ih'
      rw [if_neg (by simp)]
      exact ih'

def sumOf (ys : List (Int × Int)) : Int := ys.foldl (fun s x => s + x.2) 0
theorem sum_snoc (ys : List (Int × Int)) (x : Int × Int) : sumOf (ys ++ [x]) = sumOf ys + x.2 := by
  unfold sumOf; rw [List.foldl_append]; rfl

open Go.Proofs.Ytpfiladhmcdjlaa.St in
theorem st_sum (l : List Int) : ∀ k : Nat, sumOf (st l k).1 + (st l k).2.2 + cnt l k = k ∧ ∀ x ∈ (st l k).1, 1 ≤ x.2
  | 0 => by simp [st, sumOf, cnt]
  | k + 1 => by
    obtain ⟨h1, h2⟩ := st_sum l k
    have hb := st_bounds l k
    unfold cnt
    cases hh : has l k with
    | true =>
      rw [if_pos rfl]
      by_cases hz : (st l k).2.2 > 0
      · rw [st_set l hh hz]
        simp only
        rw [sum_snoc]
        refine ⟨by simp only; omega, fun x hx => ?_⟩
        rcases List.mem_append.1 hx with hx | hx
        · exact h2 x hx
        · rw [List.mem_singleton.1 hx]
          simp only
          omega
      · rw [st_set0 l hh (by omega)]
        exact ⟨by simp only; omega, h2⟩
    | false =>
      rw [if_neg (by simp)]
      by_cases hz : (st l k).2.2 = 0
      · rw [st_un0 l hh hz]
        exact ⟨by simp only; omega, h2⟩
      · rw [st_un l hh hz]
        exact ⟨by simp only; omega, h2⟩

open Go.Proofs.Ytpfiladhmcdjlaa.St in
theorem strs_sum (l : List Int) (m : Nat) : sumOf (strs l m) + cnt l m = m ∧ (∀ x ∈ strs l m, 1 ≤ x.2) ∧ (strs l m).length ≤ m + 1 := by
  obtain ⟨h1, h2⟩ := st_sum l m
  have hb := st_bounds l m
  unfold strs
  split
  · rw [sum_snoc]
    refine ⟨by simp only; omega, fun x hx => ?_, by rw [List.length_append, List.length_singleton]; omega⟩
    rcases List.mem_append.1 hx with hx | hx
    · exact h2 x hx
    · rw [List.mem_singleton.1 hx]
      simp only
      omega
  · exact ⟨by omega, h2, by omega⟩

theorem sum_take (ys : List (Int × Int)) (h : ∀ x ∈ ys, 1 ≤ x.2) : ∀ i : Nat, i ≤ ys.length → 0 ≤ sumOf (ys.take i) ∧ sumOf (ys.take i) ≤ sumOf ys := by
  intro i hi
  have hnn : ∀ (zs : List (Int × Int)) (s : Int), (∀ x ∈ zs, 1 ≤ x.2) → s ≤ zs.foldl (fun s x => s + x.2) s := by
    intro zs
    induction zs with
    | nil => intro s _; exact Int.le_refl _
    | cons z zs ih =>
      intro s hz
      rw [List.foldl_cons]
      have := ih (s + z.2) (fun x hx => hz x (List.mem_cons_of_mem _ hx))
      have := hz z List.mem_cons_self
      omega
  have e : ys = ys.take i ++ ys.drop i := (List.take_append_drop i ys).symm
  refine ⟨hnn _ 0 (fun x hx => h x (List.mem_of_mem_take hx)), ?_⟩
  conv => rhs; rw [e]
  unfold sumOf
  rw [List.foldl_append]
  exact hnn _ _ (fun x hx => h x (List.mem_of_mem_drop hx))

open Go.Proofs.Ytpfiladhmcdjlaa.St in
theorem best_snoc (ys : List (Int × Int)) (x : Int × Int) : bestOf (ys ++ [x]) = if x.2 > (bestOf ys).2 then x else bestOf ys := by
  unfold bestOf; rw [List.foldl_append]; rfl

open Go.Proofs.Ytpfiladhmcdjlaa.St in
theorem all_l (l : List Int) (n : Int) (m : Nat) (hm : m ≤ 65536) (he : (m : Int) = mx 0 (mn n 65536)) : ∀ (d k i : Nat), i + d = (strs l m).length → d + 65538 < k →
    bollardlaw05_BitsAll.l0 k l n (sumOf ((strs l m).take i)) (bestOf ((strs l m).take i)).2 ((strs l m).map Prod.snd) (((strs l m).map Prod.snd).length : Int) (i : Int) = some true := by
  obtain ⟨s1, s2, s3⟩ := strs_sum l m
  have hc := cnt_b l m
  have hm' : (mx 0 (mn n 65536)).toNat = m := by omega
  intro d
  induction d with
  | zero =>
    intro k i hi hk
    obtain ⟨k, rfl⟩ : ∃ j, k = j + 1 := ⟨k - 1, by omega⟩
    simp only [bollardlaw05_BitsAll.l0]
    rw [if_neg (by rw [List.length_map]; omega), List.take_of_length_le (by omega)]
    unfold bits_Longest.f bits_Count.f bits_many.f
    rw [hm', Option.bind_some, Option.bind_some, ← he]
    have := count_l l m hm m k 0 (by omega) (by omega)
    rw [show bits_Count.l0 k l 0 (m : Int) 0 = some (cnt l m) from this, Option.bind_some, if_pos (by rw [w_small _ (by omega) (by omega)]; omega)]
    simp
  | succ d ih =>
    intro k i hi hk
    obtain ⟨k, rfl⟩ : ∃ j, k = j + 1 := ⟨k - 1, by omega⟩
    have hlt : i < (strs l m).length := by omega
    have ih' := ih k (i + 1) (by omega) (by omega)
    have hI : wrap64 ((i : Int) + 1) = ((i + 1 : Nat) : Int) := by rw [w_small _ (by omega) (by omega)]; omega
    have hrd : rd ((strs l m).map Prod.snd) (i : Int) = (strs l m)[i].2 := by
      unfold rd
      rw [List.getD_eq_getElem?_getD, show ((i : Int)).toNat = i by omega, List.getElem?_map, List.getElem?_eq_getElem hlt]
      rfl
    have h1 := s2 _ (List.getElem_mem hlt)
    have htk : (strs l m).take (i + 1) = (strs l m).take i ++ [(strs l m)[i]] := by rw [List.take_succ_eq_append_getElem hlt]
    obtain ⟨t1, t2⟩ := sum_take _ s2 i (by omega)
    obtain ⟨t3, t4⟩ := sum_take _ s2 (i + 1) (by omega)
    rw [htk, sum_snoc] at t3 t4
    rw [htk, sum_snoc, best_snoc] at ih'
    simp only [bollardlaw05_BitsAll.l0]
    rw [hrd, if_pos (by rw [List.length_map]; omega), if_pos (by omega), if_pos (by rw [List.length_map]; omega), if_neg (by omega), hI, w_small _ (by omega) (by omega)]
    have hmx : mx (bestOf ((strs l m).take i)).2 (strs l m)[i].2 = (if (strs l m)[i].2 > (bestOf ((strs l m).take i)).2 then (strs l m)[i] else bestOf ((strs l m).take i)).2 := by
      unfold mx
      by_cases hg : (strs l m)[i].2 > (bestOf ((strs l m).take i)).2
      · rw [if_pos hg, if_pos (by omega)]
      · rw [if_neg hg, if_neg (by omega)]
    rw [hmx]
    exact ih'

open Go.Proofs.Ytpfiladhmcdjlaa.St in
theorem BitsAll : bollardlaw05_BitsAll.Pure := by
  intro l n _ _ _ _
  obtain ⟨m, hm, _, he⟩ := many_ok n
  have hm' : (mx 0 (mn n 65536)).toNat = m := by omega
  obtain ⟨s1, s2, s3⟩ := strs_sum l m
  refine ⟨200000, ?_⟩
  unfold bollardlaw05_BitsAll.f bits_Runs.f
  rw [hm', Option.bind_some]
  have := all_l l n m hm he (strs l m).length 200000 0 (by omega) (by omega)
  exact this

end Go.Proofs.Ytpfiladhmcdjlaa.Pure
