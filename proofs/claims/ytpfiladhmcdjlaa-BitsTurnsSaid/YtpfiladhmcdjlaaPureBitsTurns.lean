/- BitsTurns: for every row of bytes, number i and bool on: with one bit turned by bits.With just that bit has turned, and bits.Apart tells at most one place. Conditions: none beyond those of the row. -/
import Derived.Test.YtpfiladhmcdjlaaXBitsTurnsx0
import Derived.Test.YtpfiladhmcdjlaaXBitsTurnsx1
import Derived.Test.YtpfiladhmcdjlaaXBitsTurnsx2
namespace Go.Proofs.Ytpfiladhmcdjlaa.Pure
open Go.RowKit Go.Proofs.Ytpfiladhmcdjlaa.XBitsTurns Go.Proofs.YtpfiladhmcdjlaaW.PrintWords Go.Proofs.YtpfiladhmcdjlaaW.PrintLast
set_option linter.unusedVariables false
set_option linter.unusedSimpArgs false

theorem u8_bd {x : Int} (h : (Lit.int .u8 x).wf = true) : 0 ≤ x ∧ x ≤ 255 := by
  simp [Lit.wf, IntKind.min, IntKind.max, IntKind.bits, IntKind.signed] at h
  omega

theorem i64_bd {x : Int} (h : (Lit.int .i64 x).wf = true) : -9223372036854775808 ≤ x ∧ x ≤ 9223372036854775807 := by
  simp [Lit.wf, IntKind.min, IntKind.max, IntKind.bits, IntKind.signed] at h
  omega

theorem rd_u8 {l : List Int} (h : ∀ x ∈ l, (Lit.int .u8 x).wf = true) (i : Int) : 0 ≤ rd l i ∧ rd l i ≤ 255 := by
  unfold rd
  rw [List.getD_eq_getElem?_getD]
  by_cases hi : i.toNat < l.length
  · rw [List.getElem?_eq_getElem hi]
    exact u8_bd (h _ (List.getElem_mem hi))
  · rw [List.getElem?_eq_none (by omega)]
    simp

theorem rd_set (l : List Int) (i : Int) (v : Int) (h1 : i.toNat < l.length) : rd (l.set i.toNat v) i = v := by
  unfold rd
  rw [List.getD_eq_getElem?_getD, List.getElem?_set_self h1]
  rfl

theorem and_one {x : Int} (h0 : 0 ≤ x) (h1 : x ≤ 255) : Go.bits .and .u8 x 1 = Int.tmod x 2 := by
  rw [Int.tmod_eq_emod_of_nonneg h0]
  exact bits_mask .u8 8 (by decide) wraps_u8 1 (by decide) x h0 (by omega)

theorem shr_u8 {x : Int} (h0 : 0 ≤ x) (h1 : x ≤ 255) (y : Int) : 0 ≤ shr .u8 x y ∧ shr .u8 x y ≤ 255 := by
  unfold shr
  have hp : (0 : Int) < 2 ^ min y.toNat IntKind.u8.bits := Int.pow_pos (by omega)
  refine ⟨Int.ediv_nonneg h0 (by omega), ?_⟩
  exact Int.le_trans (Int.ediv_le_self _ h0) h1

/-- The bit of a place, as bits.Has tells it where the place lies in the row. -/
def bitAt (l : List Int) (i : Int) : Bool := Go.bits .and .u8 (shr .u8 (rd l (i / 8)) (i % 8)) 1 == 1

theorem has_f (l : List Int) (i : Int) (hi : i < 9223372036854775808) : bits_Has.f l i = some (decide (0 ≤ i) && decide (i / 8 < (l.length : Int)) && bitAt l i) := by
  unfold bits_Has.f bitAt
  by_cases h0 : i ≥ 0
  · have e : wrap64 (Int.tdiv i 8) = i / 8 := by rw [Int.tdiv_eq_ediv_of_nonneg h0]; unfold wrap64; omega
    have e' : Int.tmod i 8 = i % 8 := Int.tmod_eq_emod_of_nonneg h0
    rw [if_pos h0, e, e', if_pos (show 0 ≤ i / 8 by omega), if_pos (show 0 ≤ i % 8 by omega)]
    have h0' : 0 ≤ i := h0
    by_cases h1 : i / 8 < (l.length : Int)
    · rw [if_pos h1]; simp [h0', h1]
    · rw [if_neg h1]; simp [h1]
  · rw [if_neg h0]
    have h0' : ¬ 0 ≤ i := h0
    simp [h0']

theorem turn_fin : ∀ (x : Fin 256) (s t : Fin 8) (on : Bool),
    (Go.bits .and .u8 (shr .u8 (if on = true then Go.bits .or .u8 (Go.bits .andNot .u8 (x.val : Int) (shl .u8 1 (s.val : Int))) (shl .u8 1 (s.val : Int)) else Go.bits .andNot .u8 (x.val : Int) (shl .u8 1 (s.val : Int))) (t.val : Int)) 1 == 1)
      = (if s = t then on else (Go.bits .and .u8 (shr .u8 (x.val : Int) (t.val : Int)) 1 == 1)) := by
  decide +kernel

/-- A byte with a bit turned: that bit is as told, the others stay. -/
theorem turn_bit {x s t : Int} (h0 : 0 ≤ x) (h1 : x ≤ 255) (h2 : 0 ≤ s) (h3 : s < 8) (h4 : 0 ≤ t) (h5 : t < 8) (on : Bool) :
    (Go.bits .and .u8 (shr .u8 (if on = true then Go.bits .or .u8 (Go.bits .andNot .u8 x (shl .u8 1 s)) (shl .u8 1 s) else Go.bits .andNot .u8 x (shl .u8 1 s)) t) 1 == 1)
      = (if s = t then on else (Go.bits .and .u8 (shr .u8 x t) 1 == 1)) := by
  obtain ⟨n, rfl⟩ := Int.eq_ofNat_of_zero_le h0
  obtain ⟨m, rfl⟩ := Int.eq_ofNat_of_zero_le h2
  obtain ⟨q, rfl⟩ := Int.eq_ofNat_of_zero_le h4
  have h := turn_fin ⟨n, by omega⟩ ⟨m, by omega⟩ ⟨q, by omega⟩ on
  have e : ((⟨m, by omega⟩ : Fin 8) = ⟨q, by omega⟩) ↔ ((m : Int) = (q : Int)) := by simp; omega
  simp only [e] at h
  exact h

theorem rd_set_ne (l : List Int) (i j : Int) (v : Int) (hi : 0 ≤ i) (hj : 0 ≤ j) (h : i ≠ j) : rd (l.set i.toNat v) j = rd l j := by
  unfold rd
  rw [List.getD_eq_getElem?_getD, List.getD_eq_getElem?_getD, List.getElem?_set_ne (by omega)]

/-- The row with a bit turned, and each of its bits. -/
theorem with_f {l : List Int} (h : ∀ x ∈ l, (Lit.int .u8 x).wf = true) (hl : l.length ≤ 140737488351232) (i : Int) (h0 : 0 ≤ i) (hi : i / 8 < (l.length : Int)) (on : Bool) (k : Nat) :
    ∃ x, bits_With.f (k + 1) l i on = some (x, 0) ∧ x.length = l.length ∧ ∀ j, 0 ≤ j → j / 8 < (l.length : Int) → bitAt x j = if j = i then on else bitAt l j := by
  unfold bits_With.f
  simp only [bits_With.j0]
  have e : wrap64 (Int.tdiv i 8) = i / 8 := by rw [Int.tdiv_eq_ediv_of_nonneg (by omega)]; unfold wrap64; omega
  have e' : Int.tmod i 8 = i % 8 := Int.tmod_eq_emod_of_nonneg (by omega)
  have hn : (i / 8).toNat < l.length := by omega
  have h8 : 0 ≤ i / 8 := by omega
  have hm : 0 ≤ i % 8 := by omega
  have hge : ¬ i / 8 ≥ (l.length : Int) := by omega
  obtain ⟨x0, x1⟩ := rd_u8 h (i / 8)
  rw [if_neg (by omega), e, e']
  simp only [decide_eq_false hge, Bool.false_eq_true, if_false, List.length_nil, List.nil_append]
  rw [if_pos (show 0 + l.length < 140737488355328 by omega)]
  simp only [Option.bind_some]
  rw [if_pos h8, if_pos hi, if_pos hm]
  simp only [Option.bind_some, List.set_set, rd_set l (i / 8) _ hn]
  refine ⟨l.set (i / 8).toNat (if on = true then Go.bits .or .u8 (Go.bits .andNot .u8 (rd l (i / 8)) (shl .u8 1 (i % 8))) (shl .u8 1 (i % 8)) else Go.bits .andNot .u8 (rd l (i / 8)) (shl .u8 1 (i % 8))), ?_, by simp, ?_⟩
  · cases on <;> rfl
  · intro j hj hjl
    unfold bitAt
    by_cases hq : j / 8 = i / 8
    · rw [hq, rd_set l (i / 8) _ hn]
      have hb := turn_bit x0 x1 hm (show i % 8 < 8 by omega) (show 0 ≤ j % 8 by omega) (show j % 8 < 8 by omega) on
      rw [hb]
      by_cases hji : j = i
      · rw [if_pos (by rw [hji]), if_pos hji]
      · rw [if_neg (by omega), if_neg hji]
    · rw [rd_set_ne l (i / 8) (j / 8) _ h8 (by omega) (by omega), if_neg (by intro hji; exact hq (by rw [hji]))]

theorem has_in (l : List Int) (i : Int) (h0 : 0 ≤ i) (hi : i / 8 < (l.length : Int)) (hl : l.length ≤ 140737488351232) : bits_Has.f l i = some (bitAt l i) := by
  rw [has_f l i (by omega)]
  simp [h0, hi]

/-- Two rows that part in one bit at most part in one place at most. -/
theorem apart_one (x l : List Int) (i : Int) (n : Int) (hn0 : n ≤ 1600) (hx : x.length = l.length) (hnl : n = 8 * (l.length : Int)) (hs : ∀ j, 0 ≤ j → j / 8 < (l.length : Int) → j ≠ i → bitAt x j = bitAt l j) (d : Nat) :
    ∀ (k : Nat) (o : List Int) (j : Int), 0 ≤ j → n - j ≤ d → d < k → o.length ≤ 2 → (i < j ∨ o = []) → (o.length ≤ 1) →
    ∃ r, bits_Apart.l0 k x l o n j = some r ∧ r.length ≤ 1 := by
  induction d with
  | zero =>
    intro k o j h0 hd hk ho hq hr
    obtain ⟨k, rfl⟩ : ∃ m, k = m + 1 := ⟨k - 1, by omega⟩
    refine ⟨o, ?_, hr⟩
    simp only [bits_Apart.l0]; rw [if_neg (by omega)]
  | succ d ih =>
    intro k o j h0 hd hk ho hq hr
    obtain ⟨k, rfl⟩ : ∃ m, k = m + 1 := ⟨k - 1, by omega⟩
    by_cases hlt : j < n
    · have hjl : j / 8 < (l.length : Int) := by omega
      have hw : wrap64 (j + 1) = j + 1 := by unfold wrap64; omega
      simp only [bits_Apart.l0]
      rw [if_pos hlt, has_in x j h0 (by rw [hx]; exact hjl) (by omega), has_in l j h0 hjl (by omega), hw]
      simp only [Option.bind_some]
      by_cases hji : j = i
      · have hoe : o = [] := by rcases hq with hq | hq; · omega
                                · exact hq
        subst hoe
        split
        · rw [if_pos (by simp)]
          exact ih k _ (j + 1) (by omega) (by omega) (by omega) (by simp) (.inl (by omega)) (by simp)
        · exact ih k _ (j + 1) (by omega) (by omega) (by omega) (by simp) (.inr rfl) (by simp)
      · rw [hs j h0 hjl hji]
        simp only [bne_self_eq_false, Bool.false_eq_true, if_false]
        exact ih k o (j + 1) (by omega) (by omega) (by omega) ho (by rcases hq with hq | hq; · exact .inl (by omega)
                                                                     · exact .inr hq) hr
    · refine ⟨o, ?_, hr⟩
      simp only [bits_Apart.l0]; rw [if_neg hlt]

/-- The loop of the law: each other bit stays. -/
theorem turns_loop (x l : List Int) (i n : Int) (hn0 : n ≤ 1600) (hx : x.length = l.length) (hnl : n = 8 * (l.length : Int)) (hs : ∀ j, 0 ≤ j → j / 8 < (l.length : Int) → j ≠ i → bitAt x j = bitAt l j) (d : Nat) :
    ∀ (k : Nat) (j : Int), 0 ≤ j → n - j ≤ d → d + 1700 < k → bollardlaw05_BitsTurns.l0 k l i x n j = some true := by
  have fin : ∀ k : Nat, 1700 ≤ k → ((bits_Apart.f k x l (wrap64 (8 * (l.length : Int)))).bind fun t124 => (some (decide ((t124.length : Int) ≤ 1)))) = some true := by
    intro k hk
    have hw : wrap64 (8 * (l.length : Int)) = n := by rw [hnl]; unfold wrap64; omega
    obtain ⟨r, hr, hr1⟩ := apart_one x l i n hn0 hx hnl hs 1600 k [] 0 (by omega) (by omega) (by omega) (by simp) (.inr rfl) (by simp)
    rw [hw]
    unfold bits_Apart.f bits_many.f
    have hm : mx 0 (mn n 65536) = n := by unfold mx mn; (repeat' split) <;> omega
    rw [hm]
    simp only [Option.bind_some]
    rw [hr]
    simp only [Option.bind_some]
    rw [decide_eq_true (by omega)]
  induction d with
  | zero =>
    intro k j h0 hd hk
    obtain ⟨k, rfl⟩ : ∃ m, k = m + 1 := ⟨k - 1, by omega⟩
    simp only [bollardlaw05_BitsTurns.l0]; rw [if_neg (by omega)]
    exact fin k (by omega)
  | succ d ih =>
    intro k j h0 hd hk
    obtain ⟨k, rfl⟩ : ∃ m, k = m + 1 := ⟨k - 1, by omega⟩
    simp only [bollardlaw05_BitsTurns.l0]
    by_cases hlt : j < n
    · have hjl : j / 8 < (l.length : Int) := by omega
      have hw : wrap64 (j + 1) = j + 1 := by unfold wrap64; omega
      rw [if_pos hlt, hw]
      by_cases hji : j = i
      · rw [if_pos hji]
        exact ih k (j + 1) (by omega) (by omega) (by omega)
      · rw [if_neg hji, has_in x j h0 (by rw [hx]; exact hjl) (by omega), has_in l j h0 hjl (by omega), hs j h0 hjl hji]
        simp only [Option.bind_some, bne_self_eq_false, Bool.false_eq_true, if_false]
        exact ih k (j + 1) (by omega) (by omega) (by omega)
    · rw [if_neg hlt]
      exact fin k (by omega)

theorem BitsTurns : bollardlaw05_BitsTurns.Pure := by
  intro l a on _ hl h ha
  have hb := i64_bd ha
  refine ⟨4000, ?_⟩
  unfold bollardlaw05_BitsTurns.f
  by_cases hz : (l.length : Int) = 0
  · rw [if_pos hz]
    have : l = [] := List.eq_nil_of_length_eq_zero (by omega)
    subst this
    decide +kernel
  · rw [if_neg hz]
    have hm0 : 1 ≤ mn (l.length : Int) 200 ∧ mn (l.length : Int) 200 ≤ 200 ∧ mn (l.length : Int) 200 ≤ (l.length : Int) := by
      unfold mn; split <;> omega
    generalize hmn : mn (l.length : Int) 200 = m at hm0 ⊢
    obtain ⟨m1, m2, m3⟩ := hm0
    generalize hq : l.take (m : Int).toNat = q
    have hql : (q.length : Int) = m := by rw [← hq]; simp; omega
    have hqw : ∀ x ∈ q, (Lit.int .u8 x).wf = true := by intro x hx; rw [← hq] at hx; exact h x (List.mem_of_mem_take hx)
    have hw8 : wrap64 (8 * (q.length : Int)) = 8 * (q.length : Int) := by unfold wrap64; omega
    have hu : ∀ x : Int, IntKind.u64.wrap x = x % 18446744073709551616 := by intro x; simp [IntKind.wrap, IntKind.bits, IntKind.signed]
    rw [if_pos (by omega), if_pos m3, hw8, hu, hu]
    have hu8 : (8 * (q.length : Int)) % 18446744073709551616 = 8 * (q.length : Int) := by omega
    rw [hu8, if_neg (by omega)]
    have ht : Int.tmod (a % 18446744073709551616) (8 * (q.length : Int)) = (a % 18446744073709551616) % (8 * (q.length : Int)) := Int.tmod_eq_emod_of_nonneg (by omega)
    have hp : 0 < 8 * (q.length : Int) := by omega
    have t0 := Int.emod_nonneg (a % 18446744073709551616) (show 8 * (q.length : Int) ≠ 0 by omega)
    have t1 := Int.emod_lt_of_pos (a % 18446744073709551616) hp
    rw [ht]
    generalize (a % 18446744073709551616) % (8 * (q.length : Int)) = i at t0 t1 ⊢
    have hwi : wrap64 i = i := by unfold wrap64; omega
    rw [hwi]
    obtain ⟨x, hx, hxl, hxb⟩ := with_f hqw (by omega) i t0 (by omega) on 3999
    rw [hx]
    simp only [Option.bind_some]
    rw [if_pos trivial, if_pos (by rw [hxl]), has_in x i t0 (by omega) (by omega), hxb i t0 (by omega), if_pos rfl]
    simp only [Option.bind_some, bne_self_eq_false]
    simp only [bollardlaw05_BitsTurns.j0, Bool.false_eq_true, if_false]
    rw [hw8]
    exact turns_loop x q i _ (by omega) hxl rfl (fun j j0 j1 j2 => by rw [hxb j j0 j1, if_neg j2]) 1600 3999 0 (by omega) (by omega) (by omega)

end Go.Proofs.Ytpfiladhmcdjlaa.Pure
