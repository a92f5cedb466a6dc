/- BitsBits: for every row of bytes, number i and bool on: whether bit i is set (bits.Has) and the row with that bit set or cleared (bits.With) are the reference's, and the row that was handed in stays. Conditions: none beyond those of the row. -/
import Derived.Test.YtpfiladhmcdjlaaXBitsBitsx0
import Derived.Test.YtpfiladhmcdjlaaXBitsBitsx1
import Derived.Test.YtpfiladhmcdjlaaXBitsBitsx2
namespace Go.Proofs.Ytpfiladhmcdjlaa.Pure
open Go.RowKit Go.Proofs.Ytpfiladhmcdjlaa.XBitsBits Go.Proofs.YtpfiladhmcdjlaaW.PrintWords Go.Proofs.YtpfiladhmcdjlaaW.PrintLast
set_option linter.unusedVariables false
set_option linter.unusedSimpArgs false

theorem u8_bd {x : Int} (h : (Lit.int .u8 x).wf = true) : 0 ≤ x ∧ x ≤ 255 := by
  simp [Lit.wf, IntKind.min, IntKind.max, IntKind.bits, IntKind.signed] at h
  omega

theorem i64_bd {x : Int} (h : (Lit.int .i64 x).wf = true) : -9223372036854775808 ≤ x ∧ x ≤ 9223372036854775807 := by
  simp [Lit.wf, IntKind.min, IntKind.max, IntKind.bits, IntKind.signed] at h
  omega

theorem rd_u8 {l : List Int} (h : ∀ x ∈ l, (Lit.int .u8 x).wf = true) (i : Int) : 0 ≤ rd l i ∧ rd l i ≤ 255 := by
  unfold rd
  rw [List.getD_eq_getElem?_getD]
  by_cases hi : i.toNat < l.length
  · rw [List.getElem?_eq_getElem hi]
    exact u8_bd (h _ (List.getElem_mem hi))
  · rw [List.getElem?_eq_none (by omega)]
    simp

theorem rd_set (l : List Int) (i : Int) (v : Int) (h1 : i.toNat < l.length) : rd (l.set i.toNat v) i = v := by
  unfold rd
  rw [List.getD_eq_getElem?_getD, List.getElem?_set_self h1]
  rfl

theorem and_one {x : Int} (h0 : 0 ≤ x) (h1 : x ≤ 255) : Go.bits .and .u8 x 1 = Int.tmod x 2 := by
  rw [Int.tmod_eq_emod_of_nonneg h0]
  exact bits_mask .u8 8 (by decide) wraps_u8 1 (by decide) x h0 (by omega)

theorem shr_u8 {x : Int} (h0 : 0 ≤ x) (h1 : x ≤ 255) (y : Int) : 0 ≤ shr .u8 x y ∧ shr .u8 x y ≤ 255 := by
  unfold shr
  have hp : (0 : Int) < 2 ^ min y.toNat IntKind.u8.bits := Int.pow_pos (by omega)
  refine ⟨Int.ediv_nonneg h0 (by omega), ?_⟩
  exact Int.le_trans (Int.ediv_le_self _ h0) h1

/-- The bit of a place, as bits.Has tells it where the place lies in the row. -/
def bitAt (l : List Int) (i : Int) : Bool := Go.bits .and .u8 (shr .u8 (rd l (i / 8)) (i % 8)) 1 == 1

theorem has_f (l : List Int) (i : Int) (hi : i < 9223372036854775808) : bits_Has.f l i = some (decide (0 ≤ i) && decide (i / 8 < (l.length : Int)) && bitAt l i) := by
  unfold bits_Has.f bitAt
  by_cases h0 : i ≥ 0
  · have e : wrap64 (Int.tdiv i 8) = i / 8 := by rw [Int.tdiv_eq_ediv_of_nonneg h0]; unfold wrap64; omega
    have e' : Int.tmod i 8 = i % 8 := Int.tmod_eq_emod_of_nonneg h0
    rw [if_pos h0, e, e', if_pos (show 0 ≤ i / 8 by omega), if_pos (show 0 ≤ i % 8 by omega)]
    have h0' : 0 ≤ i := h0
    by_cases h1 : i / 8 < (l.length : Int)
    · rw [if_pos h1]; simp [h0', h1]
    · rw [if_neg h1]; simp [h1]
  · rw [if_neg h0]
    have h0' : ¬ 0 ≤ i := h0
    simp [h0']

/-- A bit is set, and the reference says the same. -/
theorem has_same {l : List Int} (h : ∀ x ∈ l, (Lit.int .u8 x).wf = true) (i : Int) : bits_Has.f l i = bollardref05_Has.f l i := by
  unfold bits_Has.f bollardref05_Has.f
  obtain ⟨a, b⟩ := rd_u8 h (wrap64 (Int.tdiv i 8))
  obtain ⟨c, d⟩ := shr_u8 a b (Int.tmod i 8)
  rw [and_one c d]

theorem bits_fin : ∀ (x : Fin 256) (s : Fin 8) (on : Bool),
    (if on = true then Go.bits .or .u8 (Go.bits .andNot .u8 (x.val : Int) (shl .u8 1 (s.val : Int))) (shl .u8 1 (s.val : Int)) else Go.bits .andNot .u8 (x.val : Int) (shl .u8 1 (s.val : Int)))
      = (if ((Int.tmod (shr .u8 (x.val : Int) (s.val : Int)) 2 == 1) != on) = true then Go.bits .xor .u8 (x.val : Int) (shl .u8 1 (s.val : Int)) else (x.val : Int)) := by
  decide +kernel

theorem bits_turn {x s : Int} (h0 : 0 ≤ x) (h1 : x ≤ 255) (h2 : 0 ≤ s) (h3 : s < 8) (on : Bool) :
    (if on = true then Go.bits .or .u8 (Go.bits .andNot .u8 x (shl .u8 1 s)) (shl .u8 1 s) else Go.bits .andNot .u8 x (shl .u8 1 s))
      = (if ((Int.tmod (shr .u8 x s) 2 == 1) != on) = true then Go.bits .xor .u8 x (shl .u8 1 s) else x) := by
  obtain ⟨n, rfl⟩ := Int.eq_ofNat_of_zero_le h0
  obtain ⟨m, rfl⟩ := Int.eq_ofNat_of_zero_le h2
  exact bits_fin ⟨n, by omega⟩ ⟨m, by omega⟩ on

theorem set_rd (l : List Int) (i : Int) (h : i.toNat < l.length) : l.set i.toNat (rd l i) = l := by
  unfold rd
  rw [List.getD_eq_getElem?_getD, List.getElem?_eq_getElem h]
  simp

/-- A row with a bit turned is the reference's. -/
theorem with_same {l : List Int} (h : ∀ x ∈ l, (Lit.int .u8 x).wf = true) (hl : l.length ≤ 140737488351232) (i : Int) (hi : (Lit.int .i64 i).wf = true) (on : Bool) (k : Nat) :
    ∃ r, bits_With.f (k + 1) l i on = some r ∧ bollardref05_With.f (k + 1) l i on = some r := by
  have hb := i64_bd hi
  unfold bits_With.f bollardref05_With.f
  simp only [bits_With.j0, bollardref05_With.j0]
  by_cases h0 : i < 0
  · rw [if_pos h0, if_pos h0, if_pos trivial, if_pos trivial]
    exact ⟨_, rfl, rfl⟩
  · rw [if_neg h0, if_neg h0]
    have e : wrap64 (Int.tdiv i 8) = i / 8 := by rw [Int.tdiv_eq_ediv_of_nonneg (by omega)]; unfold wrap64; omega
    have e' : Int.tmod i 8 = i % 8 := Int.tmod_eq_emod_of_nonneg (by omega)
    rw [e, e']
    by_cases h1 : i / 8 ≥ (l.length : Int)
    · simp only [decide_eq_true h1, if_true]
      exact ⟨_, rfl, rfl⟩
    · have hlt : i / 8 < (l.length : Int) := by omega
      have hn : (i / 8).toNat < l.length := by omega
      have h8 : 0 ≤ i / 8 := by omega
      have hm : 0 ≤ i % 8 := by omega
      have hr : bollardref05_Has.f l i = some (Int.tmod (shr .u8 (rd l (i / 8)) (i % 8)) 2 == 1) := by
        unfold bollardref05_Has.f
        rw [if_pos (by omega), e, e', if_pos hlt, if_pos h8, if_pos hm]
      obtain ⟨x0, x1⟩ := rd_u8 h (i / 8)
      have ht := bits_turn x0 x1 hm (show i % 8 < 8 by omega) on
      simp only [decide_eq_false h1, Bool.false_eq_true, if_false, List.length_nil, List.nil_append, Option.bind_some, hr]
      have hlim : 0 + l.length < 140737488355328 := by omega
      rw [if_pos hlim, if_pos hlim, if_pos h8, if_pos h8, if_pos hlt, if_pos hlt, if_pos hm, if_pos hm]
      simp only [Option.bind_some, List.set_set, rd_set l (i / 8) _ hn]
      cases on with
      | true =>
        simp only [if_true] at ht ⊢
        rw [ht]
        split
        · exact ⟨_, rfl, rfl⟩
        · exact ⟨_, rfl, by rw [set_rd l (i / 8) hn]⟩
      | false =>
        simp only [Bool.false_eq_true, if_false] at ht ⊢
        rw [ht]
        split
        · exact ⟨_, rfl, rfl⟩
        · exact ⟨_, rfl, by rw [set_rd l (i / 8) hn]⟩

theorem loop_end (l g : List Int) (t : Bool) (ht : ((bytes_Equal.f g l).bind fun t135 => (if t135 = true then ((bits_Has.f (([2] : List Int)) 1).bind fun t139 => (some t139)) else (some false))) = some t) (n : Nat) (hn : n ≤ 140737488355328) (d : Nat) :
    ∀ (k : Nat) (x : List Int) (i : Int), x.length = n → 0 ≤ i → i ≤ n → (n : Int) - i ≤ d → d < k → bollardlaw05_BitsBits.l0 k l g x (n : Int) i = some t := by
  induction d with
  | zero =>
    intro k x i hx h0 h1 hd hk
    obtain ⟨k, rfl⟩ : ∃ m, k = m + 1 := ⟨k - 1, by omega⟩
    simp only [bollardlaw05_BitsBits.l0]
    rw [if_neg (by omega)]
    exact ht
  | succ d ih =>
    intro k x i hx h0 h1 hd hk
    obtain ⟨k, rfl⟩ : ∃ m, k = m + 1 := ⟨k - 1, by omega⟩
    simp only [bollardlaw05_BitsBits.l0]
    by_cases hlt : i < (n : Int)
    · have hw : wrap64 (i + 1) = i + 1 := by unfold wrap64; omega
      rw [if_pos hlt, if_pos h0, if_pos (by omega), hw]
      exact ih k _ (i + 1) (by simpa using hx) (by omega) (by omega) (by omega) (by omega)
    · rw [if_neg hlt]
      exact ht

theorem with_len {k : Nat} {l : List Int} {i : Int} {on : Bool} {r : List Int} {e : Int} (h : bits_With.f k l i on = some (r, e)) (hl : l.length ≤ 140737488351232) : r.length ≤ 140737488351232 := by
  unfold bits_With.f at h
  cases k with
  | zero => simp only [bits_With.j0] at h; split at h <;> cases h
  | succ k =>
    have key : ∀ b, bits_With.j0 (k + 1) l i on b = some (r, e) → r.length ≤ 140737488351232 := by
      intro b h
      simp only [bits_With.j0] at h
      split at h
      · cases h; simp
      · split at h
        · simp only [Option.bind_some, List.nil_append] at h
          split at h
          · split at h
            · split at h
              · split at h
                · cases h; simpa using hl
                · cases h; simpa using hl
              · cases h
            · cases h
          · cases h
        · cases h
    split at h
    · exact key _ h
    · exact key _ h

theorem BitsBits : bollardlaw05_BitsBits.Pure := by
  intro l i on _ hl h hi
  have hl' : l.length ≤ 140737488351232 := by omega
  refine ⟨140737488355330, ?_⟩
  obtain ⟨⟨r, e⟩, hr, hr'⟩ := with_same h hl' i hi on 140737488355329
  have hrl := with_len hr hl'
  have hc : bytes_Clone.f l = some l := by unfold bytes_Clone.f; rw [if_pos (by omega)]
  have hb := i64_bd hi
  have hh := has_f l i (by omega)
  unfold bollardlaw05_BitsBits.f
  rw [hc]
  simp only [Option.bind_some]
  rw [hr, hr', ← has_same h, hh]
  simp only [Option.bind_some, bne_self_eq_false, Bool.false_eq_true, if_false, if_true, bytes_Equal.f, beq_self_eq_true, Bool.not_true]
  simp only [bollardlaw05_BitsBits.j0, Bool.false_eq_true, if_false]
  refine loop_end l l true ?_ r.length (by omega) r.length _ r 0 rfl (by omega) (by omega) (by omega) (by omega)
  simp only [bytes_Equal.f, beq_self_eq_true, Option.bind_some, if_true]
  decide +kernel

end Go.Proofs.Ytpfiladhmcdjlaa.Pure
