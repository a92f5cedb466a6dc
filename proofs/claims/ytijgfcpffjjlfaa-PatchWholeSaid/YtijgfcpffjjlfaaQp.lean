/- Written by a program of this session. Sets of patches, plainly: what they have, and what each call makes of them. -/
import Derived.Lib.SlicesCompact
import Derived.Lib.SlKeysI
import Derived.Test.YtijgfcpffjjlfaaWMore
namespace Go.Proofs.Ytijgfcpffjjlfaa.Pq
open Go Go.Sort
set_option linter.unusedVariables false
set_option linter.unusedSimpArgs false

/-- A patch. -/
structure Pt where
  id : Int
  blk : Int
  off : Int
  by_ : List Int
  nd : List Int
def zPt : Pt := ⟨0, 0, 0, [], []⟩
def ids (l : List Pt) : List Int := l.map Pt.id
/-- Of some numbers those that are pending, rising. -/
def pen (l : List Pt) (xs : List Int) : List Int := (ids l).filter (fun i => decide (i ∈ xs))
def Rises (l : List Int) : Prop := l.Pairwise (· < ·)

theorem Rises.filter {l : List Int} (h : Rises l) (p : Int → Bool) : Rises (l.filter p) := List.Pairwise.filter p h
theorem Rises.nodup {l : List Int} (h : Rises l) : l.Nodup := h.imp (fun hlt e => by omega)
theorem Rises.eq {a b : List Int} (ha : Rises a) (hb : Rises b) (h : ∀ x, x ∈ a ↔ x ∈ b) : a = b :=
  List.Perm.eq_of_pairwise (le := fun x y => x < y) (fun x y _ _ h1 h2 => by omega) ha hb ((List.perm_ext_iff_of_nodup ha.nodup hb.nodup).2 h)
theorem sorted_le (zs : List Int) : (zs.mergeSort (fun x y => decide (x ≤ y))).Pairwise (fun x y => x ≤ y) :=
  (List.pairwise_mergeSort (le := fun x y : Int => decide (x ≤ y)) (fun a b c h1 h2 => by simp only [decide_eq_true_eq] at *; omega) (fun a b => by simp only [Bool.or_eq_true, decide_eq_true_eq]; omega) zs).imp (fun h => by simpa using h)
theorem compactUpTo_rises (d : Array Int) (hs : ∀ i j, i ≤ j → j < d.size → d[i]! ≤ d[j]!) : ∀ m, m ≤ d.size → Rises (Lib.compactUpTo d m) ∧ (∀ j, j < m → d[j]! ∈ Lib.compactUpTo d m) ∧ ∀ x ∈ Lib.compactUpTo d m, ∃ j, j < m ∧ x = d[j]!
  | 0, _ => ⟨List.Pairwise.nil, fun j hj => by omega, fun x hx => by simp [Lib.compactUpTo] at hx⟩
  | m + 1, hm => by
    obtain ⟨h1, h2, h3⟩ := compactUpTo_rises d hs m (by omega)
    rw [Lib.compactUpTo_succ]
    by_cases hk : Lib.keeps d m = true
    · rw [if_pos hk]
      refine ⟨?_, fun j hj => ?_, fun x hx => ?_⟩
      · refine List.pairwise_append.2 ⟨h1, List.pairwise_singleton _ _, fun x hx y hy => ?_⟩
        rw [List.mem_singleton.1 hy]
        obtain ⟨j, hj, rfl⟩ := h3 x hx
        have hk2 : m = 0 ∨ d[m]! ≠ d[m - 1]! := by simpa [Lib.keeps] using hk
        have a1 := hs j (m - 1) (by omega) (by omega)
        have a2 := hs (m - 1) m (by omega) (by omega)
        rcases hk2 with hk2 | hk2
        · omega
        · show d[j]! < d[m]!
          omega
      · by_cases e : j = m
        · rw [e]; simp
        · exact List.mem_append_left _ (h2 j (by omega))
      · rcases List.mem_append.1 hx with hx | hx
        · obtain ⟨j, hj, e⟩ := h3 x hx
          exact ⟨j, by omega, e⟩
        · exact ⟨m, by omega, List.mem_singleton.1 hx⟩
    · have hk2 : ¬ (m = 0 ∨ d[m]! ≠ d[m - 1]!) := by simpa [Lib.keeps] using hk
      have hm0 : m ≠ 0 := fun e => hk2 (.inl e)
      have he : d[m]! = d[m - 1]! := by
        false_or_by_contra
        rename_i h
        exact hk2 (.inr h)
      rw [if_neg hk, List.append_nil]
      refine ⟨h1, fun j hj => ?_, fun x hx => ?_⟩
      · by_cases e : j = m
        · rw [e, he]; exact h2 (m - 1) (by omega)
        · exact h2 j (by omega)
      · obtain ⟨j, hj, e⟩ := h3 x hx
        exact ⟨j, by omega, e⟩
/-- slices.Sort, then slices.Compact. -/
def sc (zs : List Int) : List Int := Lib.compact (zs.mergeSort (fun x y => decide (x ≤ y)))
theorem sc_rises (zs : List Int) : Rises (sc zs) ∧ ∀ x, x ∈ sc zs ↔ x ∈ zs := by
  obtain ⟨ys, hy⟩ : ∃ ys, zs.mergeSort (fun x y => decide (x ≤ y)) = ys := ⟨_, rfl⟩
  have hle := sorted_le zs
  have hperm := List.mergeSort_perm zs (fun x y => decide (x ≤ y))
  rw [hy] at hle hperm
  have hs : ∀ i j, i ≤ j → j < ys.toArray.size → ys.toArray[i]! ≤ ys.toArray[j]! := fun i j hij hj => by
    have hj' : j < ys.length := by simpa using hj
    rcases Nat.eq_or_lt_of_le hij with e | e
    · rw [e]; exact Int.le_refl _
    · have := List.pairwise_iff_getElem.1 hle i j (by omega) hj' e
      simpa [getElem!_pos, hj', show i < ys.length by omega] using this
  obtain ⟨h1, h2, h3⟩ := compactUpTo_rises ys.toArray hs ys.length (by simp)
  have e : sc zs = Lib.compactUpTo ys.toArray ys.length := by unfold sc; rw [hy]; rfl
  rw [e]
  refine ⟨h1, fun x => ⟨fun hx => ?_, fun hx => ?_⟩⟩
  · obtain ⟨j, hj, rfl⟩ := h3 x hx
    refine hperm.mem_iff.1 ?_
    rw [show ys.toArray[j]! = ys[j] by simp [getElem!_pos, hj]]
    exact List.getElem_mem _
  · obtain ⟨j, hj, rfl⟩ := List.getElem_of_mem (hperm.mem_iff.2 hx)
    have := h2 j hj
    rwa [show ys.toArray[j]! = ys[j] by simp [getElem!_pos, hj]] at this
theorem sc_length (zs : List Int) : (sc zs).length ≤ zs.length := by
  unfold sc Lib.compact
  rw [show zs.length = (zs.mergeSort (fun x y => decide (x ≤ y))).length from (List.length_mergeSort zs).symm]
  generalize zs.mergeSort (fun x y => decide (x ≤ y)) = ys
  unfold Lib.compactUpTo
  rw [List.length_map]
  exact Nat.le_trans (List.length_filter_le _ _) (by simp)
theorem pen_eq {l : List Pt} (h : Rises (ids l)) (xs : List Int) : sc (xs.filter (fun i => decide (i ∈ ids l))) = pen l xs := by
  obtain ⟨h1, h2⟩ := sc_rises (xs.filter (fun i => decide (i ∈ ids l)))
  refine h1.eq (h.filter _) (fun x => ?_)
  rw [h2 x, pen, List.mem_filter, List.mem_filter, decide_eq_true_eq, decide_eq_true_eq]
  exact And.comm
/-- The patch of a number. -/
def get (l : List Pt) (i : Int) : Pt := (l.find? (fun p => p.id == i)).getD zPt
theorem get_id {l : List Pt} {i : Int} (h : i ∈ ids l) : (get l i).id = i ∧ get l i ∈ l := by
  obtain ⟨p, hp, rfl⟩ := List.mem_map.1 h
  have hs : (l.find? (fun q => q.id == p.id)).isSome = true := List.find?_isSome.2 ⟨p, hp, by simp⟩
  obtain ⟨q, hq⟩ := Option.isSome_iff_exists.1 hs
  unfold get
  rw [hq, Option.getD_some]
  exact ⟨by simpa using List.find?_some hq, List.mem_of_find?_eq_some hq⟩
theorem get_mem {l : List Pt} (h : Rises (ids l)) {p : Pt} (hp : p ∈ l) : get l p.id = p := by
  have h1 := get_id (l := l) (List.mem_map_of_mem (f := Pt.id) hp)
  have hn : (l.map Pt.id).Nodup := h.nodup
  obtain ⟨i, hi, e1⟩ := List.getElem_of_mem hp
  obtain ⟨j, hj, e2⟩ := List.getElem_of_mem h1.2
  have hij : i = j := by
    refine (List.getElem_inj (h₀ := by simpa using hi) (h₁ := by simpa using hj) hn).1 ?_
    simp only [List.getElem_map]
    rw [e1, e2, h1.1]
  subst hij
  rw [← e2, e1]
theorem get_none {l : List Pt} {i : Int} (h : i ∉ ids l) : get l i = zPt := by
  unfold get
  rw [List.find?_eq_none.2 (fun p hp he => h (List.mem_map.2 ⟨p, hp, by simpa using he⟩))]
  rfl
/-- A set's patches, and its last number, as they may be. -/
structure Fits (l : List Pt) (last : Int) : Prop where
  rise : Rises (ids l)
  low : ∀ p ∈ l, 1 ≤ p.id
  high : ∀ p ∈ l, p.id ≤ last
  last0 : 0 ≤ last
  lastm : last ≤ 1000000000
  blk0 : ∀ p ∈ l, (Lit.int .i64 p.blk).wf = true
  off0 : ∀ p ∈ l, 0 ≤ p.off
  len0 : ∀ p ∈ l, 0 < p.by_.length
  offm : ∀ p ∈ l, p.off + p.by_.length ≤ 128
  ndl : ∀ p ∈ l, ∀ n ∈ p.nd, 1 ≤ n ∧ n < p.id
  ndr : ∀ p ∈ l, Rises p.nd
def ofL (l : List Pt) (b : Int) : List Int := ids (l.filter (fun p => p.blk == b))
theorem of_eq {l : List Pt} (h : Rises (ids l)) (b : Int) : (ids l).filter (fun i => (get l i).blk == b) = ofL l b := by
  unfold ofL ids
  rw [List.filter_map]
  congr 1
  refine List.filter_congr (fun p hp => ?_)
  simp only [Function.comp]
  rw [get_mem h hp]
def put1 (out : List Int) (p : Pt) : List Int := out.take p.off.toNat ++ p.by_ ++ out.drop (p.off.toNat + p.by_.length)
def over (l : List Pt) (disk : List Int) (is : List Int) : List Int := is.foldl (fun o i => put1 o (get l i)) disk
def free1 (l : List Pt) (acc : List Int) (i : Int) : List Int := if (pen l (get l i).nd).any (fun n => !decide (n ∈ acc)) then acc else acc ++ [i]
def freeL (l : List Pt) (b : Int) : List Int := (ofL l b).foldl (free1 l) []
def ovl (a b : Pt) : Bool := decide (a.blk = b.blk) && decide (a.off < b.off + b.by_.length) && decide (b.off < a.off + a.by_.length)
def fitsP (blk off : Int) (by_ : List Int) : Prop := 0 ≤ blk ∧ 0 ≤ off ∧ 0 < by_.length ∧ off ≤ 128 ∧ (by_.length : Int) ≤ 128 - off
instance (blk off : Int) (by_ : List Int) : Decidable (fitsP blk off by_) := by unfold fitsP; infer_instance
def known (last : Int) (i : Int) : Bool := decide (1 ≤ i ∧ i ≤ last)
def addE (last blk off : Int) (by_ nd : List Int) : Int := if ¬ fitsP blk off by_ then 1 else if nd.any (fun i => !known last i) then 70 else 0
def newP (l : List Pt) (last blk off : Int) (by_ nd : List Int) : Pt := ⟨last + 1, blk, off, by_, pen l (nd ++ ids (l.filter (ovl ⟨last + 1, blk, off, by_, []⟩)))⟩
def addL (l : List Pt) (last blk off : Int) (by_ nd : List Int) : List Pt := if addE last blk off by_ nd = 0 then l ++ [newP l last blk off by_ nd] else l
def addN (last blk off : Int) (by_ nd : List Int) : Int := if addE last blk off by_ nd = 0 then last + 1 else last
def undoE (l : List Pt) (last t : Int) : Int := if t < 0 ∨ last < t then 1 else if (List.range (last - t).toNat).any (fun j => decide ((t + 1 + (j : Int)) ∉ ids l)) then 3 else 0
theorem undo_any (l : List Pt) (last t : Int) : (List.range (last - t).toNat).any (fun j => decide ((t + 1 + (j : Int)) ∉ ids l)) = true ↔ ∃ i : Int, t < i ∧ i ≤ last ∧ i ∉ ids l := by
  rw [List.any_eq_true]
  constructor
  · rintro ⟨j, hj, h⟩
    rw [List.mem_range] at hj
    exact ⟨t + 1 + (j : Int), by omega, by omega, by simpa using h⟩
  · rintro ⟨i, h1, h2, h3⟩
    refine ⟨(i - t - 1).toNat, List.mem_range.2 (by omega), ?_⟩
    rw [show t + 1 + ((i - t - 1).toNat : Int) = i by omega]
    simpa using h3
def undoL (l : List Pt) (t : Int) : List Pt := l.filter (fun p => decide (p.id ≤ t))
def blksL (l : List Pt) : List Int := sc (l.map Pt.blk)
theorem sc_perm {a b : List Int} (h : a.Perm b) : sc a = sc b :=
  (sc_rises a).1.eq (sc_rises b).1 (fun x => by rw [(sc_rises a).2, (sc_rises b).2]; exact h.mem_iff)
theorem Rises.sorted {a b : List Int} (h : Rises b) (hp : a.Perm b) : a.mergeSort (fun x y => decide (x ≤ y)) = b := by
  refine List.Perm.eq_of_pairwise (le := fun x y => x ≤ y) (fun x y _ _ h1 h2 => by omega) (sorted_le a) (h.imp (fun hlt => by omega)) ((List.mergeSort_perm a _).trans hp)
theorem pen_sub {l : List Pt} {xs : List Int} {i : Int} (h : i ∈ pen l xs) : i ∈ ids l ∧ i ∈ xs := by
  rw [pen, List.mem_filter, decide_eq_true_eq] at h
  exact h
theorem Fits.nil : Fits [] 0 where
  rise := List.Pairwise.nil
  low := fun p hp => by cases hp
  high := fun p hp => by cases hp
  last0 := Int.le_refl _
  lastm := by omega
  blk0 := fun p hp => by cases hp
  off0 := fun p hp => by cases hp
  len0 := fun p hp => by cases hp
  offm := fun p hp => by cases hp
  ndl := fun p hp => by cases hp
  ndr := fun p hp => by cases hp
theorem ids_mem {l : List Pt} {last i : Int} (h : Fits l last) (hi : i ∈ ids l) : 1 ≤ i ∧ i ≤ last := by
  obtain ⟨p, hp, rfl⟩ := List.mem_map.1 hi
  exact ⟨h.low p hp, h.high p hp⟩
theorem Fits.add {l : List Pt} {last blk off : Int} {by_ nd : List Int} (h : Fits l last) (he : addE last blk off by_ nd = 0) (hb : (Lit.int .i64 blk).wf = true) (hl : last + 1 ≤ 1000000000) : Fits (l ++ [newP l last blk off by_ nd]) (last + 1) := by
  have hf : fitsP blk off by_ := by
    unfold addE at he
    false_or_by_contra
    rename_i hn
    rw [if_pos hn] at he
    omega
  obtain ⟨f1, f2, f3, f4, f5⟩ := hf
  have hin : ∀ (q : Pt → Prop), (∀ p ∈ l, q p) → q (newP l last blk off by_ nd) → ∀ p ∈ l ++ [newP l last blk off by_ nd], q p := fun q h1 h2 p hp => by
    rcases List.mem_append.1 hp with hp | hp
    · exact h1 p hp
    · rw [List.mem_singleton.1 hp]; exact h2
  have h0 := h.last0
  refine ⟨?_, hin _ h.low (show 1 ≤ last + 1 by omega), hin _ (fun p hp => Int.le_trans (h.high p hp) (by omega)) (Int.le_refl _), by omega, hl, hin _ h.blk0 hb, hin _ h.off0 f2, hin _ h.len0 f3, hin _ h.offm (show off + (by_.length : Int) ≤ 128 by omega), hin _ h.ndl (fun n hn => ?_), hin _ h.ndr (h.rise.filter _)⟩
  · show Rises ((l ++ [newP l last blk off by_ nd]).map Pt.id)
    rw [List.map_append]
    refine List.pairwise_append.2 ⟨h.rise, List.pairwise_singleton _ _, fun x hx y hy => ?_⟩
    rw [List.mem_singleton.1 hy]
    show x < last + 1
    have := ids_mem h hx
    omega
  · have := ids_mem h (pen_sub hn).1
    exact ⟨this.1, show n < last + 1 by omega⟩
theorem Fits.sub {l l' : List Pt} {last last' : Int} (h : Fits l last) (hs : l'.Sublist l) (hh : ∀ p ∈ l', p.id ≤ last') (h0 : 0 ≤ last') (hm : last' ≤ last) : Fits l' last' where
  rise := List.Pairwise.sublist (hs.map Pt.id) h.rise
  low := fun p hp => h.low p (hs.subset hp)
  high := hh
  last0 := h0
  lastm := Int.le_trans hm h.lastm
  blk0 := fun p hp => h.blk0 p (hs.subset hp)
  off0 := fun p hp => h.off0 p (hs.subset hp)
  len0 := fun p hp => h.len0 p (hs.subset hp)
  offm := fun p hp => h.offm p (hs.subset hp)
  ndl := fun p hp => h.ndl p (hs.subset hp)
  ndr := fun p hp => h.ndr p (hs.subset hp)
end Go.Proofs.Ytijgfcpffjjlfaa.Pq
