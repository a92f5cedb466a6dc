/- The reader where all that is asked is there: plain steps, for the decoders. -/
import Derived.Test.YtnbkbmhiajfbpaaRdp
import Derived.Test.YtnbkbmhiajfbpaaWMore
import Derived.Laws.CopyOwn
import Derived.Lib.BufferWrite
namespace Go.Proofs.Ytnbkbmhiajfbpaa.Rd
open Go.RowKit Go.Proofs.Ytnbkbmhiajfbpaa.XRd Go.Proofs.YtnbkbmhiajfbpaaW.PrintWords Go.Proofs.YtnbkbmhiajfbpaaW.PrintLast Go.Proofs.YtnbkbmhiajfbpaaW.PrintMore
set_option linter.unusedVariables false
set_option linter.unusedSimpArgs false
theorem IsRd.grown_ {w0 W W1 : World} {g : Nat} {l : List Int} {p e : Int} {row : Option Nat} (h : IsRd w0 W g l p e) (hg : W.grownBy W1 row) (hr : ∀ k, row = some k → w0.heap.size ≤ k ∧ k ≠ g) : IsRd w0 W1 g l p e := by
  obtain ⟨⟨A, c, hb, h1, h2⟩, h3, h4⟩ := h
  refine ⟨⟨A, c, ?_, h1, h2⟩, h3, h4.grown hg h4.size (fun k hk => (hr k hk).1)⟩
  exact (hg.block g (blk_lt hb) (fun e => (hr g e.symm).2 rfl)).trans hb
theorem IsRd.bel {w0 W : World} {g : Nat} {l : List Int} {p e : Int} (h : IsRd w0 W g l p e) : Below w0.heap.size w0 W := h.2.2
theorem IsRd.drewN_ {w0 W : World} {g : Nat} {l : List Int} {p e : Int} (h : IsRd w0 W g l p e) (n : Nat) : IsRd w0 (W.drewN n) g l p e := h.below (pw_below_drewN (Below.refl _ _) n)
theorem R_keepG {α : Type} {d : Kd α} {e : Nat} {W w1 : World} {base g : Nat} {S : Nat → Prop} {u : Value} {xs : List α} (hu : d.R e W base (fun k => S k ∧ k ≠ g) u xs) (hk : KeepBut W w1 g none) : d.R e w1 base (fun k => S k ∧ k ≠ g) u xs :=
  Kd.R_mono (Kd.R_move (Kd.R_bound hu) (fun k h => hk.2 k h.2.2.1 h.1.2 (by simp))) (fun _ h => h.1)
theorem R_belowG {α : Type} {d : Kd α} {e : Nat} {W w1 : World} {base : Nat} {S : Nat → Prop} {u : Value} {xs : List α} (hu : d.R e W base S u xs) (hk : Below W.heap.size W w1) : d.R e w1 base S u xs :=
  Kd.R_mono (Kd.R_move (Kd.R_bound hu) (fun k h => hk.block k h.2.2.1)) (fun _ h => h.1)
theorem u8_wf {l : List Int} (h : ∀ x ∈ l, 0 ≤ x ∧ x ≤ 255) : ∀ x ∈ l, (Lit.int .u8 x).wf = true := by
  intro x hx
  have := h x hx
  simp [Lit.wf, IntKind.min, IntKind.max, IntKind.bits, IntKind.signed]
  omega

/-- Take, where the bytes are there. -/
theorem Take_ok (w0 : World) (g : Nat) (l : List Int) (p n : Int) (w : World) (hI : IsRd w0 w g l p 0) (hl : l.length ≤ 140737488351232) (hwf : ∀ x ∈ l, 0 ≤ x ∧ x ≤ 255) (hp : 0 ≤ p) (hn : 1 ≤ n) (hn4 : n ≤ 4) (h : p + n ≤ l.length) :
    Calls Try.prog 39 #[.pointer (some ⟨g, 0, none⟩), .int .i64 n] w fun q w' => q = .returned (.int .i64 (le (cutL l p n))) ∧ IsRd w0 w' g l (p + n) 0 ∧ KeepBut w w' g none := by
  have hE : takE l p 0 n = 0 := by unfold takE; rw [if_neg (by decide), if_neg (by omega), if_neg (by omega)]
  refine (Take_spec w0 g l p 0 n w hI hl (u8_wf hwf) hp (by omega) (WalkArith.wf_i64 (by omega))).mono ?_
  rintro q w' ⟨rfl, h1, h2⟩
  rw [hE] at h1
  unfold takV
  rw [hE, if_pos rfl]
  unfold nxP at h1
  rw [if_pos rfl] at h1
  exact ⟨rfl, h1, h2⟩
/-- The first so many of an indirect block's addresses. -/
def fanL (l : List Int) (n : Nat) : List Int := (List.range n).map fun (i : Nat) => le (cutL l (2 * (i : Int)) 2)
theorem fanL_next (l : List Int) (i : Nat) : fanL l (i + 1) = fanL l i ++ [le (cutL l (2 * (i : Int)) 2)] := by
  unfold fanL
  rw [List.range_succ, List.map_append]
  rfl
theorem fanL_len (l : List Int) (n : Nat) : (fanL l n).length = n := by unfold fanL; rw [List.length_map, List.length_range]

/-- Bytes with noughts up to a size. -/
def fullL (l : List Int) (n : Nat) : List Int := l.take n ++ List.replicate (n - l.length) 0
theorem fullL_len (l : List Int) (n : Nat) : (fullL l n).length = n := by
  unfold fullL
  rw [List.length_append, List.length_take, List.length_replicate]
  omega
theorem made_zero (n : Nat) : (madeCells (Value.cells (.int .u8 0)) (n * 1)).toList = (List.replicate n (0 : Int)).map (Value.int .u8) := by
  rw [Nat.mul_one]
  apply List.ext_getElem
  · simp [madeCells]
  · intro i h1 h2
    simp [madeCells, Value.cells, Nat.mod_one]
/-- A block of bytes is a row of them. -/
theorem R_bytes {W : World} {base g : Nat} {ok : Nat → Prop} (xs : List Int) (h : W.heap[g]? = some (.cells (xs.map (Value.int .u8)).toArray 5 (0, 0))) (hb : base ≤ g) (hm : xs.length ≤ maxLen) (hok : ok g) :
    Kd.R (Kd.int .u8) 5 W base ok (.slice (some ⟨g, 0, none⟩) xs.length xs.length) xs := by
  refine ⟨fun k hk => ?_, xs.map (Value.int .u8), ⟨?_, .inr ⟨g, xs.length, _, rfl, hb, h, Nat.le_refl _, hm, ?_, ?_⟩⟩, Kd.reps_scalar xs⟩
  · have : g = k := by simpa [Value.ownBlock] using hk
    rw [← this]; exact hok
  · simp [Kd.int, Kd.scalar]
  · simp [Kd.int, Kd.scalar]
  · rw [List.take_of_length_le]
    simp [Kd.int, Kd.scalar]

theorem made_block {w1 : World} {base g n : Nat} (h : w1.ownsRow base 5 1 (.slice (some ⟨g, 0, none⟩) n n) n (madeCells (Value.cells (.int .u8 0)) (n * 1)).toList) :
    w1.heap[g]? = some (.cells ((List.replicate n (0 : Int)).map (Value.int .u8)).toArray 5 (0, 0)) := by
  rw [made_zero] at h
  rcases h.2 with ⟨h1, _⟩ | ⟨g', cap, cur, h1, _, hh, _, _, hcs, htk⟩
  · cases h1
  · simp only [Value.slice.injEq, Option.some.injEq, Addr.mk.injEq] at h1
    obtain ⟨⟨rfl, _⟩, _, rfl⟩ := h1
    rw [hh]
    congr 2
    rw [List.take_of_length_le (by simp; omega)] at htk
    rw [← htk]
/-- What a row of bytes hands to a copy. -/
theorem src_cells {w : World} {A : Option Addr} {l : List Int} (h : Kd.C (Kd.int .u8) w A l.length l) (n : Nat) (hp : 0 < ((l.take n).map (Value.int .u8)).length) :
    ∃ ad, A = some ad ∧ ∀ (j : Nat) (v : Value), ((l.take n).map (Value.int .u8))[j]? = some v → w.cell? (ad.add j) = some v := by
  rw [List.length_map, List.length_take] at hp
  obtain ⟨ad, rfl, _⟩ := Kd.at_int h 0 (by omega) (by omega)
  refine ⟨ad, rfl, fun j v hj => ?_⟩
  rw [List.getElem?_map, Option.map_eq_some_iff] at hj
  obtain ⟨x, hx, rfl⟩ := hj
  obtain ⟨hj2, hx2⟩ := List.getElem?_eq_some_iff.1 hx
  rw [List.length_take] at hj2
  obtain ⟨ad', e, hc⟩ := Kd.at_int h (j : Int) (by omega) (by omega)
  cases e
  rw [Int.toNat_natCast] at hc
  rw [hc]
  unfold rd
  rw [List.getElem_take] at hx2
  rw [Int.toNat_natCast, List.getD_eq_getElem?_getD, List.getElem?_eq_getElem (by omega), hx2]
  rfl
theorem splice_full (l : List Int) (n : Nat) : splice ((List.replicate n (0 : Int)).map (Value.int .u8)) 0 ((l.take n).map (Value.int .u8)) = (fullL l n).map (Value.int .u8) := by
  unfold splice fullL
  rw [List.take_zero, List.nil_append, List.map_append, Nat.zero_add, List.length_map, List.length_take, ← List.map_drop, List.drop_replicate]
  congr 3
  omega

/-- A row of bytes of the call's own, laid open. -/
theorem own_open {w : World} {base e n : Nat} {v : Value} {xs : List Int} (h : w.ownsRow base e 1 v n (encs (Value.int .u8) xs)) (hn : 0 < n) :
    ∃ g cap cur, v = .slice (some ⟨g, 0, none⟩) n cap ∧ base ≤ g ∧ w.heap[g]? = some (.cells cur e (0, 0)) ∧ n ≤ cap ∧ cap ≤ maxLen ∧ cur.size = cap ∧ cur.toList.take n = xs.map (Value.int .u8) := by
  rcases h.2 with ⟨_, h0⟩ | ⟨g, cap, cur, h1, h2, h3, h4, h5, h6, h7⟩
  · omega
  · exact ⟨g, cap, cur, h1, h2, h3, h4, h5, by omega, by rw [Nat.mul_one] at h7; exact h7⟩
theorem own_close {w : World} {base e n g cap : Nat} {cur : Array Value} {xs : List Int} (hb : base ≤ g) (hh : w.heap[g]? = some (.cells cur e (0, 0))) (hn : n ≤ cap) (hm : cap ≤ maxLen) (hs : cur.size = cap) (ht : cur.toList.take n = xs.map (Value.int .u8)) (hx : xs.length = n) :
    w.ownsRow base e 1 (.slice (some ⟨g, 0, none⟩) n cap) n (encs (Value.int .u8) xs) :=
  ⟨by simp [encs, hx], .inr ⟨g, cap, cur, rfl, hb, hh, hn, hm, by omega, by rw [Nat.mul_one]; exact ht⟩⟩
theorem bytes_cells (s : ByteArray) : Lib.byteCells s.data.toList = (bytesOf s).map (Value.int .u8) := by
  unfold Lib.byteCells bytesOf
  rw [List.map_map]
  rfl
theorem splice_name (cur : List Value) (b : List Int) (s : ByteArray) (hb : b.length = 16) (hs : s.size ≤ 13) (ht : cur.take 16 = b.map (Value.int .u8)) :
    (cur.take 3 ++ Lib.byteCells s.data.toList ++ cur.drop (3 + s.size)).take 16 = (b.take 3 ++ bytesOf s ++ b.drop (3 + s.size)).map (Value.int .u8) := by
  have hc : cur = b.map (Value.int .u8) ++ cur.drop 16 := by rw [← ht, List.take_append_drop]
  generalize cur.drop 16 = r at hc
  subst hc
  have hl : (b.map (Value.int .u8)).length = 16 := by rw [List.length_map, hb]
  have hsb := bytesOf_length s
  have e1 : (b.map (Value.int .u8) ++ r).take 3 = (b.map (Value.int .u8)).take 3 := List.take_append_of_le_length (by omega)
  have e2 : (b.map (Value.int .u8) ++ r).drop (3 + s.size) = (b.map (Value.int .u8)).drop (3 + s.size) ++ r := List.drop_append_of_le_length (by omega)
  have e3 : ∀ (x y z t : List Value), x ++ y ++ (z ++ t) = (x ++ y ++ z) ++ t := fun x y z t => by simp only [List.append_assoc]
  have e4 : ((b.map (Value.int .u8)).take 3 ++ (bytesOf s).map (Value.int .u8) ++ (b.map (Value.int .u8)).drop (3 + s.size)).length = 16 := by
    simp only [List.length_append, List.length_take, List.length_drop, List.length_map]
    omega
  rw [bytes_cells, e1, e2, e3, List.take_left' e4]
  simp only [List.map_append, List.map_take, List.map_drop]
theorem name_R {W : World} {base e g cap : Nat} {cur : Array Value} {b : List Int} {s : ByteArray} (hb : base ≤ g) (hh : W.heap[g]? = some (.cells cur e (0, 0))) (hle : 16 ≤ cap) (hm : cap ≤ maxLen) (hcs : cur.size = cap)
    (htk : cur.toList.take 16 = b.map (Value.int .u8)) (h16 : b.length = 16) (hs : s.size ≤ 13) :
    Kd.R (Kd.int .u8) e (W.setRow g (cur.toList.take 3 ++ (Lib.byteCells s.data.toList ++ cur.toList.drop (3 + s.size))).toArray) base (fun _ => True) (.slice (some ⟨g, 0, none⟩) 16 cap) (b.take 3 ++ bytesOf s ++ b.drop (3 + s.size)) := by
  have hsb := bytesOf_length s
  have hl : (b.take 3 ++ bytesOf s ++ b.drop (3 + s.size)).length = 16 := by
    simp only [List.length_append, List.length_take, List.length_drop]
    omega
  have hbc : (Lib.byteCells s.data.toList).length = s.size := by rw [bytes_cells, List.length_map, hsb]
  have hcl : cur.toList.length = cap := by rw [Array.length_toList, hcs]
  refine Kd.R_of_own ?_ (fun _ _ => trivial)
  rw [hl, ← List.append_assoc]
  refine own_close (cur := _) hb (setRow_heap W g cur _ e (0, 0) hh) hle hm ?_ ?_ hl
  · rw [List.size_toArray, List.length_append, List.length_append, List.length_take, List.length_drop, hbc, hcl]
    omega
  · rw [List.toList_toArray]
    exact splice_name cur.toList b s h16 hs htk
/-! ### a decoder's cells beside its reader -/
theorem IsRd.le_ {w0 W : World} {g : Nat} {l : List Int} {p e : Int} (h : IsRd w0 W g l p e) : w0.heap.size ≤ g := h.2.1
theorem IsRd.drew_ {w0 W : World} {g : Nat} {l : List Int} {p e : Int} (h : IsRd w0 W g l p e) : IsRd w0 W.drew g l p e := h.below (below_drew1 (Below.refl _ _))
theorem IsRd.set_ {w0 W : World} {g : Nat} {l : List Int} {p e : Int} (h : IsRd w0 W g l p e) (b j : Nat) (v : Value) (h0 : w0.heap.size ≤ b) (hne : b ≠ g) : IsRd w0 (W.setCell ⟨b, j, none⟩ v) g l p e := by
  obtain ⟨⟨A, c, hb, h1, h2⟩, h3, h4⟩ := h
  refine ⟨⟨A, c, ?_, h1, h2⟩, h3, below_set h4 h0⟩
  rw [Below.heap_setCell W _ v g (by simpa using fun e => hne e.symm)]
  exact hb
theorem IsRd.old {w0 W : World} {g b : Nat} {o : Obj} {l : List Int} {p e : Int} (h : IsRd w0 W g l p e) (hb : w0.heap[b]? = some o) : W.heap[b]? = some o := (h.2.2.block b (blk_lt hb)).trans hb
theorem Take_blk (w0 : World) (g : Nat) (l : List Int) (p n : Int) (w : World) (b : Nat) (o : Obj) (hI : IsRd w0 w g l p 0) (hl : l.length ≤ 140737488351232) (hwf : ∀ x ∈ l, 0 ≤ x ∧ x ≤ 255) (hp : 0 ≤ p) (hn : 1 ≤ n) (hn4 : n ≤ 4) (h : p + n ≤ l.length) (hb : w.heap[b]? = some o) (hne : b ≠ g) :
    Calls Try.prog 39 #[.pointer (some ⟨g, 0, none⟩), .int .i64 n] w fun q w' => q = .returned (.int .i64 (le (cutL l p n))) ∧ IsRd w0 w' g l (p + n) 0 ∧ w'.heap[b]? = some o := by
  refine (Take_ok w0 g l p n w hI hl hwf hp hn hn4 h).mono ?_
  rintro q w' ⟨h1, h2, h3⟩
  exact ⟨h1, h2, (h3.2 b (blk_lt hb) hne (by simp)).trans hb⟩
theorem Text_blk (w0 : World) (g : Nat) (l : List Int) (p e n : Int) (w : World) (b : Nat) (o : Obj) (hI : IsRd w0 w g l p e) (hl : l.length ≤ 140737488351232) (hp : 0 ≤ p) (hp2 : p ≤ l.length) (hb : w.heap[b]? = some o) (hne : b ≠ g) :
    Calls Try.prog 40 #[.pointer (some ⟨g, 0, none⟩), .int .i64 n] w fun q w' => q = .returned (.string (texV l p e n)) ∧ IsRd w0 w' g l (nxP p n (texE l p e n)) (texE l p e n) ∧ w'.heap[b]? = some o := by
  refine (Text_spec w0 g l p e n w hI hl hp hp2).mono ?_
  rintro q w' ⟨h1, h2, h3⟩
  exact ⟨h1, h2, (h3.2 b (blk_lt hb) hne (by simp)).trans hb⟩
end Go.Proofs.Ytnbkbmhiajfbpaa.Rd
