/- Written by a program of this session (tools/trim.py): Xa Xb Xc Xe Xf Xn Ya Yb Za, as far as the seat has what they speak of. -/
import Derived.Test.YtlkijnnoalfblaaQa
import Derived.Test.YtlkijnnoalfblaaQb
namespace Go.Proofs.Ytlkijnnoalfblaa.Dk
open Go Go.RowKit Go.Shelf Go.Proofs Go.Proofs.Ytlkijnnoalfblaa.Sp Go.Proofs.Ytlkijnnoalfblaa.XFb Go.Proofs.YtlkijnnoalfblaaW.PrintWords Go.Proofs.YtlkijnnoalfblaaW.PrintLast Go.Proofs.YtlkijnnoalfblaaW.PrintMore
set_option linter.unusedVariables false
set_option linter.unusedSimpArgs false
/-- The reference's disk in block X of W. -/
structure IsX (W : World) (base X : Nat) (S : Nat → Prop) (bl : List (List Int)) (q : List S49) (fl : List Int) (last : Int) : Prop where
  fits : Fits bl q last
  fails : fl.length = bl.length
  cells : ∃ vB vQ vF, W.heap[X]? = some (.cells #[vB, vQ, vF, .int .i64 last] 82 (0, 0)) ∧ Kd.R (Kd.slice 5 (Kd.int .u8)) 47 W base S vB bl ∧ Kd.R k49 49 W base S vQ q ∧ Kd.R (Kd.int .i64) 3 W base S vF fl
  inX : S X
  low : ∀ k, S k → base ≤ k ∧ k < W.heap.size
theorem IsX.kept {W W' : World} {base X : Nat} {S S2 : Nat → Prop} {bl : List (List Int)} {q : List S49} {fl : List Int} {last : Int} (h : IsX W base X S bl q fl last) (hk : Kept S2 W W') (hn : ∀ k, S k → ¬ S2 k) : IsX W' base X S bl q fl last := by
  obtain ⟨h1, h0, ⟨vB, vQ, vF, hD, hB, hQ, hF⟩, h2, h4⟩ := h
  exact ⟨h1, h0, ⟨vB, vQ, vF, (hk.same X (h4 X h2).2 (hn X h2)).trans hD, Kept.R hB hk hn, Kept.R hQ hk hn, Kept.R hF hk hn⟩, h2, fun k hs => ⟨(h4 k hs).1, Nat.lt_of_lt_of_le (h4 k hs).2 hk.size⟩⟩
theorem IsX.below {W W' : World} {base X : Nat} {S : Nat → Prop} {bl : List (List Int)} {q : List S49} {fl : List Int} {last : Int} (h : IsX W base X S bl q fl last) (hb : Below W.heap.size W W') : IsX W' base X S bl q fl last :=
  h.kept (S2 := fun _ => False) (Kept.of_below hb) (fun _ _ h => h)
theorem copied_f (x : List Int) (h : x.length < 1000000) : bollardref02_copied.f x = some x := by
  unfold bollardref02_copied.f
  simp only [Option.bind_some, List.length_nil, Nat.zero_add, List.nil_append]
  rw [if_pos (by omega)]
/-- The cells of a queue's writes. -/
theorem at_sent {W : World} {base : Nat} {S : Nat → Prop} {v : Value} {q : List S49} (h : Kd.R k49 49 W base S v q) (i : Nat) (hi : i < q.length) : ∃ g cap A2 c2, v = .slice (some ⟨g, 0, none⟩) q.length cap ∧ g < W.heap.size ∧ S g ∧
    W.cell? ⟨g, i * 3, none⟩ = some (.int .i64 q[i].f0) ∧ W.cell? ⟨g, i * 3 + 1, none⟩ = some (.int .i64 q[i].f1) ∧ W.cell? ⟨g, i * 3 + 2, none⟩ = some (.slice A2 q[i].f2.length c2) ∧ q[i].f2.length ≤ c2 ∧ Kd.R (Kd.int .u8) 5 W base S (.slice A2 q[i].f2.length c2) q[i].f2 := by
  obtain ⟨g, cap, rfl, h1, h2, _⟩ := Kd.R_form h (by omega)
  obtain ⟨cs, hcl, hM, hcell, _⟩ := Kd.R_elem h z49 (i : Int) (by omega) (by omega)
  rw [Int.toNat_natCast, show q.getD i z49 = q[i] by simp [List.getD_eq_getElem?_getD, hi]] at hM
  obtain ⟨v2, rfl, hv2⟩ := k49_openM hM
  obtain ⟨A2, c2, rfl⟩ := Kd.R_slice hv2
  have k0 := hcell 0 _ rfl
  have k1 := hcell 1 _ rfl
  have k2 := hcell 2 _ rfl
  rw [Int.toNat_natCast, show (k49 : Kd S49).sz = 3 from rfl, Nat.add_zero] at k0
  rw [Int.toNat_natCast, show (k49 : Kd S49).sz = 3 from rfl] at k1 k2
  exact ⟨g, cap, A2, c2, rfl, h2, h.1 g (by simp [Value.ownBlock]), k0, k1, k2, (Kd.R_reads' hv2).2.1, Kd.R_mono hv2 (fun k hk => by first | exact hk | exact hk.1)⟩
set_option maxRecDepth 100000 in
set_option maxHeartbeats 4000000 in
theorem x_has {W : World} {base X : Nat} {S : Nat → Prop} {bl : List (List Int)} {q : List S49} {fl : List Int} {last : Int} (h : IsX W base X S bl q fl last) (b : Int) :
    Calls Try.prog 48 #[.pointer (some ⟨X, 0, none⟩), .int .i64 b] W fun e w' => e = .returned (.bool (decide (0 ≤ b ∧ b < bl.length))) ∧ w' = W := by
  obtain ⟨hf, _, ⟨vB, vQ, vF, hD, hB, hQ, hF⟩, _, _⟩ := h
  obtain ⟨AB, cB, rfl⟩ := Kd.R_slice hB
  have c0 : W.cell? ⟨X, 0, none⟩ = some (.slice AB bl.length cB) := by simp [World.cell?, hD]
  clear hB hQ hF
  refine (callsIn_wide (n := 1)).1 ?_
  refine callsIn_of_wp Try.func48 rfl trivial ?_ rfl
  simp only [Try.ntmps48, List.size_toArray, List.length_cons, List.length_nil, Nat.reduceAdd, Nat.reduceSub, Array.replicate_succ, Array.replicate_zero, List.push_toArray, List.append_toArray, List.nil_append, List.cons_append]
  by_cases h0 : 0 ≤ b
  · have t1 : decide ((0 : Int) ≤ b) = true := decide_eq_true h0
    rw [show decide (0 ≤ b ∧ b < (bl.length : Int)) = decide (b < (bl.length : Int)) by simp [h0]]
    gi_wp2
    go_ret
    exact ⟨rfl, rfl⟩
  · have t1 : decide ((0 : Int) ≤ b) = false := decide_eq_false h0
    rw [show decide (0 ≤ b ∧ b < (bl.length : Int)) = false by simp [h0]]
    gi_wp2
    go_ret
    exact ⟨rfl, rfl⟩
end Go.Proofs.Ytlkijnnoalfblaa.Dk

namespace Go.Proofs.Ytlkijnnoalfblaa.Dk
open Go Go.RowKit Go.Shelf Go.Proofs Go.Maps Go.Proofs.Ytlkijnnoalfblaa.Sp Go.Proofs.Ytlkijnnoalfblaa.XFb Go.Proofs.YtlkijnnoalfblaaW.PrintWords Go.Proofs.YtlkijnnoalfblaaW.PrintLast Go.Proofs.YtlkijnnoalfblaaW.PrintMore
set_option linter.unusedVariables false
set_option linter.unusedSimpArgs false
theorem x_putQ {W : World} {base X : Nat} {S : Nat → Prop} {bl : List (List Int)} {q : List S49} {fl : List Int} {last : Int} {vB vQ vF v0 : Value} (hX : W.heap[X]? = some (.cells #[vB, v0, vF, .int .i64 last] 82 (0, 0))) (hB : Kd.R (Kd.slice 5 (Kd.int .u8)) 47 W base S vB bl) (hQ : Kd.R k49 49 W base S vQ q) (hF : Kd.R (Kd.int .i64) 3 W base S vF fl)
    (fits : Fits bl q last) (fails : fl.length = bl.length) (inX : S X) (low : ∀ k, S k → base ≤ k ∧ k < W.heap.size) : IsX (W.setCell ⟨X, 1, none⟩ vQ) base X S bl q fl last :=
  ⟨fits, fails, ⟨vB, vQ, vF, by have := Go.Proofs.Ytlkijnnoalfblaa.Nb.set_heap hX (o := 1) vQ; simpa using this, Kd.R_mono (Kd.R_far (Kd.R_types hB hX (by decide)) (p := ⟨X, 1, none⟩) (fun j hj => hj.2) _) (fun j hj => hj.1), Kd.R_mono (Kd.R_far (Kd.R_types hQ hX (by decide)) (p := ⟨X, 1, none⟩) (fun j hj => hj.2) _) (fun j hj => hj.1), Kd.R_mono (Kd.R_far (Kd.R_types hF hX (by decide)) (p := ⟨X, 1, none⟩) (fun j hj => hj.2) _) (fun j hj => hj.1)⟩, inX, fun k hk => by have := low k hk; simpa [World.setCell] using this⟩
theorem x_putF {W : World} {base X : Nat} {S : Nat → Prop} {bl : List (List Int)} {q : List S49} {fl : List Int} {last : Int} {vB vQ vF v0 : Value} (hX : W.heap[X]? = some (.cells #[vB, vQ, v0, .int .i64 last] 82 (0, 0))) (hB : Kd.R (Kd.slice 5 (Kd.int .u8)) 47 W base S vB bl) (hQ : Kd.R k49 49 W base S vQ q) (hF : Kd.R (Kd.int .i64) 3 W base S vF fl)
    (fits : Fits bl q last) (fails : fl.length = bl.length) (inX : S X) (low : ∀ k, S k → base ≤ k ∧ k < W.heap.size) : IsX (W.setCell ⟨X, 2, none⟩ vF) base X S bl q fl last :=
  ⟨fits, fails, ⟨vB, vQ, vF, by have := Go.Proofs.Ytlkijnnoalfblaa.Nb.set_heap hX (o := 2) vF; simpa using this, Kd.R_mono (Kd.R_far (Kd.R_types hB hX (by decide)) (p := ⟨X, 2, none⟩) (fun j hj => hj.2) _) (fun j hj => hj.1), Kd.R_mono (Kd.R_far (Kd.R_types hQ hX (by decide)) (p := ⟨X, 2, none⟩) (fun j hj => hj.2) _) (fun j hj => hj.1), Kd.R_mono (Kd.R_far (Kd.R_types hF hX (by decide)) (p := ⟨X, 2, none⟩) (fun j hj => hj.2) _) (fun j hj => hj.1)⟩, inX, fun k hk => by have := low k hk; simpa [World.setCell] using this⟩
theorem x_putL {W : World} {base X : Nat} {S : Nat → Prop} {bl : List (List Int)} {q : List S49} {fl : List Int} {last : Int} {vB vQ vF v0 : Value} (hX : W.heap[X]? = some (.cells #[vB, vQ, vF, v0] 82 (0, 0))) (hB : Kd.R (Kd.slice 5 (Kd.int .u8)) 47 W base S vB bl) (hQ : Kd.R k49 49 W base S vQ q) (hF : Kd.R (Kd.int .i64) 3 W base S vF fl)
    (fits : Fits bl q last) (fails : fl.length = bl.length) (inX : S X) (low : ∀ k, S k → base ≤ k ∧ k < W.heap.size) : IsX (W.setCell ⟨X, 3, none⟩ (.int .i64 last)) base X S bl q fl last :=
  ⟨fits, fails, ⟨vB, vQ, vF, by have := Go.Proofs.Ytlkijnnoalfblaa.Nb.set_heap hX (o := 3) (.int .i64 last); simpa using this, Kd.R_mono (Kd.R_far (Kd.R_types hB hX (by decide)) (p := ⟨X, 3, none⟩) (fun j hj => hj.2) _) (fun j hj => hj.1), Kd.R_mono (Kd.R_far (Kd.R_types hQ hX (by decide)) (p := ⟨X, 3, none⟩) (fun j hj => hj.2) _) (fun j hj => hj.1), Kd.R_mono (Kd.R_far (Kd.R_types hF hX (by decide)) (p := ⟨X, 3, none⟩) (fun j hj => hj.2) _) (fun j hj => hj.1)⟩, inX, fun k hk => by have := low k hk; simpa [World.setCell] using this⟩
theorem kept_set (W : World) (p : Addr) (v : Value) (S : Nat → Prop) (h : S p.block) : Kept S W (W.setCell p v) :=
  ⟨rfl, rfl, rfl, by simp [World.setCell], fun k _ hn => Below.heap_setCell W p v k (fun e => hn (e ▸ h))⟩
theorem C_len {α : Type} {d : Kd α} {W : World} {A : Option Addr} {n : Nat} {xs : List α} (h : Kd.C d W A n xs) : xs.length = n := h.1
/-- The cell of a number in a row of one's own. -/
theorem at_own {W : World} {base : Nat} {S : Nat → Prop} {v : Value} {xs : List Int} (h : Kd.R (Kd.int .i64) 3 W base S v xs) (i : Nat) (hi : i < xs.length) : ∃ g cap, v = .slice (some ⟨g, 0, none⟩) xs.length cap ∧ S g ∧ g < W.heap.size ∧
    W.cell? ⟨g, i, none⟩ = some (.int .i64 (xs.getD i 0)) ∧ W.frozen? ⟨g, i, none⟩ = false ∧ ∀ c : Int, Kd.R (Kd.int .i64) 3 (W.setCell ⟨g, i, none⟩ (.int .i64 c)) base S v (xs.set i c) := by
  obtain ⟨g, cap, rfl, h1, h2, _⟩ := Kd.R_form h (by omega)
  obtain ⟨cs, hcl, hM, hcell, hfro⟩ := Kd.R_elem h (0 : Int) (i : Int) (by omega) (by omega)
  have hM' : cs = [.int .i64 (xs.getD i 0)] := by rw [Int.toNat_natCast] at hM; exact hM
  subst hM'
  refine ⟨g, cap, rfl, h.1 g (by simp [Value.ownBlock]), h2, ?_, ?_, fun c => ?_⟩
  · have h3 := hcell 0 _ rfl
    rwa [Int.toNat_natCast, show i * (Kd.int .i64 : Kd Int).sz + 0 = i from Nat.mul_one _] at h3
  · have h3 := hfro 0
    rwa [Int.toNat_natCast, show i * (Kd.int .i64 : Kd Int).sz + 0 = i from Nat.mul_one _] at h3
  · obtain ⟨hB6, _⟩ := Kd.R_seg (okp := fun _ => False) (j := 0) (seg := [.int .i64 c]) h (i : Int) (by omega) (by omega) hcl hcell (show (0 + 1 : Nat) ≤ 1 by decide) (x' := c) rfl (fun k hk => hk.elim)
    have e4 : W.setCells g (((i : Int)).toNat * (Kd.int .i64 : Kd Int).sz + 0) [.int .i64 c] = W.setCell ⟨g, i, none⟩ (.int .i64 c) := by
      show W.setCell ⟨g, ((i : Int)).toNat * 1 + 0, none⟩ _ = _
      rw [Int.toNat_natCast, Nat.mul_one, Nat.add_zero]
    rw [e4, Int.toNat_natCast] at hB6
    exact hB6
/-- Behind a number written into the row of reads that fail. -/
theorem x_cellF {W : World} {base X : Nat} {S : Nat → Prop} {bl : List (List Int)} {q : List S49} {fl : List Int} {last : Int} (h : IsX W base X S bl q fl last) {vB vQ vF : Value} (hX : W.heap[X]? = some (.cells #[vB, vQ, vF, .int .i64 last] 82 (0, 0))) (hB : Kd.R (Kd.slice 5 (Kd.int .u8)) 47 W base S vB bl) (hQ : Kd.R k49 49 W base S vQ q) (hF : Kd.R (Kd.int .i64) 3 W base S vF fl) (g : Nat) (hg : vF.ownBlock = some g) (i : Nat) (c : Int) (hF' : Kd.R (Kd.int .i64) 3 (W.setCell ⟨g, i, none⟩ (.int .i64 c)) base S vF (fl.set i c)) :
    IsX (W.setCell ⟨g, i, none⟩ (.int .i64 c)) base X S bl q (fl.set i c) last := by
  obtain ⟨fits, fails, _, inX, low⟩ := h
  have hne : some X ≠ vF.ownBlock := Kd.R_ne hF hX (by decide)
  have hXg : X ≠ g := fun e => hne (by rw [hg, e])
  have hB2 := Kd.R_apart' hB (Kd.R_typed hF) (by decide)
  have hQ2 := Kd.R_apart' hQ (Kd.R_typed hF) (by decide)
  refine ⟨fits, by rw [List.length_set]; exact fails, ⟨vB, vQ, vF, (Below.heap_setCell W ⟨g, i, none⟩ _ X hXg).trans hX, ?_, ?_, hF'⟩, inX, fun k hk => by have := low k hk; simpa [World.setCell] using this⟩
  · exact Kd.R_mono (Kd.R_far hB2 (p := ⟨g, i, none⟩) (fun j hj e => hj.2 (by rw [hg, e])) _) (fun j hj => hj.1)
  · exact Kd.R_mono (Kd.R_far hQ2 (p := ⟨g, i, none⟩) (fun j hj e => hj.2 (by rw [hg, e])) _) (fun j hj => hj.1)
end Go.Proofs.Ytlkijnnoalfblaa.Dk

namespace Go.Proofs.Ytlkijnnoalfblaa.Dk
open Go Go.RowKit Go.Shelf Go.Proofs Go.Maps Go.Proofs.Ytlkijnnoalfblaa.Sp Go.Proofs.Ytlkijnnoalfblaa.XFb Go.Proofs.YtlkijnnoalfblaaW.PrintWords Go.Proofs.YtlkijnnoalfblaaW.PrintLast Go.Proofs.YtlkijnnoalfblaaW.PrintMore
set_option linter.unusedVariables false
set_option linter.unusedSimpArgs false
set_option maxRecDepth 100000 in
set_option maxHeartbeats 8000000 in
theorem x_write {W : World} {base X : Nat} {S : Nat → Prop} {bl : List (List Int)} {q : List S49} {fl : List Int} {last : Int} (h : IsX W base X S bl q fl last) (b : Int) (A : Option Addr) (c : Nat) (x : List Int) (hcx : x.length ≤ c) (hC : ∀ W', Kept S W W' → Kd.C (Kd.int .u8) W' A x.length x) (hlast : last + 1 < 1000000000000000000) :
    Calls Try.prog 23 #[.pointer (some ⟨X, 0, none⟩), .int .i64 b, .slice A x.length c] W fun e W' => e = .returned (.tuple #[.int .i64 (if wrE bl q b x.length = 0 then last + 1 else 0), .int .i64 (wrE bl q b x.length)]) ∧
      IsX W' base X (fun k => S k ∨ (W.heap.size ≤ k ∧ k < W'.heap.size)) bl (if wrE bl q b x.length = 0 then q ++ [⟨last + 1, b, x⟩] else q) fl (if wrE bl q b x.length = 0 then last + 1 else last) ∧ Kept S W W' := by
  have H := Aside0.mk h
  have HC := Aside0.mk hC
  obtain ⟨E, hE⟩ : ∃ E, wrE bl q b x.length = E := ⟨_, rfl⟩
  obtain ⟨r0, hr0⟩ : ∃ r, (if E = 0 then last + 1 else 0) = r := ⟨_, rfl⟩
  obtain ⟨q2, hq2⟩ : ∃ r, (if E = 0 then q ++ [⟨last + 1, b, x⟩] else q) = r := ⟨_, rfl⟩
  obtain ⟨l2, hl2⟩ : ∃ r, (if E = 0 then last + 1 else last) = r := ⟨_, rfl⟩
  rw [hE, hr0, hq2, hl2]
  have HEE := Aside0.mk (And.intro hE (And.intro hr0 (And.intro hq2 hl2)))
  have hno : ∀ W', Below W.heap.size W W' → E ≠ 0 → r0 = 0 ∧ IsX W' base X (fun k => S k ∨ (W.heap.size ≤ k ∧ k < W'.heap.size)) bl q2 fl l2 ∧ Kept S W W' := fun W' hb hne => by
    rw [if_neg hne] at hr0 hq2 hl2
    rw [← hq2, ← hl2, ← hr0]
    obtain ⟨hf, hfl, ⟨vB, vQ, vF, hX, hB, hQ, hF⟩, hiX, hlow⟩ := H.out.below hb
    exact ⟨rfl, ⟨hf, hfl, ⟨vB, vQ, vF, hX, Kd.R_mono hB (fun k hk => .inl hk), Kd.R_mono hQ (fun k hk => .inl hk), Kd.R_mono hF (fun k hk => .inl hk)⟩, .inl hiX, fun k hk => by
      rcases hk with hk | hk
      · exact hlow k hk
      · exact ⟨by have := H.out.low X H.out.inX; omega, hk.2⟩⟩, Kept.of_below hb⟩
  have HNO := Aside0.mk hno
  obtain ⟨hf, hfl, ⟨vB, vQ, vF, hX, hB, hQ, hF⟩, hiX, hlow⟩ := h
  have hXlt := (hlow X hiX).2
  have hq64 := hf.queue
  have HQ := Aside0.mk hQ
  obtain ⟨AQ, cQ, hvQ⟩ := Kd.R_slice hQ
  have HX := Aside0.mk hX
  have c1 : W.cell? ⟨X, 1, none⟩ = some (.slice AQ q.length cQ) := by rw [← hvQ]; simp [World.cell?, hX]
  have HVQ := Aside0.mk hvQ
  have hl0 := hf.low
  have HBB := Aside0.mk (Kd.R_apart' (Kd.R_types hB hX (by decide)) (Kd.R_typed hQ) (by decide))
  have HFF := Aside0.mk (Kd.R_apart' (Kd.R_types hF hX (by decide)) (Kd.R_typed hQ) (by decide))
  have HQQ := Aside0.mk (Kd.R_types hQ hX (by decide))
  have HXQ := Aside0.mk (Kd.R_ne hQ hX (by decide) : some X ≠ vQ.ownBlock)
  have HVL := Aside0.mk (fun k hk => (Kd.R_lt hQ k hk : k < W.heap.size))
  have HVS := Aside0.mk (hQ.1 : ∀ k, vQ.ownBlock = some k → S k)
  have HFIT := Aside0.mk (And.intro hf (And.intro hfl hlow))
  clear hB hQ hF hX hno hC hfl hvQ hf hE hr0 hq2 hl2
  refine (callsIn_wide (n := 1)).1 ?_
  refine callsIn_of_wp Try.func23 rfl trivial ?_ rfl
  simp only [Try.ntmps23, List.size_toArray, List.length_cons, List.length_nil, Nat.reduceAdd, Nat.reduceSub, Array.replicate_succ, Array.replicate_zero, List.push_toArray, List.append_toArray, List.nil_append, List.cons_append]
  by_cases h0 : 0 ≤ b ∧ b < bl.length
  · have e0 : decide (0 ≤ b ∧ b < (bl.length : Int)) = true := decide_eq_true h0
    by_cases h1 : x.length = 128
    · have t1 : ((x.length : Int) != 128) = false := bne_eq_false_iff_eq.2 (by omega)
      have hwE : wrE bl q b x.length = if 0 ≤ ixL (fun x : S49 => x.f1 == b) q 0 then 21 else if 64 ≤ q.length then 3 else 0 := by
        unfold wrE
        rw [if_neg (fun hh => hh h0), if_neg (by omega)]
      have HWE := Aside0.mk hwE
      have H1 := Aside0.mk h1
      clear hwE h1
      gi_wp2_with (first
        | (refine ⟨trivial, ?_⟩; gi_at_call 48; refine (callsIn_wide.2 (x_has H.out _)).mono ?_; rintro e w0 ⟨rfl, hw⟩; rw [e0, hw]; clear hw))
      gi_loopw [24] (fun v24 w' => ∃ i : Nat, v24 = .int .i64 (i : Int) ∧ i ≤ q.length ∧ ixL (fun x : S49 => x.f1 == b) q 0 = ixL (fun x : S49 => x.f1 == b) (q.drop i) i ∧ Aside0 (Below W.heap.size W w')) (fun v24 _ => q.length - (intOf v24).toNat)
      case atStart => exact ⟨0, rfl, Nat.zero_le _, rfl, ⟨Below.refl _ _⟩⟩
      case round =>
        obtain ⟨i, rfl, hi, hall, HB⟩ := hrel
        by_cases hlt : i < q.length
        · have t2 : decide ((i : Int) < (q.length : Int)) = true := decide_eq_true (by omega)
          have ew : wrap64 ((i : Int) + 1) = ((i + 1 : Nat) : Int) := by rw [IntWalk.wrap64_in _ (by omega)]; omega
          obtain ⟨gQ, cap, A2, c2, hv, _, _, k0, k1, k2, _, _⟩ := at_sent (Kd.R_below HQ.out HB.out) i hlt
          have hv2 := HVQ.out.symm.trans hv
          injection hv2 with hA _ hc
          subst hA
          subst hc
          have hd : q.drop i = q[i] :: q.drop (i + 1) := List.drop_eq_getElem_cons hlt
          rw [hd] at hall
          generalize q[i] = s at *
          rw [show ixL (fun x : S49 => x.f1 == b) (s :: q.drop (i + 1)) (i : Int) = if (s.f1 == b) = true then (i : Int) else ixL (fun x : S49 => x.f1 == b) (q.drop (i + 1)) ((i : Int) + 1) from rfl] at hall
          have HL := Aside0.mk hall
          have HBX := Aside0.mk (below_alloc HB.out (.cells #[.int .i64 s.f0, .int .i64 s.f1, .slice A2 s.f2.length c2] 49))
          clear hall hd hv
          cases hn : (s.f1 == b) with
          | true =>
            have HL' := HL.out
            rw [if_pos hn] at HL'
            have HE := Aside0.mk (show E = 21 by rw [← HEE.out.1]; rw [HWE.out, HL', if_pos (by omega)])
            clear HL' HL
            gi_wp2
            refine bodyPost_ret (results_tmp2 rfl _ _ _) rfl ?_
            have h2 := HNO.out _ HBX.out (by rw [HE.out]; decide)
            exact ⟨by rw [h2.1, HE.out]; rfl, h2.2.1, h2.2.2⟩
          | false =>
            have HL' := HL.out
            rw [if_neg (by rw [hn]; simp)] at HL'
            have HL2 := Aside0.mk HL'
            clear HL' HL
            gi_wp2
            exact ⟨⟨i + 1, by simp, hlt, HL2.out.trans (congrArg (ixL (fun x : S49 => x.f1 == b) _) (by omega)), HBX⟩, by simp [intOf]; omega⟩
        · obtain rfl : i = q.length := by omega
          have t2 : decide ((q.length : Int) < (q.length : Int)) = false := decide_eq_false (by omega)
          rw [List.drop_length] at hall
          have hix : ¬ 0 ≤ ixL (fun x : S49 => x.f1 == b) q 0 := by rw [hall]; show ¬ 0 ≤ (-1 : Int); decide
          have HWE2 := Aside0.mk (HWE.out.trans (if_neg hix))
          have c1r : wr.cell? ⟨X, 1, none⟩ = some (.slice AQ q.length cQ) := (HB.out.cell (p := ⟨X, 1, none⟩) hXlt).trans c1
          have HXr := Aside0.mk ((HB.out.block X hXlt).trans HX.out)
          have c3r : wr.cell? ⟨X, 3, none⟩ = some (.int .i64 last) := by simp [World.cell?, HXr.out]
          have f3r : wr.frozen? ⟨X, 3, none⟩ = false := by simp [World.frozen?, HXr.out]
          clear hall hix HWE
          by_cases h3 : 64 ≤ q.length
          · have t3 : decide ((64 : Int) ≤ (q.length : Int)) = true := decide_eq_true (by omega)
            have HE := Aside0.mk (show E = 3 by rw [← HEE.out.1]; rw [HWE2.out, if_pos h3])
            gi_wp2
            refine bodyPost_ret (results_tmp2 rfl _ _ _) rfl ?_
            have h2 := HNO.out _ HB.out (by rw [HE.out]; decide)
            exact ⟨by rw [h2.1, HE.out]; rfl, h2.2.1, h2.2.2⟩
          · have t3 : decide ((64 : Int) ≤ (q.length : Int)) = false := decide_eq_false (by omega)
            have HE := Aside0.mk (show E = 0 by rw [← HEE.out.1]; rw [HWE2.out, if_neg h3])
            have ew : wrap64 (last + 1) = last + 1 := IntWalk.wrap64_in _ (by omega)
            have HL3 := Aside0.mk hlast
            have H3 := Aside0.mk h3
            have HL0 := Aside0.mk hl0
            gi_wp2
            clear ew
            have hvQ := HVQ.out
            subst hvQ
            have hX3 : (wr.setCell ⟨X, 3, none⟩ (.int .i64 (last + 1))).heap[X]? = some (.cells #[vB, .slice AQ q.length cQ, vF, .int .i64 (last + 1)] 82 (0, 0)) := Go.Proofs.Ytlkijnnoalfblaa.Nb.set_heap HXr.out _
            have hk3 : ∀ j, j < W.heap.size → j ≠ X → (wr.setCell ⟨X, 3, none⟩ (.int .i64 (last + 1))).heap[j]? = W.heap[j]? := fun j hj hn => (Below.heap_setCell wr ⟨X, 3, none⟩ _ j hn).trans (HB.out.block j hj)
            have hK3 : Kept S W (wr.setCell ⟨X, 3, none⟩ (.int .i64 (last + 1))) := (Kept.of_below HB.out).trans (kept_set wr ⟨X, 3, none⟩ _ S hiX) (fun j hj => .inl hj)
            have hlow := HFIT.out.2.2
            generalize wr.setCell ⟨X, 3, none⟩ (.int .i64 (last + 1)) = W3 at *
            have hbd : Below W3.heap.size W3 W3.drew := below_drew (Below.refl _ _)
            have hK3d : Kept S W W3.drew := hK3.trans (Kept.of_below (S := S) hbd) (fun j hj => .inl hj)
            have hsd : W3.drew.heap.size = W3.heap.size := rfl
            have hsW := hK3.size
            have hcl := bollardref02_copied.calls A c x x W3.drew (HC.out _ hK3d) hcx (copied_f x (by have := H1.out; omega))
            have HX3 := Aside0.mk (show W3.drew.heap[X]? = some (.cells #[vB, .slice AQ q.length cQ, vF, .int .i64 (last + 1)] 82 (0, 0)) from hX3)
            have hX3lt : X < W3.drew.heap.size := by omega
            have HQ3 := Aside0.mk (Kd.R_mono (Kd.R_step HQQ.out (fun j hj hlt => (hk3 j hlt hj.2 : W3.drew.heap[j]? = W.heap[j]?))) (fun j hj => ⟨hj.2, .inl hj.1⟩) : Kd.R k49 49 W3.drew base (fun k => k ≠ X ∧ (S k ∨ W3.drew.heap.size ≤ k)) (.slice AQ q.length cQ) q)
            have hbase3 : base ≤ W3.drew.heap.size := by have := (hlow X hiX).1; omega
            have hvQlt : ∀ k, (Value.slice AQ q.length cQ).ownBlock = some k → k < W3.drew.heap.size := fun k hk => by have := HVL.out k hk; omega
            have hXQ := HXQ.out
            have y1 : W3.drew.cell? ⟨X, 1, none⟩ = some (.slice AQ q.length cQ) := show W3.cell? _ = _ by simp [World.cell?, hX3]
            have y3 : W3.drew.cell? ⟨X, 3, none⟩ = some (.int .i64 (last + 1)) := show W3.cell? _ = _ by simp [World.cell?, hX3]
            have HK3 := Aside0.mk hK3d
            have HKK := Aside0.mk hk3
            have hq63 : q.length < 64 := by have := H3.out; omega
            clear hK3 hK3d hbd hX3 hk3 c1 c1r c3r f3r
            refine wpIn_wide.2 ?_
            refine start_ (n := 18) (S := fun w' => w'.cell? ⟨X, 1, none⟩ = some (.slice AQ q.length cQ) ∧ w'.cell? ⟨X, 3, none⟩ = some (.int .i64 (last + 1))) (ds := [17]) #[false, false, false, false, false, false, false, false, false, false, false, false, false, false, false, false, false, false] (by kernel_rfl) rfl rfl ⟨y1, y3⟩ (fun hHeld => ?_)
            refine pure_ (i := 0) (N := some 46) (v := ?_) (a' := ?_) #[true, false, false, false, false, false, false, false, false, false, false, false, false, false, false, false, false, false] rfl rfl (by kernel_rfl) (fun _ _ _ h => h) (Or.inl ⟨by rfl, ?_⟩) ?_ ?_
            rotate_left
            · intro w'
              go_simp
              with_reducible rfl
            rotate_left
            · simp only [Act.put, List.setIfInBounds_toArray, List.set_cons_zero, List.set_cons_succ, i64_w, i32_w]
              rfl
            refine pure_ (i := 1) (N := some 47) (v := ?_) (a' := ?_) #[true, true, false, false, false, false, false, false, false, false, false, false, false, false, false, false, false, false] rfl rfl (by kernel_rfl) (fun _ _ _ h => h) (Or.inl ⟨by rfl, ?_⟩) ?_ ?_
            rotate_left
            · intro w'
              go_simp
              with_reducible rfl
            rotate_left
            · simp only [Act.put, List.setIfInBounds_toArray, List.set_cons_zero, List.set_cons_succ, i64_w, i32_w]
              rfl
            refine pure_ (i := 2) (N := some 48) (v := ?_) (a' := ?_) #[true, true, true, false, false, false, false, false, false, false, false, false, false, false, false, false, false, false] rfl rfl (by kernel_rfl) (fun _ _ _ h => h) (Or.inl ⟨by rfl, ?_⟩) ?_ ?_
            rotate_left
            · intro w'
              go_simp
              with_reducible rfl
            rotate_left
            · simp only [Act.put, List.setIfInBounds_toArray, List.set_cons_zero, List.set_cons_succ, i64_w, i32_w]
              rfl
            refine pure_ (i := 3) (N := some 49) (v := ?_) (a' := ?_) #[true, true, true, true, false, false, false, false, false, false, false, false, false, false, false, false, false, false] rfl rfl (by kernel_rfl) (fun _ _ _ h => h) (Or.inl ⟨by rfl, ?_⟩) ?_ ?_
            rotate_left
            · intro w'
              go_simp
              with_reducible rfl
            rotate_left
            · simp only [Act.put, List.setIfInBounds_toArray, List.set_cons_zero, List.set_cons_succ, i64_w, i32_w]
              rfl
            refine pure_ (i := 5) (N := some 51) (v := ?_) (a' := ?_) #[true, true, true, true, false, true, false, false, false, false, false, false, false, false, false, false, false, false] rfl rfl (by kernel_rfl) (fun _ _ _ h => h) (Or.inl ⟨by rfl, ?_⟩) ?_ ?_
            rotate_left
            · intro w'
              go_simp
              with_reducible rfl
            rotate_left
            · simp only [Act.put, List.setIfInBounds_toArray, List.set_cons_zero, List.set_cons_succ, i64_w, i32_w]
              rfl
            refine pure_ (i := 6) (N := some 52) (v := ?_) (a' := ?_) #[true, true, true, true, false, true, true, false, false, false, false, false, false, false, false, false, false, false] rfl rfl (by kernel_rfl) (fun _ _ _ h => h) (Or.inl ⟨by rfl, ?_⟩) ?_ ?_
            rotate_left
            · intro w'
              go_simp
              with_reducible rfl
            rotate_left
            · simp only [Act.put, List.setIfInBounds_toArray, List.set_cons_zero, List.set_cons_succ, i64_w, i32_w]
              rfl
            refine pure_ (i := 7) (N := some 53) (v := ?_) (a' := ?_) #[true, true, true, true, false, true, true, true, false, false, false, false, false, false, false, false, false, false] rfl rfl (by kernel_rfl) (fun _ _ _ h => h) (Or.inl ⟨by rfl, ?_⟩) ?_ ?_
            rotate_left
            · intro w'
              go_simp
              with_reducible rfl
            rotate_left
            · simp only [Act.put, List.setIfInBounds_toArray, List.set_cons_zero, List.set_cons_succ, i64_w, i32_w]
              rfl
            refine pure_ (i := 9) (N := some 55) (v := ?_) (a' := ?_) #[true, true, true, true, false, true, true, true, false, true, false, false, false, false, false, false, false, false] rfl rfl (by kernel_rfl) (fun _ _ _ h => h) (Or.inl ⟨by rfl, ?_⟩) ?_ ?_
            rotate_left
            · intro w'
              go_simp
              with_reducible rfl
            rotate_left
            · simp only [Act.put, List.setIfInBounds_toArray, List.set_cons_zero, List.set_cons_succ, i64_w, i32_w]
              rfl
            refine pure_ (i := 10) (N := some 56) (v := ?_) (a' := ?_) #[true, true, true, true, false, true, true, true, false, true, true, false, false, false, false, false, false, false] rfl rfl (by kernel_rfl) (fun _ _ _ h => h) (Or.inl ⟨by rfl, ?_⟩) ?_ ?_
            rotate_left
            · intro w'
              go_simp
              with_reducible rfl
            rotate_left
            · simp only [Act.put, List.setIfInBounds_toArray, List.set_cons_zero, List.set_cons_succ, i64_w, i32_w]
              rfl
            refine take_ (i := 4) (N := some 50) (v := ?_) (a' := ?_) #[true, true, true, true, true, true, true, true, false, true, true, false, false, false, false, false, false, false] rfl rfl (by kernel_rfl) (fun _ _ _ h => h) (Or.inl ⟨by rfl, ?_⟩) hHeld ?_ ?_
            rotate_left
            · rintro w' ⟨s0, s1⟩
              go_simp
              with_reducible rfl
            rotate_left
            · simp only [Act.put, List.setIfInBounds_toArray, List.set_cons_zero, List.set_cons_succ, i64_w, i32_w]
              rfl
            refine take_ (i := 8) (N := some 54) (v := ?_) (a' := ?_) #[true, true, true, true, true, true, true, true, true, true, true, false, false, false, false, false, false, false] rfl rfl (by kernel_rfl) (fun _ _ _ h => h) (Or.inl ⟨by rfl, ?_⟩) hHeld ?_ ?_
            rotate_left
            · rintro w' ⟨s0, s1⟩
              go_simp
              with_reducible rfl
            rotate_left
            · simp only [Act.put, List.setIfInBounds_toArray, List.set_cons_zero, List.set_cons_succ, i64_w, i32_w]
              rfl
            refine one_ (i := 11) (N := some 57) #[true, true, true, true, true, true, true, true, true, true, true, true, false, false, false, false, false, false] rfl rfl (by kernel_rfl) (by decide) (fun K hK => ?_)
            refine goes_ Try.func44 (by kernel_rfl) rfl #[.slice A x.length c] (by rfl) rfl rfl (by simp only [List.map_toArray, List.map_cons, List.map_nil]; rfl) ?_
            with_reducible refine (hcl).mono ?_
            rintro e w4 ⟨v0, rfl, hr1, hb1⟩
            refine ⟨_, rfl, ?_⟩
            obtain ⟨A1, c1, rfl⟩ := Kd.R_slice hr1
            have HX4 := Aside0.mk ((hb1.block X hX3lt).trans HX3.out)
            have HR4 := Aside0.mk hr1
            have HQ4 := Aside0.mk (Kd.R_below HQ3.out hb1)
            have HB4 := Aside0.mk hb1
            clear hr1 hb1
            refine hK.out _ _ ⟨(show w4.cell? ⟨X, 1, none⟩ = _ by simp [World.cell?, HX4.out]), (show w4.cell? ⟨X, 3, none⟩ = _ by simp [World.cell?, HX4.out])⟩ (fun hHeld => ?_)
            clear hK K
            refine norm_ (a' := ?_) ?_ ?_
            rotate_left
            · show Act.put _ (some 57) _ = _
              simp only [Act.put, List.setIfInBounds_toArray, List.set_cons_zero, List.set_cons_succ, i64_w, i32_w]
              rfl
            refine pure_ (i := 12) (N := some 58) (v := ?_) (a' := ?_) #[true, true, true, true, true, true, true, true, true, true, true, true, true, false, false, false, false, false] rfl rfl (by kernel_rfl) (fun _ _ _ h => h) (Or.inl ⟨by rfl, ?_⟩) ?_ ?_
            rotate_left
            · intro w'
              go_simp
              with_reducible rfl
            rotate_left
            · simp only [Act.put, List.setIfInBounds_toArray, List.set_cons_zero, List.set_cons_succ, i64_w, i32_w]
              rfl
            refine one_ (i := 13) (N := some 59) #[true, true, true, true, true, true, true, true, true, true, true, true, true, true, false, false, false, false] rfl rfl (by kernel_rfl) (by decide) (fun K hK => ?_)
            refine value_ (w1 := ?_) (v := ?_) (by rfl) rfl ?_ ?_
            rotate_left 2
            · go_simp
              constructor
              · rfl
              · rfl
            refine hK.out _ _ ⟨(show (w4.alloc (.cells #[.int .i64 (last + 1), .int .i64 b, .slice A1 x.length c1] 49)).cell? ⟨X, 1, none⟩ = _ by simp [World.cell?, heap_alloc_old _ _ _ (show X < w4.heap.size by have := HB4.out.size; omega), HX4.out]), (show (w4.alloc (.cells #[.int .i64 (last + 1), .int .i64 b, .slice A1 x.length c1] 49)).cell? ⟨X, 3, none⟩ = _ by simp [World.cell?, heap_alloc_old _ _ _ (show X < w4.heap.size by have := HB4.out.size; omega), HX4.out])⟩ (fun hHeld => ?_)
            clear hK K
            refine norm_ (a' := ?_) ?_ ?_
            rotate_left
            · show Act.put _ (some 59) _ = _
              simp only [Act.put, List.setIfInBounds_toArray, List.set_cons_zero, List.set_cons_succ, i64_w, i32_w]
              rfl
            refine one_ (i := 14) (N := some 60) #[true, true, true, true, true, true, true, true, true, true, true, true, true, true, true, false, false, false] rfl rfl (by kernel_rfl) (by decide) (fun K hK => ?_)
            refine Kd.R_append_step k49 (w0 := W3.drew) base (by rfl) (.tmp 50) (.tmp 59) 31 49 _ _ rfl Try.underlying31 info49 rfl (by decide) (by decide) (.slice AQ q.length cQ) q ⟨last + 1, b, x⟩ [_, _, _] (fun k => k ≠ X ∧ (S k ∨ W3.drew.heap.size ≤ k)) (fun k => W3.drew.heap.size ≤ k) rfl rfl (k49_mkM _ _ _ ⟨last + 1, b, x⟩ (Kd.R_mono (Kd.R_lower (Kd.R_bound HR4.out) hbase3) (fun k hk => hk.2.1))) ?okp ?fresh HQ4.out ?below ?base ?room ?_
            case okp => exact fun k hk => ⟨⟨fun e => by omega, .inr (by omega)⟩, fun e => by have := hvQlt k e.symm; omega⟩
            case fresh => exact fun k hk => by have := HB4.out.size; exact ⟨fun e => by omega, .inr (by omega)⟩
            case below => exact ⟨HB4.out.os, HB4.out.tape, HB4.out.output, HB4.out.size, fun k hk => HB4.out.block k (by omega)⟩
            case base => have := HB4.out.size; omega
            case room => omega
            intro v5 w5 hr5 hb5 hg5 ht5
            obtain ⟨ad5, cp5, rfl⟩ := Kd.R_slice1 hr5 (by simp)
            have HX5 := Aside0.mk ((hg5.block X (by have := HB4.out.size; omega) (fun e => hXQ e)).trans HX4.out)
            have HR5 := Aside0.mk hr5
            have HG5 := Aside0.mk hg5
            have c5 : w5.cell? ⟨X, 1, none⟩ = some (.slice AQ q.length cQ) := (by simp [World.cell?, HX5.out])
            have f5 : w5.frozen? ⟨X, 1, none⟩ = false := (by simp [World.frozen?, HX5.out])
            clear hr5 hb5 hg5 ht5
            refine hK.out _ _ ⟨(show w5.cell? ⟨X, 1, none⟩ = _ by simp [World.cell?, HX5.out]), (show w5.cell? ⟨X, 3, none⟩ = _ by simp [World.cell?, HX5.out])⟩ (fun hHeld => ?_)
            clear hK K
            refine norm_ (a' := ?_) ?_ ?_
            rotate_left
            · show Act.put _ (some 60) _ = _
              simp only [Act.put, List.setIfInBounds_toArray, List.set_cons_zero, List.set_cons_succ, i64_w, i32_w]
              rfl
            refine pure_ (i := 15) (N := some 61) (v := ?_) (a' := ?_) #[true, true, true, true, true, true, true, true, true, true, true, true, true, true, true, true, false, false] rfl rfl (by kernel_rfl) (fun _ _ _ h => h) (Or.inl ⟨by rfl, ?_⟩) ?_ ?_
            rotate_left
            · intro w'
              go_simp
              with_reducible rfl
            rotate_left
            · simp only [Act.put, List.setIfInBounds_toArray, List.set_cons_zero, List.set_cons_succ, i64_w, i32_w]
              rfl
            refine pure_ (i := 16) (N := some 62) (v := ?_) (a' := ?_) #[true, true, true, true, true, true, true, true, true, true, true, true, true, true, true, true, true, false] rfl rfl (by kernel_rfl) (fun _ _ _ h => h) (Or.inl ⟨by rfl, ?_⟩) ?_ ?_
            rotate_left
            · intro w'
              go_simp
              with_reducible rfl
            rotate_left
            · simp only [Act.put, List.setIfInBounds_toArray, List.set_cons_zero, List.set_cons_succ, i64_w, i32_w]
              rfl
            refine last_ (i := 17) (N := none) #[true, true, true, true, true, true, true, true, true, true, true, true, true, true, true, true, true, true] rfl rfl (by kernel_rfl) (by decide) (fun K hK => ?_)
            refine skip_ (w1 := ?_) (by rfl) rfl ?_ ?_
            rotate_left
            · go_simp
              rfl
            refine hK.out _ _ ?_
            clear hK K
            refine done_ (by kernel_rfl) ?_
            have hR5 := HR5.out
            rw [List.length_append, List.length_singleton] at hR5
            have hs4 := HB4.out.size
            have hs5 := HG5.out.size
            have hk5 : ∀ j, j < W.heap.size → j ≠ X → some j ≠ (Value.slice AQ q.length cQ).ownBlock → w5.heap[j]? = W.heap[j]? := fun j hj h1 h2 => (HG5.out.block j (by omega) h2).trans ((HB4.out.block j (by omega)).trans (HKK.out j hj h1))
            have hB5 := Kd.R_mono (Kd.R_step HBB.out (fun j hj hlt => hk5 j hlt hj.1.2 hj.2)) (fun j hj => (.inl hj.1.1 : S j ∨ (W.heap.size ≤ j ∧ j < w5.heap.size)))
            have hF5 := Kd.R_mono (Kd.R_step HFF.out (fun j hj hlt => hk5 j hlt hj.1.2 hj.2)) (fun j hj => (.inl hj.1.1 : S j ∨ (W.heap.size ≤ j ∧ j < w5.heap.size)))
            have hQ5 : Kd.R k49 49 w5 base (fun j => S j ∨ (W.heap.size ≤ j ∧ j < w5.heap.size)) (.slice (some ad5) (q.length + 1) cp5) (q ++ [⟨last + 1, b, x⟩]) := Kd.R_mono (Kd.R_bound hR5) (fun j hj => by
              rcases hj.1.2 with h | h
              · exact .inl h
              · exact .inr ⟨by omega, hj.2.2.1⟩)
            have hi6 := x_putQ (vQ := .slice (some ad5) (q.length + 1) cp5) (last := last + 1) HX5.out hB5 hQ5 hF5 ⟨HFIT.out.1.some, HFIT.out.1.most, HFIT.out.1.each, by rw [List.length_append, List.length_singleton]; omega, fun s hs => by
              rcases List.mem_append.1 hs with hs | hs
              · exact HFIT.out.1.sent s hs
              · rw [List.mem_singleton.1 hs]; exact H1.out, fun s hs => by
              rcases List.mem_append.1 hs with hs | hs
              · exact HFIT.out.1.in_ s hs
              · rw [List.mem_singleton.1 hs]; exact h0, by have := HL0.out; show 0 ≤ last + 1; omega, HL3.out⟩ HFIT.out.2.1 (.inl hiX) (fun k hk => by
              rcases hk with hk | hk
              · have := hlow k hk; omega
              · have := (hlow X hiX).1; omega)
            have hK6 : Kept S W (w5.setCell ⟨X, 1, none⟩ (.slice (some ad5) (q.length + 1) cp5)) := ((HK3.out.trans (Kept.of_below (S := S) HB4.out) (fun j hj => .inl hj)).trans (Kept.of_grown (S := S) HG5.out HVS.out) (fun j hj => .inl hj)).trans (kept_set w5 ⟨X, 1, none⟩ _ S hiX) (fun j hj => .inl hj)
            have c63 : (w5.setCell ⟨X, 1, none⟩ (.slice (some ad5) (q.length + 1) cp5)).cell? ⟨X, 3, none⟩ = some (.int .i64 (last + 1)) := by
              have := Go.Proofs.Ytlkijnnoalfblaa.Nb.set_heap HX5.out (o := 1) (.slice (some ad5) (q.length + 1) cp5)
              simp [World.cell?, this]
            have hs6 : (w5.setCell ⟨X, 1, none⟩ (.slice (some ad5) (q.length + 1) cp5)).heap.size = w5.heap.size := by simp [World.setCell]
            have HI6 := Aside0.mk (hs6 ▸ hi6 : IsX (w5.setCell ⟨X, 1, none⟩ (.slice (some ad5) (q.length + 1) cp5)) base X (fun k => S k ∨ (W.heap.size ≤ k ∧ k < (w5.setCell ⟨X, 1, none⟩ (.slice (some ad5) (q.length + 1) cp5)).heap.size)) bl (q ++ [⟨last + 1, b, x⟩]) fl (last + 1))
            have HK6 := Aside0.mk hK6
            clear hi6 hK6 hs6 hB5 hF5 hQ5 hR5 hk5
            generalize w5.setCell ⟨X, 1, none⟩ (.slice (some ad5) (q.length + 1) cp5) = W6 at *
            gi_wp2
            refine bodyPost_ret (results_tmp2 rfl _ _ _) rfl ?_
            obtain ⟨_, hr0, hq2, hl2⟩ := HEE.out
            rw [if_pos HE.out] at hr0 hq2 hl2
            rw [← hr0, ← hq2, ← hl2, HE.out]
            exact ⟨rfl, HI6.out, HK6.out⟩
    · have t1 : ((x.length : Int) != 128) = true := bne_iff_ne.mpr (by omega)
      have HE := Aside0.mk (show E = 1 by rw [← HEE.out.1]; unfold wrE; rw [if_neg (fun hh => hh h0), if_pos h1])
      gi_wp2_with (first
        | (refine ⟨trivial, ?_⟩; gi_at_call 48; refine (callsIn_wide.2 (x_has H.out _)).mono ?_; rintro e w0 ⟨rfl, hw⟩; rw [e0, hw]; clear hw))
      refine bodyPost_ret (results_tmp2 rfl _ _ _) rfl ?_
      have h2 := HNO.out _ (Below.refl _ _) (by rw [HE.out]; decide)
      exact ⟨by rw [h2.1, HE.out]; rfl, h2.2.1, h2.2.2⟩
  · have e0 : decide (0 ≤ b ∧ b < (bl.length : Int)) = false := decide_eq_false h0
    have HE := Aside0.mk (show E = 1 by rw [← HEE.out.1]; unfold wrE; rw [if_pos h0])
    gi_wp2_with (first
      | (refine ⟨trivial, ?_⟩; gi_at_call 48; refine (callsIn_wide.2 (x_has H.out _)).mono ?_; rintro e w0 ⟨rfl, hw⟩; rw [e0, hw]; clear hw))
    refine bodyPost_ret (results_tmp2 rfl _ _ _) rfl ?_
    have h2 := HNO.out _ (Below.refl _ _) (by rw [HE.out]; decide)
    exact ⟨by rw [h2.1, HE.out]; rfl, h2.2.1, h2.2.2⟩
end Go.Proofs.Ytlkijnnoalfblaa.Dk

namespace Go.Proofs.Ytlkijnnoalfblaa.Dk
open Go Go.RowKit Go.Shelf Go.Proofs Go.Maps Go.Proofs.Ytlkijnnoalfblaa.Sp Go.Proofs.Ytlkijnnoalfblaa.XFb Go.Proofs.YtlkijnnoalfblaaW.PrintWords Go.Proofs.YtlkijnnoalfblaaW.PrintLast Go.Proofs.YtlkijnnoalfblaaW.PrintMore
set_option linter.unusedVariables false
set_option linter.unusedSimpArgs false
theorem below_base {n m : Nat} (hm : n ≤ m) {W W' : World} (h : Below m W W') : Below n W W' := ⟨h.os, h.tape, h.output, h.size, fun k hk => h.block k (by omega)⟩
theorem grown_below {W W' : World} (h : W.grownBy W' none) : Below W.heap.size W W' := ⟨h.os, h.tape, h.output, h.size, fun k hk => h.block k hk (by simp)⟩
theorem rows_take {α : Type} {R : α → List Value → Prop} {sz : Nat} {w : World} {A : Option Addr} {n : Nat} {ps : List α} (h : ReadsRow R sz w A n ps) (k : Nat) (hk : k ≤ n) : ReadsRow R sz w A k (ps.take k) :=
  ⟨by rw [List.length_take, h.1]; omega, by have := h.2.1; omega, fun h0 => by
    obtain ⟨ad, e, hc⟩ := h.2.2 (by omega)
    refine ⟨ad, e, fun j p hj => hc j p ?_⟩
    rw [List.getElem?_take] at hj
    split at hj
    · exact hj
    · cases hj⟩
theorem rows_drop {α : Type} {R : α → List Value → Prop} {sz : Nat} {w : World} {g : Nat} {n : Nat} {ps : List α} (h : ReadsRow R sz w (some ⟨g, 0, none⟩) n ps) (k : Nat) (hk : k ≤ n) : ReadsRow R sz w (some ⟨g, k * sz, none⟩) (n - k) (ps.drop k) :=
  ⟨by rw [List.length_drop, h.1], by have := h.2.1; omega, fun h0 => by
    obtain ⟨ad, e, hc⟩ := h.2.2 (by omega)
    injection e with e
    subst e
    refine ⟨_, rfl, fun j p hj => ?_⟩
    rw [List.getElem?_drop] at hj
    obtain ⟨c, h1, h2, h3⟩ := hc (k + j) p hj
    refine ⟨c, h1, h2, fun i u hu => ?_⟩
    have h4 := h3 i u hu
    rw [addr0] at h4
    rw [show (⟨g, k * sz, none⟩ : Addr).add (j * sz + i) = ⟨g, (k + j) * sz + i, none⟩ by
      rw [show (k + j) * sz + i = k * sz + (j * sz + i) by rw [Nat.add_mul]; omega]
      generalize j * sz + i = t
      unfold Addr.add
      by_cases hz : t = 0 <;> simp [hz]]
    exact h4⟩
theorem rows_cut {α : Type} {R : α → List Value → Prop} {sz : Nat} {w : World} {g : Nat} {n : Nat} {ps : List α} (h : ReadsRow R sz w (some ⟨g, 0, none⟩) n ps) (k c : Nat) (hk : k ≤ n) (hc : n ≤ c) : ReadsRow R sz w (if c = k then some ⟨g, 0, none⟩ else some ⟨g, k * sz, none⟩) (n - k) (ps.drop k) := by
  have h1 := rows_drop h k hk
  split
  · exact ⟨h1.1, h1.2.1, fun h0 => absurd h0 (by omega)⟩
  · exact h1
theorem IsX.grow {W : World} {base X : Nat} {S : Nat → Prop} {bl : List (List Int)} {q : List S49} {fl : List Int} {last : Int} (h : IsX W base X S bl q fl last) {S' : Nat → Prop} (hs : ∀ k, S k → S' k) (hl : ∀ k, S' k → base ≤ k ∧ k < W.heap.size) : IsX W base X S' bl q fl last := by
  obtain ⟨h1, h0, ⟨vB, vQ, vF, hD, hB, hQ, hF⟩, h2, h4⟩ := h
  exact ⟨h1, h0, ⟨vB, vQ, vF, hD, Kd.R_mono hB hs, Kd.R_mono hQ hs, Kd.R_mono hF hs⟩, hs X h2, hl⟩
/-- The cell of a block in a row of blocks. -/
theorem at_block {W : World} {base : Nat} {S : Nat → Prop} {g n cap : Nat} {bl : List (List Int)} (h : Kd.R (Kd.slice 5 (Kd.int .u8)) 47 W base S (.slice (some ⟨g, 0, none⟩) n cap) bl) (i : Int) (h0 : 0 ≤ i) (h1 : i < n) : ∃ vE, W.cell? ⟨g, i.toNat, none⟩ = some vE ∧ W.frozen? ⟨g, i.toNat, none⟩ = false := by
  obtain ⟨cs, hcl, ⟨vE, rfl, _⟩, hcell, hfro⟩ := Kd.R_elem h ([] : List Int) i h0 h1
  refine ⟨vE, ?_, ?_⟩
  · have h3 := hcell 0 _ rfl
    rwa [show i.toNat * (Kd.slice 5 (Kd.int .u8)).sz + 0 = i.toNat from Nat.mul_one _] at h3
  · have h3 := hfro 0
    rwa [show i.toNat * (Kd.slice 5 (Kd.int .u8)).sz + 0 = i.toNat from Nat.mul_one _] at h3
/-- Behind a block's bytes written into the row of blocks. -/
theorem x_cellB {W : World} {base X : Nat} {S : Nat → Prop} {bl : List (List Int)} {q : List S49} {fl : List Int} {last : Int} (h : IsX W base X S bl q fl last) {vB vQ vF : Value} (hX : W.heap[X]? = some (.cells #[vB, vQ, vF, .int .i64 last] 82 (0, 0))) (hB : Kd.R (Kd.slice 5 (Kd.int .u8)) 47 W base S vB bl) (hQ : Kd.R k49 49 W base S vQ q) (hF : Kd.R (Kd.int .i64) 3 W base S vF fl) (g cap : Nat) (hg : vB = .slice (some ⟨g, 0, none⟩) bl.length cap) (i : Int) (h0 : 0 ≤ i) (h1 : i < bl.length) (A : Option Addr) (c : Nat) (x : List Int) (hx : x.length = 128) {okp : Nat → Prop}
    (hR : Kd.R (Kd.int .u8) 5 W base okp (.slice A x.length c) x) (hok : ∀ k, okp k → S k ∧ k ≠ g) :
    IsX (W.setCell ⟨g, i.toNat, none⟩ (.slice A x.length c)) base X S (bl.set i.toNat x) q fl last := by
  obtain ⟨fits, fails, _, inX, low⟩ := h
  subst hg
  have hne := Kd.R_ne hB hX (by decide)
  have hXg : X ≠ g := fun e => hne (by rw [e]; simp [Value.ownBlock])
  have hQ2 := Kd.R_apart' hQ (Kd.R_typed hB) (by decide)
  have hF2 := Kd.R_apart' hF (Kd.R_typed hB) (by decide)
  obtain ⟨cs, hcl, ⟨vE, rfl, _⟩, hcell, hfro⟩ := Kd.R_elem hB ([] : List Int) i h0 h1
  obtain ⟨hB6, _⟩ := Kd.R_seg (okp := okp) (j := 0) (seg := [.slice A x.length c]) hB i h0 h1 hcl hcell (show (0 + 1 : Nat) ≤ 1 by decide) (x' := x) ⟨_, rfl, hR⟩ (fun k hk => ⟨(hok k hk).1, fun e => (hok k hk).2 (by simpa [Value.ownBlock] using e)⟩)
  have e4 : W.setCells g (i.toNat * (Kd.slice 5 (Kd.int .u8)).sz + 0) [.slice A x.length c] = W.setCell ⟨g, i.toNat, none⟩ (.slice A x.length c) := by
    show W.setCell ⟨g, i.toNat * 1 + 0, none⟩ _ = _
    rw [Nat.mul_one, Nat.add_zero]
  rw [e4] at hB6
  refine ⟨⟨by rw [List.length_set]; exact fits.some, by rw [List.length_set]; exact fits.most, fun y hy => ?_, fits.queue, fits.sent, fun s hs => by rw [List.length_set]; exact fits.in_ s hs, fits.low, fits.high⟩, by rw [List.length_set]; exact fails, ⟨_, vQ, vF, (Below.heap_setCell W ⟨g, i.toNat, none⟩ _ X hXg).trans hX, hB6, ?_, ?_⟩, inX, fun k hk => by have := low k hk; simpa [World.setCell] using this⟩
  · rcases List.mem_or_eq_of_mem_set hy with hy | rfl
    · exact fits.each y hy
    · exact hx
  · exact Kd.R_mono (Kd.R_far hQ2 (p := ⟨g, i.toNat, none⟩) (fun j hj e => hj.2 (by rw [e]; simp [Value.ownBlock])) _) (fun j hj => hj.1)
  · exact Kd.R_mono (Kd.R_far hF2 (p := ⟨g, i.toNat, none⟩) (fun j hj e => hj.2 (by rw [e]; simp [Value.ownBlock])) _) (fun j hj => hj.1)
end Go.Proofs.Ytlkijnnoalfblaa.Dk

namespace Go.Proofs.Ytlkijnnoalfblaa.Dk
open Go Go.RowKit Go.Shelf Go.Proofs Go.Maps Go.Proofs.Ytlkijnnoalfblaa.Sp Go.Proofs.Ytlkijnnoalfblaa.XFb Go.Proofs.YtlkijnnoalfblaaW.PrintWords Go.Proofs.YtlkijnnoalfblaaW.PrintLast Go.Proofs.YtlkijnnoalfblaaW.PrintMore
set_option linter.unusedVariables false
set_option linter.unusedSimpArgs false
theorem infoint : (Try.prog.info? 3).map (fun i => (i.zero, i.size, i.bytes)) = some (some (.int .i64 0), 1, 8) := by kernel_rfl
theorem x_block {W : World} {base X : Nat} {S : Nat → Prop} {bl : List (List Int)} {q : List S49} {fl : List Int} {last : Int} (h : IsX W base X S bl q fl last) {g cap : Nat} (hc : W.cell? ⟨X, 0, none⟩ = some (.slice (some ⟨g, 0, none⟩) bl.length cap)) (i : Int) (h0 : 0 ≤ i) (h1 : i < bl.length) (A : Option Addr) (c : Nat) (x : List Int) (hx : x.length = 128) {okp : Nat → Prop}
    (hR : Kd.R (Kd.int .u8) 5 W base okp (.slice A x.length c) x) (hok : ∀ k, okp k → S k ∧ k ≠ g) :
    IsX (W.setCell ⟨g, i.toNat, none⟩ (.slice A x.length c)) base X S (bl.set i.toNat x) q fl last ∧ S g := by
  have h' := h
  obtain ⟨_, _, ⟨vB9, vQ9, vF9, hX9, hB9, hQ9, hF9⟩, _, _⟩ := h'
  have hvB9 : vB9 = .slice (some ⟨g, 0, none⟩) bl.length cap := by
    simp [World.cell?, hX9] at hc
    exact hc
  exact ⟨x_cellB h hX9 hB9 hQ9 hF9 g cap hvB9 i h0 h1 A c x hx hR hok, hB9.1 g (by rw [hvB9]; simp [Value.ownBlock])⟩
end Go.Proofs.Ytlkijnnoalfblaa.Dk

namespace Go.Proofs.Ytlkijnnoalfblaa.Dk
open Go Go.RowKit Go.Shelf Go.Proofs Go.Maps Go.Proofs.Ytlkijnnoalfblaa.Sp Go.Proofs.Ytlkijnnoalfblaa.XFb Go.Proofs.YtlkijnnoalfblaaW.PrintWords Go.Proofs.YtlkijnnoalfblaaW.PrintLast Go.Proofs.YtlkijnnoalfblaaW.PrintMore
set_option linter.unusedVariables false
set_option linter.unusedSimpArgs false
end Go.Proofs.Ytlkijnnoalfblaa.Dk

namespace Go.Proofs.Ytlkijnnoalfblaa.Dk
open Go Go.RowKit Go.Shelf Go.Proofs Go.Maps Go.Proofs.Ytlkijnnoalfblaa.Sp Go.Proofs.Ytlkijnnoalfblaa.XFb Go.Proofs.YtlkijnnoalfblaaW.PrintWords Go.Proofs.YtlkijnnoalfblaaW.PrintLast Go.Proofs.YtlkijnnoalfblaaW.PrintMore
set_option linter.unusedVariables false
set_option linter.unusedSimpArgs false
/-- What a write answers, and the queue and the last number behind it. -/
def wrN (bl : List (List Int)) (q : List S49) (last b : Int) (x : List Int) : Int := if wrE bl q b x.length = 0 then last + 1 else 0
def wrQ (bl : List (List Int)) (q : List S49) (last b : Int) (x : List Int) : List S49 := if wrE bl q b x.length = 0 then q ++ [⟨last + 1, b, x⟩] else q
def wrL (bl : List (List Int)) (q : List S49) (last b : Int) (x : List Int) : Int := if wrE bl q b x.length = 0 then last + 1 else last
def cmE (q : List S49) (id : Int) (ok : Bool) : Int := if ixL (fun x : S49 => x.f0 == id) q 0 < 0 then 20 else if ok then 0 else 4
def cmB (bl : List (List Int)) (q : List S49) (id : Int) (ok : Bool) : List (List Int) := if cmE q id ok = 0 then crB q bl id else bl
def cmQ (q : List S49) (id : Int) : List S49 := if ixL (fun x : S49 => x.f0 == id) q 0 < 0 then q else q.eraseIdx (ixL (fun x : S49 => x.f0 == id) q 0).toNat
def crE (q : List S49) (ids : List Int) : Int := if ids.all (fun i => decide (0 ≤ ixL (fun x : S49 => x.f0 == i) q 0)) = true then 0 else 20
def crBs (bl : List (List Int)) (q : List S49) (ids : List Int) : List (List Int) := if crE q ids = 0 then ids.foldl (crB q) bl else bl
def crQ (q : List S49) (ids : List Int) : List S49 := if crE q ids = 0 then [] else q
def crF (bl : List (List Int)) (q : List S49) (fl ids : List Int) : List Int := if crE q ids = 0 then List.replicate bl.length 0 else fl
theorem cm_cases (q : List S49) (id : Int) : ixL (fun x : S49 => x.f0 == id) q 0 < 0 ∨ ∃ k : Nat, k < q.length ∧ ixL (fun x : S49 => x.f0 == id) q 0 = (k : Int) := by
  rcases ixL_range (fun x : S49 => x.f0 == id) q 0 with e | ⟨k, hk, e⟩
  · exact .inl (by rw [e]; decide)
  · exact .inr ⟨k, hk, by rw [e]; omega⟩
theorem cm_none {q : List S49} {id : Int} (h : ixL (fun x : S49 => x.f0 == id) q 0 < 0) (bl : List (List Int)) (ok : Bool) : cmE q id ok = 20 ∧ cmB bl q id ok = bl ∧ cmQ q id = q := by
  have h1 : cmE q id ok = 20 := by unfold cmE; rw [if_pos h]
  exact ⟨h1, by unfold cmB; rw [if_neg (by rw [h1]; decide)], by unfold cmQ; rw [if_pos h]⟩
theorem cm_some {q : List S49} {id : Int} {k : Nat} (hk : k < q.length) (h : ixL (fun x : S49 => x.f0 == id) q 0 = (k : Int)) (bl : List (List Int)) (ok : Bool) : cmE q id ok = (if ok then 0 else 4) ∧ cmB bl q id ok = (if ok then bl.set q[k].f1.toNat q[k].f2 else bl) ∧ cmQ q id = q.eraseIdx k := by
  have h0 : ¬ ((k : Int) < 0) := by omega
  have hw : wrOf q id = q[k] := by unfold wrOf; rw [h]; simp [List.getD_eq_getElem?_getD, hk]
  have h1 : cmE q id ok = (if ok then 0 else 4) := by unfold cmE; rw [h, if_neg h0]
  refine ⟨h1, ?_, ?_⟩
  · unfold cmB
    rw [h1]
    cases ok
    · rfl
    · simp only [if_true]; unfold crB; rw [hw]
  · unfold cmQ
    rw [h, if_neg h0, Int.toNat_natCast]
theorem cr_no {q : List S49} {ids : List Int} (h : ¬ ids.all (fun i => decide (0 ≤ ixL (fun x : S49 => x.f0 == i) q 0)) = true) : crE q ids = 20 ∧ ∃ i ∈ ids, ixL (fun x : S49 => x.f0 == i) q 0 < 0 := by
  refine ⟨by unfold crE; rw [if_neg h], ?_⟩
  rw [List.all_eq_true] at h
  false_or_by_contra
  rename_i hn
  exact h (fun i hi => decide_eq_true (by false_or_by_contra; rename_i h2; exact hn ⟨i, hi, by omega⟩))
theorem cr_all {q : List S49} {ids : List Int} (h : ids.all (fun i => decide (0 ≤ ixL (fun x : S49 => x.f0 == i) q 0)) = true) : crE q ids = 0 ∧ ∀ i ∈ ids, 0 ≤ ixL (fun x : S49 => x.f0 == i) q 0 :=
  ⟨by unfold crE; rw [if_pos h], fun i hi => of_decide_eq_true (List.all_eq_true.1 h i hi)⟩
theorem dm_write {W : World} {base D m : Nat} {S : Nat → Prop} {bl : List (List Int)} {q : List S49} {fl : List Int} {last : Int} {n : Nat} (h : IsDm W base D m S bl q fl last n) (b : Int) (A : Option Addr) (c : Nat) (x : List Int) (hcx : x.length ≤ c) (hC : ∀ W', Kept S W W' → Kd.C (Kd.int .u8) W' A x.length x) (hlast : last + 1 < 1000000000000000000) :
    Calls Try.prog 22 #[.pointer (some ⟨D, 0, none⟩), .int .i64 b, .slice A x.length c] W fun e W' => e = .returned (.tuple #[.int .i64 (wrN bl q last b x), .int .i64 (wrE bl q b x.length)]) ∧ (∃ S', (∀ k, S' k → S k ∨ W.heap.size ≤ k) ∧ IsDm W' base D m S' bl (wrQ bl q last b x) fl (wrL bl q last b x) n) ∧ Kept S W W' := by
  obtain ⟨mo, hdk⟩ := h.dk
  by_cases he : wrE bl q b x.length = 0
  · have h128 : x.length = 128 := by
      unfold wrE at he
      split at he
      · exact absurd he (by decide)
      · split at he
        · exact absurd he (by decide)
        · next hh => exact Decidable.not_not.1 hh
    have h1 := write_full hdk b A c x h128 (by omega) hC (by rw [← h128]; exact he) hlast
    rw [← h128] at h1
    refine h1.mono ?_
    rintro e W' ⟨rfl, hi, hk⟩
    unfold wrN wrQ wrL
    rw [if_pos he, if_pos he, if_pos he, he]
    exact ⟨rfl, ⟨_, fun k hk => hk.imp (fun h => h) (fun h => h.1), h.next hdk.map hi rfl⟩, hk⟩
  · refine (write_no hdk b A x.length c he).mono ?_
    rintro e W' ⟨rfl, hb⟩
    unfold wrN wrQ wrL
    rw [if_neg he, if_neg he, if_neg he]
    exact ⟨rfl, ⟨S, fun k hk => .inl hk, h.below hb⟩, Kept.of_below hb⟩
theorem dm_complete {W : World} {base D m : Nat} {S : Nat → Prop} {bl : List (List Int)} {q : List S49} {fl : List Int} {last : Int} {n : Nat} (h : IsDm W base D m S bl q fl last n) (id : Int) (ok : Bool) :
    Calls Try.prog 17 #[.pointer (some ⟨D, 0, none⟩), .int .i64 id, .bool ok] W fun e W' => e = .returned (.int .i64 (cmE q id ok)) ∧ (∃ S', (∀ k, S' k → S k ∨ W.heap.size ≤ k) ∧ IsDm W' base D m S' (cmB bl q id ok) (cmQ q id) fl last n) ∧ Kept S W W' := by
  obtain ⟨mo, hdk⟩ := h.dk
  rcases cm_cases q id with hix | ⟨k, hk, hix⟩
  · obtain ⟨e1, e2, e3⟩ := cm_none hix bl ok
    rw [e1, e2, e3]
    refine (complete_none hdk id ok hix).mono ?_
    rintro e W' ⟨rfl, hb⟩
    exact ⟨rfl, ⟨S, fun k hk => .inl hk, h.below hb⟩, Kept.of_below hb⟩
  · obtain ⟨e1, e2, e3⟩ := cm_some hk hix bl ok
    rw [e1, e2, e3]
    refine (complete_some hdk id ok k hk hix).mono ?_
    rintro e W' ⟨rfl, hi, hk⟩
    exact ⟨rfl, ⟨S, fun k hk => .inl hk, h.next hdk.map hi (by cases ok <;> simp)⟩, hk⟩
theorem dm_crash {W : World} {base D m : Nat} {S : Nat → Prop} {bl : List (List Int)} {q : List S49} {fl : List Int} {last : Int} {n : Nat} (h : IsDm W base D m S bl q fl last n) (A : Option Addr) (c : Nat) (ids : List Int) (hC : ∀ W', Kept S W W' → Kd.C (Kd.int .i64) W' A ids.length ids) (hlen : ids.length ≤ 1000000000000000) :
    Calls Try.prog 13 #[.pointer (some ⟨D, 0, none⟩), .slice A ids.length c] W fun e W' => e = .returned (.int .i64 (crE q ids)) ∧ (∃ S', (∀ k, S' k → S k ∨ W.heap.size ≤ k) ∧ IsDm W' base D m S' (crBs bl q ids) (crQ q ids) (crF bl q fl ids) last n) ∧ Kept S W W' := by
  obtain ⟨mo, hdk⟩ := h.dk
  unfold crBs crQ crF
  by_cases ha : ids.all (fun i => decide (0 ≤ ixL (fun x : S49 => x.f0 == i) q 0)) = true
  · obtain ⟨e1, hall⟩ := cr_all ha
    rw [e1, if_pos rfl, if_pos rfl, if_pos rfl]
    refine (crash_ok hdk A c ids hC hlen hall).mono ?_
    rintro e W' ⟨rfl, ⟨ck, hi⟩, hk⟩
    have hl : (ids.foldl (crB q) bl).length = bl.length := by
      have key : ∀ (l : List Int) (b : List (List Int)), (l.foldl (crB q) b).length = b.length := by
        intro l
        induction l with
        | nil => intro b; rfl
        | cons a r ih => intro b; rw [List.foldl_cons, ih]; unfold crB; rw [List.length_set]
      exact key ids bl
    exact ⟨rfl, ⟨_, fun k hk => hk.imp (fun h => h) (fun h => h.1), ⟨⟨_, hi⟩, ⟨_, empty_own hi.map n, AgF.none_ _⟩, by rw [List.length_replicate, hl]⟩⟩, hk⟩
  · obtain ⟨e1, hno⟩ := cr_no ha
    rw [e1, if_neg (by decide), if_neg (by decide), if_neg (by decide)]
    refine (crash_no hdk A c ids (hC W (Kept.refl _ _)) hlen hno).mono ?_
    rintro e W' ⟨rfl, hb⟩
    exact ⟨rfl, ⟨S, fun k hk => .inl hk, h.below hb⟩, Kept.of_below hb⟩
theorem x_writeS {W : World} {base X : Nat} {S : Nat → Prop} {bl : List (List Int)} {q : List S49} {fl : List Int} {last : Int} (h : IsX W base X S bl q fl last) (b : Int) (A : Option Addr) (c : Nat) (x : List Int) (hcx : x.length ≤ c) (hC : ∀ W', Kept S W W' → Kd.C (Kd.int .u8) W' A x.length x) (hlast : last + 1 < 1000000000000000000) :
    Calls Try.prog 23 #[.pointer (some ⟨X, 0, none⟩), .int .i64 b, .slice A x.length c] W fun e W' => e = .returned (.tuple #[.int .i64 (wrN bl q last b x), .int .i64 (wrE bl q b x.length)]) ∧ (∃ S', (∀ k, S' k → S k ∨ W.heap.size ≤ k) ∧ IsX W' base X S' bl (wrQ bl q last b x) fl (wrL bl q last b x)) ∧ Kept S W W' := by
  refine (x_write h b A c x hcx hC hlast).mono ?_
  rintro e W' ⟨rfl, hi, hk⟩
  exact ⟨rfl, ⟨_, fun k hk => hk.imp (fun h => h) (fun h => h.1), hi⟩, hk⟩
end Go.Proofs.Ytlkijnnoalfblaa.Dk

namespace Go.Proofs.Ytlkijnnoalfblaa.Dk
open Go Go.RowKit Go.Shelf Go.Proofs Go.Maps Go.Proofs.Ytlkijnnoalfblaa.Sp Go.Proofs.Ytlkijnnoalfblaa.XFb Go.Proofs.YtlkijnnoalfblaaW.PrintWords Go.Proofs.YtlkijnnoalfblaaW.PrintLast Go.Proofs.YtlkijnnoalfblaaW.PrintMore
set_option linter.unusedVariables false
set_option linter.unusedSimpArgs false
/-- The program's disk and the reference's, which have the same. -/
structure Both (W : World) (base D m : Nat) (Sd : Nat → Prop) (X : Nat) (Sx : Nat → Prop) (bl : List (List Int)) (q : List S49) (fl : List Int) (last : Int) (n : Nat) : Prop where
  dm : IsDm W base D m Sd bl q fl last n
  x : IsX W base X Sx bl q fl last
  dis : ∀ k, Sd k → ¬ Sx k
  flb : ∀ c ∈ fl, 0 ≤ c ∧ c ≤ 1000
theorem IsDm.low {W : World} {base D m : Nat} {S : Nat → Prop} {bl : List (List Int)} {q : List S49} {fl : List Int} {last : Int} {n : Nat} (h : IsDm W base D m S bl q fl last n) : ∀ k, S k → base ≤ k ∧ k < W.heap.size := by
  obtain ⟨mo, hd⟩ := h.dk
  exact hd.low
theorem Both.kept {W : World} {base D m : Nat} {Sd : Nat → Prop} {X : Nat} {Sx : Nat → Prop} {bl : List (List Int)} {q : List S49} {fl : List Int} {last : Int} {n : Nat} (h : Both W base D m Sd X Sx bl q fl last n) {W' : World} {S2 : Nat → Prop} (hk : Kept S2 W W') (h1 : ∀ k, Sd k → ¬ S2 k) (h2 : ∀ k, Sx k → ¬ S2 k) : Both W' base D m Sd X Sx bl q fl last n :=
  ⟨h.dm.kept hk h1, h.x.kept hk h2, h.dis, h.flb⟩
theorem Both.below {W : World} {base D m : Nat} {Sd : Nat → Prop} {X : Nat} {Sx : Nat → Prop} {bl : List (List Int)} {q : List S49} {fl : List Int} {last : Int} {n : Nat} (h : Both W base D m Sd X Sx bl q fl last n) {W' : World} (hb : Below W.heap.size W W') : Both W' base D m Sd X Sx bl q fl last n :=
  ⟨h.dm.below hb, h.x.below hb, h.dis, h.flb⟩
end Go.Proofs.Ytlkijnnoalfblaa.Dk

namespace Go.Proofs.Ytlkijnnoalfblaa.Dk
open Go Go.RowKit Go.Shelf Go.Proofs Go.Maps Go.Proofs.Ytlkijnnoalfblaa.Sp Go.Proofs.Ytlkijnnoalfblaa.XFb Go.Proofs.YtlkijnnoalfblaaW.PrintWords Go.Proofs.YtlkijnnoalfblaaW.PrintLast Go.Proofs.YtlkijnnoalfblaaW.PrintMore
set_option linter.unusedVariables false
set_option linter.unusedSimpArgs false
/-- The first row that has not 128 bytes, from i on; -1: none. -/
def ixB : List (List Int) → Int → Int
  | [], _ => -1
  | x :: r, i => if x.length = 128 then ixB r (i + 1) else i
theorem ixB_none : ∀ (xs : List (List Int)) (i : Int), (∀ x ∈ xs, x.length = 128) → ixB xs i = -1
  | [], _, _ => rfl
  | x :: r, i, h => by unfold ixB; rw [if_pos (h x (List.mem_cons_self ..))]; exact ixB_none r _ (fun y hy => h y (List.mem_cons_of_mem _ hy))
theorem ixB_some : ∀ (xs : List (List Int)) (i : Int), 0 ≤ i → (∃ x ∈ xs, x.length ≠ 128) → 0 ≤ ixB xs i
  | [], _, _, h => by obtain ⟨x, hx, _⟩ := h; cases hx
  | x :: r, i, h0, h => by
    unfold ixB
    by_cases hp : x.length = 128
    · rw [if_pos hp]
      obtain ⟨y, hy, hpy⟩ := h
      rcases List.mem_cons.1 hy with rfl | hy
      · exact absurd hp hpy
      · exact ixB_some r _ (by omega) ⟨y, hy, hpy⟩
    · rw [if_neg hp]; exact h0
set_option maxRecDepth 100000 in
set_option maxHeartbeats 8000000 in
theorem clB (A0 : Option Addr) (n a0 : Nat) (W : World) : Calls Try.prog 42 #[.slice A0 n a0] W fun e W' => e = .returned (.bool (decide (n ≠ 128))) ∧ W' = W := by
  refine (callsIn_wide (n := 1)).1 ?_
  refine callsIn_of_wp Try.func42 rfl trivial ?_ rfl
  simp only [Try.ntmps42, List.size_toArray, List.length_cons, List.length_nil, Nat.reduceAdd, Nat.reduceSub, Array.replicate_succ, Array.replicate_zero, List.push_toArray, List.append_toArray, List.nil_append, List.cons_append]
  by_cases hn : n = 128
  · have t1 : ((n : Int) != 128) = false := bne_eq_false_iff_eq.2 (by omega)
    rw [show decide (n ≠ 128) = false by simp [hn]]
    clear hn
    gi_wp2
    go_ret
    exact ⟨rfl, rfl⟩
  · have t1 : ((n : Int) != 128) = true := bne_iff_ne.mpr (by omega)
    rw [show decide (n ≠ 128) = true by simp [hn]]
    gi_wp2
    go_ret
    exact ⟨rfl, rfl⟩
set_option maxRecDepth 100000 in
set_option maxHeartbeats 8000000 in
theorem indexB (A : Option Addr) (c : Nat) (xs : List (List Int)) (w : World) (hC : Kd.C (Kd.slice 5 (Kd.int .u8)) w A xs.length xs) (hlen : xs.length ≤ 1000000000000000) :
    Calls Try.prog 54 #[.slice A xs.length c, .func (.func 42) #[] #[]] w fun e w' => e = .returned (.int .i64 (ixB xs 0)) ∧ Below w.heap.size w w' := by
  have HC := Aside0.mk hC
  clear hC
  refine (callsIn_wide (n := 1)).1 ?_
  refine callsIn_of_wp Try.func54 rfl trivial ?_ rfl
  simp only [Try.ntmps54, List.size_toArray, List.length_cons, List.length_nil, Nat.reduceAdd, Nat.reduceSub, Array.replicate_succ, Array.replicate_zero, List.push_toArray, List.append_toArray, List.nil_append, List.cons_append]
  gi_wp2
  gi_loopw [8] (fun v8 w' => ∃ i : Nat, v8 = .int .i64 (i : Int) ∧ i ≤ xs.length ∧ ixB xs 0 = ixB (xs.drop i) i ∧ Aside0 (Below w.heap.size w w')) (fun v8 _ => xs.length - (intOf v8).toNat)
  case atStart => exact ⟨0, rfl, Nat.zero_le _, rfl, ⟨Below.refl _ _⟩⟩
  case round =>
    obtain ⟨i, rfl, hi, hall, HB⟩ := hrel
    by_cases hlt : i < xs.length
    · have t1 : decide ((i : Int) < (xs.length : Int)) = true := decide_eq_true (by omega)
      have ew : wrap64 ((i : Int) + 1) = ((i + 1 : Nat) : Int) := by rw [IntWalk.wrap64_in _ (by omega)]; omega
      obtain ⟨ad, A0, a0, rfl, ca, la, ra⟩ := at_rows (Kd.C_below HC.out HB.out) i hlt
      have hx : xs.getD i [] = xs[i] := by simp [List.getD_eq_getElem?_getD, hlt]
      rw [hx] at ca la ra
      have hd : xs.drop i = xs[i] :: xs.drop (i + 1) := List.drop_eq_getElem_cons hlt
      rw [hd] at hall
      generalize xs[i] = x at *
      rw [show ixB (x :: xs.drop (i + 1)) (i : Int) = if x.length = 128 then ixB (xs.drop (i + 1)) ((i : Int) + 1) else (i : Int) from rfl] at hall
      have HL := Aside0.mk hall
      clear hall hd hx ra
      by_cases hp : x.length = 128
      · have hcl := clB A0 x.length a0 wr
        rw [show decide (x.length ≠ 128) = false by simp [hp]] at hcl
        have HL' := HL.out
        rw [if_pos hp] at HL'
        have HL2 := Aside0.mk HL'
        clear HL' HL hp
        gi_wp2_with (refine ⟨trivial, ?_⟩; gi_at_call 42; refine (callsIn_wide.2 hcl).mono ?_; rintro e w' ⟨rfl, hw⟩; rw [hw]; clear hw)
        refine ⟨⟨i + 1, by simp, hlt, HL2.out.trans (congrArg (ixB _) (by omega)), HB⟩, by simp [intOf]; omega⟩
      · have hcl := clB A0 x.length a0 wr
        rw [show decide (x.length ≠ 128) = true by simp [hp]] at hcl
        have HL' := HL.out
        rw [if_neg hp] at HL'
        have HL2 := Aside0.mk HL'
        clear HL' HL hp
        gi_wp2_with (refine ⟨trivial, ?_⟩; gi_at_call 42; refine (callsIn_wide.2 hcl).mono ?_; rintro e w' ⟨rfl, hw⟩; rw [hw]; clear hw)
        go_ret
        exact ⟨by rw [HL2.out]; rfl, HB.out⟩
    · obtain rfl : i = xs.length := by omega
      have t1 : decide ((xs.length : Int) < (xs.length : Int)) = false := decide_eq_false (by omega)
      rw [List.drop_length] at hall
      have HL := Aside0.mk hall
      clear hall
      gi_wp2
      go_ret
      exact ⟨by rw [HL.out]; rfl, HB.out⟩
set_option maxRecDepth 100000 in
set_option maxHeartbeats 8000000 in
theorem containsB (A : Option Addr) (c : Nat) (xs : List (List Int)) (w : World) (hC : Kd.C (Kd.slice 5 (Kd.int .u8)) w A xs.length xs) (hlen : xs.length ≤ 1000000000000000) :
    Calls Try.prog 43 #[.slice A xs.length c, .func (.func 42) #[] #[]] w fun e w' => e = .returned (.bool (decide (0 ≤ ixB xs 0))) ∧ Below w.heap.size w w' := by
  have HC := Aside0.mk hC
  clear hC
  refine (callsIn_wide (n := 1)).1 ?_
  refine callsIn_of_wp Try.func43 rfl trivial ?_ rfl
  simp only [Try.ntmps43, List.size_toArray, List.length_cons, List.length_nil, Nat.reduceAdd, Nat.reduceSub, Array.replicate_succ, Array.replicate_zero, List.push_toArray, List.append_toArray, List.nil_append, List.cons_append]
  gi_wp2_with (first
    | (refine ⟨trivial, ?_⟩; gi_at_call 54; refine (callsIn_wide.2 (indexB A c xs _ HC.out hlen)).mono ?_; rintro e w1 ⟨rfl, hb⟩; have HW := Aside0.mk hb; clear hb))
  go_ret
  exact ⟨rfl, HW.out⟩
set_option maxRecDepth 100000 in
set_option maxHeartbeats 8000000 in
theorem of_no (A : Option Addr) (c : Nat) (xs : List (List Int)) (w : World) (hC : Kd.C (Kd.slice 5 (Kd.int .u8)) w A xs.length xs) (hno : xs.length < 1 ∨ 2048 < xs.length ∨ ∃ x ∈ xs, x.length ≠ 128) :
    Calls Try.prog 18 #[.slice A xs.length c] w fun e w' => e = .returned (.tuple #[.pointer none, .int .i64 1]) ∧ Below w.heap.size w w' := by
  have HC := Aside0.mk hC
  have HN := Aside0.mk hno
  clear hC hno
  refine (callsIn_wide (n := 1)).1 ?_
  refine callsIn_of_wp Try.func18 rfl trivial ?_ rfl
  simp only [Try.ntmps18, List.size_toArray, List.length_cons, List.length_nil, Nat.reduceAdd, Nat.reduceSub, Array.replicate_succ, Array.replicate_zero, List.push_toArray, List.append_toArray, List.nil_append, List.cons_append]
  by_cases h1 : xs.length < 1
  · have t1 : decide ((xs.length : Int) < 1) = true := decide_eq_true (by omega)
    gi_wp2_with (refine ⟨trivial, ?_⟩)
    refine bodyPost_ret (results_tmp2 rfl _ _ _) rfl ?_
    exact ⟨rfl, Below.refl _ _⟩
  · have t1 : decide ((xs.length : Int) < 1) = false := decide_eq_false (by omega)
    by_cases h2 : 2048 < xs.length
    · have t2 : decide ((2048 : Int) < (xs.length : Int)) = true := decide_eq_true (by omega)
      gi_wp2_with (refine ⟨trivial, ?_⟩)
      refine bodyPost_ret (results_tmp2 rfl _ _ _) rfl ?_
      exact ⟨rfl, Below.refl _ _⟩
    · have t2 : decide ((2048 : Int) < (xs.length : Int)) = false := decide_eq_false (by omega)
      have hok : decide (0 ≤ ixB xs 0) = true := decide_eq_true (ixB_some xs 0 (by omega) (by rcases HN.out with h | h | h; omega; omega; exact h))
      have HOK := Aside0.mk hok
      clear hok
      gi_wp2_with (first
        | (refine ⟨trivial, ?_⟩; gi_at_call 43; refine (callsIn_wide.2 (containsB A c xs _ HC.out (by omega))).mono ?_; rintro e w1 ⟨rfl, hb⟩; rw [HOK.out]; have HW := Aside0.mk hb; clear hb))
      refine bodyPost_ret (results_tmp2 rfl _ _ _) rfl ?_
      exact ⟨rfl, HW.out⟩
set_option maxRecDepth 100000 in
set_option maxHeartbeats 8000000 in
theorem of_dk (A : Option Addr) (c : Nat) (xs : List (List Int)) (w : World) (hC : Kd.C (Kd.slice 5 (Kd.int .u8)) w A xs.length xs) (hc : xs.length ≤ c) (h1 : 1 ≤ xs.length) (h2 : xs.length ≤ 2048) (hall : ∀ x ∈ xs, x.length = 128) :
    Calls Try.prog 18 #[.slice A xs.length c] w fun e w' => ∃ D m, e = .returned (.tuple #[.pointer (some ⟨D, 0, none⟩), .int .i64 0]) ∧ IsDk w' w.heap.size D m (fun k => w.heap.size ≤ k ∧ k < w'.heap.size) xs [] (.map #[] 0) 0 ∧ Below w.heap.size w w' := by
  have HC := Aside0.mk hC
  have HA := Aside0.mk hall
  have t1 : decide ((xs.length : Int) < 1) = false := decide_eq_false (by omega)
  have t2 : decide ((2048 : Int) < (xs.length : Int)) = false := decide_eq_false (by omega)
  have HOK := Aside0.mk (decide_eq_false (by rw [ixB_none xs 0 hall]; decide) : decide (0 ≤ ixB xs 0) = false)
  have HF := Aside0.mk (image_f xs (fun x hx => by have := hall x hx; omega) (by omega) (xs.length + 1) (Nat.lt_succ_self _))
  have hmm : ∀ W : World, (Instr.makeMap 68 none).run Try.prog W = .ok (.map (some W.heap.size)) (W.alloc (.map #[] 0)) := fun _ => rfl
  clear hC hall
  refine (callsIn_wide (n := 1)).1 ?_
  refine callsIn_of_wp Try.func18 rfl trivial ?_ rfl
  simp only [Try.ntmps18, List.size_toArray, List.length_cons, List.length_nil, Nat.reduceAdd, Nat.reduceSub, Array.replicate_succ, Array.replicate_zero, List.push_toArray, List.append_toArray, List.nil_append, List.cons_append]
  gi_wp2_with (first
    | (refine ⟨trivial, ?_⟩; gi_at_call 43; refine (callsIn_wide.2 (containsB A c xs _ HC.out (by omega))).mono ?_; rintro e w1 ⟨rfl, hb⟩; rw [HOK.out]; have HW := Aside0.mk hb; have HC1 := Aside0.mk (Kd.C_below HC.out hb); clear hb)
    | (refine ⟨trivial, ?_⟩; gi_at_call 35; refine (callsIn_wide.2 (disk_image.calls (xs.length + 1) A c xs xs _ HC1.out hc HF.out)).mono ?_; rintro e w2 ⟨v2, rfl, hs, hb⟩; obtain ⟨A2, c2, rfl⟩ := Kd.R_slice (Kd.S_R hs); have HR := Aside0.mk (Kd.S_R hs); have HW2 := Aside0.mk (below_step HW.out hb); have HS12 := Aside0.mk HW.out.size; clear hs hb))
  refine bodyPost_ret (results_tmp2 rfl _ _ _) rfl ?_
  have hm := World.alloc_heap_new w2 (.map #[] 0)
  have hsz : (w2.alloc (.map #[] 0)).heap.size = w2.heap.size + 1 := by simp
  have hD := World.alloc_heap_new (w2.alloc (.map #[] 0)) (.cells #[.slice A2 xs.length c2, .slice none 0 0, .map (some w2.heap.size), .int .i64 0] 70)
  rw [hsz] at hD
  have hw2 := HW2.out.size
  have hs12 := HS12.out
  have hb3 : Below w2.heap.size w2 ((w2.alloc (.map #[] 0)).alloc (.cells #[.slice A2 xs.length c2, .slice none 0 0, .map (some w2.heap.size), .int .i64 0] 70)) := below_alloc (below_alloc (Below.refl _ _) _) _
  have hs3 : ((w2.alloc (.map #[] 0)).alloc (.cells #[.slice A2 xs.length c2, .slice none 0 0, .map (some w2.heap.size), .int .i64 0] 70)).heap.size = w2.heap.size + 2 := by simp
  refine ⟨w2.heap.size + 1, w2.heap.size, rfl, ⟨⟨h1, h2, HA.out, Nat.zero_le 64, (fun s hs => by cases hs), (fun s hs => by cases hs), by decide, by decide⟩, ⟨_, .slice none 0 0, hD, ?_, Kd.R_nil _ _ _ _ _⟩, (heap_alloc_old _ _ _ (by simp)).trans hm, ⟨_, _, rfl⟩, ⟨by omega, by omega⟩, ⟨by omega, by omega⟩, fun k hk => hk⟩, below_step HW2.out hb3⟩
  exact Kd.R_mono (Kd.R_bound (Kd.R_below (Kd.R_lower HR.out hs12) hb3)) (fun k hk => ⟨hk.2.1, hk.2.2.1⟩)
set_option maxRecDepth 100000 in
set_option maxHeartbeats 8000000 in
theorem x_of (A : Option Addr) (c : Nat) (xs : List (List Int)) (w : World) (hC : Kd.C (Kd.slice 5 (Kd.int .u8)) w A xs.length xs) (h1 : 1 ≤ xs.length) (h2 : xs.length ≤ 2048) :
    Calls Try.prog 20 #[.slice A xs.length c] w fun e w' => Below w.heap.size w w' ∧ ((e = .returned (.tuple #[.pointer none, .int .i64 1]) ∧ ∃ x ∈ xs, x.length ≠ 128) ∨ (e = .returned (.tuple #[.pointer (some ⟨w.heap.size + 1, 0, none⟩), .int .i64 0]) ∧ (∀ x ∈ xs, x.length = 128) ∧
      IsX w' w.heap.size (w.heap.size + 1) (fun k => w.heap.size ≤ k ∧ k < w'.heap.size) xs [] (List.replicate xs.length 0) 0)) := by
  have HC := Aside0.mk hC
  have t1 : decide ((xs.length : Int) < 1) = false := decide_eq_false (by omega)
  have t2 : decide ((2048 : Int) < (xs.length : Int)) = false := decide_eq_false (by omega)
  have hmk : ∀ W : World, (Instr.makeSlice 33 (.int .i64 (xs.length : Int)) (.int .i64 (xs.length : Int))).run Try.prog W = .ok (.slice (some ⟨W.heap.size, 0, none⟩) xs.length xs.length) (W.alloc (.cells (madeCells #[.int .i64 0] xs.length) 3)) := fun W => print_make 33 3 .i64 8 Try.underlying33 infoint (by decide) xs.length (by omega) W
  clear hC
  refine (callsIn_wide (n := 1)).1 ?_
  refine callsIn_of_wp Try.func20 rfl trivial ?_ rfl
  simp only [Try.ntmps20, List.size_toArray, List.length_cons, List.length_nil, Nat.reduceAdd, Nat.reduceSub, Array.replicate_succ, Array.replicate_zero, List.push_toArray, List.append_toArray, List.nil_append, List.cons_append]
  gi_wp2
  gi_loopw [22] (fun v22 wr => ∃ (i : Nat) (v : Value), v22 = .int .i64 (i : Int) ∧ i ≤ xs.length ∧ Aside0 (∀ x ∈ xs.take i, x.length = 128) ∧ Aside0 (wr.heap[w.heap.size + 1]? = some (.cells #[v, .slice none 0 0, .slice (some ⟨w.heap.size, 0, none⟩) xs.length xs.length, .int .i64 0] 82 (0, 0))) ∧
      Aside0 (Kd.R (Kd.slice 5 (Kd.int .u8)) 47 wr w.heap.size (fun k => w.heap.size + 1 < k) v (xs.take i)) ∧ Aside0 (Below w.heap.size w wr) ∧ Aside0 (wr.heap[w.heap.size]? = some (.cells (madeCells #[.int .i64 0] xs.length) 3 (0, 0)))) (fun v22 _ => xs.length - (intOf v22).toNat)
  case atStart =>
    refine ⟨0, _, rfl, Nat.zero_le _, ⟨fun x hx => by cases hx⟩, ⟨?_⟩, ⟨Kd.R_nil _ _ _ _ _⟩, ⟨?_⟩, ⟨(heap_alloc_old _ _ _ (by simp)).trans (World.alloc_heap_new _ _)⟩⟩
    · have := World.alloc_heap_new (w.alloc (.cells (madeCells #[.int .i64 0] xs.length) 3)) (.cells #[.slice none 0 0, .slice none 0 0, .slice (some ⟨w.heap.size, 0, none⟩) xs.length xs.length, .int .i64 0] 82)
      rwa [World.size_alloc] at this
    · exact below_alloc (below_alloc (Below.refl _ _) _) _
  case round =>
    obtain ⟨i, v, rfl, hi, HA, HD, HR, HB, HM⟩ := hrel
    by_cases hlt : i < xs.length
    · have t3 : decide ((i : Int) < (xs.length : Int)) = true := decide_eq_true (by omega)
      obtain ⟨ad, A0, a0, rfl, ca, la, ra⟩ := at_rows (Kd.C_below HC.out HB.out) i hlt
      have hx : xs.getD i [] = xs[i] := by simp [List.getD_eq_getElem?_getD, hlt]
      rw [hx] at ca la ra
      have htk : xs.take (i + 1) = xs.take i ++ [xs[i]] := by rw [List.take_add_one, List.getElem?_eq_getElem hlt]; rfl
      have HMM := Aside0.mk (List.getElem_mem hlt : xs[i] ∈ xs)
      generalize xs[i] = x at *
      have RA := Aside0.mk ra
      have HTK := Aside0.mk htk
      clear ra htk hx
      by_cases hp : x.length = 128
      · have t4 : ((x.length : Int) != 128) = false := bne_eq_false_iff_eq.2 (by omega)
        have HP := Aside0.mk hp
        have cD : wr.cell? ⟨w.heap.size + 1, 0, none⟩ = some v := by simp [World.cell?, HD.out]
        have HLT := Aside0.mk (Array.getElem?_eq_some_iff.1 HD.out).1
        have HVL := Aside0.mk (fun k (e : v.ownBlock = some k) => (Kd.R_lt HR.out k e : k < wr.heap.size))
        have HVD := Aside0.mk (fun k (e : v.ownBlock = some k) => (HR.out.1 k e : w.heap.size + 1 < k))
        have hcl := bollardref02_copied.calls A0 a0 x x wr.drew (Kd.C_below RA.out (below_drew (Below.refl wr.heap.size wr))) la (copied_f x (by omega))
        clear hp
        gi_wp2
        refine wpIn_wide.2 ?_
        refine start_ (n := 12) (S := fun w' => w'.cell? ⟨w.heap.size + 1, 0, none⟩ = some v) (ds := [11]) #[false, false, false, false, false, false, false, false, false, false, false, false] (by kernel_rfl) rfl rfl (cD) (fun hHeld => ?_)
        refine pure_ (i := 0) (N := some 29) (v := ?_) (a' := ?_) #[true, false, false, false, false, false, false, false, false, false, false, false] rfl rfl (by kernel_rfl) (fun _ _ _ h => h) (Or.inl ⟨by rfl, ?_⟩) ?_ ?_
        rotate_left
        · intro w'
          go_simp
          with_reducible rfl
        rotate_left
        · simp only [Act.put, List.setIfInBounds_toArray, List.set_cons_zero, List.set_cons_succ, i64_w, i32_w]
          rfl
        refine pure_ (i := 1) (N := some 30) (v := ?_) (a' := ?_) #[true, true, false, false, false, false, false, false, false, false, false, false] rfl rfl (by kernel_rfl) (fun _ _ _ h => h) (Or.inl ⟨by rfl, ?_⟩) ?_ ?_
        rotate_left
        · intro w'
          go_simp
          with_reducible rfl
        rotate_left
        · simp only [Act.put, List.setIfInBounds_toArray, List.set_cons_zero, List.set_cons_succ, i64_w, i32_w]
          rfl
        refine pure_ (i := 2) (N := some 31) (v := ?_) (a' := ?_) #[true, true, true, false, false, false, false, false, false, false, false, false] rfl rfl (by kernel_rfl) (fun _ _ _ h => h) (Or.inl ⟨by rfl, ?_⟩) ?_ ?_
        rotate_left
        · intro w'
          go_simp
          with_reducible rfl
        rotate_left
        · simp only [Act.put, List.setIfInBounds_toArray, List.set_cons_zero, List.set_cons_succ, i64_w, i32_w]
          rfl
        refine pure_ (i := 3) (N := some 32) (v := ?_) (a' := ?_) #[true, true, true, true, false, false, false, false, false, false, false, false] rfl rfl (by kernel_rfl) (fun _ _ _ h => h) (Or.inl ⟨by rfl, ?_⟩) ?_ ?_
        rotate_left
        · intro w'
          go_simp
          with_reducible rfl
        rotate_left
        · simp only [Act.put, List.setIfInBounds_toArray, List.set_cons_zero, List.set_cons_succ, i64_w, i32_w]
          rfl
        refine pure_ (i := 5) (N := some 34) (v := ?_) (a' := ?_) #[true, true, true, true, false, true, false, false, false, false, false, false] rfl rfl (by kernel_rfl) (fun _ _ _ h => h) (Or.inl ⟨by rfl, ?_⟩) ?_ ?_
        rotate_left
        · intro w'
          go_simp
          with_reducible rfl
        rotate_left
        · simp only [Act.put, List.setIfInBounds_toArray, List.set_cons_zero, List.set_cons_succ, i64_w, i32_w]
          rfl
        refine take_ (i := 4) (N := some 33) (v := ?_) (a' := ?_) #[true, true, true, true, true, true, false, false, false, false, false, false] rfl rfl (by kernel_rfl) (fun _ _ _ h => h) (Or.inl ⟨by rfl, ?_⟩) hHeld ?_ ?_
        rotate_left
        · intro w' s0
          go_simp
          with_reducible rfl
        rotate_left
        · simp only [Act.put, List.setIfInBounds_toArray, List.set_cons_zero, List.set_cons_succ, i64_w, i32_w]
          rfl
        refine one_ (i := 6) (N := some 35) #[true, true, true, true, true, true, true, false, false, false, false, false] rfl rfl (by kernel_rfl) (by decide) (fun K hK => ?_)
        refine goes_ Try.func44 (by kernel_rfl) rfl #[.slice A0 x.length a0] (by rfl) rfl rfl (by simp only [List.map_toArray, List.map_cons, List.map_nil]; rfl) ?_
        with_reducible refine (hcl).mono ?_
        rintro e w1 ⟨v0, rfl, hr1, hb1⟩
        refine ⟨_, rfl, ?_⟩
        obtain ⟨A1, c1, rfl⟩ := Kd.R_slice hr1
        have HR1 := Aside0.mk hr1
        have HB1 := Aside0.mk (below_step (below_drew HB.out) hb1)
        have HK1 := Aside0.mk (show w1.heap[w.heap.size + 1]? = some (.cells #[v, .slice none 0 0, .slice (some ⟨w.heap.size, 0, none⟩) xs.length xs.length, .int .i64 0] 82 (0, 0)) from (hb1.block _ HLT.out).trans HD.out)
        have HM1 := Aside0.mk (show w1.heap[w.heap.size]? = some (.cells (madeCells #[.int .i64 0] xs.length) 3 (0, 0)) from (hb1.block _ (Nat.lt_of_succ_lt HLT.out)).trans HM.out)
        have HV1 := Aside0.mk (Kd.R_below (show Kd.R (Kd.slice 5 (Kd.int .u8)) 47 wr.drew w.heap.size (fun k => w.heap.size + 1 < k) v (xs.take i) from Kd.R_step HR.out (fun _ _ _ => rfl)) hb1)
        have HS1 := Aside0.mk (show wr.heap.size ≤ w1.heap.size from hb1.size)
        clear hr1 hb1
        refine hK.out _ _ ((by simp [World.cell?, HK1.out])) (fun hHeld => ?_)
        clear hK K
        refine norm_ (a' := ?_) ?_ ?_
        rotate_left
        · show Act.put _ (some 35) _ = _
          simp only [Act.put, List.setIfInBounds_toArray, List.set_cons_zero, List.set_cons_succ, i64_w, i32_w]
          rfl
        refine one_ (i := 7) (N := some 36) #[true, true, true, true, true, true, true, true, false, false, false, false] rfl rfl (by kernel_rfl) (by decide) (fun K hK => ?_)
        refine value_ (w1 := ?_) (v := ?_) (by rfl) rfl ?_ ?_
        rotate_left 2
        · go_simp
          constructor
          · rfl
          · rfl
        refine hK.out _ _ ((by simp [World.cell?, heap_alloc_old _ _ _ (Nat.lt_of_lt_of_le HLT.out HS1.out), HK1.out])) (fun hHeld => ?_)
        clear hK K
        refine norm_ (a' := ?_) ?_ ?_
        rotate_left
        · show Act.put _ (some 36) _ = _
          simp only [Act.put, List.setIfInBounds_toArray, List.set_cons_zero, List.set_cons_succ, i64_w, i32_w]
          rfl
        refine one_ (i := 8) (N := some 37) #[true, true, true, true, true, true, true, true, true, false, false, false] rfl rfl (by kernel_rfl) (by decide) (fun K hK => ?_)
        refine Kd.R_append_step (Kd.slice 5 (Kd.int .u8)) (w0 := w) w.heap.size (by rfl) (.tmp 33) (.tmp 36) 22 47 (.slice none 0 0) 24 rfl Try.underlying22 Go.Proofs.Ytlkijnnoalfblaa.Nb.infosl rfl (by decide) (by decide) v (xs.take i) x [_] (fun k => w.heap.size + 1 < k) (fun k => wr.heap.size ≤ k) rfl rfl ⟨_, rfl, Kd.R_lower (Kd.R_mono (Kd.R_bound HR1.out) (fun k hk => hk.2.1)) (show w.heap.size ≤ wr.drew.heap.size from HB.out.size)⟩ ?okp ?fresh HV1.out HB1.out ?base ?room ?_
        case okp => exact fun k hk => ⟨by have := HLT.out; omega, fun e => by have := HVL.out k e.symm; omega⟩
        case fresh => exact fun k hk => by have := HLT.out; have := HS1.out; omega
        case base => exact HB1.out.size
        case room => rw [List.length_take]; omega
        intro v2 w2 hr2 hb2 hg2 ht2
        obtain ⟨ad2, cp2, hv2⟩ := Kd.R_slice1 hr2 (by simp)
        obtain ⟨n2, hn2⟩ : ∃ n2, (xs.take i ++ [x]).length = n2 := ⟨_, rfl⟩
        rw [hn2] at hv2
        clear hn2
        subst hv2
        have HR2 := Aside0.mk hr2
        have HB2 := Aside0.mk hb2
        have HK2 := Aside0.mk (show w2.heap[w.heap.size + 1]? = some (.cells #[v, .slice none 0 0, .slice (some ⟨w.heap.size, 0, none⟩) xs.length xs.length, .int .i64 0] 82 (0, 0)) from (hg2.block _ (Nat.lt_of_lt_of_le HLT.out HS1.out) (fun e => by have := HVD.out _ e.symm; omega)).trans HK1.out)
        have HM2 := Aside0.mk (show w2.heap[w.heap.size]? = some (.cells (madeCells #[.int .i64 0] xs.length) 3 (0, 0)) from (hg2.block _ (Nat.lt_of_lt_of_le (Nat.lt_of_succ_lt HLT.out) HS1.out) (fun e => by have := HVD.out _ e.symm; omega)).trans HM1.out)
        have c2 : w2.cell? ⟨w.heap.size + 1, 0, none⟩ = some v := (by simp [World.cell?, HK2.out])
        have f2 : w2.frozen? ⟨w.heap.size + 1, 0, none⟩ = false := (by simp [World.frozen?, HK2.out])
        clear hr2 hb2 hg2 ht2
        refine hK.out _ _ (c2) (fun hHeld => ?_)
        clear hK K
        refine norm_ (a' := ?_) ?_ ?_
        rotate_left
        · show Act.put _ (some 37) _ = _
          simp only [Act.put, List.setIfInBounds_toArray, List.set_cons_zero, List.set_cons_succ, i64_w, i32_w]
          rfl
        refine pure_ (i := 9) (N := some 38) (v := ?_) (a' := ?_) #[true, true, true, true, true, true, true, true, true, true, false, false] rfl rfl (by kernel_rfl) (fun _ _ _ h => h) (Or.inl ⟨by rfl, ?_⟩) ?_ ?_
        rotate_left
        · intro w'
          go_simp
          with_reducible rfl
        rotate_left
        · simp only [Act.put, List.setIfInBounds_toArray, List.set_cons_zero, List.set_cons_succ, i64_w, i32_w]
          rfl
        refine pure_ (i := 10) (N := some 39) (v := ?_) (a' := ?_) #[true, true, true, true, true, true, true, true, true, true, true, false] rfl rfl (by kernel_rfl) (fun _ _ _ h => h) (Or.inl ⟨by rfl, ?_⟩) ?_ ?_
        rotate_left
        · intro w'
          go_simp
          with_reducible rfl
        rotate_left
        · simp only [Act.put, List.setIfInBounds_toArray, List.set_cons_zero, List.set_cons_succ, i64_w, i32_w]
          rfl
        refine last_ (i := 11) (N := none) #[true, true, true, true, true, true, true, true, true, true, true, true] rfl rfl (by kernel_rfl) (by decide) (fun K hK => ?_)
        refine skip_ (w1 := ?_) (by rfl) rfl ?_ ?_
        rotate_left
        · go_simp
          rfl
        refine hK.out _ _ ?_
        clear hK K
        refine done_ (by kernel_rfl) ?_

        gi_wp2
        go_roundw
        case rel =>
          have hR := HR2.out
          rw [← HTK.out] at hR
          refine ⟨i + 1, _, rfl, hlt, ⟨fun y hy => ?_⟩, ⟨Go.Proofs.Ytlkijnnoalfblaa.Nb.set_heap HK2.out _⟩, ⟨?_⟩, ⟨HB2.out.setCell (p := ⟨w.heap.size + 1, 0, none⟩) (by simp) _⟩, ⟨(Below.heap_setCell w2 ⟨w.heap.size + 1, 0, none⟩ _ _ (by simp)).trans HM2.out⟩⟩
          · rw [HTK.out] at hy
            rcases List.mem_append.1 hy with hy | hy
            · exact HA.out y hy
            · rw [List.mem_singleton.1 hy]; exact HP.out
          · exact Kd.R_far hR (p := ⟨w.heap.size + 1, 0, none⟩) (fun j hj => by have : w.heap.size + 1 < j := hj; simp; omega) _
        case measure =>
          show xs.length - ((i : Int) + 1).toNat < xs.length - ((i : Int)).toNat
          omega
      · have t4 : ((x.length : Int) != 128) = true := bne_iff_ne.mpr (by omega)
        gi_wp2
        refine bodyPost_ret (results_tmp2 rfl _ _ _) rfl ?_
        exact ⟨HB.out, .inl ⟨rfl, x, HMM.out, hp⟩⟩
    · obtain rfl : i = xs.length := by omega
      have t3 : decide ((xs.length : Int) < (xs.length : Int)) = false := decide_eq_false (by omega)
      gi_wp2
      refine bodyPost_ret (results_tmp2 rfl _ _ _) rfl ?_
      have hA := HA.out
      have hR := HR.out
      rw [List.take_length] at hA hR
      have hlt2 := (Array.getElem?_eq_some_iff.1 HD.out).1
      have hF : Kd.R (Kd.int .i64) 3 wr w.heap.size (fun k => w.heap.size ≤ k ∧ k < wr.heap.size) (.slice (some ⟨w.heap.size, 0, none⟩) xs.length xs.length) (List.replicate xs.length 0) := by
        have h3 : Kd.R (Kd.int .i64) 3 (w.alloc (.cells (madeCells #[.int .i64 0] xs.length) 3)) w.heap.size (fun k => k = w.heap.size) (.slice (some ⟨w.heap.size, 0, none⟩) xs.length xs.length) (List.replicate xs.length 0) := Kd.R_of_own (own_made' w w.heap.size 3 .i64 xs.length (Nat.le_refl _) (by omega)) (fun k hk => by simpa [Value.ownBlock] using hk.symm)
        exact Kd.R_mono (Kd.R_step h3 (fun k hk hl => by subst hk; exact HM.out.trans (World.alloc_heap_new _ _).symm)) (fun k hk => by subst hk; exact ⟨Nat.le_refl _, by omega⟩)
      exact ⟨HB.out, .inr ⟨rfl, hA, ⟨⟨h1, h2, hA, Nat.zero_le 64, (fun s hs => by cases hs), (fun s hs => by cases hs), by decide, by decide⟩, by rw [List.length_replicate], ⟨v, .slice none 0 0, _, HD.out, Kd.R_mono (Kd.R_bound hR) (fun k hk => ⟨hk.2.1, hk.2.2.1⟩), Kd.R_nil _ _ _ _ _, hF⟩, ⟨by omega, hlt2⟩, fun k hk => hk⟩⟩⟩
set_option maxRecDepth 100000 in
set_option maxHeartbeats 8000000 in
theorem x_of_no (A : Option Addr) (c : Nat) (n : Nat) (w : World) (hno : n < 1 ∨ 2048 < n) :
    Calls Try.prog 20 #[.slice A n c] w fun e w' => e = .returned (.tuple #[.pointer none, .int .i64 1]) ∧ w' = w := by
  refine (callsIn_wide (n := 1)).1 ?_
  refine callsIn_of_wp Try.func20 rfl trivial ?_ rfl
  simp only [Try.ntmps20, List.size_toArray, List.length_cons, List.length_nil, Nat.reduceAdd, Nat.reduceSub, Array.replicate_succ, Array.replicate_zero, List.push_toArray, List.append_toArray, List.nil_append, List.cons_append]
  by_cases h1 : n < 1
  · have t1 : decide ((n : Int) < 1) = true := decide_eq_true (by omega)
    gi_wp2
    refine bodyPost_ret (results_tmp2 rfl _ _ _) rfl ?_
    exact ⟨rfl, rfl⟩
  · have t1 : decide ((n : Int) < 1) = false := decide_eq_false (by omega)
    have t2 : decide ((2048 : Int) < (n : Int)) = true := decide_eq_true (by omega)
    gi_wp2
    refine bodyPost_ret (results_tmp2 rfl _ _ _) rfl ?_
    exact ⟨rfl, rfl⟩
end Go.Proofs.Ytlkijnnoalfblaa.Dk

