/- Written by a program of this session. A disk: what it is made of, and what its methods that change nothing answer. -/
import Derived.Test.YtbopccjcehnfnaaNw
import Derived.Test.YtbopccjcehnfnaaSm
namespace Go.Proofs.Ytbopccjcehnfnaa.Dk
open Go Go.RowKit Go.Shelf Go.Proofs Go.Proofs.Ytbopccjcehnfnaa.Sp Go.Proofs.Ytbopccjcehnfnaa.XFb Go.Proofs.YtbopccjcehnfnaaW.PrintWords Go.Proofs.YtbopccjcehnfnaaW.PrintLast Go.Proofs.YtbopccjcehnfnaaW.PrintMore
set_option linter.unusedVariables false
set_option linter.unusedSimpArgs false

/-- From W to W' no block of W's has turned but those of S. -/
structure Kept (S : Nat → Prop) (W W' : World) : Prop where
  os : W'.os = W.os
  tape : W'.tape = W.tape
  output : W'.output = W.output
  size : W.heap.size ≤ W'.heap.size
  same : ∀ k, k < W.heap.size → ¬ S k → W'.heap[k]? = W.heap[k]?
theorem Kept.refl (S : Nat → Prop) (W : World) : Kept S W W := ⟨rfl, rfl, rfl, Nat.le_refl _, fun _ _ _ => rfl⟩
theorem Kept.of_below {S : Nat → Prop} {W W' : World} (h : Below W.heap.size W W') : Kept S W W' := ⟨h.os, h.tape, h.output, h.size, fun k hk _ => h.block k hk⟩
theorem Kept.of_grown {S : Nat → Prop} {W W' : World} {row : Option Nat} (h : W.grownBy W' row) (hr : ∀ k, row = some k → S k) : Kept S W W' := ⟨h.os, h.tape, h.output, h.size, fun k hk hs => h.block k hk (fun e => hs (hr k e.symm))⟩
theorem Kept.trans {S S1 : Nat → Prop} {W W1 W2 : World} (h : Kept S W W1) (h1 : Kept S1 W1 W2) (hs : ∀ k, S1 k → S k ∨ W.heap.size ≤ k) : Kept S W W2 :=
  ⟨h1.os.trans h.os, h1.tape.trans h.tape, h1.output.trans h.output, Nat.le_trans h.size h1.size, fun k hk hn => (h1.same k (Nat.lt_of_lt_of_le hk h.size) (fun e => by rcases hs k e with h | h; exact hn h; omega)).trans (h.same k hk hn)⟩
theorem Kept.mono {S S1 : Nat → Prop} {W W1 : World} (h : Kept S W W1) (hs : ∀ k, k < W.heap.size → S k → S1 k) : Kept S1 W W1 := ⟨h.os, h.tape, h.output, h.size, fun k hk hn => h.same k hk (fun e => hn (hs k hk e))⟩
theorem Kept.below {S : Nat → Prop} {W W' : World} {n : Nat} (h : Kept S W W') (hs : ∀ k, S k → n ≤ k) (hn : n ≤ W.heap.size) : Below n W W' := ⟨h.os, h.tape, h.output, h.size, fun k hk => h.same k (by omega) (fun e => by have := hs k e; omega)⟩
theorem Kept.R {α : Type} {d : Kd α} {e base : Nat} {ok S : Nat → Prop} {W W' : World} {v : Value} {xs : List α} (h : Kd.R d e W base ok v xs) (hk : Kept S W W') (hn : ∀ k, ok k → ¬ S k) : Kd.R d e W' base ok v xs := Kd.R_step h (fun k ho hlt => hk.same k hlt (hn k ho))

/-- What a disk has: blocks, a queue, its last number. -/
structure Fits (bl : List (List Int)) (q : List S32) (last : Int) : Prop where
  some : 1 ≤ bl.length
  most : bl.length ≤ 2048
  each : ∀ x ∈ bl, x.length = 128
  queue : q.length ≤ 64
  sent : ∀ s ∈ q, s.f2.length = 128
  in_ : ∀ s ∈ q, 0 ≤ s.f1 ∧ s.f1 < bl.length
  low : 0 ≤ last
  high : last < 1000000000000000000
/-- The disk in block D of W; m: its map of reads that fail; all that it is made of lies in blocks of S. -/
structure IsDk (W : World) (base D m : Nat) (S : Nat → Prop) (bl : List (List Int)) (q : List S32) (mo : Obj) (last : Int) : Prop where
  fits : Fits bl q last
  cells : ∃ vB vQ, W.heap[D]? = some (.cells #[vB, vQ, .map (some m), .int .i64 last] 45 (0, 0)) ∧ Kd.R (Kd.slice 5 (Kd.int .u8)) 30 W base S vB bl ∧ Kd.R k32 32 W base S vQ q
  map : W.heap[m]? = some mo
  isMap : ∃ es c, mo = .map es c
  inD : S D
  inM : S m
  low : ∀ k, S k → base ≤ k ∧ k < W.heap.size
theorem IsDk.kept {W W' : World} {base D m : Nat} {S S2 : Nat → Prop} {bl : List (List Int)} {q : List S32} {mo : Obj} {last : Int} (h : IsDk W base D m S bl q mo last) (hk : Kept S2 W W') (hn : ∀ k, S k → ¬ S2 k) : IsDk W' base D m S bl q mo last := by
  obtain ⟨h1, ⟨vB, vQ, hD, hB, hQ⟩, hm, hmm, h2, h3, h4⟩ := h
  exact ⟨h1, ⟨vB, vQ, (hk.same D (h4 D h2).2 (hn D h2)).trans hD, Kept.R hB hk hn, Kept.R hQ hk hn⟩, (hk.same m (h4 m h3).2 (hn m h3)).trans hm, hmm, h2, h3, fun k hs => ⟨(h4 k hs).1, Nat.lt_of_lt_of_le (h4 k hs).2 hk.size⟩⟩
theorem IsDk.below {W W' : World} {base D m : Nat} {S : Nat → Prop} {bl : List (List Int)} {q : List S32} {mo : Obj} {last : Int} (h : IsDk W base D m S bl q mo last) (hb : Below W.heap.size W W') : IsDk W' base D m S bl q mo last :=
  h.kept (S2 := fun _ => False) (Kept.of_below hb) (fun _ _ h => h)

theorem rd32_get (l : List S32) (i : Nat) (h : i < l.length) : rd_T32 l (i : Int) = l[i] := by simp [rd_T32, List.getD_eq_getElem?_getD, h]
theorem image_l0 (xs : List (List Int)) (hx : ∀ x ∈ xs, x.length ≤ 1000000) (hl : xs.length ≤ 1000000) (d : Nat) : ∀ (i K : Nat), i + d = xs.length → d < K → disk_image.l0 K (xs.take i) xs (xs.length : Int) (i : Int) = some xs := by
  induction d with
  | zero =>
    intro i K hi hK
    cases K with
    | zero => omega
    | succ K =>
      unfold disk_image.l0
      rw [if_neg (by omega), List.take_of_length_le (by omega)]
  | succ d ih =>
    intro i K hi hK
    cases K with
    | zero => omega
    | succ K =>
      have w3 : wrap64 ((i : Int) + 1) = ((i + 1 : Nat) : Int) := by unfold wrap64; omega
      have hil : i < xs.length := by omega
      have hm := hx xs[i] (List.getElem_mem _)
      have e : rd_L1 xs (i : Int) = xs[i] := by simp [rd_L1, List.getD_eq_getElem?_getD, hil]
      have hc : bytes_Clone.f xs[i] = some xs[i] := by unfold bytes_Clone.f; rw [if_pos (by omega)]
      have ht : xs.take i ++ [xs[i]] = xs.take (i + 1) := by rw [List.take_add_one, List.getElem?_eq_getElem hil]; rfl
      unfold disk_image.l0
      simp only [e, hc, w3, Option.bind_some, ht, ih (i + 1) K (by omega) (by omega), List.length_take]
      rw [if_pos (by omega), if_pos (by omega), if_pos (by omega)]
      try rw [if_pos (by omega)]
theorem image_f (xs : List (List Int)) (hx : ∀ x ∈ xs, x.length ≤ 1000000) (hl : xs.length ≤ 1000000) (k : Nat) (hk : xs.length < k) : disk_image.f k xs = some xs := by
  unfold disk_image.f
  exact image_l0 xs hx hl xs.length 0 k (by omega) hk
theorem sent_l0 (xs : List S32) (hx : ∀ x ∈ xs, x.f2.length ≤ 1000000) (hl : xs.length ≤ 1000000) (d : Nat) : ∀ (i K : Nat), i + d = xs.length → d < K → disk_sent.l0 K (xs.take i) xs (xs.length : Int) (i : Int) = some xs := by
  induction d with
  | zero =>
    intro i K hi hK
    cases K with
    | zero => omega
    | succ K =>
      unfold disk_sent.l0
      rw [if_neg (by omega), List.take_of_length_le (by omega)]
  | succ d ih =>
    intro i K hi hK
    cases K with
    | zero => omega
    | succ K =>
      have w3 : wrap64 ((i : Int) + 1) = ((i + 1 : Nat) : Int) := by unfold wrap64; omega
      have hil : i < xs.length := by omega
      have hm := hx xs[i] (List.getElem_mem _)
      have hc : bytes_Clone.f xs[i].f2 = some xs[i].f2 := by unfold bytes_Clone.f; rw [if_pos (by omega)]
      have ht : xs.take i ++ [xs[i]] = xs.take (i + 1) := by rw [List.take_add_one, List.getElem?_eq_getElem hil]; rfl
      have ht2 : xs.take i ++ [(⟨xs[i].f0, xs[i].f1, xs[i].f2⟩ : S32)] = xs.take (i + 1) := ht
      unfold disk_sent.l0
      simp only [rd32_get xs i hil, hc, w3, Option.bind_some, ht2, ih (i + 1) K (by omega) (by omega), List.length_take]
      rw [if_pos (by omega), if_pos (by omega), if_pos (by omega)]
      try rw [if_pos (by omega)]
theorem sent_f (xs : List S32) (hx : ∀ x ∈ xs, x.f2.length ≤ 1000000) (hl : xs.length ≤ 1000000) (k : Nat) (hk : xs.length < k) : disk_sent.f k xs = some xs := by
  unfold disk_sent.f
  exact sent_l0 xs hx hl xs.length 0 k (by omega) hk

section
variable {W : World} {base D m : Nat} {S : Nat → Prop} {bl : List (List Int)} {q : List S32} {mo : Obj} {last : Int}
set_option maxRecDepth 100000 in
set_option maxHeartbeats 4000000 in
theorem blocks_ok (h : IsDk W base D m S bl q mo last) :
    Calls Try.prog 13 #[.pointer (some ⟨D, 0, none⟩)] W fun e w' => e = .returned (.int .i64 (bl.length : Int)) ∧ w' = W := by
  obtain ⟨hf, ⟨vB, vQ, hD, hB, hQ⟩, hm, _, _, _, hlow⟩ := h
  obtain ⟨AB, cB, rfl⟩ := Kd.R_slice hB
  obtain ⟨AQ, cQ, rfl⟩ := Kd.R_slice hQ
  have c0 : W.cell? ⟨D, 0, none⟩ = some (.slice AB bl.length cB) := by simp [World.cell?, hD]
  have c1 : W.cell? ⟨D, 1, none⟩ = some (.slice AQ q.length cQ) := by simp [World.cell?, hD]
  have HB := Aside0.mk hB
  have HQ := Aside0.mk hQ
  clear hB hQ
  refine (callsIn_wide (n := 1)).1 ?_
  refine callsIn_of_wp Try.func13 rfl trivial ?_ rfl
  simp only [Try.ntmps13, List.size_toArray, List.length_cons, List.length_nil, Nat.reduceAdd, Nat.reduceSub, Array.replicate_succ, Array.replicate_zero, List.push_toArray, List.append_toArray, List.nil_append, List.cons_append]
  gi_wp2
  go_ret
  exact ⟨rfl, rfl⟩
set_option maxRecDepth 100000 in
set_option maxHeartbeats 4000000 in
theorem made_ok (h : IsDk W base D m S bl q mo last) :
    Calls Try.prog 32 #[.pointer (some ⟨D, 0, none⟩)] W fun e w' => e = .returned (.bool true) ∧ w' = W := by
  obtain ⟨hf, ⟨vB, vQ, hD, hB, hQ⟩, hm, _, _, _, hlow⟩ := h
  obtain ⟨AB, cB, rfl⟩ := Kd.R_slice hB
  obtain ⟨AQ, cQ, rfl⟩ := Kd.R_slice hQ
  have c0 : W.cell? ⟨D, 0, none⟩ = some (.slice AB bl.length cB) := by simp [World.cell?, hD]
  have c1 : W.cell? ⟨D, 1, none⟩ = some (.slice AQ q.length cQ) := by simp [World.cell?, hD]
  have HB := Aside0.mk hB
  have HQ := Aside0.mk hQ
  clear hB hQ
  refine (callsIn_wide (n := 1)).1 ?_
  refine callsIn_of_wp Try.func32 rfl trivial ?_ rfl
  simp only [Try.ntmps32, List.size_toArray, List.length_cons, List.length_nil, Nat.reduceAdd, Nat.reduceSub, Array.replicate_succ, Array.replicate_zero, List.push_toArray, List.append_toArray, List.nil_append, List.cons_append]
  have t1 : decide ((0 : Int) < (bl.length : Int)) = true := decide_eq_true (by have := hf.some; omega)
  have t0 : decide (0 < bl.length) = true := decide_eq_true hf.some
  gi_wp2
  go_ret
  exact ⟨rfl, rfl⟩
set_option maxRecDepth 100000 in
set_option maxHeartbeats 4000000 in
theorem image_ok (h : IsDk W base D m S bl q mo last) :
    Calls Try.prog 9 #[.pointer (some ⟨D, 0, none⟩)] W fun e w' => ∃ v, e = .returned v ∧ Kd.S (Kd.slice 5 (Kd.int .u8)) 30 w' W.heap.size (fun _ => True) v bl ∧ Below W.heap.size W w' := by
  obtain ⟨hf, ⟨vB, vQ, hD, hB, hQ⟩, hm, _, _, _, hlow⟩ := h
  obtain ⟨AB, cB, rfl⟩ := Kd.R_slice hB
  obtain ⟨AQ, cQ, rfl⟩ := Kd.R_slice hQ
  have c0 : W.cell? ⟨D, 0, none⟩ = some (.slice AB bl.length cB) := by simp [World.cell?, hD]
  have c1 : W.cell? ⟨D, 1, none⟩ = some (.slice AQ q.length cQ) := by simp [World.cell?, hD]
  have HB := Aside0.mk hB
  have HQ := Aside0.mk hQ
  clear hB hQ
  refine (callsIn_wide (n := 1)).1 ?_
  refine callsIn_of_wp Try.func9 rfl trivial ?_ rfl
  simp only [Try.ntmps9, List.size_toArray, List.length_cons, List.length_nil, Nat.reduceAdd, Nat.reduceSub, Array.replicate_succ, Array.replicate_zero, List.push_toArray, List.append_toArray, List.nil_append, List.cons_append]
  have HF := Aside0.mk (image_f bl (fun x hx => by have := hf.each x hx; omega) (by have := hf.most; omega) (bl.length + 1) (Nat.lt_succ_self _))
  gi_wp2_with (refine ⟨trivial, ?_⟩; gi_at_call 30; refine (callsIn_wide.2 (disk_image.calls (bl.length + 1) AB cB bl bl _ (Kd.R_reads' HB.out).2.2 (Kd.R_reads' HB.out).2.1 HF.out)).mono ?_; rintro e w1 ⟨v1, rfl, hs, hb⟩; have HS := Aside0.mk hs; have HW := Aside0.mk hb; clear hs hb)
  go_ret
  exact ⟨_, rfl, HS.out, HW.out⟩
set_option maxRecDepth 100000 in
set_option maxHeartbeats 4000000 in
theorem queue_ok (h : IsDk W base D m S bl q mo last) :
    Calls Try.prog 10 #[.pointer (some ⟨D, 0, none⟩)] W fun e w' => ∃ v, e = .returned v ∧ Kd.S k32 32 w' W.heap.size (fun _ => True) v q ∧ Below W.heap.size W w' := by
  obtain ⟨hf, ⟨vB, vQ, hD, hB, hQ⟩, hm, _, _, _, hlow⟩ := h
  obtain ⟨AB, cB, rfl⟩ := Kd.R_slice hB
  obtain ⟨AQ, cQ, rfl⟩ := Kd.R_slice hQ
  have c0 : W.cell? ⟨D, 0, none⟩ = some (.slice AB bl.length cB) := by simp [World.cell?, hD]
  have c1 : W.cell? ⟨D, 1, none⟩ = some (.slice AQ q.length cQ) := by simp [World.cell?, hD]
  have HB := Aside0.mk hB
  have HQ := Aside0.mk hQ
  clear hB hQ
  refine (callsIn_wide (n := 1)).1 ?_
  refine callsIn_of_wp Try.func10 rfl trivial ?_ rfl
  simp only [Try.ntmps10, List.size_toArray, List.length_cons, List.length_nil, Nat.reduceAdd, Nat.reduceSub, Array.replicate_succ, Array.replicate_zero, List.push_toArray, List.append_toArray, List.nil_append, List.cons_append]
  have HF := Aside0.mk (sent_f q (fun x hx => by have := hf.sent x hx; omega) (by have := hf.queue; omega) (q.length + 1) (Nat.lt_succ_self _))
  gi_wp2_with (refine ⟨trivial, ?_⟩; gi_at_call 31; refine (callsIn_wide.2 (disk_sent.calls (q.length + 1) AQ cQ q q _ (Kd.R_reads' HQ.out).2.2 (Kd.R_reads' HQ.out).2.1 HF.out)).mono ?_; rintro e w1 ⟨v1, rfl, hs, hb⟩; have HS := Aside0.mk hs; have HW := Aside0.mk hb; clear hs hb)
  go_ret
  exact ⟨_, rfl, HS.out, HW.out⟩
set_option maxRecDepth 100000 in
set_option maxHeartbeats 4000000 in
theorem look_ok (h : IsDk W base D m S bl q mo last) (b : Int) :
    Calls Try.prog 38 #[.pointer (some ⟨D, 0, none⟩), .int .i64 b] W fun e w' => e = .returned (.int .i64 (if 0 ≤ b ∧ b < bl.length then 0 else 1)) ∧ w' = W := by
  have H := Aside0.mk h
  obtain ⟨hf, ⟨vB, vQ, hD, hB, hQ⟩, hm, _, _, _, hlow⟩ := h
  obtain ⟨AB, cB, rfl⟩ := Kd.R_slice hB
  have c0 : W.cell? ⟨D, 0, none⟩ = some (.slice AB bl.length cB) := by simp [World.cell?, hD]
  clear hB hQ
  refine (callsIn_wide (n := 1)).1 ?_
  refine callsIn_of_wp Try.func38 rfl trivial ?_ rfl
  simp only [Try.ntmps38, List.size_toArray, List.length_cons, List.length_nil, Nat.reduceAdd, Nat.reduceSub, Array.replicate_succ, Array.replicate_zero, List.push_toArray, List.append_toArray, List.nil_append, List.cons_append]
  have ARM := fun (_ : Unit) => made_ok H.out
  by_cases h0 : 0 ≤ b
  · have t1 : decide (b < 0) = false := decide_eq_false (by omega)
    by_cases h1 : b < bl.length
    · have t2 : decide ((bl.length : Int) ≤ b) = false := decide_eq_false (by omega)
      rw [if_pos ⟨h0, h1⟩]
      gi_wp2_with (refine ⟨trivial, ?_⟩; gi_at_call 32; refine (callsIn_wide.2 (made_ok H.out)).mono ?_; rintro e w1 ⟨rfl, hw⟩; rw [hw]; clear hw)
      go_ret
      exact ⟨rfl, rfl⟩
    · have t2 : decide ((bl.length : Int) ≤ b) = true := decide_eq_true (by omega)
      rw [if_neg (fun h => h1 h.2)]
      gi_wp2_with (refine ⟨trivial, ?_⟩; gi_at_call 32; refine (callsIn_wide.2 (made_ok H.out)).mono ?_; rintro e w1 ⟨rfl, hw⟩; rw [hw]; clear hw)
      go_ret
      exact ⟨rfl, rfl⟩
  · have t1 : decide (b < 0) = true := decide_eq_true (by omega)
    rw [if_neg (fun h => h0 h.1)]
    gi_wp2_with (refine ⟨trivial, ?_⟩; gi_at_call 32; refine (callsIn_wide.2 (made_ok H.out)).mono ?_; rintro e w1 ⟨rfl, hw⟩; rw [hw]; clear hw)
    go_ret
    exact ⟨rfl, rfl⟩
end
/-- The first place where p holds, from i on; -1: none. -/
def ixL (p : S32 → Bool) : List S32 → Int → Int
  | [], _ => -1
  | x :: r, i => if p x = true then i else ixL p r (i + 1)
set_option maxRecDepth 100000 in
set_option maxHeartbeats 4000000 in
theorem clId (b : Nat) (a : Int) (x : S32) (A : Option Addr) (c : Nat) (W : World) (hb : W.cell? ⟨b, 0, none⟩ = some (.int .i64 a)) :
    Calls Try.prog 55 #[.agg #[.int .i64 x.f0, .int .i64 x.f1, .slice A x.f2.length c], .pointer (some ⟨b, 0, none⟩)] W fun e w' => e = .returned (.bool (x.f0 == a)) ∧ Below W.heap.size W w' := by
  refine (callsIn_wide (n := 1)).1 ?_
  refine callsIn_of_wp Try.func55 rfl trivial ?_ rfl
  simp only [Try.ntmps55, List.size_toArray, List.length_cons, List.length_nil, Nat.reduceAdd, Nat.reduceSub, Array.replicate_succ, Array.replicate_zero, List.push_toArray, List.append_toArray, List.nil_append, List.cons_append]
  have hb1 := (World.grownBy_alloc W (.cells #[.int .i64 x.f0, .int .i64 x.f1, .slice A x.f2.length c] 32) none).cell hb (by simp)
  gi_wp2
  go_ret
  exact ⟨rfl, below_alloc (Below.refl _ _) _⟩
set_option maxRecDepth 100000 in
set_option maxHeartbeats 4000000 in
theorem indexId (b : Nat) (a : Int) (A : Option Addr) (c : Nat) (xs : List S32) (w : World) (hC : Kd.C k32 w A xs.length xs) (hlen : xs.length ≤ 1000000) (hb : w.cell? ⟨b, 0, none⟩ = some (.int .i64 a)) :
    Calls Try.prog 54 #[.slice A xs.length c, .func (.func 55) #[] #[.pointer (some ⟨b, 0, none⟩)]] w fun e w' => e = .returned (.int .i64 (ixL (fun x : S32 => x.f0 == a) xs 0)) ∧ Below w.heap.size w w' := by
  have HC := Aside0.mk hC
  have HK := fun (W : World) (hB : Below w.heap.size w W) => (hB.cell (p := ⟨b, 0, none⟩) (World.block_lt_of_cell? w _ hb)).trans hb
  clear hC
  refine (callsIn_wide (n := 1)).1 ?_
  refine callsIn_of_wp Try.func54 rfl trivial ?_ rfl
  simp only [Try.ntmps54, List.size_toArray, List.length_cons, List.length_nil, Nat.reduceAdd, Nat.reduceSub, Array.replicate_succ, Array.replicate_zero, List.push_toArray, List.append_toArray, List.nil_append, List.cons_append]
  gi_wp2
  gi_loopw [8] (fun v8 w' => ∃ i : Nat, v8 = .int .i64 (i : Int) ∧ i ≤ xs.length ∧ ixL (fun x : S32 => x.f0 == a) xs 0 = ixL (fun x : S32 => x.f0 == a) (xs.drop i) i ∧ Aside0 (Below w.heap.size w w')) (fun v8 _ => xs.length - (intOf v8).toNat)
  case atStart => exact ⟨0, rfl, Nat.zero_le _, rfl, ⟨Below.refl _ _⟩⟩
  case round =>
    obtain ⟨i, rfl, hi, hall, HB⟩ := hrel
    by_cases hlt : i < xs.length
    · have t1 : decide ((i : Int) < (xs.length : Int)) = true := decide_eq_true (by omega)
      obtain ⟨ad, A2, c2, rfl, hcell, hcell1, hcell2, l2, g2⟩ := at_T32 (Kd.C_below HC.out HB.out) (i : Int) (by omega) (by omega)
      simp only [Int.toNat_natCast] at hcell hcell1 hcell2
      have hd : xs.drop i = rd_T32 xs i :: xs.drop (i + 1) := by
        rw [List.drop_eq_getElem_cons hlt]; simp [rd_T32, List.getD_eq_getElem?_getD, hlt]
      rw [hd] at hall
      generalize rd_T32 xs i = x at *
      clear g2 hd
      rw [show ixL (fun x : S32 => x.f0 == a) (x :: xs.drop (i + 1)) (i : Int) = if (x.f0 == a) = true then (i : Int) else ixL (fun x : S32 => x.f0 == a) (xs.drop (i + 1)) ((i : Int) + 1) from rfl] at hall
      have HL := Aside0.mk hall
      clear hall
      have hcl := fun (W : World) (hb : Below w.heap.size w W) => clId b a x A2 c2 W (HK W hb)
      cases hn : (x.f0 == a) with
      | true =>
        have HL' := HL.out
        rw [if_pos hn] at HL'
        have HL2 := Aside0.mk HL'
        clear HL'
        gi_wp2_with (refine ⟨trivial, ?_⟩; gi_at_call 55; refine (callsIn_wide.2 (hcl _ HB.out)).mono ?_; rw [hn]; rintro e w' ⟨rfl, hb⟩)
        go_ret
        have h1 := HL2.out
        exact ⟨by rw [h1]; rfl, below_step HB.out hb⟩
      | false =>
        have HL' := HL.out
        rw [if_neg (by rw [hn]; simp)] at HL'
        have HL2 := Aside0.mk HL'
        clear HL'
        gi_wp2_with (refine ⟨trivial, ?_⟩; gi_at_call 55; refine (callsIn_wide.2 (hcl _ HB.out)).mono ?_; rw [hn]; rintro e w' ⟨rfl, hb⟩)
        refine ⟨⟨i + 1, by simp, hlt, HL2.out.trans (congrArg (ixL (fun x : S32 => x.f0 == a) _) (by omega)), ⟨below_step HB.out hb⟩⟩, by simp [intOf]; omega⟩
    · obtain rfl : i = xs.length := by omega
      have t1 : decide ((xs.length : Int) < (xs.length : Int)) = false := decide_eq_false (by omega)
      rw [List.drop_length] at hall
      have HL := Aside0.mk hall
      clear hall
      gi_wp2
      go_ret
      exact ⟨by rw [HL.out]; rfl, HB.out⟩
set_option maxRecDepth 100000 in
set_option maxHeartbeats 4000000 in
theorem clBl (b : Nat) (a : Int) (x : S32) (A : Option Addr) (c : Nat) (W : World) (hb : W.cell? ⟨b, 0, none⟩ = some (.int .i64 a)) :
    Calls Try.prog 40 #[.agg #[.int .i64 x.f0, .int .i64 x.f1, .slice A x.f2.length c], .pointer (some ⟨b, 0, none⟩)] W fun e w' => e = .returned (.bool (x.f1 == a)) ∧ Below W.heap.size W w' := by
  refine (callsIn_wide (n := 1)).1 ?_
  refine callsIn_of_wp Try.func40 rfl trivial ?_ rfl
  simp only [Try.ntmps40, List.size_toArray, List.length_cons, List.length_nil, Nat.reduceAdd, Nat.reduceSub, Array.replicate_succ, Array.replicate_zero, List.push_toArray, List.append_toArray, List.nil_append, List.cons_append]
  have hb1 := (World.grownBy_alloc W (.cells #[.int .i64 x.f0, .int .i64 x.f1, .slice A x.f2.length c] 32) none).cell hb (by simp)
  gi_wp2
  go_ret
  exact ⟨rfl, below_alloc (Below.refl _ _) _⟩
set_option maxRecDepth 100000 in
set_option maxHeartbeats 4000000 in
theorem indexBl (b : Nat) (a : Int) (A : Option Addr) (c : Nat) (xs : List S32) (w : World) (hC : Kd.C k32 w A xs.length xs) (hlen : xs.length ≤ 1000000) (hb : w.cell? ⟨b, 0, none⟩ = some (.int .i64 a)) :
    Calls Try.prog 54 #[.slice A xs.length c, .func (.func 40) #[] #[.pointer (some ⟨b, 0, none⟩)]] w fun e w' => e = .returned (.int .i64 (ixL (fun x : S32 => x.f1 == a) xs 0)) ∧ Below w.heap.size w w' := by
  have HC := Aside0.mk hC
  have HK := fun (W : World) (hB : Below w.heap.size w W) => (hB.cell (p := ⟨b, 0, none⟩) (World.block_lt_of_cell? w _ hb)).trans hb
  clear hC
  refine (callsIn_wide (n := 1)).1 ?_
  refine callsIn_of_wp Try.func54 rfl trivial ?_ rfl
  simp only [Try.ntmps54, List.size_toArray, List.length_cons, List.length_nil, Nat.reduceAdd, Nat.reduceSub, Array.replicate_succ, Array.replicate_zero, List.push_toArray, List.append_toArray, List.nil_append, List.cons_append]
  gi_wp2
  gi_loopw [8] (fun v8 w' => ∃ i : Nat, v8 = .int .i64 (i : Int) ∧ i ≤ xs.length ∧ ixL (fun x : S32 => x.f1 == a) xs 0 = ixL (fun x : S32 => x.f1 == a) (xs.drop i) i ∧ Aside0 (Below w.heap.size w w')) (fun v8 _ => xs.length - (intOf v8).toNat)
  case atStart => exact ⟨0, rfl, Nat.zero_le _, rfl, ⟨Below.refl _ _⟩⟩
  case round =>
    obtain ⟨i, rfl, hi, hall, HB⟩ := hrel
    by_cases hlt : i < xs.length
    · have t1 : decide ((i : Int) < (xs.length : Int)) = true := decide_eq_true (by omega)
      obtain ⟨ad, A2, c2, rfl, hcell, hcell1, hcell2, l2, g2⟩ := at_T32 (Kd.C_below HC.out HB.out) (i : Int) (by omega) (by omega)
      simp only [Int.toNat_natCast] at hcell hcell1 hcell2
      have hd : xs.drop i = rd_T32 xs i :: xs.drop (i + 1) := by
        rw [List.drop_eq_getElem_cons hlt]; simp [rd_T32, List.getD_eq_getElem?_getD, hlt]
      rw [hd] at hall
      generalize rd_T32 xs i = x at *
      clear g2 hd
      rw [show ixL (fun x : S32 => x.f1 == a) (x :: xs.drop (i + 1)) (i : Int) = if (x.f1 == a) = true then (i : Int) else ixL (fun x : S32 => x.f1 == a) (xs.drop (i + 1)) ((i : Int) + 1) from rfl] at hall
      have HL := Aside0.mk hall
      clear hall
      have hcl := fun (W : World) (hb : Below w.heap.size w W) => clBl b a x A2 c2 W (HK W hb)
      cases hn : (x.f1 == a) with
      | true =>
        have HL' := HL.out
        rw [if_pos hn] at HL'
        have HL2 := Aside0.mk HL'
        clear HL'
        gi_wp2_with (refine ⟨trivial, ?_⟩; gi_at_call 40; refine (callsIn_wide.2 (hcl _ HB.out)).mono ?_; rw [hn]; rintro e w' ⟨rfl, hb⟩)
        go_ret
        have h1 := HL2.out
        exact ⟨by rw [h1]; rfl, below_step HB.out hb⟩
      | false =>
        have HL' := HL.out
        rw [if_neg (by rw [hn]; simp)] at HL'
        have HL2 := Aside0.mk HL'
        clear HL'
        gi_wp2_with (refine ⟨trivial, ?_⟩; gi_at_call 40; refine (callsIn_wide.2 (hcl _ HB.out)).mono ?_; rw [hn]; rintro e w' ⟨rfl, hb⟩)
        refine ⟨⟨i + 1, by simp, hlt, HL2.out.trans (congrArg (ixL (fun x : S32 => x.f1 == a) _) (by omega)), ⟨below_step HB.out hb⟩⟩, by simp [intOf]; omega⟩
    · obtain rfl : i = xs.length := by omega
      have t1 : decide ((xs.length : Int) < (xs.length : Int)) = false := decide_eq_false (by omega)
      rw [List.drop_length] at hall
      have HL := Aside0.mk hall
      clear hall
      gi_wp2
      go_ret
      exact ⟨by rw [HL.out]; rfl, HB.out⟩
set_option maxRecDepth 100000 in
set_option maxHeartbeats 4000000 in
theorem place_ok {W : World} {base D m : Nat} {S : Nat → Prop} {bl : List (List Int)} {q : List S32} {mo : Obj} {last : Int} (h : IsDk W base D m S bl q mo last) (id : Int) :
    Calls Try.prog 33 #[.pointer (some ⟨D, 0, none⟩), .int .i64 id] W fun e w' => e = .returned (.int .i64 (ixL (fun x : S32 => x.f0 == id) q 0)) ∧ Below W.heap.size W w' := by
  have H := Aside0.mk h
  have hD : D < W.heap.size := (h.low D h.inD).2
  obtain ⟨hf, ⟨vB, vQ, hDc, hB, hQ⟩, hm, _, _, _, hlow⟩ := h
  obtain ⟨AQ, cQ, rfl⟩ := Kd.R_slice hQ
  have c1 : (W.alloc (.cells #[.int .i64 id] 3)).cell? ⟨D, 1, none⟩ = some (.slice AQ q.length cQ) := by simp [World.cell?, heap_alloc_old _ _ _ hD, hDc]
  have HQ := Aside0.mk (Kd.R_alloc hQ (.cells #[.int .i64 id] 3))
  have cb : (W.alloc (.cells #[.int .i64 id] 3)).cell? ⟨W.heap.size, 0, none⟩ = some (.int .i64 id) := by have h := World.alloc_heap_new W (.cells #[.int .i64 id] 3); simp only [World.cell?, h]; rfl
  have hq := hf.queue
  clear hB hQ
  refine (callsIn_wide (n := 1)).1 ?_
  refine callsIn_of_wp Try.func33 rfl trivial ?_ rfl
  simp only [Try.ntmps33, List.size_toArray, List.length_cons, List.length_nil, Nat.reduceAdd, Nat.reduceSub, Array.replicate_succ, Array.replicate_zero, List.push_toArray, List.append_toArray, List.nil_append, List.cons_append]
  gi_wp2_with (refine ⟨trivial, ?_⟩; gi_at_call 54; refine (callsIn_wide.2 (indexId W.heap.size id AQ cQ q _ (Kd.R_reads' HQ.out).2.2 (by omega) cb)).mono ?_; rintro e w1 ⟨rfl, hb⟩; have HW := Aside0.mk (below_step (below_alloc (Below.refl W.heap.size W) _) hb); clear hb)
  go_ret
  exact ⟨rfl, HW.out⟩
set_option maxRecDepth 100000 in
set_option maxHeartbeats 4000000 in
theorem containsBl (b : Nat) (a : Int) (A : Option Addr) (c : Nat) (xs : List S32) (w : World) (hC : Kd.C k32 w A xs.length xs) (hlen : xs.length ≤ 1000000) (hb : w.cell? ⟨b, 0, none⟩ = some (.int .i64 a)) :
    Calls Try.prog 39 #[.slice A xs.length c, .func (.func 40) #[] #[.pointer (some ⟨b, 0, none⟩)]] w fun e w' => e = .returned (.bool (decide (0 ≤ ixL (fun x : S32 => x.f1 == a) xs 0))) ∧ Below w.heap.size w w' := by
  have HC := Aside0.mk hC
  clear hC
  refine (callsIn_wide (n := 1)).1 ?_
  refine callsIn_of_wp Try.func39 rfl trivial ?_ rfl
  simp only [Try.ntmps39, List.size_toArray, List.length_cons, List.length_nil, Nat.reduceAdd, Nat.reduceSub, Array.replicate_succ, Array.replicate_zero, List.push_toArray, List.append_toArray, List.nil_append, List.cons_append]
  gi_wp2_with (refine ⟨trivial, ?_⟩; gi_at_call 54; refine (callsIn_wide.2 (indexBl b a A c xs _ HC.out hlen hb)).mono ?_; rintro e w1 ⟨rfl, hb⟩; have HW := Aside0.mk hb; clear hb)
  go_ret
  exact ⟨rfl, HW.out⟩
end Go.Proofs.Ytbopccjcehnfnaa.Dk
