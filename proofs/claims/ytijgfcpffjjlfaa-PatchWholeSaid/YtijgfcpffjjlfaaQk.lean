/- Written by a program of this session. A set of patches as an object: its struct, its two maps, the rows of its patches. -/
import Derived.RangeFuncNested
import Derived.Shelf.Abstract
import Derived.Shelf.RegionOpen
import Derived.WalkKit
import Derived.OwnWalkIn
import Derived.TacticsInMore
import Derived.LoopNIn
import Derived.LoopIn
import Derived.Maps.OwnIn
import Derived.Maps.AppendAt
import Derived.RangeFuncBox
import Derived.Lib.SliceRun
import Derived.WideMake
import Derived.Test.YtijgfcpffjjlfaaWInvWords
import Derived.Test.YtijgfcpffjjlfaaXFbx1
import Derived.Test.YtijgfcpffjjlfaaQp
namespace Go.Proofs.Ytijgfcpffjjlfaa.Pq
open Go Go.RowKit Go.Shelf Go.Proofs Go.Maps Go.Proofs.Ytijgfcpffjjlfaa.XFb Go.Proofs.YtijgfcpffjjlfaaW.PrintWords Go.Proofs.YtijgfcpffjjlfaaW.PrintLast Go.Proofs.YtijgfcpffjjlfaaW.PrintMore
set_option linter.unusedVariables false
set_option linter.unusedSimpArgs false

theorem cell_of {W : World} {b i : Nat} {cs : Array Value} {t : TypeId} {v : Value} (h : W.heap[b]? = some (.cells cs t (0, 0))) (hv : cs[i]? = some v) : W.cell? ⟨b, i, none⟩ = some v := by simp [World.cell?, h, hv]
/-- From W to W' no block of W's has turned but those of S. -/
structure Kept (S : Nat → Prop) (W W' : World) : Prop where
  os : W'.os = W.os
  tape : W'.tape = W.tape
  output : W'.output = W.output
  size : W.heap.size ≤ W'.heap.size
  same : ∀ k, k < W.heap.size → ¬ S k → W'.heap[k]? = W.heap[k]?
theorem Kept.refl (S : Nat → Prop) (W : World) : Kept S W W := ⟨rfl, rfl, rfl, Nat.le_refl _, fun _ _ _ => rfl⟩
theorem Kept.of_below {S : Nat → Prop} {W W' : World} (h : Below W.heap.size W W') : Kept S W W' := ⟨h.os, h.tape, h.output, h.size, fun k hk _ => h.block k hk⟩
theorem Kept.of_grown {S : Nat → Prop} {W W' : World} {row : Option Nat} (h : W.grownBy W' row) (hr : ∀ k, row = some k → S k) : Kept S W W' := ⟨h.os, h.tape, h.output, h.size, fun k hk hs => h.block k hk (fun e => hs (hr k e.symm))⟩
theorem Kept.trans {S S1 : Nat → Prop} {W W1 W2 : World} (h : Kept S W W1) (h1 : Kept S1 W1 W2) (hs : ∀ k, S1 k → S k ∨ W.heap.size ≤ k) : Kept S W W2 :=
  ⟨h1.os.trans h.os, h1.tape.trans h.tape, h1.output.trans h.output, Nat.le_trans h.size h1.size, fun k hk hn => (h1.same k (Nat.lt_of_lt_of_le hk h.size) (fun e => by rcases hs k e with h | h; exact hn h; omega)).trans (h.same k hk hn)⟩
theorem Kept.mono {S S1 : Nat → Prop} {W W1 : World} (h : Kept S W W1) (hs : ∀ k, k < W.heap.size → S k → S1 k) : Kept S1 W W1 := ⟨h.os, h.tape, h.output, h.size, fun k hk hn => h.same k hk (fun e => hn (hs k hk e))⟩
theorem Kept.below {S : Nat → Prop} {W W' : World} {n : Nat} (h : Kept S W W') (hs : ∀ k, S k → n ≤ k) (hn : n ≤ W.heap.size) : Below n W W' := ⟨h.os, h.tape, h.output, h.size, fun k hk => h.same k (by omega) (fun e => by have := hs k e; omega)⟩
theorem Kept.R {α : Type} {d : Kd α} {e base : Nat} {ok S : Nat → Prop} {W W' : World} {v : Value} {xs : List α} (h : Kd.R d e W base ok v xs) (hk : Kept S W W') (hn : ∀ k, ok k → ¬ S k) : Kd.R d e W' base ok v xs := Kd.R_step h (fun k ho hlt => hk.same k hlt (hn k ho))
theorem below_step {n : Nat} {W0 W W' : World} (hB : Below n W0 W) (h : Below W.heap.size W W') (hn : n ≤ W.heap.size) : Below n W0 W' := hB.trans (h.mono hn)

/-- How an element of the map of patches reads: itself. -/
def patR (v : Value) : Option (DataW Value × List MemPlace) :=
  match v with
  | .agg cs => match cs.toList with
    | [.int q1 a, .int q2 b, .int q3 o, .slice A n k, .slice B m j] => if q1 = .i64 ∧ q2 = .i64 ∧ q3 = .i64 then some (.held v, []) else none
    | _ => none
  | _ => none
theorem patR_mk (a b o : Int) (A : Option Addr) (n k : Nat) (B : Option Addr) (m j : Nat) : patR (.agg #[.int .i64 a, .int .i64 b, .int .i64 o, .slice A n k, .slice B m j]) = some (.held (.agg #[.int .i64 a, .int .i64 b, .int .i64 o, .slice A n k, .slice B m j]), []) := rfl
theorem patR_inv {v : Value} {y : DataW Value × List MemPlace} (h : patR v = some y) : ∃ (a b o : Int) (A : Option Addr) (n k : Nat) (B : Option Addr) (m j : Nat), v = .agg #[.int .i64 a, .int .i64 b, .int .i64 o, .slice A n k, .slice B m j] ∧ y = (.held v, []) := by
  unfold patR at h
  split at h
  · rename_i cs
    split at h
    · rename_i q1 a q2 b q3 o A n k B m j hl
      split at h
      · rename_i hq
        obtain ⟨rfl, rfl, rfl⟩ := hq
        cases h
        refine ⟨a, b, o, A, n, k, B, m, j, ?_, rfl⟩
        congr 1
        exact Array.toList_inj.1 hl
      · cases h
    · cases h
  · cases h
/-- The value of a patch, with its rows. -/
def PatV (W : World) (base : Nat) (S : Nat → Prop) (p : Pt) (v : Value) : Prop := ∃ (A : Option Addr) (k : Nat) (B : Option Addr) (j : Nat), v = .agg #[.int .i64 p.id, .int .i64 p.blk, .int .i64 p.off, .slice A p.by_.length k, .slice B p.nd.length j] ∧
  Kd.R (Kd.int .u8) 5 W base S (.slice A p.by_.length k) p.by_ ∧ Kd.R (Kd.int .i64) 3 W base S (.slice B p.nd.length j) p.nd
abbrev mapM (W : World) (m n : Nat) (D : DataW Value) : Prop := W.ownsMap Try.prog 3 patR m n D
abbrev mapD (W : World) (d n : Nat) (D : DataW Unit) : Prop := W.ownsMap Try.prog 3 unitElem d n D
abbrev law : Keyed Try.prog 3 := Maps.int_keyed Try.underlying3
/-- The set in block g of W; m: its map of patches; d: the one of those that are done; S: the rows' blocks. -/
structure IsSet (W : World) (base g m d : Nat) (S : Nat → Prop) (l : List Pt) (last : Int) (n : Nat) : Prop where
  fits : Fits l last
  cells : W.heap[g]? = some (.cells #[.int .i64 last, .map (some d), .map (some m), .bool true] 55 (0, 0))
  mp : ∃ D, mapM W m n D ∧ (∀ i : Int, Maps.has D (.int .i64 i) = decide (i ∈ ids l)) ∧ ∀ p ∈ l, ∃ v, (∀ zd, D.atKey (.int .i64 p.id) zd = .held v) ∧ PatV W base S p v
  dn : ∃ D, mapD W d n D ∧ ∀ i : Int, Maps.has D (.int .i64 i) = decide (1 ≤ i ∧ i ≤ last ∧ i ∉ ids l)
  ne : m ≠ d
  low : ∀ k, S k → base ≤ k ∧ k < W.heap.size
  bg : base ≤ g
  bm : base ≤ m
  bd : base ≤ d
  off : ∀ k, S k → k ≠ g ∧ k ≠ m ∧ k ≠ d
/-- A set's blocks. -/
def Own (S : Nat → Prop) (g m d : Nat) : Nat → Prop := fun k => S k ∨ k = g ∨ k = m ∨ k = d
theorem PatV.kept {W W' : World} {base : Nat} {S S2 : Nat → Prop} {p : Pt} {v : Value} (h : PatV W base S p v) (hk : Kept S2 W W') (hn : ∀ k, S k → ¬ S2 k) : PatV W' base S p v := by
  obtain ⟨A, k, B, j, rfl, h1, h2⟩ := h
  exact ⟨A, k, B, j, rfl, Kept.R h1 hk hn, Kept.R h2 hk hn⟩
theorem PatV.mono {W : World} {base : Nat} {S S2 : Nat → Prop} {p : Pt} {v : Value} (h : PatV W base S p v) (hn : ∀ k, S k → S2 k) : PatV W base S2 p v := by
  obtain ⟨A, k, B, j, rfl, h1, h2⟩ := h
  exact ⟨A, k, B, j, rfl, Kd.R_mono h1 hn, Kd.R_mono h2 hn⟩
theorem own_at {H : Type} {W W' : World} {R : Value → Option (DataW H × List MemPlace)} {m n : Nat} {D : DataW H} (h : W.ownsMap Try.prog 3 R m n D) (hs : W'.heap[m]? = W.heap[m]?) : W'.ownsMap Try.prog 3 R m n D := by
  obtain ⟨es, clock, hb, F, h1, h2⟩ := h
  exact ⟨es, clock, hs.trans hb, F, h1, h2⟩
theorem IsSet.ltg {W : World} {base g m d : Nat} {S : Nat → Prop} {l : List Pt} {last : Int} {n : Nat} (h : IsSet W base g m d S l last n) : g < W.heap.size := (Array.getElem?_eq_some_iff.1 h.cells).1
theorem IsSet.ltm {W : World} {base g m d : Nat} {S : Nat → Prop} {l : List Pt} {last : Int} {n : Nat} (h : IsSet W base g m d S l last n) : m < W.heap.size := let ⟨_, h1, _⟩ := h.mp; h1.lt
theorem IsSet.ltd {W : World} {base g m d : Nat} {S : Nat → Prop} {l : List Pt} {last : Int} {n : Nat} (h : IsSet W base g m d S l last n) : d < W.heap.size := let ⟨_, h1, _⟩ := h.dn; h1.lt
theorem IsSet.gm {W : World} {base g m d : Nat} {S : Nat → Prop} {l : List Pt} {last : Int} {n : Nat} (h : IsSet W base g m d S l last n) : g ≠ m ∧ g ≠ d := by
  obtain ⟨D, ⟨es, c, hm, _⟩, _⟩ := h.mp
  obtain ⟨D2, ⟨es2, c2, hd, _⟩, _⟩ := h.dn
  refine ⟨fun e => ?_, fun e => ?_⟩
  · subst e; rw [h.cells] at hm; cases hm
  · subst e; rw [h.cells] at hd; cases hd
theorem IsSet.kept {W W' : World} {base g m d : Nat} {S S2 : Nat → Prop} {l : List Pt} {last : Int} {n : Nat} (h : IsSet W base g m d S l last n) (hk : Kept S2 W W') (hn : ∀ k, Own S g m d k → ¬ S2 k) : IsSet W' base g m d S l last n := by
  have hg := h.ltg; have hm := h.ltm; have hd := h.ltd
  obtain ⟨h1, h2, ⟨D, h3, h4, h5⟩, ⟨D2, h6, h7⟩, h8, h9, h10, h11, h12, h13⟩ := h
  refine ⟨h1, (hk.same g hg (hn g (.inr (.inl rfl)))).trans h2, ⟨D, own_at h3 (hk.same m hm (hn m (.inr (.inr (.inl rfl))))), h4, fun p hp => ?_⟩, ⟨D2, own_at h6 (hk.same d hd (hn d (.inr (.inr (.inr rfl))))), h7⟩, h8, fun k hs => ⟨(h9 k hs).1, Nat.lt_of_lt_of_le (h9 k hs).2 hk.size⟩, h10, h11, h12, h13⟩
  obtain ⟨v, hv, hp⟩ := h5 p hp
  exact ⟨v, hv, hp.kept hk (fun k hs => hn k (.inl hs))⟩
theorem IsSet.below {W W' : World} {base g m d : Nat} {S : Nat → Prop} {l : List Pt} {last : Int} {n : Nat} (h : IsSet W base g m d S l last n) (hb : Below W.heap.size W W') : IsSet W' base g m d S l last n :=
  h.kept (S2 := fun _ => False) (Kept.of_below hb) (fun _ _ h => h)
theorem IsSet.monon {W : World} {base g m d : Nat} {S : Nat → Prop} {l : List Pt} {last : Int} {n n' : Nat} (h : IsSet W base g m d S l last n) (hn : n ≤ n') : IsSet W base g m d S l last n' := by
  obtain ⟨h1, h2, ⟨D, h3, h4⟩, ⟨D2, h6, h7⟩, h8, h9, h10, h11, h12, h13⟩ := h
  exact ⟨h1, h2, ⟨D, h3.mono hn, h4⟩, ⟨D2, h6.mono hn, h7⟩, h8, h9, h10, h11, h12, h13⟩
theorem IsSet.lower {W : World} {base base' g m d : Nat} {S : Nat → Prop} {l : List Pt} {last : Int} {n : Nat} (h : IsSet W base g m d S l last n) (hb : base' ≤ base) : IsSet W base' g m d S l last n := by
  obtain ⟨h1, h2, ⟨D, h3, h4, h5⟩, ⟨D2, h6, h7⟩, h8, h9, h10, h11, h12, h13⟩ := h
  refine ⟨h1, h2, ⟨D, h3, h4, fun p hp => ?_⟩, ⟨D2, h6, h7⟩, h8, fun k hk => ⟨Nat.le_trans hb (h9 k hk).1, (h9 k hk).2⟩, Nat.le_trans hb h10, Nat.le_trans hb h11, Nat.le_trans hb h12, h13⟩
  obtain ⟨v, hv, A, k, B, j, rfl, r1, r2⟩ := h5 p hp
  exact ⟨_, hv, A, k, B, j, rfl, Kd.R_lower r1 hb, Kd.R_lower r2 hb⟩
/-- The zero value of a patch. -/
theorem zero_pat (w : World) : (zeroValue 44).run Try.prog w = .ok (.agg #[.int .i64 0, .int .i64 0, .int .i64 0, .slice none 0 0, .slice none 0 0]) w := by
  exact Try.zeroValue44 w
theorem zero_unit (w : World) : (zeroValue 78).run Try.prog w = .ok (.agg #[]) w := by
  exact Try.zeroValue78 w
/-- A look-up of a number, as equations, in whatever later world. -/
theorem IsSet.lookB {W : World} {base g m d : Nat} {S : Nat → Prop} {l : List Pt} {last : Int} {n : Nat} (h : IsSet W base g m d S l last n) (i : Int) (hw : (Lit.int .i64 i).wf = true) :
    ∃ (A : Option Addr) (k : Nat) (B : Option Addr) (j : Nat), (∀ W1, W1.heap[m]? = W.heap[m]? → (Instr.lookup 53 (.map (some m)) (.int .i64 i) true).run Try.prog W1 = .ok (.tuple #[.agg #[.int .i64 (get l i).id, .int .i64 (get l i).blk, .int .i64 (get l i).off, .slice A (get l i).by_.length k, .slice B (get l i).nd.length j], .bool (decide (i ∈ ids l))]) W1 ∧
      (Instr.lookup 53 (.map (some m)) (.int .i64 i) false).run Try.prog W1 = .ok (.agg #[.int .i64 (get l i).id, .int .i64 (get l i).blk, .int .i64 (get l i).off, .slice A (get l i).by_.length k, .slice B (get l i).nd.length j]) W1) ∧
      Kd.R (Kd.int .u8) 5 W base S (.slice A (get l i).by_.length k) (get l i).by_ ∧ Kd.R (Kd.int .i64) 3 W base S (.slice B (get l i).nd.length j) (get l i).nd := by
  obtain ⟨D, h3, h4, h5⟩ := h.mp
  have hkey : keyOf Try.prog 3 (.int .i64 i) = some (.int .i64 i) := Maps.keyOf_int_mk Try.underlying3 hw
  have key : ∀ (w0 : Value), (∀ zd, Maps.has D (.int .i64 i) = true → D.atKey (.int .i64 i) zd = .held w0) → (Maps.has D (.int .i64 i) = false → w0 = .agg #[.int .i64 0, .int .i64 0, .int .i64 0, .slice none 0 0, .slice none 0 0]) → ∀ W1, W1.heap[m]? = W.heap[m]? → (Instr.lookup 53 (.map (some m)) (.int .i64 i) true).run Try.prog W1 = .ok (.tuple #[w0, .bool (decide (i ∈ ids l))]) W1 ∧
      (Instr.lookup 53 (.map (some m)) (.int .i64 i) false).run Try.prog W1 = .ok w0 W1 := by
    intro w0 hT hF W1 hW
    have h3' := own_at h3 hW
    obtain ⟨v, ps, r1, e1⟩ := h3'.look_ok law Try.underlying53 (zero_pat W1) (patR_mk 0 0 0 none 0 0 none 0 0) hkey
    obtain ⟨v2, ps2, r2, e2⟩ := h3'.lookup law Try.underlying53 (zero_pat W1) (patR_mk 0 0 0 none 0 0 none 0 0) hkey
    rw [h4 i] at r1
    have hat : D.atKey (.int .i64 i) (.held (.agg #[.int .i64 0, .int .i64 0, .int .i64 0, .slice none 0 0, .slice none 0 0])) = .held w0 := by
      cases hh : Maps.has D (.int .i64 i)
      · rw [Maps.atKey_of_not_has hh, hF hh]
      · exact hT _ hh
    rw [hat] at e1 e2
    obtain ⟨_, _, _, _, _, _, _, _, _, _, y1⟩ := patR_inv e1
    obtain ⟨_, _, _, _, _, _, _, _, _, _, y2⟩ := patR_inv e2
    have z1 := (Prod.mk.inj y1).1
    have z2 := (Prod.mk.inj y2).1
    injection z1 with z1
    injection z2 with z2
    rw [← z1] at r1
    rw [← z2] at r2
    exact ⟨r1, r2⟩
  by_cases hi : i ∈ ids l
  · obtain ⟨e, hm⟩ := get_id hi
    obtain ⟨v0, hv, A, k, B, j, rfl, q1, q2⟩ := h5 _ hm
    rw [e] at hv
    have hh : Maps.has D (.int .i64 i) = true := by rw [h4 i]; exact decide_eq_true hi
    have := key _ (fun zd _ => hv zd) (fun hf => by rw [hh] at hf; cases hf)
    exact ⟨A, k, B, j, by rw [e]; exact this, q1, q2⟩
  · have hn : Maps.has D (.int .i64 i) = false := by rw [h4 i]; exact decide_eq_false hi
    have := key _ (fun zd ht => by rw [hn] at ht; cases ht) (fun _ => rfl)
    rw [get_none hi]
    exact ⟨none, 0, none, 0, this, Kd.R_nil _ _ _ _ _, Kd.R_nil _ _ _ _ _⟩
/-- A look-up of a number, as equations. -/
theorem IsSet.look {W : World} {base g m d : Nat} {S : Nat → Prop} {l : List Pt} {last : Int} {n : Nat} (h : IsSet W base g m d S l last n) (i : Int) (hw : (Lit.int .i64 i).wf = true) :
    ∃ (A : Option Addr) (k : Nat) (B : Option Addr) (j : Nat), (Instr.lookup 53 (.map (some m)) (.int .i64 i) true).run Try.prog W = .ok (.tuple #[.agg #[.int .i64 (get l i).id, .int .i64 (get l i).blk, .int .i64 (get l i).off, .slice A (get l i).by_.length k, .slice B (get l i).nd.length j], .bool (decide (i ∈ ids l))]) W ∧
      (Instr.lookup 53 (.map (some m)) (.int .i64 i) false).run Try.prog W = .ok (.agg #[.int .i64 (get l i).id, .int .i64 (get l i).blk, .int .i64 (get l i).off, .slice A (get l i).by_.length k, .slice B (get l i).nd.length j]) W ∧
      Kd.R (Kd.int .u8) 5 W base S (.slice A (get l i).by_.length k) (get l i).by_ ∧ Kd.R (Kd.int .i64) 3 W base S (.slice B (get l i).nd.length j) (get l i).nd := by
  obtain ⟨A, k, B, j, h1, h2, h3⟩ := h.lookB i hw
  exact ⟨A, k, B, j, (h1 W rfl).1, (h1 W rfl).2, h2, h3⟩
set_option maxRecDepth 100000 in
set_option maxHeartbeats 2000000 in
theorem own_ok (W : World) (g : Nat) (x y z : Value) (h : W.heap[g]? = some (.cells #[x, y, z, .bool true] 55 (0, 0))) :
    Calls Try.prog 39 #[.pointer (some ⟨g, 0, none⟩)] W fun e w' => e = .returned (.bool true) ∧ w' = W := by
  have c3 : W.cell? ⟨g, 3, none⟩ = some (.bool true) := by simp [World.cell?, h]
  refine (callsIn_wide (n := 1)).1 ?_
  refine callsIn_of_wp Try.func39 rfl trivial ?_ rfl
  simp only [Try.ntmps39, List.size_toArray, List.length_cons, List.length_nil, Nat.reduceAdd, Nat.reduceSub, Array.replicate_succ, Array.replicate_zero, List.push_toArray, List.append_toArray, List.nil_append, List.cons_append]
  gi_wp2
  go_ret
  exact ⟨rfl, rfl⟩
set_option maxRecDepth 100000 in
set_option maxHeartbeats 2000000 in
theorem known_ok {W : World} {base g m d : Nat} {S : Nat → Prop} {l : List Pt} {last : Int} {n : Nat} (h : IsSet W base g m d S l last n) (i : Int) :
    Calls Try.prog 43 #[.pointer (some ⟨g, 0, none⟩), .int .i64 i] W fun e w' => e = .returned (.bool (known last i)) ∧ w' = W := by
  have c0 : W.cell? ⟨g, 0, none⟩ = some (.int .i64 last) := by simp [World.cell?, h.cells]
  clear h
  refine (callsIn_wide (n := 1)).1 ?_
  refine callsIn_of_wp Try.func43 rfl trivial ?_ rfl
  simp only [Try.ntmps43, List.size_toArray, List.length_cons, List.length_nil, Nat.reduceAdd, Nat.reduceSub, Array.replicate_succ, Array.replicate_zero, List.push_toArray, List.append_toArray, List.nil_append, List.cons_append]
  by_cases h1 : 1 ≤ i
  · have t1 : decide ((1 : Int) ≤ i) = true := decide_eq_true h1
    gi_wp2
    go_ret
    exact ⟨by unfold known; simp [h1], rfl⟩
  · have t1 : decide ((1 : Int) ≤ i) = false := decide_eq_false h1
    gi_wp2
    go_ret
    exact ⟨by unfold known; rw [decide_eq_false (fun hh => by omega)]; rfl, rfl⟩
end Go.Proofs.Ytijgfcpffjjlfaa.Pq
