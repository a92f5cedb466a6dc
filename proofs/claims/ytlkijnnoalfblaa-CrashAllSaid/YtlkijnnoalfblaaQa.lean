/- Written by a program of this session (tools/trim.py): Nb Nw Sp Sm Dk De Dm, as far as the seat has what they speak of. -/
import Derived.RangeFuncNested
import Derived.Shelf.Abstract
import Derived.Shelf.RegionOpen
import Derived.WalkKit
import Derived.OwnWalkIn
import Derived.TacticsInMore
import Derived.LoopNIn
import Derived.LoopIn
import Derived.Test.YtlkijnnoalfblaaProg
import Derived.Test.YtlkijnnoalfblaaWMore
import Derived.Test.YtlkijnnoalfblaaWInvWords
import Derived.Test.YtlkijnnoalfblaaXFbx1
import Derived.Lib.SliceRun
namespace Go.Proofs.Ytlkijnnoalfblaa.Nb
open Go Go.RowKit Go.Shelf Go.Proofs Go.Proofs.YtlkijnnoalfblaaW.PrintWords Go.Proofs.YtlkijnnoalfblaaW.PrintLast Go.Proofs.YtlkijnnoalfblaaW.PrintMore
set_option linter.unusedVariables false
set_option linter.unusedSimpArgs false

/-- p is nil, or a struct of noughts. -/
def Nb (W : World) (p : Option Addr) : Prop := p = none ∨ ∃ g, p = some ⟨g, 0, none⟩ ∧ W.heap[g]? = some (.cells #[.slice none 0 0, .slice none 0 0, .map none, .int .i64 0] 70 (0, 0))
theorem Nb.below {W W' : World} {p : Option Addr} (h : Nb W p) (hb : Below W.heap.size W W') : Nb W' p := by
  rcases h with h | ⟨g, h1, h2⟩
  · exact .inl h
  · exact .inr ⟨g, h1, (hb.block g (Array.getElem?_eq_some_iff.1 h2).1).trans h2⟩
theorem Nb.alloc {W : World} {p : Option Addr} (h : Nb W p) (o : Obj) : Nb (W.alloc o) p := h.below ((Below.refl _ W).alloc (Nat.le_refl _) _)

set_option maxRecDepth 100000 in
set_option maxHeartbeats 1000000 in
theorem made_nb (W : World) (p : Option Addr)  (h : Nb W p) :
    Calls Try.prog 34 #[.pointer p] W fun e w' => e = .returned (.bool false) ∧ w' = W := by
  refine (callsIn_wide (n := 1)).1 ?_
  refine callsIn_of_wp Try.func34 rfl trivial ?_ rfl
  simp only [Try.ntmps34, List.size_toArray, List.length_cons, List.length_nil, Nat.reduceAdd, Nat.reduceSub, Array.replicate_succ, Array.replicate_zero, List.push_toArray, List.append_toArray, List.nil_append, List.cons_append]
  rcases h with rfl | ⟨g, rfl, hg⟩
  · gi_wp2
    go_ret
    exact ⟨rfl, rfl⟩
  · have c0 : W.cell? ⟨g, 0, none⟩ = some (.slice none 0 0) := by simp [World.cell?, hg]
    gi_wp2
    go_ret
    exact ⟨rfl, rfl⟩

set_option maxRecDepth 100000 in
set_option maxHeartbeats 1000000 in
theorem look_nb (W : World) (p : Option Addr) (b : Int) (h : Nb W p) :
    Calls Try.prog 45 #[.pointer p, .int .i64 b] W fun e w' => e = .returned (.int .i64 2) ∧ w' = W := by
  refine (callsIn_wide (n := 1)).1 ?_
  refine callsIn_of_wp Try.func45 rfl trivial ?_ rfl
  simp only [Try.ntmps45, List.size_toArray, List.length_cons, List.length_nil, Nat.reduceAdd, Nat.reduceSub, Array.replicate_succ, Array.replicate_zero, List.push_toArray, List.append_toArray, List.nil_append, List.cons_append]
  gi_wp2_with (first | (refine ⟨trivial, ?_⟩; gi_at_call 34; refine (callsIn_wide.2 (made_nb _ p h)).mono ?_; rintro e w' ⟨rfl, rfl⟩))
  go_ret
  exact ⟨rfl, rfl⟩

set_option maxRecDepth 100000 in
set_option maxHeartbeats 1000000 in
theorem complete_nb (W : World) (p : Option Addr) (n : Int) (ok : Bool) (h : Nb W p) :
    Calls Try.prog 17 #[.pointer p, .int .i64 n, .bool ok] W fun e w' => e = .returned (.int .i64 2) ∧ w' = W := by
  refine (callsIn_wide (n := 1)).1 ?_
  refine callsIn_of_wp Try.func17 rfl trivial ?_ rfl
  simp only [Try.ntmps17, List.size_toArray, List.length_cons, List.length_nil, Nat.reduceAdd, Nat.reduceSub, Array.replicate_succ, Array.replicate_zero, List.push_toArray, List.append_toArray, List.nil_append, List.cons_append]
  gi_wp2_with (first | (refine ⟨trivial, ?_⟩; gi_at_call 34; refine (callsIn_wide.2 (made_nb _ p h)).mono ?_; rintro e w' ⟨rfl, rfl⟩))
  go_ret
  exact ⟨rfl, rfl⟩

set_option maxRecDepth 100000 in
set_option maxHeartbeats 1000000 in
theorem copy_nb (W : World) (p : Option Addr)  (h : Nb W p) :
    Calls Try.prog 12 #[.pointer p] W fun e w' => e = .returned (.pointer none) ∧ w' = W := by
  refine (callsIn_wide (n := 1)).1 ?_
  refine callsIn_of_wp Try.func12 rfl trivial ?_ rfl
  simp only [Try.ntmps12, List.size_toArray, List.length_cons, List.length_nil, Nat.reduceAdd, Nat.reduceSub, Array.replicate_succ, Array.replicate_zero, List.push_toArray, List.append_toArray, List.nil_append, List.cons_append]
  gi_wp2_with (first | (refine ⟨trivial, ?_⟩; gi_at_call 34; refine (callsIn_wide.2 (made_nb _ p h)).mono ?_; rintro e w' ⟨rfl, rfl⟩))
  go_ret
  exact ⟨rfl, rfl⟩

set_option maxRecDepth 100000 in
set_option maxHeartbeats 1000000 in
theorem write_nb (W : World) (p : Option Addr) (b : Int) (s : Value) (h : Nb W p) :
    Calls Try.prog 22 #[.pointer p, .int .i64 b, s] W fun e w' => e = .returned (.tuple #[.int .i64 0, .int .i64 2]) ∧ w' = W.alloc (.cells #[.int .i64 b] 3) := by
  refine (callsIn_wide (n := 1)).1 ?_
  refine callsIn_of_wp Try.func22 rfl trivial ?_ rfl
  simp only [Try.ntmps22, List.size_toArray, List.length_cons, List.length_nil, Nat.reduceAdd, Nat.reduceSub, Array.replicate_succ, Array.replicate_zero, List.push_toArray, List.append_toArray, List.nil_append, List.cons_append]
  gi_wp2_with (first | (refine ⟨trivial, ?_⟩; gi_at_call 45; refine (callsIn_wide.2 (look_nb _ p b (h.alloc _))).mono ?_; rintro e w' ⟨rfl, rfl⟩))
  refine bodyPost_ret (results_tmp2 rfl _ _ _) rfl ?_
  exact ⟨rfl, rfl⟩

set_option maxRecDepth 100000 in
set_option maxHeartbeats 1000000 in
theorem crash_nb (W : World) (p : Option Addr) (s : Value) (h : Nb W p) :
    Calls Try.prog 13 #[.pointer p, s] W fun e w' => e = .returned (.int .i64 2) ∧ w' = W.alloc (.cells #[.pointer p] 24) := by
  refine (callsIn_wide (n := 1)).1 ?_
  refine callsIn_of_wp Try.func13 rfl trivial ?_ rfl
  simp only [Try.ntmps13, List.size_toArray, List.length_cons, List.length_nil, Nat.reduceAdd, Nat.reduceSub, Array.replicate_succ, Array.replicate_zero, List.push_toArray, List.append_toArray, List.nil_append, List.cons_append]
  gi_wp2_with (first | (refine ⟨trivial, ?_⟩; gi_at_call 34; refine (callsIn_wide.2 (made_nb _ p (h.alloc _))).mono ?_; rintro e w' ⟨rfl, rfl⟩))
  go_ret
  exact ⟨rfl, rfl⟩

set_option maxRecDepth 100000 in
set_option maxHeartbeats 1000000 in
theorem blocks_nb (W : World) (p : Option Addr)  (h : Nb W p) :
    Calls Try.prog 24 #[.pointer p] W fun e w' => e = .returned (.int .i64 0) ∧ w' = W := by
  refine (callsIn_wide (n := 1)).1 ?_
  refine callsIn_of_wp Try.func24 rfl trivial ?_ rfl
  simp only [Try.ntmps24, List.size_toArray, List.length_cons, List.length_nil, Nat.reduceAdd, Nat.reduceSub, Array.replicate_succ, Array.replicate_zero, List.push_toArray, List.append_toArray, List.nil_append, List.cons_append]
  rcases h with rfl | ⟨g, rfl, hg⟩
  · gi_wp2
    go_ret
    exact ⟨rfl, rfl⟩
  · have c0 : W.cell? ⟨g, 0, none⟩ = some (.slice none 0 0) := by simp [World.cell?, hg]
    gi_wp2
    go_ret
    exact ⟨rfl, rfl⟩

set_option maxRecDepth 100000 in
set_option maxHeartbeats 1000000 in
theorem image0 (W : World) : Calls Try.prog 35 #[.slice none 0 0] W fun e w' => e = .returned (.slice none 0 0) ∧ w' = W := by
  refine (callsIn_wide (n := 1)).1 ?_
  refine callsIn_of_wp Try.func35 rfl trivial ?_ rfl
  simp only [Try.ntmps35, List.size_toArray, List.length_cons, List.length_nil, Nat.reduceAdd, Nat.reduceSub, Array.replicate_succ, Array.replicate_zero, List.push_toArray, List.append_toArray, List.nil_append, List.cons_append]
  gi_wp2
  gi_loopw [3, 8] (fun v3 v8 w' => v3 = .slice none 0 0 ∧ v8 = .int .i64 0 ∧ w' = W) (fun _ _ _ => 0)
  case atStart => exact ⟨rfl, rfl, rfl⟩
  case round =>
    obtain ⟨rfl, rfl, rfl⟩ := hrel
    gi_wp2
    go_ret
    exact ⟨rfl, rfl⟩

set_option maxRecDepth 100000 in
set_option maxHeartbeats 1000000 in
theorem sent0 (W : World) : Calls Try.prog 29 #[.slice none 0 0] W fun e w' => e = .returned (.slice none 0 0) ∧ w' = W := by
  refine (callsIn_wide (n := 1)).1 ?_
  refine callsIn_of_wp Try.func29 rfl trivial ?_ rfl
  simp only [Try.ntmps29, List.size_toArray, List.length_cons, List.length_nil, Nat.reduceAdd, Nat.reduceSub, Array.replicate_succ, Array.replicate_zero, List.push_toArray, List.append_toArray, List.nil_append, List.cons_append]
  gi_wp2
  gi_loopw [3, 8] (fun v3 v8 w' => v3 = .slice none 0 0 ∧ v8 = .int .i64 0 ∧ w' = W) (fun _ _ _ => 0)
  case atStart => exact ⟨rfl, rfl, rfl⟩
  case round =>
    obtain ⟨rfl, rfl, rfl⟩ := hrel
    gi_wp2
    go_ret
    exact ⟨rfl, rfl⟩

set_option maxRecDepth 100000 in
set_option maxHeartbeats 1000000 in
theorem image_nb (W : World) (p : Option Addr)  (h : Nb W p) :
    Calls Try.prog 16 #[.pointer p] W fun e w' => e = .returned (.slice none 0 0) ∧ w' = W := by
  refine (callsIn_wide (n := 1)).1 ?_
  refine callsIn_of_wp Try.func16 rfl trivial ?_ rfl
  simp only [Try.ntmps16, List.size_toArray, List.length_cons, List.length_nil, Nat.reduceAdd, Nat.reduceSub, Array.replicate_succ, Array.replicate_zero, List.push_toArray, List.append_toArray, List.nil_append, List.cons_append]
  rcases h with rfl | ⟨g, rfl, hg⟩
  · gi_wp2_with (first | (refine ⟨trivial, ?_⟩; gi_at_call 35; refine (callsIn_wide.2 (image0 _)).mono ?_; rintro e w' ⟨rfl, rfl⟩))
    go_ret
    exact ⟨rfl, rfl⟩
  · have c0 : W.cell? ⟨g, 0, none⟩ = some (.slice none 0 0) := by simp [World.cell?, hg]
    gi_wp2_with (first | (refine ⟨trivial, ?_⟩; gi_at_call 35; refine (callsIn_wide.2 (image0 _)).mono ?_; rintro e w' ⟨rfl, rfl⟩))
    go_ret
    exact ⟨rfl, rfl⟩

set_option maxRecDepth 100000 in
set_option maxHeartbeats 1000000 in
theorem queue_nb (W : World) (p : Option Addr)  (h : Nb W p) :
    Calls Try.prog 7 #[.pointer p] W fun e w' => e = .returned (.slice none 0 0) ∧ w' = W := by
  refine (callsIn_wide (n := 1)).1 ?_
  refine callsIn_of_wp Try.func7 rfl trivial ?_ rfl
  simp only [Try.ntmps7, List.size_toArray, List.length_cons, List.length_nil, Nat.reduceAdd, Nat.reduceSub, Array.replicate_succ, Array.replicate_zero, List.push_toArray, List.append_toArray, List.nil_append, List.cons_append]
  rcases h with rfl | ⟨g, rfl, hg⟩
  · gi_wp2_with (first | (refine ⟨trivial, ?_⟩; gi_at_call 29; refine (callsIn_wide.2 (sent0 _)).mono ?_; rintro e w' ⟨rfl, rfl⟩))
    go_ret
    exact ⟨rfl, rfl⟩
  · have c1 : W.cell? ⟨g, 1, none⟩ = some (.slice none 0 0) := by simp [World.cell?, hg]
    gi_wp2_with (first | (refine ⟨trivial, ?_⟩; gi_at_call 29; refine (callsIn_wide.2 (sent0 _)).mono ?_; rintro e w' ⟨rfl, rfl⟩))
    go_ret
    exact ⟨rfl, rfl⟩

end Go.Proofs.Ytlkijnnoalfblaa.Nb

namespace Go.Proofs.Ytlkijnnoalfblaa.Nb
open Go Go.RowKit Go.Shelf Go.Proofs Go.Proofs.YtlkijnnoalfblaaW.PrintWords Go.Proofs.YtlkijnnoalfblaaW.PrintLast Go.Proofs.YtlkijnnoalfblaaW.PrintMore
set_option linter.unusedVariables false
set_option linter.unusedSimpArgs false

theorem infou8 : (Try.prog.info? 5).map (fun i => (i.zero, i.size, i.bytes)) = some (some (.int .u8 0), 1, 1) := by kernel_rfl
theorem infosl : (Try.prog.info? 47).map (fun i => (i.zero, i.size, i.bytes)) = some (some (.slice none 0 0), 1, 24) := by kernel_rfl

theorem set_heap {W : World} {b o : Nat} {cs : Array Value} {t : TypeId} (h : W.heap[b]? = some (.cells cs t (0, 0))) (v : Value) :
    (W.setCell ⟨b, o, none⟩ v).heap[b]? = some (.cells (cs.setIfInBounds o v) t (0, 0)) := by
  obtain ⟨hlt, hk⟩ := Array.getElem?_eq_some_iff.1 h
  show (W.heap.modify b _)[b]? = _
  rw [Array.getElem?_eq_getElem (by rw [Array.size_modify]; exact hlt), Array.getElem_modify_self, hk]
  rfl

set_option maxRecDepth 100000 in
set_option maxHeartbeats 1000000 in
theorem blocks_of (W : World) (g : Nat) (A : Option Addr) (n c : Nat) (q m l : Value) (h : W.heap[g]? = some (.cells #[.slice A n c, q, m, l] 70 (0, 0))) :
    Calls Try.prog 24 #[.pointer (some ⟨g, 0, none⟩)] W fun e w' => e = .returned (.int .i64 (n : Int)) ∧ w' = W := by
  refine (callsIn_wide (n := 1)).1 ?_
  refine callsIn_of_wp Try.func24 rfl trivial ?_ rfl
  simp only [Try.ntmps24, List.size_toArray, List.length_cons, List.length_nil, Nat.reduceAdd, Nat.reduceSub, Array.replicate_succ, Array.replicate_zero, List.push_toArray, List.append_toArray, List.nil_append, List.cons_append]
  have c0 : W.cell? ⟨g, 0, none⟩ = some (.slice A n c) := by simp [World.cell?, h]
  gi_wp2
  go_ret
  exact ⟨rfl, rfl⟩
end Go.Proofs.Ytlkijnnoalfblaa.Nb

namespace Go.Proofs.Ytlkijnnoalfblaa.Sp
open Go Go.RowKit Go.Shelf Go.Proofs Go.Proofs.YtlkijnnoalfblaaW.PrintWords Go.Proofs.YtlkijnnoalfblaaW.PrintLast Go.Proofs.YtlkijnnoalfblaaW.PrintMore
set_option linter.unusedVariables false
set_option linter.unusedSimpArgs false

/-- From W to W' only bytes have been written over, in blocks of S. -/
structure Spoils (W W' : World) (S : Nat → Prop) : Prop where
  os : W'.os = W.os
  tape : W'.tape = W.tape
  output : W'.output = W.output
  size : W'.heap.size = W.heap.size
  same : ∀ k, ¬ S k → W'.heap[k]? = W.heap[k]?
  cells : ∀ (k : Nat) (cs : Array Value) (t : TypeId) (f : Nat × Nat), W.heap[k]? = some (.cells cs t f) → ∃ cs', W'.heap[k]? = some (.cells cs' t f) ∧ cs'.size = cs.size ∧ ∀ (i : Nat) (z : Int), cs[i]? = some (.int .u8 z) → ∃ z', cs'[i]? = some (.int .u8 z')
theorem Spoils.refl (W : World) (S : Nat → Prop) : Spoils W W S := ⟨rfl, rfl, rfl, rfl, fun _ _ => rfl, fun k cs t f h => ⟨cs, h, rfl, fun i z hz => ⟨z, hz⟩⟩⟩
theorem Spoils.trans {W W1 W2 : World} {S : Nat → Prop} (h : Spoils W W1 S) (h' : Spoils W1 W2 S) : Spoils W W2 S :=
  ⟨h'.os.trans h.os, h'.tape.trans h.tape, h'.output.trans h.output, h'.size.trans h.size, fun k hk => (h'.same k hk).trans (h.same k hk), fun k cs t f hc => by
    obtain ⟨cs1, h1, h2, h3⟩ := h.cells k cs t f hc
    obtain ⟨cs2, h4, h5, h6⟩ := h'.cells k cs1 t f h1
    exact ⟨cs2, h4, h5.trans h2, fun i z hz => by obtain ⟨z1, hz1⟩ := h3 i z hz; exact h6 i z1 hz1⟩⟩
theorem Spoils.mono {W W' : World} {S S' : Nat → Prop} (h : Spoils W W' S) (hs : ∀ k, S k → S' k) : Spoils W W' S' :=
  ⟨h.os, h.tape, h.output, h.size, fun k hk => h.same k (fun e => hk (hs k e)), h.cells⟩
theorem Spoils.below {W W' : World} {S : Nat → Prop} (h : Spoils W W' S) {n : Nat} (hs : ∀ k, S k → n ≤ k) : Below n W W' :=
  ⟨h.os, h.tape, h.output, by rw [h.size]; exact Nat.le_refl _, fun k hk => h.same k (fun e => by have := hs k e; omega)⟩
/-- A slice of bytes that can be written over. -/
def SB (W : World) (v : Value) : Prop := v = .slice none 0 0 ∨ ∃ (g n c : Nat) (cs : Array Value), v = .slice (some ⟨g, 0, none⟩) n c ∧ n < 9223372036854775807 ∧ W.heap[g]? = some (.cells cs 5 (0, 0)) ∧ ∀ i, i < n → ∃ z, cs[i]? = some (.int .u8 z)
theorem SB.spoils {W W' : World} {S : Nat → Prop} {v : Value} (h : SB W v) (hs : Spoils W W' S) : SB W' v := by
  rcases h with rfl | ⟨g, n, c, cs, rfl, hn, hc, hz⟩
  · exact .inl rfl
  · obtain ⟨cs', h1, h2, h3⟩ := hs.cells _ _ _ _ hc
    exact .inr ⟨g, n, c, cs', rfl, hn, h1, fun i hi => by obtain ⟨z, hz⟩ := hz i hi; exact h3 i z hz⟩
theorem SB.below {W W' : World} {v : Value} (h : SB W v) (hb : Below W.heap.size W W') : SB W' v := by
  rcases h with rfl | ⟨g, n, c, cs, rfl, hn, hc, hz⟩
  · exact .inl rfl
  · exact .inr ⟨g, n, c, cs, rfl, hn, (hb.block g (Array.getElem?_eq_some_iff.1 hc).1).trans hc, hz⟩
theorem SB.of_R {W : World} {base : Nat} {ok : Nat → Prop} {v : Value} {xs : List Int} (h : Kd.R (Kd.int .u8) 5 W base ok v xs) (hl : xs.length < 9223372036854775807) : SB W v := by
  rcases (Kd.own_of_R h).2 with ⟨rfl, hx⟩ | ⟨g, cap, cur, rfl, hb, hh, hnc, hcm, hcs, ht⟩
  · exact .inl rfl
  · refine .inr ⟨g, xs.length, cap, cur, rfl, hl, hh, fun i hi => ⟨xs.getD i 0, ?_⟩⟩
    have h1 := congrArg (·[i]?) ht
    rw [List.getElem?_take, if_pos (by omega), Array.getElem?_toList] at h1
    rw [h1]
    simp [encs, List.getD_eq_getElem?_getD, hi]
theorem spoil_set {W : World} {g i : Nat} {cs : Array Value} {t : TypeId} {z x : Int} (hh : W.heap[g]? = some (.cells cs t (0, 0))) (hz : cs[i]? = some (.int .u8 z)) : Spoils W (W.setCell ⟨g, i, none⟩ (.int .u8 x)) (fun k => k = g) := by
  obtain ⟨hlt, hk⟩ := Array.getElem?_eq_some_iff.1 hh
  have hself : (W.setCell ⟨g, i, none⟩ (.int .u8 x)).heap[g]? = some (.cells (cs.setIfInBounds i (.int .u8 x)) t (0, 0)) := by
    show (W.heap.modify g _)[g]? = _
    rw [Array.getElem?_eq_getElem (by rw [Array.size_modify]; exact hlt), Array.getElem_modify_self, hk]
    rfl
  refine ⟨rfl, rfl, rfl, by simp, fun k hk => Below.heap_setCell W ⟨g, i, none⟩ _ k hk, fun k cs0 t0 f0 h0 => ?_⟩
  by_cases e : k = g
  · subst e
    rw [hh] at h0
    injection h0 with h0
    injection h0 with h1 h2 h3
    subst h1; subst h2; subst h3
    refine ⟨_, hself, by simp, fun j y hy => ?_⟩
    by_cases e : i = j
    · subst e
      have := (Array.getElem?_eq_some_iff.1 hz).1
      exact ⟨x, by simp [Array.getElem?_setIfInBounds, this]⟩
    · exact ⟨y, by simp [Array.getElem?_setIfInBounds, e, hy]⟩
  · exact ⟨cs0, (Below.heap_setCell W ⟨g, i, none⟩ _ k e).trans h0, rfl, fun j y hy => ⟨y, hy⟩⟩

end Go.Proofs.Ytlkijnnoalfblaa.Sp

namespace Go.Proofs.Ytlkijnnoalfblaa.Sp
open Go Go.RowKit Go.Shelf Go.Proofs Go.Proofs.Ytlkijnnoalfblaa.XFb Go.Proofs.YtlkijnnoalfblaaW.PrintWords Go.Proofs.YtlkijnnoalfblaaW.PrintLast Go.Proofs.YtlkijnnoalfblaaW.PrintMore
set_option linter.unusedVariables false
set_option linter.unusedSimpArgs false

theorem at_rows {w : World} {A : Option Addr} {n : Nat} {xs : List (List Int)} (h : Kd.C (Kd.slice 5 (Kd.int .u8)) w A n xs) (i : Nat) (h1 : i < n) : ∃ ad A0 c0, A = some ad ∧ w.cell? (ad.add i) = some (.slice A0 (xs.getD i []).length c0) ∧ (xs.getD i []).length ≤ c0 ∧ (Kd.int .u8).C w A0 (xs.getD i []).length (xs.getD i []) := by
  obtain ⟨ad, c, e, _, hK, hc0⟩ := Kd.C_get h ([] : List Int) (i : Int) (by omega) (by omega)
  rw [Int.toNat_natCast] at hK hc0
  have hc : ∀ j u, c[j]? = some u → w.cell? (ad.add (i * 1 + j)) = some u := hc0
  obtain ⟨A0, c0, rfl, l0, g0⟩ := hK
  exact ⟨ad, A0, c0, e, by have hq := hc 0 _ rfl; rwa [Nat.mul_one, Nat.add_zero] at hq, l0, g0⟩
theorem below_drawn {W W1 W2 : World} {b : Nat} (h : Below b W W1) (hd : Drawn0 W1 W2) : Below b W W2 := by
  obtain ⟨n, rfl⟩ := hd.out
  exact pw_below_drewN h n

set_option maxRecDepth 100000 in
set_option maxHeartbeats 4000000 in
theorem eqf_same (W : World) (A B : Option Addr) (c d : Nat) (xs : List (List Int)) (hA : Kd.C (Kd.slice 5 (Kd.int .u8)) W A xs.length xs) (hB : Kd.C (Kd.slice 5 (Kd.int .u8)) W B xs.length xs) (hl : xs.length < 9223372036854775807) :
    Calls Try.prog 32 #[.slice A xs.length c, .slice B xs.length d, .func (.func 33) #[] #[]] W fun e W' => e = .returned (.bool true) ∧ Below W.heap.size W W' := by
  have HA := Aside0.mk hA
  have HB := Aside0.mk hB
  clear hA hB
  refine (callsIn_wide (n := 1)).1 ?_
  refine callsIn_of_wp Try.func32 rfl trivial ?_ rfl
  simp only [Try.ntmps32, List.size_toArray, List.length_cons, List.length_nil, Nat.reduceAdd, Nat.reduceSub, Array.replicate_succ, Array.replicate_zero, List.push_toArray, List.append_toArray, List.nil_append, List.cons_append]
  gi_wp2
  gi_loopw [17] (fun v17 w' => ∃ i : Nat, v17 = .int .i64 (i : Int) ∧ i ≤ xs.length ∧ Aside0 (Below W.heap.size W w')) (fun v17 _ => xs.length - (intOf v17).toNat)
  case atStart => exact ⟨0, rfl, Nat.zero_le _, ⟨Below.refl _ _⟩⟩
  case round =>
    obtain ⟨i, rfl, hi, HW⟩ := hrel
    by_cases hlt : i < xs.length
    · have t1 : decide ((i : Int) < (xs.length : Int)) = true := decide_eq_true (by omega)
      obtain ⟨ad, A0, a0, rfl, ca, la, ra⟩ := at_rows (Kd.C_below HA.out HW.out) i hlt
      obtain ⟨bd, B0, b0, rfl, cb, lb, rb⟩ := at_rows (Kd.C_below HB.out HW.out) i hlt
      generalize xs.getD i [] = x at *
      have RA := Aside0.mk ra
      have RB := Aside0.mk rb
      clear ra rb
      gi_wp2_with (refine ⟨trivial, ?_⟩; gi_at_call 33; refine (callsIn_wide.2 (bytes_Equal.calls A0 a0 x B0 b0 x true _ RA.out la RB.out lb (by unfold bytes_Equal.f; simp))).mono ?_; rintro e w1 ⟨rfl, hd1⟩; have HW1 := Aside0.mk (below_drawn HW.out hd1); clear hd1)
      exact ⟨⟨i + 1, by simp, by omega, HW1⟩, by simp [intOf]; omega⟩
    · have t1 : decide ((i : Int) < (xs.length : Int)) = false := decide_eq_false (by omega)
      gi_wp2
      go_ret
      exact ⟨rfl, HW.out⟩
set_option maxRecDepth 100000 in
set_option maxHeartbeats 4000000 in
theorem same_image (W : World) (A B : Option Addr) (c d : Nat) (xs : List (List Int)) (hA : Kd.C (Kd.slice 5 (Kd.int .u8)) W A xs.length xs) (hB : Kd.C (Kd.slice 5 (Kd.int .u8)) W B xs.length xs) (hl : xs.length < 9223372036854775807) :
    Calls Try.prog 11 #[.slice A xs.length c, .slice B xs.length d] W fun e W' => e = .returned (.bool true) ∧ Below W.heap.size W W' := by
  have HA := Aside0.mk hA
  have HB := Aside0.mk hB
  clear hA hB
  refine (callsIn_wide (n := 1)).1 ?_
  refine callsIn_of_wp Try.func11 rfl trivial ?_ rfl
  simp only [Try.ntmps11, List.size_toArray, List.length_cons, List.length_nil, Nat.reduceAdd, Nat.reduceSub, Array.replicate_succ, Array.replicate_zero, List.push_toArray, List.append_toArray, List.nil_append, List.cons_append]
  gi_wp2_with (refine ⟨trivial, ?_⟩; gi_at_call 32; refine (callsIn_wide.2 (eqf_same _ A B c d xs HA.out HB.out hl)).mono ?_; rintro e w1 ⟨rfl, hb1⟩; have HW1 := Aside0.mk hb1; clear hb1)
  go_ret
  exact ⟨rfl, HW1.out⟩
end Go.Proofs.Ytlkijnnoalfblaa.Sp

namespace Go.Proofs.Ytlkijnnoalfblaa.Dk
open Go Go.RowKit Go.Shelf Go.Proofs Go.Proofs.Ytlkijnnoalfblaa.Sp Go.Proofs.Ytlkijnnoalfblaa.XFb Go.Proofs.YtlkijnnoalfblaaW.PrintWords Go.Proofs.YtlkijnnoalfblaaW.PrintLast Go.Proofs.YtlkijnnoalfblaaW.PrintMore
set_option linter.unusedVariables false
set_option linter.unusedSimpArgs false

/-- From W to W' no block of W's has turned but those of S. -/
structure Kept (S : Nat → Prop) (W W' : World) : Prop where
  os : W'.os = W.os
  tape : W'.tape = W.tape
  output : W'.output = W.output
  size : W.heap.size ≤ W'.heap.size
  same : ∀ k, k < W.heap.size → ¬ S k → W'.heap[k]? = W.heap[k]?
theorem Kept.refl (S : Nat → Prop) (W : World) : Kept S W W := ⟨rfl, rfl, rfl, Nat.le_refl _, fun _ _ _ => rfl⟩
theorem Kept.of_below {S : Nat → Prop} {W W' : World} (h : Below W.heap.size W W') : Kept S W W' := ⟨h.os, h.tape, h.output, h.size, fun k hk _ => h.block k hk⟩
theorem Kept.of_grown {S : Nat → Prop} {W W' : World} {row : Option Nat} (h : W.grownBy W' row) (hr : ∀ k, row = some k → S k) : Kept S W W' := ⟨h.os, h.tape, h.output, h.size, fun k hk hs => h.block k hk (fun e => hs (hr k e.symm))⟩
theorem Kept.trans {S S1 : Nat → Prop} {W W1 W2 : World} (h : Kept S W W1) (h1 : Kept S1 W1 W2) (hs : ∀ k, S1 k → S k ∨ W.heap.size ≤ k) : Kept S W W2 :=
  ⟨h1.os.trans h.os, h1.tape.trans h.tape, h1.output.trans h.output, Nat.le_trans h.size h1.size, fun k hk hn => (h1.same k (Nat.lt_of_lt_of_le hk h.size) (fun e => by rcases hs k e with h | h; exact hn h; omega)).trans (h.same k hk hn)⟩
theorem Kept.mono {S S1 : Nat → Prop} {W W1 : World} (h : Kept S W W1) (hs : ∀ k, k < W.heap.size → S k → S1 k) : Kept S1 W W1 := ⟨h.os, h.tape, h.output, h.size, fun k hk hn => h.same k hk (fun e => hn (hs k hk e))⟩
theorem Kept.below {S : Nat → Prop} {W W' : World} {n : Nat} (h : Kept S W W') (hs : ∀ k, S k → n ≤ k) (hn : n ≤ W.heap.size) : Below n W W' := ⟨h.os, h.tape, h.output, h.size, fun k hk => h.same k (by omega) (fun e => by have := hs k e; omega)⟩
theorem Kept.R {α : Type} {d : Kd α} {e base : Nat} {ok S : Nat → Prop} {W W' : World} {v : Value} {xs : List α} (h : Kd.R d e W base ok v xs) (hk : Kept S W W') (hn : ∀ k, ok k → ¬ S k) : Kd.R d e W' base ok v xs := Kd.R_step h (fun k ho hlt => hk.same k hlt (hn k ho))

/-- What a disk has: blocks, a queue, its last number. -/
structure Fits (bl : List (List Int)) (q : List S49) (last : Int) : Prop where
  some : 1 ≤ bl.length
  most : bl.length ≤ 2048
  each : ∀ x ∈ bl, x.length = 128
  queue : q.length ≤ 64
  sent : ∀ s ∈ q, s.f2.length = 128
  in_ : ∀ s ∈ q, 0 ≤ s.f1 ∧ s.f1 < bl.length
  low : 0 ≤ last
  high : last < 1000000000000000000
/-- The disk in block D of W; m: its map of reads that fail; all that it is made of lies in blocks of S. -/
structure IsDk (W : World) (base D m : Nat) (S : Nat → Prop) (bl : List (List Int)) (q : List S49) (mo : Obj) (last : Int) : Prop where
  fits : Fits bl q last
  cells : ∃ vB vQ, W.heap[D]? = some (.cells #[vB, vQ, .map (some m), .int .i64 last] 70 (0, 0)) ∧ Kd.R (Kd.slice 5 (Kd.int .u8)) 47 W base S vB bl ∧ Kd.R k49 49 W base S vQ q
  map : W.heap[m]? = some mo
  isMap : ∃ es c, mo = .map es c
  inD : S D
  inM : S m
  low : ∀ k, S k → base ≤ k ∧ k < W.heap.size
theorem IsDk.kept {W W' : World} {base D m : Nat} {S S2 : Nat → Prop} {bl : List (List Int)} {q : List S49} {mo : Obj} {last : Int} (h : IsDk W base D m S bl q mo last) (hk : Kept S2 W W') (hn : ∀ k, S k → ¬ S2 k) : IsDk W' base D m S bl q mo last := by
  obtain ⟨h1, ⟨vB, vQ, hD, hB, hQ⟩, hm, hmm, h2, h3, h4⟩ := h
  exact ⟨h1, ⟨vB, vQ, (hk.same D (h4 D h2).2 (hn D h2)).trans hD, Kept.R hB hk hn, Kept.R hQ hk hn⟩, (hk.same m (h4 m h3).2 (hn m h3)).trans hm, hmm, h2, h3, fun k hs => ⟨(h4 k hs).1, Nat.lt_of_lt_of_le (h4 k hs).2 hk.size⟩⟩
theorem IsDk.below {W W' : World} {base D m : Nat} {S : Nat → Prop} {bl : List (List Int)} {q : List S49} {mo : Obj} {last : Int} (h : IsDk W base D m S bl q mo last) (hb : Below W.heap.size W W') : IsDk W' base D m S bl q mo last :=
  h.kept (S2 := fun _ => False) (Kept.of_below hb) (fun _ _ h => h)

theorem rd32_get (l : List S49) (i : Nat) (h : i < l.length) : rd_T49 l (i : Int) = l[i] := by simp [rd_T49, List.getD_eq_getElem?_getD, h]
theorem image_l0 (xs : List (List Int)) (hx : ∀ x ∈ xs, x.length ≤ 1000000) (hl : xs.length ≤ 1000000) (d : Nat) : ∀ (i K : Nat), i + d = xs.length → d < K → disk_image.l0 K (xs.take i) xs (xs.length : Int) (i : Int) = some xs := by
  induction d with
  | zero =>
    intro i K hi hK
    cases K with
    | zero => omega
    | succ K =>
      unfold disk_image.l0
      rw [if_neg (by omega), List.take_of_length_le (by omega)]
  | succ d ih =>
    intro i K hi hK
    cases K with
    | zero => omega
    | succ K =>
      have w3 : wrap64 ((i : Int) + 1) = ((i + 1 : Nat) : Int) := by unfold wrap64; omega
      have hil : i < xs.length := by omega
      have hm := hx xs[i] (List.getElem_mem _)
      have e : rd_L1 xs (i : Int) = xs[i] := by simp [rd_L1, List.getD_eq_getElem?_getD, hil]
      have hc : bytes_Clone.f xs[i] = some xs[i] := by unfold bytes_Clone.f; rw [if_pos (by omega)]
      have ht : xs.take i ++ [xs[i]] = xs.take (i + 1) := by rw [List.take_add_one, List.getElem?_eq_getElem hil]; rfl
      unfold disk_image.l0
      simp only [e, hc, w3, Option.bind_some, ht, ih (i + 1) K (by omega) (by omega), List.length_take]
      rw [if_pos (by omega), if_pos (by omega), if_pos (by omega)]
      try rw [if_pos (by omega)]
theorem image_f (xs : List (List Int)) (hx : ∀ x ∈ xs, x.length ≤ 1000000) (hl : xs.length ≤ 1000000) (k : Nat) (hk : xs.length < k) : disk_image.f k xs = some xs := by
  unfold disk_image.f
  exact image_l0 xs hx hl xs.length 0 k (by omega) hk
theorem sent_l0 (xs : List S49) (hx : ∀ x ∈ xs, x.f2.length ≤ 1000000) (hl : xs.length ≤ 1000000) (d : Nat) : ∀ (i K : Nat), i + d = xs.length → d < K → disk_sent.l0 K (xs.take i) xs (xs.length : Int) (i : Int) = some xs := by
  induction d with
  | zero =>
    intro i K hi hK
    cases K with
    | zero => omega
    | succ K =>
      unfold disk_sent.l0
      rw [if_neg (by omega), List.take_of_length_le (by omega)]
  | succ d ih =>
    intro i K hi hK
    cases K with
    | zero => omega
    | succ K =>
      have w3 : wrap64 ((i : Int) + 1) = ((i + 1 : Nat) : Int) := by unfold wrap64; omega
      have hil : i < xs.length := by omega
      have hm := hx xs[i] (List.getElem_mem _)
      have hc : bytes_Clone.f xs[i].f2 = some xs[i].f2 := by unfold bytes_Clone.f; rw [if_pos (by omega)]
      have ht : xs.take i ++ [xs[i]] = xs.take (i + 1) := by rw [List.take_add_one, List.getElem?_eq_getElem hil]; rfl
      have ht2 : xs.take i ++ [(⟨xs[i].f0, xs[i].f1, xs[i].f2⟩ : S49)] = xs.take (i + 1) := ht
      unfold disk_sent.l0
      simp only [rd32_get xs i hil, hc, w3, Option.bind_some, ht2, ih (i + 1) K (by omega) (by omega), List.length_take]
      rw [if_pos (by omega), if_pos (by omega), if_pos (by omega)]
      try rw [if_pos (by omega)]
theorem sent_f (xs : List S49) (hx : ∀ x ∈ xs, x.f2.length ≤ 1000000) (hl : xs.length ≤ 1000000) (k : Nat) (hk : xs.length < k) : disk_sent.f k xs = some xs := by
  unfold disk_sent.f
  exact sent_l0 xs hx hl xs.length 0 k (by omega) hk

section
variable {W : World} {base D m : Nat} {S : Nat → Prop} {bl : List (List Int)} {q : List S49} {mo : Obj} {last : Int}
set_option maxRecDepth 100000 in
set_option maxHeartbeats 4000000 in
theorem blocks_ok (h : IsDk W base D m S bl q mo last) :
    Calls Try.prog 24 #[.pointer (some ⟨D, 0, none⟩)] W fun e w' => e = .returned (.int .i64 (bl.length : Int)) ∧ w' = W := by
  obtain ⟨hf, ⟨vB, vQ, hD, hB, hQ⟩, hm, _, _, _, hlow⟩ := h
  obtain ⟨AB, cB, rfl⟩ := Kd.R_slice hB
  obtain ⟨AQ, cQ, rfl⟩ := Kd.R_slice hQ
  have c0 : W.cell? ⟨D, 0, none⟩ = some (.slice AB bl.length cB) := by simp [World.cell?, hD]
  have c1 : W.cell? ⟨D, 1, none⟩ = some (.slice AQ q.length cQ) := by simp [World.cell?, hD]
  have HB := Aside0.mk hB
  have HQ := Aside0.mk hQ
  clear hB hQ
  refine (callsIn_wide (n := 1)).1 ?_
  refine callsIn_of_wp Try.func24 rfl trivial ?_ rfl
  simp only [Try.ntmps24, List.size_toArray, List.length_cons, List.length_nil, Nat.reduceAdd, Nat.reduceSub, Array.replicate_succ, Array.replicate_zero, List.push_toArray, List.append_toArray, List.nil_append, List.cons_append]
  gi_wp2
  go_ret
  exact ⟨rfl, rfl⟩
set_option maxRecDepth 100000 in
set_option maxHeartbeats 4000000 in
theorem made_ok (h : IsDk W base D m S bl q mo last) :
    Calls Try.prog 34 #[.pointer (some ⟨D, 0, none⟩)] W fun e w' => e = .returned (.bool true) ∧ w' = W := by
  obtain ⟨hf, ⟨vB, vQ, hD, hB, hQ⟩, hm, _, _, _, hlow⟩ := h
  obtain ⟨AB, cB, rfl⟩ := Kd.R_slice hB
  obtain ⟨AQ, cQ, rfl⟩ := Kd.R_slice hQ
  have c0 : W.cell? ⟨D, 0, none⟩ = some (.slice AB bl.length cB) := by simp [World.cell?, hD]
  have c1 : W.cell? ⟨D, 1, none⟩ = some (.slice AQ q.length cQ) := by simp [World.cell?, hD]
  have HB := Aside0.mk hB
  have HQ := Aside0.mk hQ
  clear hB hQ
  refine (callsIn_wide (n := 1)).1 ?_
  refine callsIn_of_wp Try.func34 rfl trivial ?_ rfl
  simp only [Try.ntmps34, List.size_toArray, List.length_cons, List.length_nil, Nat.reduceAdd, Nat.reduceSub, Array.replicate_succ, Array.replicate_zero, List.push_toArray, List.append_toArray, List.nil_append, List.cons_append]
  have t1 : decide ((0 : Int) < (bl.length : Int)) = true := decide_eq_true (by have := hf.some; omega)
  have t0 : decide (0 < bl.length) = true := decide_eq_true hf.some
  gi_wp2
  go_ret
  exact ⟨rfl, rfl⟩
set_option maxRecDepth 100000 in
set_option maxHeartbeats 4000000 in
theorem image_ok (h : IsDk W base D m S bl q mo last) :
    Calls Try.prog 16 #[.pointer (some ⟨D, 0, none⟩)] W fun e w' => ∃ v, e = .returned v ∧ Kd.S (Kd.slice 5 (Kd.int .u8)) 47 w' W.heap.size (fun _ => True) v bl ∧ Below W.heap.size W w' := by
  obtain ⟨hf, ⟨vB, vQ, hD, hB, hQ⟩, hm, _, _, _, hlow⟩ := h
  obtain ⟨AB, cB, rfl⟩ := Kd.R_slice hB
  obtain ⟨AQ, cQ, rfl⟩ := Kd.R_slice hQ
  have c0 : W.cell? ⟨D, 0, none⟩ = some (.slice AB bl.length cB) := by simp [World.cell?, hD]
  have c1 : W.cell? ⟨D, 1, none⟩ = some (.slice AQ q.length cQ) := by simp [World.cell?, hD]
  have HB := Aside0.mk hB
  have HQ := Aside0.mk hQ
  clear hB hQ
  refine (callsIn_wide (n := 1)).1 ?_
  refine callsIn_of_wp Try.func16 rfl trivial ?_ rfl
  simp only [Try.ntmps16, List.size_toArray, List.length_cons, List.length_nil, Nat.reduceAdd, Nat.reduceSub, Array.replicate_succ, Array.replicate_zero, List.push_toArray, List.append_toArray, List.nil_append, List.cons_append]
  have HF := Aside0.mk (image_f bl (fun x hx => by have := hf.each x hx; omega) (by have := hf.most; omega) (bl.length + 1) (Nat.lt_succ_self _))
  gi_wp2_with (refine ⟨trivial, ?_⟩; gi_at_call 35; refine (callsIn_wide.2 (disk_image.calls (bl.length + 1) AB cB bl bl _ (Kd.R_reads' HB.out).2.2 (Kd.R_reads' HB.out).2.1 HF.out)).mono ?_; rintro e w1 ⟨v1, rfl, hs, hb⟩; have HS := Aside0.mk hs; have HW := Aside0.mk hb; clear hs hb)
  go_ret
  exact ⟨_, rfl, HS.out, HW.out⟩
set_option maxRecDepth 100000 in
set_option maxHeartbeats 4000000 in
theorem queue_ok (h : IsDk W base D m S bl q mo last) :
    Calls Try.prog 7 #[.pointer (some ⟨D, 0, none⟩)] W fun e w' => ∃ v, e = .returned v ∧ Kd.S k49 49 w' W.heap.size (fun _ => True) v q ∧ Below W.heap.size W w' := by
  obtain ⟨hf, ⟨vB, vQ, hD, hB, hQ⟩, hm, _, _, _, hlow⟩ := h
  obtain ⟨AB, cB, rfl⟩ := Kd.R_slice hB
  obtain ⟨AQ, cQ, rfl⟩ := Kd.R_slice hQ
  have c0 : W.cell? ⟨D, 0, none⟩ = some (.slice AB bl.length cB) := by simp [World.cell?, hD]
  have c1 : W.cell? ⟨D, 1, none⟩ = some (.slice AQ q.length cQ) := by simp [World.cell?, hD]
  have HB := Aside0.mk hB
  have HQ := Aside0.mk hQ
  clear hB hQ
  refine (callsIn_wide (n := 1)).1 ?_
  refine callsIn_of_wp Try.func7 rfl trivial ?_ rfl
  simp only [Try.ntmps7, List.size_toArray, List.length_cons, List.length_nil, Nat.reduceAdd, Nat.reduceSub, Array.replicate_succ, Array.replicate_zero, List.push_toArray, List.append_toArray, List.nil_append, List.cons_append]
  have HF := Aside0.mk (sent_f q (fun x hx => by have := hf.sent x hx; omega) (by have := hf.queue; omega) (q.length + 1) (Nat.lt_succ_self _))
  gi_wp2_with (refine ⟨trivial, ?_⟩; gi_at_call 29; refine (callsIn_wide.2 (disk_sent.calls (q.length + 1) AQ cQ q q _ (Kd.R_reads' HQ.out).2.2 (Kd.R_reads' HQ.out).2.1 HF.out)).mono ?_; rintro e w1 ⟨v1, rfl, hs, hb⟩; have HS := Aside0.mk hs; have HW := Aside0.mk hb; clear hs hb)
  go_ret
  exact ⟨_, rfl, HS.out, HW.out⟩
set_option maxRecDepth 100000 in
set_option maxHeartbeats 4000000 in
theorem look_ok (h : IsDk W base D m S bl q mo last) (b : Int) :
    Calls Try.prog 45 #[.pointer (some ⟨D, 0, none⟩), .int .i64 b] W fun e w' => e = .returned (.int .i64 (if 0 ≤ b ∧ b < bl.length then 0 else 1)) ∧ w' = W := by
  have H := Aside0.mk h
  obtain ⟨hf, ⟨vB, vQ, hD, hB, hQ⟩, hm, _, _, _, hlow⟩ := h
  obtain ⟨AB, cB, rfl⟩ := Kd.R_slice hB
  have c0 : W.cell? ⟨D, 0, none⟩ = some (.slice AB bl.length cB) := by simp [World.cell?, hD]
  clear hB hQ
  refine (callsIn_wide (n := 1)).1 ?_
  refine callsIn_of_wp Try.func45 rfl trivial ?_ rfl
  simp only [Try.ntmps45, List.size_toArray, List.length_cons, List.length_nil, Nat.reduceAdd, Nat.reduceSub, Array.replicate_succ, Array.replicate_zero, List.push_toArray, List.append_toArray, List.nil_append, List.cons_append]
  have ARM := fun (_ : Unit) => made_ok H.out
  by_cases h0 : 0 ≤ b
  · have t1 : decide (b < 0) = false := decide_eq_false (by omega)
    by_cases h1 : b < bl.length
    · have t2 : decide ((bl.length : Int) ≤ b) = false := decide_eq_false (by omega)
      rw [if_pos ⟨h0, h1⟩]
      gi_wp2_with (refine ⟨trivial, ?_⟩; gi_at_call 34; refine (callsIn_wide.2 (made_ok H.out)).mono ?_; rintro e w1 ⟨rfl, hw⟩; rw [hw]; clear hw)
      go_ret
      exact ⟨rfl, rfl⟩
    · have t2 : decide ((bl.length : Int) ≤ b) = true := decide_eq_true (by omega)
      rw [if_neg (fun h => h1 h.2)]
      gi_wp2_with (refine ⟨trivial, ?_⟩; gi_at_call 34; refine (callsIn_wide.2 (made_ok H.out)).mono ?_; rintro e w1 ⟨rfl, hw⟩; rw [hw]; clear hw)
      go_ret
      exact ⟨rfl, rfl⟩
  · have t1 : decide (b < 0) = true := decide_eq_true (by omega)
    rw [if_neg (fun h => h0 h.1)]
    gi_wp2_with (refine ⟨trivial, ?_⟩; gi_at_call 34; refine (callsIn_wide.2 (made_ok H.out)).mono ?_; rintro e w1 ⟨rfl, hw⟩; rw [hw]; clear hw)
    go_ret
    exact ⟨rfl, rfl⟩
end
/-- The first place where p holds, from i on; -1: none. -/
def ixL (p : S49 → Bool) : List S49 → Int → Int
  | [], _ => -1
  | x :: r, i => if p x = true then i else ixL p r (i + 1)
set_option maxRecDepth 100000 in
set_option maxHeartbeats 4000000 in
theorem clId (b : Nat) (a : Int) (x : S49) (A : Option Addr) (c : Nat) (W : World) (hb : W.cell? ⟨b, 0, none⟩ = some (.int .i64 a)) :
    Calls Try.prog 53 #[.agg #[.int .i64 x.f0, .int .i64 x.f1, .slice A x.f2.length c], .pointer (some ⟨b, 0, none⟩)] W fun e w' => e = .returned (.bool (x.f0 == a)) ∧ Below W.heap.size W w' := by
  refine (callsIn_wide (n := 1)).1 ?_
  refine callsIn_of_wp Try.func53 rfl trivial ?_ rfl
  simp only [Try.ntmps53, List.size_toArray, List.length_cons, List.length_nil, Nat.reduceAdd, Nat.reduceSub, Array.replicate_succ, Array.replicate_zero, List.push_toArray, List.append_toArray, List.nil_append, List.cons_append]
  have hb1 := (World.grownBy_alloc W (.cells #[.int .i64 x.f0, .int .i64 x.f1, .slice A x.f2.length c] 49) none).cell hb (by simp)
  gi_wp2
  go_ret
  exact ⟨rfl, below_alloc (Below.refl _ _) _⟩
set_option maxRecDepth 100000 in
set_option maxHeartbeats 4000000 in
theorem indexId (b : Nat) (a : Int) (A : Option Addr) (c : Nat) (xs : List S49) (w : World) (hC : Kd.C k49 w A xs.length xs) (hlen : xs.length ≤ 1000000) (hb : w.cell? ⟨b, 0, none⟩ = some (.int .i64 a)) :
    Calls Try.prog 52 #[.slice A xs.length c, .func (.func 53) #[] #[.pointer (some ⟨b, 0, none⟩)]] w fun e w' => e = .returned (.int .i64 (ixL (fun x : S49 => x.f0 == a) xs 0)) ∧ Below w.heap.size w w' := by
  have HC := Aside0.mk hC
  have HK := fun (W : World) (hB : Below w.heap.size w W) => (hB.cell (p := ⟨b, 0, none⟩) (World.block_lt_of_cell? w _ hb)).trans hb
  clear hC
  refine (callsIn_wide (n := 1)).1 ?_
  refine callsIn_of_wp Try.func52 rfl trivial ?_ rfl
  simp only [Try.ntmps52, List.size_toArray, List.length_cons, List.length_nil, Nat.reduceAdd, Nat.reduceSub, Array.replicate_succ, Array.replicate_zero, List.push_toArray, List.append_toArray, List.nil_append, List.cons_append]
  gi_wp2
  gi_loopw [8] (fun v8 w' => ∃ i : Nat, v8 = .int .i64 (i : Int) ∧ i ≤ xs.length ∧ ixL (fun x : S49 => x.f0 == a) xs 0 = ixL (fun x : S49 => x.f0 == a) (xs.drop i) i ∧ Aside0 (Below w.heap.size w w')) (fun v8 _ => xs.length - (intOf v8).toNat)
  case atStart => exact ⟨0, rfl, Nat.zero_le _, rfl, ⟨Below.refl _ _⟩⟩
  case round =>
    obtain ⟨i, rfl, hi, hall, HB⟩ := hrel
    by_cases hlt : i < xs.length
    · have t1 : decide ((i : Int) < (xs.length : Int)) = true := decide_eq_true (by omega)
      obtain ⟨ad, A2, c2, rfl, hcell, hcell1, hcell2, l2, g2⟩ := at_T49 (Kd.C_below HC.out HB.out) (i : Int) (by omega) (by omega)
      simp only [Int.toNat_natCast] at hcell hcell1 hcell2
      have hd : xs.drop i = rd_T49 xs i :: xs.drop (i + 1) := by
        rw [List.drop_eq_getElem_cons hlt]; simp [rd_T49, List.getD_eq_getElem?_getD, hlt]
      rw [hd] at hall
      generalize rd_T49 xs i = x at *
      clear g2 hd
      rw [show ixL (fun x : S49 => x.f0 == a) (x :: xs.drop (i + 1)) (i : Int) = if (x.f0 == a) = true then (i : Int) else ixL (fun x : S49 => x.f0 == a) (xs.drop (i + 1)) ((i : Int) + 1) from rfl] at hall
      have HL := Aside0.mk hall
      clear hall
      have hcl := fun (W : World) (hb : Below w.heap.size w W) => clId b a x A2 c2 W (HK W hb)
      cases hn : (x.f0 == a) with
      | true =>
        have HL' := HL.out
        rw [if_pos hn] at HL'
        have HL2 := Aside0.mk HL'
        clear HL'
        gi_wp2_with (refine ⟨trivial, ?_⟩; gi_at_call 53; refine (callsIn_wide.2 (hcl _ HB.out)).mono ?_; rw [hn]; rintro e w' ⟨rfl, hb⟩)
        go_ret
        have h1 := HL2.out
        exact ⟨by rw [h1]; rfl, below_step HB.out hb⟩
      | false =>
        have HL' := HL.out
        rw [if_neg (by rw [hn]; simp)] at HL'
        have HL2 := Aside0.mk HL'
        clear HL'
        gi_wp2_with (refine ⟨trivial, ?_⟩; gi_at_call 53; refine (callsIn_wide.2 (hcl _ HB.out)).mono ?_; rw [hn]; rintro e w' ⟨rfl, hb⟩)
        refine ⟨⟨i + 1, by simp, hlt, HL2.out.trans (congrArg (ixL (fun x : S49 => x.f0 == a) _) (by omega)), ⟨below_step HB.out hb⟩⟩, by simp [intOf]; omega⟩
    · obtain rfl : i = xs.length := by omega
      have t1 : decide ((xs.length : Int) < (xs.length : Int)) = false := decide_eq_false (by omega)
      rw [List.drop_length] at hall
      have HL := Aside0.mk hall
      clear hall
      gi_wp2
      go_ret
      exact ⟨by rw [HL.out]; rfl, HB.out⟩
set_option maxRecDepth 100000 in
set_option maxHeartbeats 4000000 in
theorem clBl (b : Nat) (a : Int) (x : S49) (A : Option Addr) (c : Nat) (W : World) (hb : W.cell? ⟨b, 0, none⟩ = some (.int .i64 a)) :
    Calls Try.prog 47 #[.agg #[.int .i64 x.f0, .int .i64 x.f1, .slice A x.f2.length c], .pointer (some ⟨b, 0, none⟩)] W fun e w' => e = .returned (.bool (x.f1 == a)) ∧ Below W.heap.size W w' := by
  refine (callsIn_wide (n := 1)).1 ?_
  refine callsIn_of_wp Try.func47 rfl trivial ?_ rfl
  simp only [Try.ntmps47, List.size_toArray, List.length_cons, List.length_nil, Nat.reduceAdd, Nat.reduceSub, Array.replicate_succ, Array.replicate_zero, List.push_toArray, List.append_toArray, List.nil_append, List.cons_append]
  have hb1 := (World.grownBy_alloc W (.cells #[.int .i64 x.f0, .int .i64 x.f1, .slice A x.f2.length c] 49) none).cell hb (by simp)
  gi_wp2
  go_ret
  exact ⟨rfl, below_alloc (Below.refl _ _) _⟩
set_option maxRecDepth 100000 in
set_option maxHeartbeats 4000000 in
theorem indexBl (b : Nat) (a : Int) (A : Option Addr) (c : Nat) (xs : List S49) (w : World) (hC : Kd.C k49 w A xs.length xs) (hlen : xs.length ≤ 1000000) (hb : w.cell? ⟨b, 0, none⟩ = some (.int .i64 a)) :
    Calls Try.prog 52 #[.slice A xs.length c, .func (.func 47) #[] #[.pointer (some ⟨b, 0, none⟩)]] w fun e w' => e = .returned (.int .i64 (ixL (fun x : S49 => x.f1 == a) xs 0)) ∧ Below w.heap.size w w' := by
  have HC := Aside0.mk hC
  have HK := fun (W : World) (hB : Below w.heap.size w W) => (hB.cell (p := ⟨b, 0, none⟩) (World.block_lt_of_cell? w _ hb)).trans hb
  clear hC
  refine (callsIn_wide (n := 1)).1 ?_
  refine callsIn_of_wp Try.func52 rfl trivial ?_ rfl
  simp only [Try.ntmps52, List.size_toArray, List.length_cons, List.length_nil, Nat.reduceAdd, Nat.reduceSub, Array.replicate_succ, Array.replicate_zero, List.push_toArray, List.append_toArray, List.nil_append, List.cons_append]
  gi_wp2
  gi_loopw [8] (fun v8 w' => ∃ i : Nat, v8 = .int .i64 (i : Int) ∧ i ≤ xs.length ∧ ixL (fun x : S49 => x.f1 == a) xs 0 = ixL (fun x : S49 => x.f1 == a) (xs.drop i) i ∧ Aside0 (Below w.heap.size w w')) (fun v8 _ => xs.length - (intOf v8).toNat)
  case atStart => exact ⟨0, rfl, Nat.zero_le _, rfl, ⟨Below.refl _ _⟩⟩
  case round =>
    obtain ⟨i, rfl, hi, hall, HB⟩ := hrel
    by_cases hlt : i < xs.length
    · have t1 : decide ((i : Int) < (xs.length : Int)) = true := decide_eq_true (by omega)
      obtain ⟨ad, A2, c2, rfl, hcell, hcell1, hcell2, l2, g2⟩ := at_T49 (Kd.C_below HC.out HB.out) (i : Int) (by omega) (by omega)
      simp only [Int.toNat_natCast] at hcell hcell1 hcell2
      have hd : xs.drop i = rd_T49 xs i :: xs.drop (i + 1) := by
        rw [List.drop_eq_getElem_cons hlt]; simp [rd_T49, List.getD_eq_getElem?_getD, hlt]
      rw [hd] at hall
      generalize rd_T49 xs i = x at *
      clear g2 hd
      rw [show ixL (fun x : S49 => x.f1 == a) (x :: xs.drop (i + 1)) (i : Int) = if (x.f1 == a) = true then (i : Int) else ixL (fun x : S49 => x.f1 == a) (xs.drop (i + 1)) ((i : Int) + 1) from rfl] at hall
      have HL := Aside0.mk hall
      clear hall
      have hcl := fun (W : World) (hb : Below w.heap.size w W) => clBl b a x A2 c2 W (HK W hb)
      cases hn : (x.f1 == a) with
      | true =>
        have HL' := HL.out
        rw [if_pos hn] at HL'
        have HL2 := Aside0.mk HL'
        clear HL'
        gi_wp2_with (refine ⟨trivial, ?_⟩; gi_at_call 47; refine (callsIn_wide.2 (hcl _ HB.out)).mono ?_; rw [hn]; rintro e w' ⟨rfl, hb⟩)
        go_ret
        have h1 := HL2.out
        exact ⟨by rw [h1]; rfl, below_step HB.out hb⟩
      | false =>
        have HL' := HL.out
        rw [if_neg (by rw [hn]; simp)] at HL'
        have HL2 := Aside0.mk HL'
        clear HL'
        gi_wp2_with (refine ⟨trivial, ?_⟩; gi_at_call 47; refine (callsIn_wide.2 (hcl _ HB.out)).mono ?_; rw [hn]; rintro e w' ⟨rfl, hb⟩)
        refine ⟨⟨i + 1, by simp, hlt, HL2.out.trans (congrArg (ixL (fun x : S49 => x.f1 == a) _) (by omega)), ⟨below_step HB.out hb⟩⟩, by simp [intOf]; omega⟩
    · obtain rfl : i = xs.length := by omega
      have t1 : decide ((xs.length : Int) < (xs.length : Int)) = false := decide_eq_false (by omega)
      rw [List.drop_length] at hall
      have HL := Aside0.mk hall
      clear hall
      gi_wp2
      go_ret
      exact ⟨by rw [HL.out]; rfl, HB.out⟩
set_option maxRecDepth 100000 in
set_option maxHeartbeats 4000000 in
theorem place_ok {W : World} {base D m : Nat} {S : Nat → Prop} {bl : List (List Int)} {q : List S49} {mo : Obj} {last : Int} (h : IsDk W base D m S bl q mo last) (id : Int) :
    Calls Try.prog 38 #[.pointer (some ⟨D, 0, none⟩), .int .i64 id] W fun e w' => e = .returned (.int .i64 (ixL (fun x : S49 => x.f0 == id) q 0)) ∧ Below W.heap.size W w' := by
  have H := Aside0.mk h
  have hD : D < W.heap.size := (h.low D h.inD).2
  obtain ⟨hf, ⟨vB, vQ, hDc, hB, hQ⟩, hm, _, _, _, hlow⟩ := h
  obtain ⟨AQ, cQ, rfl⟩ := Kd.R_slice hQ
  have c1 : (W.alloc (.cells #[.int .i64 id] 3)).cell? ⟨D, 1, none⟩ = some (.slice AQ q.length cQ) := by simp [World.cell?, heap_alloc_old _ _ _ hD, hDc]
  have HQ := Aside0.mk (Kd.R_alloc hQ (.cells #[.int .i64 id] 3))
  have cb : (W.alloc (.cells #[.int .i64 id] 3)).cell? ⟨W.heap.size, 0, none⟩ = some (.int .i64 id) := by have h := World.alloc_heap_new W (.cells #[.int .i64 id] 3); simp only [World.cell?, h]; rfl
  have hq := hf.queue
  clear hB hQ
  refine (callsIn_wide (n := 1)).1 ?_
  refine callsIn_of_wp Try.func38 rfl trivial ?_ rfl
  simp only [Try.ntmps38, List.size_toArray, List.length_cons, List.length_nil, Nat.reduceAdd, Nat.reduceSub, Array.replicate_succ, Array.replicate_zero, List.push_toArray, List.append_toArray, List.nil_append, List.cons_append]
  gi_wp2_with (refine ⟨trivial, ?_⟩; gi_at_call 52; refine (callsIn_wide.2 (indexId W.heap.size id AQ cQ q _ (Kd.R_reads' HQ.out).2.2 (by omega) cb)).mono ?_; rintro e w1 ⟨rfl, hb⟩; have HW := Aside0.mk (below_step (below_alloc (Below.refl W.heap.size W) _) hb); clear hb)
  go_ret
  exact ⟨rfl, HW.out⟩
set_option maxRecDepth 100000 in
set_option maxHeartbeats 4000000 in
theorem containsBl (b : Nat) (a : Int) (A : Option Addr) (c : Nat) (xs : List S49) (w : World) (hC : Kd.C k49 w A xs.length xs) (hlen : xs.length ≤ 1000000) (hb : w.cell? ⟨b, 0, none⟩ = some (.int .i64 a)) :
    Calls Try.prog 46 #[.slice A xs.length c, .func (.func 47) #[] #[.pointer (some ⟨b, 0, none⟩)]] w fun e w' => e = .returned (.bool (decide (0 ≤ ixL (fun x : S49 => x.f1 == a) xs 0))) ∧ Below w.heap.size w w' := by
  have HC := Aside0.mk hC
  clear hC
  refine (callsIn_wide (n := 1)).1 ?_
  refine callsIn_of_wp Try.func46 rfl trivial ?_ rfl
  simp only [Try.ntmps46, List.size_toArray, List.length_cons, List.length_nil, Nat.reduceAdd, Nat.reduceSub, Array.replicate_succ, Array.replicate_zero, List.push_toArray, List.append_toArray, List.nil_append, List.cons_append]
  gi_wp2_with (refine ⟨trivial, ?_⟩; gi_at_call 52; refine (callsIn_wide.2 (indexBl b a A c xs _ HC.out hlen hb)).mono ?_; rintro e w1 ⟨rfl, hb⟩; have HW := Aside0.mk hb; clear hb)
  go_ret
  exact ⟨rfl, HW.out⟩
end Go.Proofs.Ytlkijnnoalfblaa.Dk

namespace Go.Proofs.Ytlkijnnoalfblaa.Dk
open Go Go.RowKit Go.Shelf Go.Proofs Go.Proofs.Ytlkijnnoalfblaa.Sp Go.Proofs.Ytlkijnnoalfblaa.XFb Go.Proofs.YtlkijnnoalfblaaW.PrintWords Go.Proofs.YtlkijnnoalfblaaW.PrintLast Go.Proofs.YtlkijnnoalfblaaW.PrintMore
set_option linter.unusedVariables false
set_option linter.unusedSimpArgs false
theorem clear_beyond (W : World) (base : Nat) (S : Nat → Prop) (g n c c3 : Nat) (q : List S49) (hO : Kd.R k49 49 W base S (.slice (some ⟨g, 0, none⟩) (n - 1) c) q) (hnc : n ≤ c) (h0 : 0 < n) :
    ∃ W2, (∀ ty, (Builtin.clear_ #[31] ty #[.slice (some ⟨g, (n - 1) * 3, none⟩) (n - (n - 1)) c3]).run Try.prog W = .ok (.tuple #[]) W2) ∧ Kd.R k49 49 W2 base S (.slice (some ⟨g, 0, none⟩) (n - 1) c) q ∧ W.grownBy W2 (some g) := by
  obtain ⟨hok, inner, hown, hr⟩ := hO
  obtain ⟨ho1, ho2⟩ := hown
  rcases ho2 with ⟨hv, _⟩ | ⟨g', cap', cur, hv, hb, hh, hnc', hcm, hcs, ht⟩
  · cases hv
  injection hv with ha hq hc
  injection ha with ha
  injection ha with hg
  subst hg; subst hc
  have hsz : (k49 : Kd S49).sz = 3 := rfl
  rw [hsz] at hcs ht ho1
  have hcl : cur.toList.length = c * 3 := by rw [Array.length_toList, hcs]
  obtain ⟨Z, hZ⟩ : ∃ Z : List Value, Z = [.int .i64 0, .int .i64 0, .slice none 0 0] := ⟨_, rfl⟩
  have hzl : Z.length = 3 := by rw [hZ]; rfl
  have hst := run_storeCells_at Try.prog g ((n - 1) * 3) 49 Z 0 cur W hh (by rw [hzl, hcs]; omega) (by rw [hZ]; intro v hv; simp at hv; rcases hv with rfl | rfl <;> rfl)
  rw [Nat.add_zero, hzl] at hst
  refine ⟨W.setRow g (cur.toList.take ((n - 1) * 3) ++ Z ++ cur.toList.drop ((n - 1) * 3 + 3)).toArray, fun ty => ?_, ?_, ?_⟩
  · rw [show n - (n - 1) = 0 + 1 by omega]
    have hzc : (Builtin.zeroCells (Value.agg #[.int .i64 0, .int .i64 0, .slice none 0 0]).cells (0 + 1)).toList = Z := by rw [hZ]; kernel_rfl
    have hu := run_underlying (P := Try.prog) (w := W) Try.underlying31
    have hz : (zeroValue 49).run Try.prog W = .ok (.agg #[.int .i64 0, .int .i64 0, .slice none 0 0]) W := by rfl
    simp only [Builtin.clear_, List.getElem?_toArray, List.getElem?_cons_zero, Sem.run_bind, hu, Result.andThen_ok, hz, hzc, hst, Sem.run_pure]
  · refine ⟨hok, inner, ⟨ho1, .inr ⟨g, c, _, by rw [hq], hb, setRow_heap W g cur _ 49 _ hh, hnc', hcm, ?_, ?_⟩⟩, ?_⟩
    · rw [hsz]; simp [hzl, hcl, hcs]; omega
    · rw [hsz, ← hq, List.toList_toArray, List.append_assoc, List.take_append_of_le_length (by rw [List.length_take, hcl]; omega), List.take_take, Nat.min_self]
      rw [← hq] at ht; exact ht
    · exact hr.imp_ (fun x cs hM => Kd.M_move _ (fun k hk => setRow_other W g k _ (fun e => hk.2 (by rw [e]; simp [Value.ownBlock]))) hM)
  · exact ⟨rfl, rfl, rfl, by simp [World.setRow], fun k _ hk => setRow_other W g k _ (fun e => hk (by rw [e]))⟩
set_option maxRecDepth 100000 in
set_option maxHeartbeats 4000000 in
theorem delete_ok (W : World) (base : Nat) (S : Nat → Prop) (g n c k : Nat) (q : List S49) (hO : Kd.R k49 49 W base S (.slice (some ⟨g, 0, none⟩) n c) q) (hk : k < n) (hn : n ≤ 64) (hbase : base ≤ W.heap.size) :
    Calls Try.prog 41 #[.slice (some ⟨g, 0, none⟩) n c, .int .i64 (k : Int), .int .i64 ((k + 1 : Nat) : Int)] W fun e W' => e = .returned (.slice (some ⟨g, 0, none⟩) (n - 1) c) ∧ Kd.R k49 49 W' base S (.slice (some ⟨g, 0, none⟩) (n - 1) c) (q.eraseIdx k) ∧ W.grownBy W' (some g) := by
  have hnc := (Kd.R_reads' hO).2.1
  have HO := Aside0.mk hO
  clear hO
  have t1 : ((k : Int) == ((k + 1 : Nat) : Int)) = false := by simp; omega
  have hkc : k ≤ c := by omega
  have f1 : 0 ≤ (k : Int) + 1 := by omega
  have f2 : (k : Int) + 1 ≤ (n : Int) := by omega
  have f3 : k + 1 ≤ n := hk
  refine (callsIn_wide (n := 1)).1 ?_
  refine callsIn_of_wp Try.func41 rfl trivial ?_ rfl
  simp only [Try.ntmps41, List.size_toArray, List.length_cons, List.length_nil, Nat.reduceAdd, Nat.reduceSub, Array.replicate_succ, Array.replicate_zero, List.push_toArray, List.append_toArray, List.nil_append, List.cons_append]
  gi_wp2
  refine wpIn_wide.2 ?_
  refine start_ (n := 8) (S := fun w' => True) (ds := []) #[false, false, false, false, false, false, false, false] (by kernel_rfl) rfl rfl trivial (fun hHeld => ?_)
  refine pure_ (i := 0) (N := some 20) (v := ?_) (a' := ?_) #[true, false, false, false, false, false, false, false] rfl rfl (by kernel_rfl) (fun _ _ _ h => h) (Or.inl ⟨by rfl, ?_⟩) ?_ ?_
  rotate_left
  · intro w'
    go_simp
    with_reducible rfl
  rotate_left
  · simp only [Act.put, List.setIfInBounds_toArray, List.set_cons_zero, List.set_cons_succ, i64_w, i32_w]
    rfl
  refine pure_ (i := 1) (N := some 21) (v := ?_) (a' := ?_) #[true, true, false, false, false, false, false, false] rfl rfl (by kernel_rfl) (fun _ _ _ h => h) (Or.inl ⟨by rfl, ?_⟩) ?_ ?_
  rotate_left
  · intro w'
    go_simp
    with_reducible rfl
  rotate_left
  · simp only [Act.put, List.setIfInBounds_toArray, List.set_cons_zero, List.set_cons_succ, i64_w, i32_w]
    rfl
  refine pure_ (i := 2) (N := some 22) (v := ?_) (a' := ?_) #[true, true, true, false, false, false, false, false] rfl rfl (by kernel_rfl) (fun _ _ _ h => h) (Or.inl ⟨by rfl, ?_⟩) ?_ ?_
  rotate_left
  · intro w'
    go_simp
    with_reducible rfl
  rotate_left
  · simp only [Act.put, List.setIfInBounds_toArray, List.set_cons_zero, List.set_cons_succ, i64_w, i32_w]
    rfl
  refine pure_ (i := 3) (N := some 23) (v := ?_) (a' := ?_) #[true, true, true, true, false, false, false, false] rfl rfl (by kernel_rfl) (fun _ _ _ h => h) (Or.inl ⟨by rfl, ?_⟩) ?_ ?_
  rotate_left
  · intro w'
    go_simp
    with_reducible rfl
  rotate_left
  · simp only [Act.put, List.setIfInBounds_toArray, List.set_cons_zero, List.set_cons_succ, i64_w, i32_w]
    rfl
  refine pure_ (i := 4) (N := some 24) (v := ?_) (a' := ?_) #[true, true, true, true, true, false, false, false] rfl rfl (by kernel_rfl) (fun _ _ _ h => h) (Or.inl ⟨by rfl, ?_⟩) ?_ ?_
  rotate_left
  · intro w'
    go_simp
    with_reducible rfl
  rotate_left
  · simp only [Act.put, List.setIfInBounds_toArray, List.set_cons_zero, List.set_cons_succ, i64_w, i32_w]
    rfl
  refine pure_ (i := 5) (N := some 25) (v := ?_) (a' := ?_) #[true, true, true, true, true, true, false, false] rfl rfl (by kernel_rfl) (fun _ _ _ h => h) (Or.inl ⟨by rfl, ?_⟩) ?_ ?_
  rotate_left
  · intro w'
    go_simp
    with_reducible rfl
  rotate_left
  · simp only [Act.put, List.setIfInBounds_toArray, List.set_cons_zero, List.set_cons_succ, i64_w, i32_w]
    rfl
  refine one_ (i := 6) (N := some 26) #[true, true, true, true, true, true, true, false] rfl rfl (by kernel_rfl) (by decide) (fun K hK => ?_)
  refine Kd.R_delete_step k49 (w0 := W) base (by rfl) (.tmp 22) (.tmp 25) 31 49 rfl Try.underlying31 (by kernel_rfl) (g := g) (n := n) (c := c) (k := k) (m := n - (k + 1)) (xs := q) (ok := S) rfl rfl ?hA ?hm (Kd.R_drew HO.out) hk (below_drew1 (Below.refl _ _)) hbase ?_
  case hA =>
    have e3 : (⟨g, 0, none⟩ : Addr).add ((k + 1) * (k49 : Kd S49).sz) = ⟨g, (k + 1) * 3, none⟩ := by
      show (⟨g, 0, none⟩ : Addr).add ((k + 1) * 3) = _
      unfold Addr.add
      rw [if_neg (by omega)]
      simp
    rw [Option.map_some, e3]
  case hm => rfl
  intro w1 hr1 hb1 hg1
  obtain ⟨w2, hclr, hr2, hg2⟩ := clear_beyond w1 base S g n c (c - (n - 1)) _ hr1 hnc (by omega)
  have HR2 := Aside0.mk hr2
  have HG2 := Aside0.mk hg2
  clear hr2 hg2
  have HR1 := Aside0.mk hr1
  have HG1 := Aside0.mk hg1
  clear hr1 hb1 hg1
  refine hK.out _ _ trivial (fun hHeld => ?_)
  clear hK K
  refine norm_ (a' := ?_) ?_ ?_
  rotate_left
  · show Act.put _ (some 26) _ = _
    simp only [Act.put, List.setIfInBounds_toArray, List.set_cons_zero, List.set_cons_succ, i64_w, i32_w]
    rfl
  refine pure_ (i := 7) (N := some 0) (v := ?_) (a' := ?_) #[true, true, true, true, true, true, true, true] rfl rfl (by kernel_rfl) (fun _ _ _ h => h) (Or.inl ⟨by rfl, ?_⟩) ?_ ?_
  rotate_left
  · intro w'
    go_simp
    with_reducible rfl
  rotate_left
  · simp only [Act.put, List.setIfInBounds_toArray, List.set_cons_zero, List.set_cons_succ, i64_w, i32_w]
    rfl
  refine done_ (by kernel_rfl) ?_

  generalize (if c = k + 1 then some (⟨g, 0, none⟩ : Addr) else some ⟨g, (k + 1) * 3, none⟩) = A25
  gi_wp2
  go_ret
  exact ⟨rfl, HR2.out, World.grownBy.trans (show W.grownBy w1 (some g) from ⟨HG1.out.os, HG1.out.tape, HG1.out.output, HG1.out.size, HG1.out.block⟩) HG2.out⟩
end Go.Proofs.Ytlkijnnoalfblaa.Dk

namespace Go.Proofs.Ytlkijnnoalfblaa.Dk
open Go Go.RowKit Go.Shelf Go.Proofs Go.Proofs.Ytlkijnnoalfblaa.Sp Go.Proofs.Ytlkijnnoalfblaa.XFb Go.Proofs.YtlkijnnoalfblaaW.PrintWords Go.Proofs.YtlkijnnoalfblaaW.PrintLast Go.Proofs.YtlkijnnoalfblaaW.PrintMore
set_option linter.unusedVariables false
set_option linter.unusedSimpArgs false
theorem addr0 (g j : Nat) : (⟨g, 0, none⟩ : Addr).add j = ⟨g, j, none⟩ := by unfold Addr.add; by_cases h : j = 0 <;> simp [h]
set_option maxRecDepth 100000 in
set_option maxHeartbeats 8000000 in
theorem complete_none {W : World} {base D m : Nat} {S : Nat → Prop} {bl : List (List Int)} {q : List S49} {mo : Obj} {last : Int} (h : IsDk W base D m S bl q mo last) (id : Int) (ok : Bool) (hix : ixL (fun x : S49 => x.f0 == id) q 0 < 0) :
    Calls Try.prog 17 #[.pointer (some ⟨D, 0, none⟩), .int .i64 id, .bool ok] W fun e W' => e = .returned (.int .i64 20) ∧ Below W.heap.size W W' := by
  have H := Aside0.mk h
  clear h
  have t1 : decide (ixL (fun x : S49 => x.f0 == id) q 0 < 0) = true := decide_eq_true hix
  refine (callsIn_wide (n := 1)).1 ?_
  refine callsIn_of_wp Try.func17 rfl trivial ?_ rfl
  simp only [Try.ntmps17, List.size_toArray, List.length_cons, List.length_nil, Nat.reduceAdd, Nat.reduceSub, Array.replicate_succ, Array.replicate_zero, List.push_toArray, List.append_toArray, List.nil_append, List.cons_append]
  gi_wp2_with (first
    | (refine ⟨trivial, ?_⟩; gi_at_call 34; refine (callsIn_wide.2 (made_ok H.out)).mono ?_; rintro e w0 ⟨rfl, hw⟩; rw [hw]; clear hw)
    | (refine ⟨trivial, ?_⟩; gi_at_call 38; refine (callsIn_wide.2 (place_ok H.out id)).mono ?_; rintro e w1 ⟨rfl, hb⟩; have HW1 := Aside0.mk hb; clear hb))
  go_ret
  exact ⟨rfl, HW1.out⟩
set_option maxRecDepth 100000 in
set_option maxHeartbeats 8000000 in
theorem complete_some {W : World} {base D m : Nat} {S : Nat → Prop} {bl : List (List Int)} {q : List S49} {mo : Obj} {last : Int} (h : IsDk W base D m S bl q mo last) (id : Int) (ok : Bool) (k : Nat) (hk : k < q.length) (hix : ixL (fun x : S49 => x.f0 == id) q 0 = (k : Int)) :
    Calls Try.prog 17 #[.pointer (some ⟨D, 0, none⟩), .int .i64 id, .bool ok] W fun e W' => e = .returned (.int .i64 (if ok then 0 else 4)) ∧ IsDk W' base D m S (if ok then bl.set q[k].f1.toNat q[k].f2 else bl) (q.eraseIdx k) mo last ∧ Kept S W W' := by
  have H := Aside0.mk h
  obtain ⟨hf, ⟨vB, vQ, hD, hB, hQ⟩, hm, hmm, hSD, hSm, hlow⟩ := h
  obtain ⟨gB, cB, rfl, hgB1, hgB2, csB, hgBc⟩ := Kd.R_form hB (by have := hf.some; omega)
  obtain ⟨gQ, cQ, rfl, hgQ1, hgQ2, csQ, hgQc⟩ := Kd.R_form hQ (by omega)
  have hDlt := (hlow D hSD).2
  have hq64 := hf.queue
  have hSB := hB.1 gB (by simp [Value.ownBlock])
  have hSQ := hQ.1 gQ (by simp [Value.ownBlock])
  have HB := Aside0.mk (Kd.R_types (Kd.R_types hB hD (by decide)) hgQc (by decide))
  have HQ := Aside0.mk (Kd.R_types hQ hD (by decide))
  have HC := Aside0.mk (Kd.R_reads' hQ).2.2
  obtain ⟨s, hsk⟩ : ∃ s, q[k] = s := ⟨_, rfl⟩
  have hin := hf.in_ q[k] (List.getElem_mem _)
  rw [hsk] at hin ⊢
  have t1 : decide ((k : Int) < 0) = false := decide_eq_false (by omega)
  have hDQ : D ≠ gQ := fun e => by rw [e, hgQc] at hD; simp at hD
  have hDB : D ≠ gB := fun e => by rw [e, hgBc] at hD; simp at hD
  have hmD : m ≠ D := fun e => by obtain ⟨es, c, rfl⟩ := hmm; rw [e, hD] at hm; simp at hm
  have hmQ : m ≠ gQ := fun e => by obtain ⟨es, c, rfl⟩ := hmm; rw [e, hgQc] at hm; simp at hm
  have hmB : m ≠ gB := fun e => by obtain ⟨es, c, rfl⟩ := hmm; rw [e, hgBc] at hm; simp at hm
  have hBQ : gB ≠ gQ := fun e => by rw [e, hgQc] at hgBc; simp at hgBc
  clear hB hQ
  refine (callsIn_wide (n := 1)).1 ?_
  refine callsIn_of_wp Try.func17 rfl trivial ?_ rfl
  simp only [Try.ntmps17, List.size_toArray, List.length_cons, List.length_nil, Nat.reduceAdd, Nat.reduceSub, Array.replicate_succ, Array.replicate_zero, List.push_toArray, List.append_toArray, List.nil_append, List.cons_append]
  cases ok with
  | false =>
    gi_wp2_with (first
    | (refine ⟨trivial, ?_⟩; gi_at_call 34; refine (callsIn_wide.2 (made_ok H.out)).mono ?_; rintro e w0 ⟨rfl, hw⟩; rw [hw]; clear hw)
    | (refine ⟨trivial, ?_⟩; gi_at_call 38; refine (callsIn_wide.2 (place_ok H.out id)).mono ?_; rintro e w1 ⟨rfl, hb⟩; rw [hix]; have HW1 := Aside0.mk hb; have HQ1 := Aside0.mk (Kd.R_below HQ.out hb); obtain ⟨cs, hcl, hM, hcell, _⟩ := Kd.R_elem HQ1.out z49 (k : Int) (by omega) (by omega); rw [Int.toNat_natCast, show q.getD k z49 = s by rw [← hsk]; simp [List.getD_eq_getElem?_getD, hk]] at hM; obtain ⟨v2, rfl, hv2⟩ := k49_openM hM; obtain ⟨A2, c2, rfl⟩ := Kd.R_slice hv2; have hc0 := hcell 0 _ rfl; have hc1 := hcell 1 _ rfl; have hc2 := hcell 2 _ rfl; rw [Int.toNat_natCast, show (k49 : Kd S49).sz = 3 from rfl, Nat.add_zero] at hc0; rw [Int.toNat_natCast, show (k49 : Kd S49).sz = 3 from rfl] at hc1 hc2; have HV := Aside0.mk hv2; clear hM hcell hcl hv2; have d0 := (hb.block D hDlt).trans hD; have e1 : w1.cell? ⟨D, 1, none⟩ = some (.slice (some ⟨gQ, 0, none⟩) q.length cQ) := (by simp [World.cell?, d0]); have HD1 := Aside0.mk (show (w1.alloc (.cells #[.int .i64 s.f0, .int .i64 s.f1, .slice A2 s.f2.length c2] 49)).heap[D]? = _ from (heap_alloc_old _ _ _ (by have := hb.size; omega)).trans d0); have e2 : (w1.alloc (.cells #[.int .i64 s.f0, .int .i64 s.f1, .slice A2 s.f2.length c2] 49)).cell? ⟨D, 1, none⟩ = some (.slice (some ⟨gQ, 0, none⟩) q.length cQ) := (by simp [World.cell?, HD1.out]); have HQ2 := Aside0.mk (Kd.R_alloc HQ1.out (.cells #[.int .i64 s.f0, .int .i64 s.f1, .slice A2 s.f2.length c2] 49)); have HV2 := Aside0.mk (Kd.R_alloc HV.out (.cells #[.int .i64 s.f0, .int .i64 s.f1, .slice A2 s.f2.length c2] 49)); clear hb d0 HQ1 HV)
    | (refine ⟨trivial, ?_⟩; gi_at_call 41; refine (callsIn_wide.2 (delete_ok _ base _ gQ q.length cQ k q HQ2.out hk hq64 (by have := HW1.out.size; have := (hlow D hSD).1; simp; omega))).mono ?_; rintro e w2 ⟨rfl, hr, hg⟩; have HR := Aside0.mk hr; have HG := Aside0.mk hg; have HD2 := Aside0.mk ((hg.block D (by have := HW1.out.size; simp; omega) (fun e => hDQ (Option.some.inj e))).trans HD1.out); have e3 : w2.cell? ⟨D, 1, none⟩ = some (.slice (some ⟨gQ, 0, none⟩) q.length cQ) := (by simp [World.cell?, HD2.out]); have f3 : w2.frozen? ⟨D, 1, none⟩ = false := (by simp [World.frozen?, HD2.out]); clear hr hg HQ2 HD1))
    have hkW : ∀ j, j < W.heap.size → j ≠ gQ → j ≠ D → (w2.setCell ⟨D, 1, none⟩ (.slice (some ⟨gQ, 0, none⟩) (q.length - 1) cQ)).heap[j]? = W.heap[j]? := fun j hj h1 h2 =>
      (Below.heap_setCell w2 ⟨D, 1, none⟩ _ j h2).trans ((HG.out.block j (by have := HW1.out.size; simp; omega) (fun e => h1 (Option.some.inj e))).trans ((heap_alloc_old _ _ _ (by have := HW1.out.size; omega)).trans (HW1.out.block j hj)))
    have hsz3 : W.heap.size ≤ (w2.setCell ⟨D, 1, none⟩ (.slice (some ⟨gQ, 0, none⟩) (q.length - 1) cQ)).heap.size := by have := HW1.out.size; have := HG.out.size; simp only [World.size_alloc] at this; simp [World.setCell]; omega
    have hD3 : (w2.setCell ⟨D, 1, none⟩ (.slice (some ⟨gQ, 0, none⟩) (q.length - 1) cQ)).heap[D]? = some (.cells #[.slice (some ⟨gB, 0, none⟩) bl.length cB, .slice (some ⟨gQ, 0, none⟩) (q.length - 1) cQ, .map (some m), .int .i64 last] 70 (0, 0)) := Go.Proofs.Ytlkijnnoalfblaa.Nb.set_heap HD2.out _
    have hB3 : Kd.R (Kd.slice 5 (Kd.int .u8)) 47 (w2.setCell ⟨D, 1, none⟩ (.slice (some ⟨gQ, 0, none⟩) (q.length - 1) cQ)) base (fun k => (S k ∧ k ≠ D) ∧ k ≠ gQ) (.slice (some ⟨gB, 0, none⟩) bl.length cB) bl := Kd.R_step HB.out (fun j hj hlt => hkW j hlt hj.2 hj.1.2)
    have hQ3 := Kd.R_far HR.out (p := ⟨D, 1, none⟩) (fun j hj => hj.2) (.slice (some ⟨gQ, 0, none⟩) (q.length - 1) cQ)
    have hV3 : Kd.R (Kd.int .u8) 5 (w2.setCell ⟨D, 1, none⟩ (.slice (some ⟨gQ, 0, none⟩) (q.length - 1) cQ)) base (fun k => (S k ∧ k ≠ D) ∧ k ≠ gQ) (.slice A2 s.f2.length c2) s.f2 :=
      Kd.R_step HV2.out (fun j hj hlt => (Below.heap_setCell w2 ⟨D, 1, none⟩ _ j hj.1.2).trans (HG.out.block j hlt (fun e => hj.2 (Option.some.inj e))))
    have hbox : (w2.setCell ⟨D, 1, none⟩ (.slice (some ⟨gQ, 0, none⟩) (q.length - 1) cQ)).heap[w1.heap.size]? = some (.cells #[.int .i64 s.f0, .int .i64 s.f1, .slice A2 s.f2.length c2] 49 (0, 0)) :=
      (Below.heap_setCell w2 ⟨D, 1, none⟩ _ _ (by have := HW1.out.size; simp; omega)).trans ((HG.out.block _ (by simp) (fun e => by have := Option.some.inj e; have := HW1.out.size; omega)).trans (World.alloc_heap_new _ _))
    have hfq : ∀ x ∈ q.eraseIdx k, x ∈ q := fun x hx => List.mem_of_mem_eraseIdx hx
    have hf3 : Fits bl (q.eraseIdx k) last := ⟨hf.some, hf.most, hf.each, by rw [List.length_eraseIdx]; split <;> omega, fun x hx => hf.sent x (hfq x hx), fun x hx => hf.in_ x (hfq x hx), hf.low, hf.high⟩
    have hK3 : Kept S W (w2.setCell ⟨D, 1, none⟩ (.slice (some ⟨gQ, 0, none⟩) (q.length - 1) cQ)) := ⟨HG.out.os.trans HW1.out.os, HG.out.tape.trans HW1.out.tape, HG.out.output.trans HW1.out.output, hsz3, fun j hj hn => hkW j hj (fun e => hn (e ▸ hSQ)) (fun e => hn (e ▸ hSD))⟩
    have hm3 := (hkW m (hlow m hSm).2 hmQ hmD).trans hm
    generalize w2.setCell ⟨D, 1, none⟩ (.slice (some ⟨gQ, 0, none⟩) (q.length - 1) cQ) = W3 at *
    go_ret
    exact ⟨rfl, ⟨hf3, ⟨_, _, hD3, Kd.R_mono hB3 (fun j hj => hj.1.1), Kd.R_mono hQ3 (fun j hj => hj.1)⟩, hm3, hmm, hSD, hSm, fun j hj => ⟨(hlow j hj).1, Nat.lt_of_lt_of_le (hlow j hj).2 hsz3⟩⟩, hK3⟩
  | true =>
    gi_wp2_with (first
    | (refine ⟨trivial, ?_⟩; gi_at_call 34; refine (callsIn_wide.2 (made_ok H.out)).mono ?_; rintro e w0 ⟨rfl, hw⟩; rw [hw]; clear hw)
    | (refine ⟨trivial, ?_⟩; gi_at_call 38; refine (callsIn_wide.2 (place_ok H.out id)).mono ?_; rintro e w1 ⟨rfl, hb⟩; rw [hix]; have HW1 := Aside0.mk hb; have HQ1 := Aside0.mk (Kd.R_below HQ.out hb); obtain ⟨cs, hcl, hM, hcell, _⟩ := Kd.R_elem HQ1.out z49 (k : Int) (by omega) (by omega); rw [Int.toNat_natCast, show q.getD k z49 = s by rw [← hsk]; simp [List.getD_eq_getElem?_getD, hk]] at hM; obtain ⟨v2, rfl, hv2⟩ := k49_openM hM; obtain ⟨A2, c2, rfl⟩ := Kd.R_slice hv2; have hc0 := hcell 0 _ rfl; have hc1 := hcell 1 _ rfl; have hc2 := hcell 2 _ rfl; rw [Int.toNat_natCast, show (k49 : Kd S49).sz = 3 from rfl, Nat.add_zero] at hc0; rw [Int.toNat_natCast, show (k49 : Kd S49).sz = 3 from rfl] at hc1 hc2; have HV := Aside0.mk hv2; clear hM hcell hcl hv2; have d0 := (hb.block D hDlt).trans hD; have e1 : w1.cell? ⟨D, 1, none⟩ = some (.slice (some ⟨gQ, 0, none⟩) q.length cQ) := (by simp [World.cell?, d0]); have HD1 := Aside0.mk (show (w1.alloc (.cells #[.int .i64 s.f0, .int .i64 s.f1, .slice A2 s.f2.length c2] 49)).heap[D]? = _ from (heap_alloc_old _ _ _ (by have := hb.size; omega)).trans d0); have e2 : (w1.alloc (.cells #[.int .i64 s.f0, .int .i64 s.f1, .slice A2 s.f2.length c2] 49)).cell? ⟨D, 1, none⟩ = some (.slice (some ⟨gQ, 0, none⟩) q.length cQ) := (by simp [World.cell?, HD1.out]); have HQ2 := Aside0.mk (Kd.R_alloc HQ1.out (.cells #[.int .i64 s.f0, .int .i64 s.f1, .slice A2 s.f2.length c2] 49)); have HV2 := Aside0.mk (Kd.R_alloc HV.out (.cells #[.int .i64 s.f0, .int .i64 s.f1, .slice A2 s.f2.length c2] 49)); clear hb d0 HQ1 HV)
    | (refine ⟨trivial, ?_⟩; gi_at_call 41; refine (callsIn_wide.2 (delete_ok _ base _ gQ q.length cQ k q HQ2.out hk hq64 (by have := HW1.out.size; have := (hlow D hSD).1; simp; omega))).mono ?_; rintro e w2 ⟨rfl, hr, hg⟩; have HR := Aside0.mk hr; have HG := Aside0.mk hg; have HD2 := Aside0.mk ((hg.block D (by have := HW1.out.size; simp; omega) (fun e => hDQ (Option.some.inj e))).trans HD1.out); have e3 : w2.cell? ⟨D, 1, none⟩ = some (.slice (some ⟨gQ, 0, none⟩) q.length cQ) := (by simp [World.cell?, HD2.out]); have f3 : w2.frozen? ⟨D, 1, none⟩ = false := (by simp [World.frozen?, HD2.out]); clear hr hg HQ2 HD1))
    have hkW : ∀ j, j < W.heap.size → j ≠ gQ → j ≠ D → (w2.setCell ⟨D, 1, none⟩ (.slice (some ⟨gQ, 0, none⟩) (q.length - 1) cQ)).heap[j]? = W.heap[j]? := fun j hj h1 h2 =>
      (Below.heap_setCell w2 ⟨D, 1, none⟩ _ j h2).trans ((HG.out.block j (by have := HW1.out.size; simp; omega) (fun e => h1 (Option.some.inj e))).trans ((heap_alloc_old _ _ _ (by have := HW1.out.size; omega)).trans (HW1.out.block j hj)))
    have hsz3 : W.heap.size ≤ (w2.setCell ⟨D, 1, none⟩ (.slice (some ⟨gQ, 0, none⟩) (q.length - 1) cQ)).heap.size := by have := HW1.out.size; have := HG.out.size; simp only [World.size_alloc] at this; simp [World.setCell]; omega
    have hD3 : (w2.setCell ⟨D, 1, none⟩ (.slice (some ⟨gQ, 0, none⟩) (q.length - 1) cQ)).heap[D]? = some (.cells #[.slice (some ⟨gB, 0, none⟩) bl.length cB, .slice (some ⟨gQ, 0, none⟩) (q.length - 1) cQ, .map (some m), .int .i64 last] 70 (0, 0)) := Go.Proofs.Ytlkijnnoalfblaa.Nb.set_heap HD2.out _
    have hB3 : Kd.R (Kd.slice 5 (Kd.int .u8)) 47 (w2.setCell ⟨D, 1, none⟩ (.slice (some ⟨gQ, 0, none⟩) (q.length - 1) cQ)) base (fun k => (S k ∧ k ≠ D) ∧ k ≠ gQ) (.slice (some ⟨gB, 0, none⟩) bl.length cB) bl := Kd.R_step HB.out (fun j hj hlt => hkW j hlt hj.2 hj.1.2)
    have hQ3 := Kd.R_far HR.out (p := ⟨D, 1, none⟩) (fun j hj => hj.2) (.slice (some ⟨gQ, 0, none⟩) (q.length - 1) cQ)
    have hV3 : Kd.R (Kd.int .u8) 5 (w2.setCell ⟨D, 1, none⟩ (.slice (some ⟨gQ, 0, none⟩) (q.length - 1) cQ)) base (fun k => (S k ∧ k ≠ D) ∧ k ≠ gQ) (.slice A2 s.f2.length c2) s.f2 :=
      Kd.R_step HV2.out (fun j hj hlt => (Below.heap_setCell w2 ⟨D, 1, none⟩ _ j hj.1.2).trans (HG.out.block j hlt (fun e => hj.2 (Option.some.inj e))))
    have hbox : (w2.setCell ⟨D, 1, none⟩ (.slice (some ⟨gQ, 0, none⟩) (q.length - 1) cQ)).heap[w1.heap.size]? = some (.cells #[.int .i64 s.f0, .int .i64 s.f1, .slice A2 s.f2.length c2] 49 (0, 0)) :=
      (Below.heap_setCell w2 ⟨D, 1, none⟩ _ _ (by have := HW1.out.size; simp; omega)).trans ((HG.out.block _ (by simp) (fun e => by have := Option.some.inj e; have := HW1.out.size; omega)).trans (World.alloc_heap_new _ _))
    have hfq : ∀ x ∈ q.eraseIdx k, x ∈ q := fun x hx => List.mem_of_mem_eraseIdx hx
    have hf3 : Fits bl (q.eraseIdx k) last := ⟨hf.some, hf.most, hf.each, by rw [List.length_eraseIdx]; split <;> omega, fun x hx => hf.sent x (hfq x hx), fun x hx => hf.in_ x (hfq x hx), hf.low, hf.high⟩
    have hK3 : Kept S W (w2.setCell ⟨D, 1, none⟩ (.slice (some ⟨gQ, 0, none⟩) (q.length - 1) cQ)) := ⟨HG.out.os.trans HW1.out.os, HG.out.tape.trans HW1.out.tape, HG.out.output.trans HW1.out.output, hsz3, fun j hj hn => hkW j hj (fun e => hn (e ▸ hSQ)) (fun e => hn (e ▸ hSD))⟩
    have hm3 := (hkW m (hlow m hSm).2 hmQ hmD).trans hm
    generalize w2.setCell ⟨D, 1, none⟩ (.slice (some ⟨gQ, 0, none⟩) (q.length - 1) cQ) = W3 at *
    have z0 : W3.drew.cell? ⟨D, 0, none⟩ = some (.slice (some ⟨gB, 0, none⟩) bl.length cB) := show W3.cell? ⟨D, 0, none⟩ = _ by simp [World.cell?, hD3]
    have z1 : W3.drew.cell? ⟨w1.heap.size, 1, none⟩ = some (.int .i64 s.f1) := show W3.cell? _ = _ by simp [World.cell?, hbox]
    have z2 : W3.drew.cell? ⟨w1.heap.size, 2, none⟩ = some (.slice A2 s.f2.length c2) := show W3.cell? _ = _ by simp [World.cell?, hbox]
    obtain ⟨csE, hclE, ⟨vE, rfl, hvE⟩, hcellE, hfroE⟩ := Kd.R_elem hB3 ([] : List Int) s.f1 hin.1 hin.2
    have p1 : 0 ≤ s.f1 := hin.1
    have p2 : s.f1 < (bl.length : Int) := hin.2
    have e1' : s.f1.toNat * (Kd.slice 5 (Kd.int .u8)).sz + 0 = s.f1.toNat := Nat.mul_one _
    have y0 : W3.drew.cell? ⟨gB, s.f1.toNat, none⟩ = some vE := by have := hcellE 0 vE rfl; rw [e1'] at this; exact this
    have y1 : W3.drew.frozen? ⟨gB, s.f1.toNat, none⟩ = false := by have := hfroE 0; rw [e1'] at this; exact this
    clear hfroE e1' hvE
    refine wpIn_wide.2 ?_
    refine start_ (n := 10) (S := fun w' => w'.cell? ⟨D, 0, none⟩ = some (.slice (some ⟨gB, 0, none⟩) bl.length cB) ∧ w'.cell? ⟨w1.heap.size, 1, none⟩ = some (.int .i64 s.f1) ∧ w'.cell? ⟨w1.heap.size, 2, none⟩ = some (.slice A2 s.f2.length c2)) (ds := [9]) #[false, false, false, false, false, false, false, false, false, false] (by kernel_rfl) rfl rfl ⟨z0, z1, z2⟩ (fun hHeld => ?_)
    refine pure_ (i := 0) (N := some 37) (v := ?_) (a' := ?_) #[true, false, false, false, false, false, false, false, false, false] rfl rfl (by kernel_rfl) (fun _ _ _ h => h) (Or.inl ⟨by rfl, ?_⟩) ?_ ?_
    rotate_left
    · intro w'
      go_simp
      with_reducible rfl
    rotate_left
    · simp only [Act.put, List.setIfInBounds_toArray, List.set_cons_zero, List.set_cons_succ, i64_w, i32_w]
      rfl
    refine pure_ (i := 1) (N := some 38) (v := ?_) (a' := ?_) #[true, true, false, false, false, false, false, false, false, false] rfl rfl (by kernel_rfl) (fun _ _ _ h => h) (Or.inl ⟨by rfl, ?_⟩) ?_ ?_
    rotate_left
    · intro w'
      go_simp
      with_reducible rfl
    rotate_left
    · simp only [Act.put, List.setIfInBounds_toArray, List.set_cons_zero, List.set_cons_succ, i64_w, i32_w]
      rfl
    refine pure_ (i := 2) (N := some 39) (v := ?_) (a' := ?_) #[true, true, true, false, false, false, false, false, false, false] rfl rfl (by kernel_rfl) (fun _ _ _ h => h) (Or.inl ⟨by rfl, ?_⟩) ?_ ?_
    rotate_left
    · intro w'
      go_simp
      with_reducible rfl
    rotate_left
    · simp only [Act.put, List.setIfInBounds_toArray, List.set_cons_zero, List.set_cons_succ, i64_w, i32_w]
      rfl
    refine pure_ (i := 4) (N := some 41) (v := ?_) (a' := ?_) #[true, true, true, false, true, false, false, false, false, false] rfl rfl (by kernel_rfl) (fun _ _ _ h => h) (Or.inl ⟨by rfl, ?_⟩) ?_ ?_
    rotate_left
    · intro w'
      go_simp
      with_reducible rfl
    rotate_left
    · simp only [Act.put, List.setIfInBounds_toArray, List.set_cons_zero, List.set_cons_succ, i64_w, i32_w]
      rfl
    refine pure_ (i := 6) (N := some 43) (v := ?_) (a' := ?_) #[true, true, true, false, true, false, true, false, false, false] rfl rfl (by kernel_rfl) (fun _ _ _ h => h) (Or.inl ⟨by rfl, ?_⟩) ?_ ?_
    rotate_left
    · intro w'
      go_simp
      with_reducible rfl
    rotate_left
    · simp only [Act.put, List.setIfInBounds_toArray, List.set_cons_zero, List.set_cons_succ, i64_w, i32_w]
      rfl
    refine take_ (i := 3) (N := some 40) (v := ?_) (a' := ?_) #[true, true, true, true, true, false, true, false, false, false] rfl rfl (by kernel_rfl) (fun _ _ _ h => h) (Or.inl ⟨by rfl, ?_⟩) hHeld ?_ ?_
    rotate_left
    · rintro w' ⟨s0, s1, s2⟩
      go_simp
      with_reducible rfl
    rotate_left
    · simp only [Act.put, List.setIfInBounds_toArray, List.set_cons_zero, List.set_cons_succ, i64_w, i32_w]
      rfl
    refine take_ (i := 5) (N := some 42) (v := ?_) (a' := ?_) #[true, true, true, true, true, true, true, false, false, false] rfl rfl (by kernel_rfl) (fun _ _ _ h => h) (Or.inl ⟨by rfl, ?_⟩) hHeld ?_ ?_
    rotate_left
    · rintro w' ⟨s0, s1, s2⟩
      go_simp
      with_reducible rfl
    rotate_left
    · simp only [Act.put, List.setIfInBounds_toArray, List.set_cons_zero, List.set_cons_succ, i64_w, i32_w]
      rfl
    refine take_ (i := 7) (N := some 44) (v := ?_) (a' := ?_) #[true, true, true, true, true, true, true, true, false, false] rfl rfl (by kernel_rfl) (fun _ _ _ h => h) (Or.inl ⟨by rfl, ?_⟩) hHeld ?_ ?_
    rotate_left
    · rintro w' ⟨s0, s1, s2⟩
      go_simp
      with_reducible rfl
    rotate_left
    · simp only [Act.put, List.setIfInBounds_toArray, List.set_cons_zero, List.set_cons_succ, i64_w, i32_w]
      rfl
    refine pure_ (i := 8) (N := some 45) (v := ?_) (a' := ?_) #[true, true, true, true, true, true, true, true, true, false] rfl rfl (by kernel_rfl) (fun _ _ _ h => h) (Or.inl ⟨by rfl, ?_⟩) ?_ ?_
    rotate_left
    · intro w'
      go_simp
      with_reducible rfl
    rotate_left
    · simp only [Act.put, List.setIfInBounds_toArray, List.set_cons_zero, List.set_cons_succ, i64_w, i32_w]
      rfl
    refine last_ (i := 9) (N := none) #[true, true, true, true, true, true, true, true, true, true] rfl rfl (by kernel_rfl) (by decide) (fun K hK => ?_)
    refine skip_ (w1 := ?_) (by rfl) rfl ?_ ?_
    rotate_left
    · go_simp
      rfl
    refine hK.out _ _ ?_
    clear hK K
    refine done_ (by kernel_rfl) ?_

    gi_wp2
    go_ret
    have hgB3 := (hkW gB hgB2 hBQ (fun e => hDB e.symm)).trans hgBc
    have hV4 := Kd.R_types hV3 hgB3 (by decide)
    obtain ⟨hB4, hg4⟩ := Kd.R_seg (okp := fun k => ((S k ∧ k ≠ D) ∧ k ≠ gQ) ∧ k ≠ gB) (j := 0) (seg := [.slice A2 s.f2.length c2]) hB3 s.f1 hin.1 hin.2 hclE hcellE (show (0 + 1 : Nat) ≤ 1 by decide) (x' := s.f2) ⟨.slice A2 s.f2.length c2, rfl, hV4⟩ (fun k hk => hk)
    have e4 : W3.setCells gB (s.f1.toNat * (Kd.slice 5 (Kd.int .u8)).sz + 0) [.slice A2 s.f2.length c2] = W3.setCell ⟨gB, s.f1.toNat, none⟩ (.slice A2 s.f2.length c2) := by
      show W3.setCell ⟨gB, s.f1.toNat * 1 + 0, none⟩ _ = _
      rw [Nat.mul_one, Nat.add_zero]
    rw [e4] at hB4 hg4
    have hQ4 := Kd.R_far (Kd.R_types hQ3 hgB3 (by decide)) (p := ⟨gB, s.f1.toNat, none⟩) (fun j hj => hj.2) (.slice A2 s.f2.length c2)
    have hsz4 := hg4.size
    have hfar4 : ∀ j, j ≠ gB → (W3.setCell ⟨gB, s.f1.toNat, none⟩ (.slice A2 s.f2.length c2)).heap[j]? = W3.heap[j]? := fun j hj => Below.heap_setCell W3 ⟨gB, s.f1.toNat, none⟩ _ j hj
    have hf4 : Fits (bl.set s.f1.toNat s.f2) (q.eraseIdx k) last := ⟨by rw [List.length_set]; exact hf.some, by rw [List.length_set]; exact hf.most, fun x hx => by
        rcases List.mem_or_eq_of_mem_set hx with hx | rfl
        · exact hf.each x hx
        · rw [← hsk]; exact hf.sent _ (List.getElem_mem _), hf3.queue, hf3.sent, fun x hx => by rw [List.length_set]; exact hf3.in_ x hx, hf.low, hf.high⟩
    generalize W3.setCell ⟨gB, s.f1.toNat, none⟩ (.slice A2 s.f2.length c2) = W4 at *
    have hI : IsDk W4 base D m S (bl.set s.f1.toNat s.f2) (q.eraseIdx k) mo last :=
      ⟨hf4, ⟨_, _, (hfar4 D hDB).trans hD3, Kd.R_mono hB4 (fun j hj => hj.1.1), Kd.R_mono hQ4 (fun j hj => hj.1.1)⟩, (hfar4 m hmB).trans hm3, hmm, hSD, hSm, fun j hj => ⟨(hlow j hj).1, by have := (hlow j hj).2; omega⟩⟩
    have hbd : Below W4.heap.size W4 W4.drew := below_drew (Below.refl _ _)
    refine ⟨rfl, hI.below hbd, (hK3.trans (Kept.of_grown (S := S) hg4 (fun j hj => by injection hj with hj; exact hj ▸ hSB)) (fun j hj => .inl hj)).trans (Kept.of_below (S := S) hbd) (fun j hj => .inl hj)⟩
end Go.Proofs.Ytlkijnnoalfblaa.Dk

