/- Written by a program of this session. bollardplain.SpoilBytes, SpoilImage: what they write over, and what stays. -/
import Derived.RangeFuncNested
import Derived.Shelf.Abstract
import Derived.Shelf.RegionOpen
import Derived.WalkKit
import Derived.OwnWalkIn
import Derived.TacticsInMore
import Derived.LoopNIn
import Derived.LoopIn
import Derived.Test.YtbopccjcehnfnaaProg
import Derived.Test.YtbopccjcehnfnaaWMore
namespace Go.Proofs.Ytbopccjcehnfnaa.Sp
open Go Go.RowKit Go.Shelf Go.Proofs Go.Proofs.YtbopccjcehnfnaaW.PrintWords Go.Proofs.YtbopccjcehnfnaaW.PrintLast Go.Proofs.YtbopccjcehnfnaaW.PrintMore
set_option linter.unusedVariables false
set_option linter.unusedSimpArgs false

/-- From W to W' only bytes have been written over, in blocks of S. -/
structure Spoils (W W' : World) (S : Nat → Prop) : Prop where
  os : W'.os = W.os
  tape : W'.tape = W.tape
  output : W'.output = W.output
  size : W'.heap.size = W.heap.size
  same : ∀ k, ¬ S k → W'.heap[k]? = W.heap[k]?
  cells : ∀ (k : Nat) (cs : Array Value) (t : TypeId) (f : Nat × Nat), W.heap[k]? = some (.cells cs t f) → ∃ cs', W'.heap[k]? = some (.cells cs' t f) ∧ cs'.size = cs.size ∧ ∀ (i : Nat) (z : Int), cs[i]? = some (.int .u8 z) → ∃ z', cs'[i]? = some (.int .u8 z')
theorem Spoils.refl (W : World) (S : Nat → Prop) : Spoils W W S := ⟨rfl, rfl, rfl, rfl, fun _ _ => rfl, fun k cs t f h => ⟨cs, h, rfl, fun i z hz => ⟨z, hz⟩⟩⟩
theorem Spoils.trans {W W1 W2 : World} {S : Nat → Prop} (h : Spoils W W1 S) (h' : Spoils W1 W2 S) : Spoils W W2 S :=
  ⟨h'.os.trans h.os, h'.tape.trans h.tape, h'.output.trans h.output, h'.size.trans h.size, fun k hk => (h'.same k hk).trans (h.same k hk), fun k cs t f hc => by
    obtain ⟨cs1, h1, h2, h3⟩ := h.cells k cs t f hc
    obtain ⟨cs2, h4, h5, h6⟩ := h'.cells k cs1 t f h1
    exact ⟨cs2, h4, h5.trans h2, fun i z hz => by obtain ⟨z1, hz1⟩ := h3 i z hz; exact h6 i z1 hz1⟩⟩
theorem Spoils.mono {W W' : World} {S S' : Nat → Prop} (h : Spoils W W' S) (hs : ∀ k, S k → S' k) : Spoils W W' S' :=
  ⟨h.os, h.tape, h.output, h.size, fun k hk => h.same k (fun e => hk (hs k e)), h.cells⟩
theorem Spoils.below {W W' : World} {S : Nat → Prop} (h : Spoils W W' S) {n : Nat} (hs : ∀ k, S k → n ≤ k) : Below n W W' :=
  ⟨h.os, h.tape, h.output, by rw [h.size]; exact Nat.le_refl _, fun k hk => h.same k (fun e => by have := hs k e; omega)⟩
/-- A slice of bytes that can be written over. -/
def SB (W : World) (v : Value) : Prop := v = .slice none 0 0 ∨ ∃ (g n c : Nat) (cs : Array Value), v = .slice (some ⟨g, 0, none⟩) n c ∧ n < 9223372036854775807 ∧ W.heap[g]? = some (.cells cs 5 (0, 0)) ∧ ∀ i, i < n → ∃ z, cs[i]? = some (.int .u8 z)
theorem SB.spoils {W W' : World} {S : Nat → Prop} {v : Value} (h : SB W v) (hs : Spoils W W' S) : SB W' v := by
  rcases h with rfl | ⟨g, n, c, cs, rfl, hn, hc, hz⟩
  · exact .inl rfl
  · obtain ⟨cs', h1, h2, h3⟩ := hs.cells _ _ _ _ hc
    exact .inr ⟨g, n, c, cs', rfl, hn, h1, fun i hi => by obtain ⟨z, hz⟩ := hz i hi; exact h3 i z hz⟩
theorem SB.below {W W' : World} {v : Value} (h : SB W v) (hb : Below W.heap.size W W') : SB W' v := by
  rcases h with rfl | ⟨g, n, c, cs, rfl, hn, hc, hz⟩
  · exact .inl rfl
  · exact .inr ⟨g, n, c, cs, rfl, hn, (hb.block g (Array.getElem?_eq_some_iff.1 hc).1).trans hc, hz⟩
theorem SB.of_R {W : World} {base : Nat} {ok : Nat → Prop} {v : Value} {xs : List Int} (h : Kd.R (Kd.int .u8) 5 W base ok v xs) (hl : xs.length < 9223372036854775807) : SB W v := by
  rcases (Kd.own_of_R h).2 with ⟨rfl, hx⟩ | ⟨g, cap, cur, rfl, hb, hh, hnc, hcm, hcs, ht⟩
  · exact .inl rfl
  · refine .inr ⟨g, xs.length, cap, cur, rfl, hl, hh, fun i hi => ⟨xs.getD i 0, ?_⟩⟩
    have h1 := congrArg (·[i]?) ht
    rw [List.getElem?_take, if_pos (by omega), Array.getElem?_toList] at h1
    rw [h1]
    simp [encs, List.getD_eq_getElem?_getD, hi]
theorem spoil_set {W : World} {g i : Nat} {cs : Array Value} {t : TypeId} {z x : Int} (hh : W.heap[g]? = some (.cells cs t (0, 0))) (hz : cs[i]? = some (.int .u8 z)) : Spoils W (W.setCell ⟨g, i, none⟩ (.int .u8 x)) (fun k => k = g) := by
  obtain ⟨hlt, hk⟩ := Array.getElem?_eq_some_iff.1 hh
  have hself : (W.setCell ⟨g, i, none⟩ (.int .u8 x)).heap[g]? = some (.cells (cs.setIfInBounds i (.int .u8 x)) t (0, 0)) := by
    show (W.heap.modify g _)[g]? = _
    rw [Array.getElem?_eq_getElem (by rw [Array.size_modify]; exact hlt), Array.getElem_modify_self, hk]
    rfl
  refine ⟨rfl, rfl, rfl, by simp, fun k hk => Below.heap_setCell W ⟨g, i, none⟩ _ k hk, fun k cs0 t0 f0 h0 => ?_⟩
  by_cases e : k = g
  · subst e
    rw [hh] at h0
    injection h0 with h0
    injection h0 with h1 h2 h3
    subst h1; subst h2; subst h3
    refine ⟨_, hself, by simp, fun j y hy => ?_⟩
    by_cases e : i = j
    · subst e
      have := (Array.getElem?_eq_some_iff.1 hz).1
      exact ⟨x, by simp [Array.getElem?_setIfInBounds, this]⟩
    · exact ⟨y, by simp [Array.getElem?_setIfInBounds, e, hy]⟩
  · exact ⟨cs0, (Below.heap_setCell W ⟨g, i, none⟩ _ k e).trans h0, rfl, fun j y hy => ⟨y, hy⟩⟩

set_option maxRecDepth 100000 in
set_option maxHeartbeats 4000000 in
theorem spoil_bytes (W : World) (v : Value) (h : SB W v) :
    Calls Try.prog 45 #[v] W fun e W' => e = .returned (.tuple #[]) ∧ Spoils W W' (fun k => v.ownBlock = some k) := by
  refine (callsIn_wide (n := 1)).1 ?_
  refine callsIn_of_wp Try.func45 rfl trivial ?_ rfl
  simp only [Try.ntmps45, List.size_toArray, List.length_cons, List.length_nil, Nat.reduceAdd, Nat.reduceSub, Array.replicate_succ, Array.replicate_zero, List.push_toArray, List.append_toArray, List.nil_append, List.cons_append]
  rcases h with rfl | ⟨g, n, c, cs, rfl, hn, hc, hz⟩
  · gi_wp2
    gi_loopw [5] (fun v5 w' => v5 = .int .i64 0 ∧ w' = W) (fun _ _ => 0)
    case atStart => exact ⟨rfl, rfl⟩
    case round =>
      obtain ⟨rfl, rfl⟩ := hrel
      gi_wp2
      go_end0
      exact ⟨rfl, Spoils.refl _ _⟩
  · gi_wp2
    gi_loopw [5] (fun v5 w' => ∃ i : Nat, v5 = .int .i64 (i : Int) ∧ i ≤ n ∧ Aside0 (Spoils W w' (fun k => k = g))) (fun v5 _ => n - (intOf v5).toNat)
    case atStart => exact ⟨0, rfl, Nat.zero_le _, ⟨Spoils.refl _ _⟩⟩
    case round =>
      obtain ⟨i, rfl, hi, HS⟩ := hrel
      by_cases hlt : i < n
      · have t1 : decide ((i : Int) < (n : Int)) = true := decide_eq_true (by omega)
        obtain ⟨cs', h1, h2, h3⟩ := HS.out.cells _ _ _ _ hc
        obtain ⟨z, hz1⟩ := hz i hlt
        obtain ⟨z', hz'⟩ := h3 i z hz1
        have cc : wr.cell? ⟨g, i, none⟩ = some (.int .u8 z') := by simp [World.cell?, h1, hz']
        have cf : wr.frozen? ⟨g, i, none⟩ = false := by simp [World.frozen?, h1]
        gi_wp2
        exact ⟨⟨i + 1, by simp, by omega, ⟨HS.out.trans (spoil_set h1 hz')⟩⟩, by simp [intOf]; omega⟩
      · have t1 : decide ((i : Int) < (n : Int)) = false := decide_eq_false (by omega)
        gi_wp2
        go_end0
        exact ⟨rfl, HS.out.mono (fun k hk => by simp [Value.ownBlock, hk])⟩
set_option maxRecDepth 100000 in
set_option maxHeartbeats 4000000 in
theorem spoil_image (W : World) (A : Option Addr) (n c : Nat) (vs : List Value) (hn : vs.length = n) (hn2 : n < 9223372036854775807) (hA : 0 < n → ∃ ad, A = some ad ∧ (∀ j, j < n → W.cell? (ad.add j) = some (vs.getD j undef)) ∧ ∀ v ∈ vs, v.ownBlock ≠ some ad.block) (hs : ∀ v ∈ vs, SB W v) :
    Calls Try.prog 27 #[.slice A n c] W fun e W' => e = .returned (.tuple #[]) ∧ Spoils W W' (fun k => ∃ v ∈ vs, v.ownBlock = some k) := by
  refine (callsIn_wide (n := 1)).1 ?_
  refine callsIn_of_wp Try.func27 rfl trivial ?_ rfl
  simp only [Try.ntmps27, List.size_toArray, List.length_cons, List.length_nil, Nat.reduceAdd, Nat.reduceSub, Array.replicate_succ, Array.replicate_zero, List.push_toArray, List.append_toArray, List.nil_append, List.cons_append]
  gi_wp2
  gi_loopw [6] (fun v6 w' => ∃ i : Nat, v6 = .int .i64 (i : Int) ∧ i ≤ n ∧ Aside0 (Spoils W w' (fun k => ∃ v ∈ vs, v.ownBlock = some k))) (fun v6 _ => n - (intOf v6).toNat)
  case atStart => exact ⟨0, rfl, Nat.zero_le _, ⟨Spoils.refl _ _⟩⟩
  case round =>
    obtain ⟨i, rfl, hi, HS⟩ := hrel
    by_cases hlt : i < n
    · have t1 : decide ((i : Int) < (n : Int)) = true := decide_eq_true (by omega)
      obtain ⟨ad, rfl, hcell, hne⟩ := hA (by omega)
      have hm : vs.getD i undef ∈ vs := by
        rw [List.getD_eq_getElem?_getD, List.getElem?_eq_getElem (by omega)]; exact List.getElem_mem _
      have cc : wr.cell? (ad.add i) = some (vs.getD i undef) := by
        rw [← hcell i hlt]
        refine World.cell?_of_block (HS.out.same _ ?_)
        rintro ⟨v, hv, he⟩
        exact hne v hv (by rw [he]; unfold Addr.add; split <;> rfl)
      have HB := Aside0.mk (hs _ hm)
      generalize vs.getD i undef = v at *
      have HM := Aside0.mk hm
      clear hm hcell hne hA hs
      gi_wp2_with (refine ⟨trivial, ?_⟩; gi_at_call 45; refine (callsIn_wide.2 (spoil_bytes _ v (HB.out.spoils HS.out))).mono ?_; rintro e w1 ⟨rfl, hs1⟩; have HS1 := Aside0.mk (HS.out.trans (hs1.mono (fun k hk => (⟨v, HM.out, hk⟩ : ∃ v ∈ vs, v.ownBlock = some k)))); clear hs1)
      exact ⟨⟨i + 1, by simp, by omega, HS1⟩, by simp [intOf]; omega⟩
    · have t1 : decide ((i : Int) < (n : Int)) = false := decide_eq_false (by omega)
      gi_wp2
      go_end0
      exact ⟨rfl, HS.out⟩
end Go.Proofs.Ytbopccjcehnfnaa.Sp
