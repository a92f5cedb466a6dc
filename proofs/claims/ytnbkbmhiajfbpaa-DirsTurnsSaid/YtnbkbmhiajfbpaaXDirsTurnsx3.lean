-- Written by a program of this session (wip/tools)
import Derived.Test.YtnbkbmhiajfbpaaXDirsTurnsx0
import Derived.Test.YtnbkbmhiajfbpaaXDirsTurnsx2
namespace Go.Proofs.Ytnbkbmhiajfbpaa.XDirsTurns
open Go.RowKit Go.Proofs.YtnbkbmhiajfbpaaW.PrintWords Go.Proofs.YtnbkbmhiajfbpaaW.PrintLast Go.Proofs.YtnbkbmhiajfbpaaW.PrintMore
attribute [local go_sem] max2_int min2_int max_two min_two max_three min_three max_four min_four   -- for this text's walks alone
set_option linter.unusedVariables false
set_option linter.unusedSimpArgs false


/-! ### dirs_Decode: function 9 -/
def dirs_de (k : Nat) (l0 : List Int) (j : Nat) : Option (Int × ByteArray × Int) := layout_DecodeEntry.f k ((l0.drop (j * 16)).take 16)
def dirs_ents (k : Nat) (l0 : List Int) : Nat → Option (Bool × List S27)
  | 0 => some (true, [])
  | n + 1 => (dirs_ents k l0 n).bind fun p => if p.1 = true then (dirs_de k l0 n).bind fun t => (if t.2.2 = 0 then some (true, p.2 ++ [⟨t.1, t.2.1⟩]) else some (false, [])) else some (false, [])
def dirs_Decode.f (k : Nat) (l0 : List Int) : Option (List S27 × Int) := if (l0.length : Int) = 128 then (dirs_ents k l0 8).bind fun p => (if p.1 = true then (dirs_twice.f p.2).bind fun t => (if t = true then some ([], 6) else some (p.2, 0)) else some ([], 6)) else some ([], 6)
theorem dirs_ents.mono (k : Nat) (l0 : List Int) : ∀ n, LeO (dirs_ents k l0 n) (dirs_ents (k + 1) l0 n)
  | 0 => LeO.refl _
  | n + 1 => by
    unfold dirs_ents dirs_de
    exact LeO.bind (dirs_ents.mono k l0 n) (fun _ => LeO.ite (LeO.bind (layout_DecodeEntry.mono _ _) (fun _ => LeO.refl _)) (LeO.refl _))
theorem dirs_Decode.mono : ∀ a0 k, LeO (dirs_Decode.f k a0) (dirs_Decode.f (k + 1) a0) := by
  intro a0 k
  unfold dirs_Decode.f
  exact LeO.ite (LeO.bind (dirs_ents.mono _ _ _) (fun _ => LeO.refl _)) (LeO.refl _)
theorem dirs_ents_len (k : Nat) (l0 : List Int) : ∀ n xs, dirs_ents k l0 n = some (true, xs) → xs.length = n
  | 0, xs, h => by simp only [dirs_ents, Option.some.injEq, Prod.mk.injEq, true_and] at h; subst h; rfl
  | n + 1, xs, h => by
    simp only [dirs_ents] at h
    obtain ⟨⟨b, ys⟩, h1, h2⟩ := Option.bind_eq_some_iff.1 h
    cases b with
    | false => simp at h2
    | true =>
      have ih := dirs_ents_len k l0 n ys h1
      rw [if_pos rfl] at h2
      obtain ⟨⟨a, b, c⟩, h3, h4⟩ := Option.bind_eq_some_iff.1 h2
      dsimp only at h4
      split at h4
      · simp only [Option.some.injEq, Prod.mk.injEq, true_and] at h4
        subst h4
        simp [ih]
      · simp at h4
theorem dirs_ents_down (k : Nat) (l0 : List Int) : ∀ n r, dirs_ents k l0 n = some r → ∀ m, m ≤ n → ∃ r', dirs_ents k l0 m = some r'
  | 0, r, h, m, hm => by
    obtain rfl : m = 0 := by omega
    exact ⟨r, h⟩
  | n + 1, r, h, m, hm => by
    by_cases e : m = n + 1
    · subst e; exact ⟨r, h⟩
    · simp only [dirs_ents] at h
      obtain ⟨p, h1, _⟩ := Option.bind_eq_some_iff.1 h
      exact dirs_ents_down k l0 n p h1 m (by omega)
theorem dirs_ents_false (k : Nat) (l0 : List Int) (j : Nat) (xs : List S27) (h : dirs_ents k l0 j = some (false, xs)) : ∀ n r, j ≤ n → dirs_ents k l0 n = some r → r.1 = false
  | 0, r, hn, hr => by
    obtain rfl : j = 0 := by omega
    rw [h] at hr; injection hr with hr; rw [← hr]
  | n + 1, r, hn, hr => by
    by_cases e : j = n + 1
    · subst e; rw [h] at hr; injection hr with hr; rw [← hr]
    · simp only [dirs_ents] at hr
      obtain ⟨p, h1, h2⟩ := Option.bind_eq_some_iff.1 hr
      have := dirs_ents_false k l0 j xs h n p (by omega) h1
      rw [this, if_neg (by simp)] at h2
      injection h2 with h2; rw [← h2]
theorem dirs_pieceC {W : World} {ad : Addr} {l0 : List Int} (h : Kd.C (Kd.int .u8) W (some ad) l0.length l0) (o : Nat) : Kd.C (Kd.int .u8) W (some (ad.add o)) ((l0.drop o).take 16).length ((l0.drop o).take 16) := by
  have hr : ReadsInt W .u8 (some ad) l0.length l0 := Kd.reads_of_C h
  refine Kd.C_of_reads (h1 := fun _ => rfl) (⟨rfl, by have := hr.2.1; simp; omega, fun hn => ⟨_, rfl, fun j hj => ?_⟩⟩ : ReadsInt W .u8 _ _ _)
  obtain ⟨ad', e, hc⟩ := hr.2.2 (by rw [List.length_take, List.length_drop] at hn; omega)
  injection e with e
  subst e
  have hj' : o + j < l0.length ∧ j < 16 := by rw [List.length_take, List.length_drop] at hj; omega
  have := hc (o + j) hj'.1
  rw [Addr.add_add, this]
  congr 2
  simp only [List.getD_eq_getElem?_getD]
  rw [List.getElem?_take_of_lt hj'.2, List.getElem?_drop]
def dirs_flat (xs : List S27) : List Value := (xs.map fun e => [Value.int .i64 e.f0, .string e.f1]).flatten
theorem dirs_flat_snoc (xs : List S27) (e : S27) : dirs_flat (xs ++ [e]) = dirs_flat xs ++ [Value.int .i64 e.f0, .string e.f1] := by simp [dirs_flat]
theorem dirs_flat_reps (d : S27 → List Value → Prop) (hd : ∀ x : S27, d x [.int .i64 x.f0, .string x.f1]) : ∀ xs : List S27, Reps d 2 xs (dirs_flat xs) := by
  intro xs
  generalize hn : xs.length = n
  induction n generalizing xs with
  | zero => obtain rfl := List.eq_nil_of_length_eq_zero hn; exact Reps.none _ _
  | succ n ih =>
    have hne : xs ≠ [] := by intro e; subst e; simp at hn
    rw [← List.dropLast_concat_getLast hne, dirs_flat_snoc]
    exact Reps.snoc (ih _ (by simp [hn])) (hd _) rfl
theorem dirs_oneCell {W : World} {a : Addr} {v : Value} {t : TypeId} {d : TypeDesc} (hu : Try.prog.underlying t = some d) (hd : (match d with | .struct _ | .array _ _ => true | _ => false) = false) (hc : W.cell? a = some v) : (loadVar t a).run Try.prog W = .ok v W := by
  have hag : (isAgg t).run Try.prog W = .ok false W := by
    unfold isAgg
    rw [Sem.run_bind, run_underlying hu]
    cases d <;> simp [Result.andThen] at hd ⊢
  unfold loadVar
  rw [Sem.run_bind, hag]
  simp [Result.andThen, go_sem, hc]
theorem dirs_newCell (W : World) (v : Value) (T : TypeId) : (W.alloc (.cells #[v] T)).cell? ⟨W.heap.size, 0, none⟩ = some v := cell_one_new W v T 0 v rfl
theorem dirs_allocNew (W : World) (o : Obj) (n : Nat) (h : n = W.heap.size) : (W.alloc o).heap[n]? = some o := by subst h; exact World.alloc_heap_new W o
theorem dirs_allocOld (W : World) (o : Obj) (n : Nat) (h : n < W.heap.size) : (W.alloc o).heap[n]? = W.heap[n]? := heap_alloc_old W o h
theorem dirs_cells2 (W : World) (x y : Value) (t : TypeId) {b : Nat} (hb : b = W.heap.size) : ∀ j u, [x, y][j]? = some u → (W.alloc (.cells #[x, y] t)).cell? ((⟨b, 0, none⟩ : Addr).add j) = some u := by
  subst hb
  intro j u hj
  have h := World.alloc_heap_new W (.cells #[x, y] t)
  match j, hj with
  | 0, hj => simp at hj; subst hj; show (match (W.alloc (.cells #[x, y] t)).heap[W.heap.size]? with | some (.cells c _ _) => c[_]? | _ => none) = _; rw [h]; rfl
  | 1, hj => simp at hj; subst hj; show (match (W.alloc (.cells #[x, y] t)).heap[W.heap.size]? with | some (.cells c _ _) => c[_]? | _ => none) = _; rw [h]; rfl
  | _ + 2, hj => simp at hj
theorem dirs_grownSet (W : World) (b o : Nat) (v : Value) : W.grownBy (W.setCell ⟨b, o, none⟩ v) (some b) :=
  ⟨rfl, rfl, rfl, by simp [World.setCell], fun k _ hk => Below.heap_setCell _ _ _ k (fun e => hk (by rw [e]))⟩
theorem dirs_setHeap {W : World} {b : Nat} {u : Value} {t : TypeId} (h : W.heap[b]? = some (.cells #[u] t (0, 0))) (v : Value) :
    (W.setCell ⟨b, 0, none⟩ v).heap[b]? = some (.cells #[v] t (0, 0)) := by
  obtain ⟨hlt, hk⟩ := Array.getElem?_eq_some_iff.1 h
  show (W.heap.modify b _)[b]? = _
  rw [Array.getElem?_eq_getElem (by rw [Array.size_modify]; exact hlt), Array.getElem_modify_self, hk]
  rfl
theorem dirs_cellOf {W : World} {b : Nat} {v : Value} {T : TypeId} (h : W.heap[b]? = some (.cells #[v] T (0, 0))) : W.cell? ⟨b, 0, none⟩ = some v := by simp [World.cell?, h]
theorem dirs_frozenOf {W : World} {b : Nat} {v : Value} {T : TypeId} (h : W.heap[b]? = some (.cells #[v] T (0, 0))) : W.frozen? ⟨b, 0, none⟩ = false := by simp [World.frozen?, h]
theorem dirs_two {w1 : World} {s : Nat} {u0 u1 : Value} {T0 T1 : TypeId} (q0 : w1.heap[s]? = some (.cells #[u0] T0 (0, 0))) (q1 : w1.heap[s + 1]? = some (.cells #[u1] T1 (0, 0))) (v1 v2 : Value) (F : World) (hF : (w1.setCell ⟨s, 0, none⟩ v1).setCell ⟨s + 1, 0, none⟩ v2 = F) :
    F.heap[s]? = some (.cells #[v1] T0 (0, 0)) ∧ F.heap[s + 1]? = some (.cells #[v2] T1 (0, 0)) ∧ (∀ j, j ≠ s → j ≠ s + 1 → F.heap[j]? = w1.heap[j]?) ∧ F.heap.size = w1.heap.size ∧ F.os = w1.os ∧ F.tape = w1.tape ∧ F.output = w1.output := by
  subst hF
  refine ⟨?_, ?_, fun j h0 h1 => ?_, by simp [World.setCell], rfl, rfl, rfl⟩
  · exact (Below.heap_setCell _ ⟨s + 1, 0, none⟩ v2 s (by simp)).trans (dirs_setHeap q0 v1)
  · exact dirs_setHeap ((Below.heap_setCell _ ⟨s, 0, none⟩ v1 (s + 1) (by simp)).trans q1) v2
  · exact (Below.heap_setCell _ ⟨s + 1, 0, none⟩ v2 j h1).trans (Below.heap_setCell _ ⟨s, 0, none⟩ v1 j h0)
theorem dirs_res {tmps : Array Value} {W : World} {a b : Addr} {v1 v2 : Value} (ha : tmps.getD 2 undef = .pointer (some a)) (hb : tmps.getD 3 undef = .pointer (some b)) (c1 : W.cell? a = some v1) (c2 : W.cell? b = some v2) :
    (results Try.f9 tmps).run Try.prog W = .ok (.tuple #[v1, v2]) W := by
  have h1 : tmps[2]?.getD undef = .pointer (some a) := by simpa using ha
  have h2 : tmps[3]?.getD undef = .pointer (some b) := by simpa using hb
  have e1 := dirs_oneCell Try.underlying23 rfl c1
  have e2 := dirs_oneCell Try.underlying28 rfl c2
  simp [results, show Try.f9.results = #[.cell 2 23, .cell 3 28] from rfl, h1, h2, asAddr, e1, e2]
set_option maxHeartbeats 8000000 in
set_option maxRecDepth 100000 in
attribute [local go_sem] Oper.semAt_some in
theorem dirs_Decode.calls (k : Nat) (A0 : Option Addr) (c0 : Nat) (l0 : List Int) (r1 : List (S27)) (r2 : Int) (w : World) (hr0 : Kd.C (Kd.int .u8) w A0 l0.length l0) (hc0 : l0.length ≤ c0) (h : dirs_Decode.f k l0 = some (r1, r2)) :
    Calls Try.prog 9 #[.slice A0 l0.length c0] w fun e w' => ∃ v0_ : Value, e = .returned (.tuple #[v0_, .int .i64 r2]) ∧ Kd.R k27 27 w' w.heap.size (fun _ => True) v0_ r1 ∧ Below w.heap.size w w' := by
  refine (callsIn_wide (n := 5)).1 ?_
  refine callsIn_of_wp_marks Try.func9 rfl trivial ?_ rfl
  simp only [Try.ntmps9, List.size_toArray, List.length_cons, List.length_nil, Nat.reduceAdd, Nat.reduceSub, Array.replicate_succ, Array.replicate_zero, List.push_toArray, List.append_toArray, List.nil_append, List.cons_append]
  unfold dirs_Decode.f at h
  by_cases hl : l0.length = 128
  · rw [if_pos (by omega)] at h
    obtain ⟨⟨b8, xs8⟩, h8, h⟩ := Option.bind_eq_some_iff.1 h
    dsimp only at h
    have hlen : l0.length = 128 := hl
    obtain ⟨ad, rfl⟩ : ∃ ad, A0 = some ad := by
      obtain ⟨ad, e, _⟩ := hr0.2.2 (by omega)
      exact ⟨ad, e⟩
    have HC := fun (W : World) (hb : Below w.heap.size w W) => Kd.C_below hr0 hb
    have t1 : ((128 : Int) != 128) = false := rfl
    rw [hl]
    rw [hl] at hc0
    gi_wp2_with (refine ⟨trivial, ?_⟩; gi_at_call 26; refine (Go.Proofs.Ytnbkbmhiajfbpaa.Ck.chunk_in _ _ _ _ (by omega) _ _).mono ?_; rintro e w' ⟨rfl, hw⟩; rw [hw]; clear hw)
    obtain ⟨W0, hW0⟩ : ∃ W0, (((((w.alloc (.cells #[Value.slice none 0 0] 23)).alloc (.cells #[Value.int .i64 0] 28)).alloc (.cells #[Value.slice none 0 0] 23)).alloc (.cells #[Value.slice (some ad) 128 c0] 22)).alloc (.cells #[Value.int .i64 16] 3)) = W0 := ⟨_, rfl⟩
    have hs0 : W0.heap.size = w.heap.size + 5 := by rw [← hW0]; simp
    have hB0 : Below w.heap.size w W0 := by
      rw [← hW0]
      repeat (first | exact Below.refl _ _ | refine below_alloc ?_ _)
    have e0 : W0.heap[w.heap.size]? = some (.cells #[Value.slice none 0 0] 23 (0, 0)) := by
      rw [← hW0]; exact (dirs_allocOld _ _ _ (by simp only [World.size_alloc]; omega)).trans ((dirs_allocOld _ _ _ (by simp only [World.size_alloc]; omega)).trans ((dirs_allocOld _ _ _ (by simp only [World.size_alloc]; omega)).trans ((dirs_allocOld _ _ _ (by simp only [World.size_alloc]; omega)).trans (dirs_allocNew _ _ _ rfl))))
    have e1 : W0.heap[w.heap.size + 1]? = some (.cells #[Value.int .i64 0] 28 (0, 0)) := by
      rw [← hW0]; exact (dirs_allocOld _ _ _ (by simp only [World.size_alloc]; omega)).trans ((dirs_allocOld _ _ _ (by simp only [World.size_alloc]; omega)).trans ((dirs_allocOld _ _ _ (by simp only [World.size_alloc]; omega)).trans (dirs_allocNew _ _ _ (by simp only [World.size_alloc]))))
    have e2 : W0.heap[w.heap.size + 2]? = some (.cells #[Value.slice none 0 0] 23 (0, 0)) := by
      rw [← hW0]; exact (dirs_allocOld _ _ _ (by simp only [World.size_alloc]; omega)).trans ((dirs_allocOld _ _ _ (by simp only [World.size_alloc]; omega)).trans (dirs_allocNew _ _ _ (by simp only [World.size_alloc])))
    have e3 : W0.heap[w.heap.size + 3]? = some (.cells #[Value.slice (some ad) 128 c0] 22 (0, 0)) := by
      rw [← hW0]; exact (dirs_allocOld _ _ _ (by simp only [World.size_alloc]; omega)).trans (dirs_allocNew _ _ _ (by simp only [World.size_alloc]))
    have e4 : W0.heap[w.heap.size + 4]? = some (.cells #[Value.int .i64 16] 3 (0, 0)) := by
      rw [← hW0]; exact dirs_allocNew _ _ _ (by simp only [World.size_alloc])
    rw [hW0]
    refine Rf.range_stops (by rfl) (by omega) (gf := 37) (lb := #[.pointer (some ⟨w.heap.size + 1 + 1 + 1, 0, none⟩), .pointer (some ⟨w.heap.size + 1 + 1 + 1 + 1, 0, none⟩)]) rfl trivial (enters_of Try.func37 (by kernel_rfl) rfl)
      (K := fun k => k < w.heap.size ∨ k = w.heap.size + 3 ∨ k = w.heap.size + 4) (by rw [hs0]; omega) (by simp)
      (Go.Proofs.Ytnbkbmhiajfbpaa.Ck.chunk_stops W0 (some ad) 128 c0 16 8 (by omega) (by omega) (by omega) hc0 (by omega) (by omega) ad (fun _ => rfl) (w.heap.size + 3) (w.heap.size + 4) (by omega) e3 (by omega) e4 _ (by omega) (by omega) _)
      (fun _ => rfl)
      (fun pre W => ∃ (xs : List S27) (v : Value), dirs_ents k l0 pre.length = some (true, xs) ∧ W.heap[w.heap.size]? = some (.cells #[Value.slice none 0 0] 23 (0, 0)) ∧ W.heap[w.heap.size + 1]? = some (.cells #[Value.int .i64 0] 28 (0, 0)) ∧ W.heap[w.heap.size + 2]? = some (.cells #[v] 23 (0, 0)) ∧ W.ownsRow (w.heap.size + 7) 27 2 v xs.length (dirs_flat xs) ∧ Below w.heap.size w W)
      (fun pre W => (∃ xs, dirs_ents k l0 pre.length = some (false, xs)) ∧ W.heap[w.heap.size]? = some (.cells #[Value.slice none 0 0] 23 (0, 0)) ∧ W.heap[w.heap.size + 1]? = some (.cells #[Value.int .i64 6] 28 (0, 0)) ∧ Below w.heap.size w W)
      ?hI ?hIx ?h0
      (fun x a' W => a' = { tmps := #[Value.slice (some ad) 128 c0, undef, Value.pointer (some { block := w.heap.size, off := 0 }), Value.pointer (some { block := w.heap.size + 1, off := 0 }), Value.pointer (some { block := w.heap.size + 1 + 1, off := 0 }), Go.Proofs.Ytnbkbmhiajfbpaa.Ck.piece ad 128 16 x, undef, undef, Value.slice (some ad) 128 c0, Value.int IntKind.i64 128, Value.bool false, Value.slice (some ad) 128 c0,
          Value.func (Fn.func 37) #[] #[Value.pointer (some { block := w.heap.size + 1 + 1 + 1, off := 0 }), Value.pointer (some { block := w.heap.size + 1 + 1 + 1 + 1, off := 0 })],
          Go.Proofs.Ytnbkbmhiajfbpaa.Ck.piece ad 128 16 x, undef, undef, undef, undef, undef, undef, undef, undef, undef, undef, undef, undef, undef, undef], defers := [] })
      ?hAx ?assign ?body ?done ?stop
    case hI =>
      rintro pre A A' row ⟨xs, v, hents, h0, h1, h2, hrow, hB⟩ hg hr
      have hr' : ∀ r, row = some r → w.heap.size + 5 ≤ r ∧ r < w.heap.size + 7 := fun r e => by rcases hr r e with h | h | h <;> first | omega | exact h.elim
      refine ⟨xs, v, hents, ?_, ?_, ?_, ?_, hB.trans ⟨hg.os, hg.tape, hg.output, hg.size, fun k hk => hg.block k (by have := hB.size; omega) (fun e => by have := hr' k e.symm; omega)⟩⟩
      · exact (hg.block _ (Array.getElem?_eq_some_iff.1 h0).1 (fun e => by have := hr' _ e.symm; omega)).trans h0
      · exact (hg.block _ (Array.getElem?_eq_some_iff.1 h1).1 (fun e => by have := hr' _ e.symm; omega)).trans h1
      · exact (hg.block _ (Array.getElem?_eq_some_iff.1 h2).1 (fun e => by have := hr' _ e.symm; omega)).trans h2
      · refine hrow.kept hg ?_
        cases ho : v.ownBlock with
        | none => exact .inl rfl
        | some g => exact .inr (fun e => by have := hr' g e.symm; have := (hrow.lt g ho).1; omega)
    case hIx =>
      rintro pre A A' row ⟨hents, h0, h1, hB⟩ hg hr
      have hr' : ∀ r, row = some r → w.heap.size + 5 ≤ r := fun r e => by rcases hr r e with h | h | h <;> first | omega | exact h.elim
      refine ⟨hents, ?_, ?_, hB.trans ⟨hg.os, hg.tape, hg.output, hg.size, fun k hk => hg.block k (by have := hB.size; omega) (fun e => by have := hr' k e.symm; omega)⟩⟩
      · exact (hg.block _ (Array.getElem?_eq_some_iff.1 h0).1 (fun e => by have := hr' _ e.symm; omega)).trans h0
      · exact (hg.block _ (Array.getElem?_eq_some_iff.1 h1).1 (fun e => by have := hr' _ e.symm; omega)).trans h1
    case h0 => exact ⟨[], _, rfl, e0, e1, e2, World.ownsRow_nil _ _ _ _, hB0⟩
    case hAx =>
      rintro x a' A A' row rfl hg hr
      rfl
    case assign =>
      rintro l pre x W k ⟨hv, hx⟩ hI hsz hk
      rw [show Go.Proofs.Ytnbkbmhiajfbpaa.Ck.piece ad 128 16 x = .slice (some (ad.add (x * 16))) (min 16 (128 - x * 16)) (min 16 (128 - x * 16)) from rfl]
      gi_wp2
      exact hk _ _ (Rf.Keep.refl _ _) hI rfl
    case body =>
      rintro l pre x a' W ⟨rfl, hx⟩ ⟨xs, v, hents, h0, h1, h2, hrow, hB⟩ rfl hlen2 hsz
      rw [List.length_range] at hents
      have hxl := dirs_ents_len k l0 x xs hents
      obtain ⟨r', hr'⟩ := dirs_ents_down k l0 8 _ h8 (x + 1) (by omega)
      have hstep0 := hr'
      rw [dirs_ents, hents, Option.bind_some, if_pos rfl] at hstep0
      obtain ⟨⟨q1, q2, q3⟩, hde, hstep⟩ := Option.bind_eq_some_iff.1 hstep0
      clear hstep0
      dsimp only at hstep
      have hP : ((l0.drop (x * 16)).take 16).length = 16 := by rw [List.length_take, List.length_drop]; omega
      have hpc : Go.Proofs.Ytnbkbmhiajfbpaa.Ck.piece ad 128 16 x = .slice (some (ad.add (x * 16))) 16 16 := by
        unfold Go.Proofs.Ytnbkbmhiajfbpaa.Ck.piece
        rw [show min 16 (128 - x * 16) = 16 by omega]
      have hcall : ∀ n W', Below w.heap.size w W' → CallsIn (Fence.wide.inRound l) n Try.prog 27 #[.slice (some (ad.add (x * 16))) 16 16] W' (fun e w' => e = .returned (.tuple #[.agg #[.int .i64 q1, .string q2], .int .i64 q3]) ∧ Below W'.heap.size W' w') := fun n W' hb => by
        have := layout_DecodeEntry.calls k (some (ad.add (x * 16))) 16 ((l0.drop (x * 16)).take 16) q1 q2 q3 W' (dirs_pieceC (HC W' hb) _) (by omega) hde
        rw [hP] at this
        exact CallsIn.inRound l (callsIn_wide.2 this)
      rw [hpc]
      have cL : W.cell? ⟨w.heap.size + 2, 0, none⟩ = some v := by simp [World.cell?, h2]
      by_cases hq : q3 = 0
      · rw [if_pos hq] at hstep
        subst hq
        have t2 : ((0 : Int) != 0) = false := rfl
        obtain ⟨i0, hi, hz0, hz1, hz2⟩ := info_parts info27
        gi_wp2_with (first
          | (refine ⟨trivial, ?_⟩; gi_at_call 27; refine (hcall _ _ hB).mono ?_; rintro e w1 ⟨rfl, hb1⟩; have cL1 : (w1.alloc (Obj.cells #[Value.int .i64 q1, Value.string q2] 27)).cell? ⟨w.heap.size + 1 + 1, 0, none⟩ = some v := (by simp only [World.cell?, show w.heap.size + 1 + 1 = w.heap.size + 2 from rfl]; rw [dirs_allocOld _ _ _ (by have := hb1.size; omega), hb1.block _ (by omega), h2]; rfl); have hrow1 : w1.ownsRow (w.heap.size + 7) 27 2 v xs.length (dirs_flat xs) := hrow.kept (row := none) ⟨hb1.os, hb1.tape, hb1.output, hb1.size, fun k hk _ => hb1.block k hk⟩ (by cases v.ownBlock <;> simp); have hs1 := hb1.size)
          | (gi_at_builtin; refine wpListIn_append_own _ rfl _ _ 23 rfl (w.heap.size + 7) 27 i0 (.agg #[.int .i64 0, .string ⟨#[]⟩]) 2 24 Try.underlying23 hi hz0 hz1 hz2 rfl (by decide) v xs.length (dirs_flat xs) rfl ((hrow1.alloc _).alloc _) ⟨w1.heap.size + 1, 0, none⟩ 1 1 [.int .i64 q1, .string q2] rfl rfl (dirs_cells2 _ _ _ _ (by simp)) (by simp [Value.oneCell']) (by simp [maxLen]; omega) (by omega) (by simp; omega) ?_; intro v' w2 hown2 hgrow2 _; obtain ⟨g', cap', rfl⟩ := ownsRow_succ hown2; have h22 : w2.heap[w.heap.size + 2]? = some (.cells #[v] 23 (0, 0)) := (hgrow2.block _ (by simp; omega) (fun e => by have := (hrow.lt _ e.symm).1; omega)).trans ((dirs_allocOld _ _ _ (by simp; omega)).trans ((dirs_allocOld _ _ _ (by omega)).trans ((hb1.block _ (by omega)).trans h2))); have cL2 : w2.cell? ⟨w.heap.size + 1 + 1, 0, none⟩ = some v := (by simp only [World.cell?, show w.heap.size + 1 + 1 = w.heap.size + 2 from rfl]; rw [h22]; rfl); have fL2 : w2.frozen? ⟨w.heap.size + 1 + 1, 0, none⟩ = false := (by simp only [World.frozen?, show w.heap.size + 1 + 1 = w.heap.size + 2 from rfl]; rw [h22]; rfl)))
        obtain ⟨W2, hW2⟩ : ∃ W2, w2.setCell ⟨w.heap.size + 1 + 1, 0, none⟩ (Value.slice (some ⟨g', 0, none⟩) (x + 1) cap') = W2 := ⟨_, rfl⟩
        have h2n : W2.heap[w.heap.size + 2]? = some (.cells #[Value.slice (some ⟨g', 0, none⟩) (x + 1) cap'] 23 (0, 0)) := by rw [← hW2]; exact dirs_setHeap h22 _
        have hg2 : w2.grownBy W2 (some (w.heap.size + 2)) := hW2 ▸ dirs_grownSet w2 _ _ _
        have hr2 : W2.ownsRow (w.heap.size + 7) 27 2 (Value.slice (some ⟨g', 0, none⟩) (x + 1) cap') (x + 1) (dirs_flat (xs ++ [⟨q1, q2⟩])) := by
          rw [← hW2, dirs_flat_snoc]; rw [hxl] at hown2; exact ownsRow_setCell_below hown2 (by simp) _
        have hsz2 := hgrow2.size
        simp only [World.size_alloc] at hsz2
        have hk2 : ∀ j, j < w.heap.size + 7 → j ≠ w.heap.size + 2 → W2.heap[j]? = W.heap[j]? := fun j hj hne =>
          (hg2.block j (by omega) (fun e => hne (by cases e; rfl))).trans ((hgrow2.block _ (by simp; omega) (fun e => by have := (hrow.lt _ e.symm).1; omega)).trans ((dirs_allocOld _ _ _ (by simp; omega)).trans ((dirs_allocOld _ _ _ (by omega)).trans (hb1.block _ (by omega)))))
        have hkeep : ∀ K : Nat → Prop, (∀ k, K k → k < w.heap.size + 7 ∧ k ≠ w.heap.size + 2) → Rf.Keep K W W2 := fun K hK =>
          ⟨⟨hg2.os.trans (hgrow2.os.trans hb1.os), hg2.tape.trans (hgrow2.tape.trans hb1.tape), hg2.output.trans (hgrow2.output.trans hb1.output), by have := hg2.size; omega, fun k hk => by omega⟩, fun k hk => hk2 k (hK k hk).1 (hK k hk).2⟩
        rw [hW2]
        have hr'' : r' = (true, xs ++ [⟨q1, q2⟩]) := by injection hstep with hstep; exact hstep.symm
        refine ⟨hkeep _ (fun k hk => by omega), _, hr'', (hk2 _ (by omega) (by omega)).trans h0, (hk2 _ (by omega) (by omega)).trans h1, _, h2n, ?_, hB.trans ((hkeep (fun k => k < w.heap.size) (fun k hk => by omega)).below (fun k hk => hk))⟩
        rw [List.length_append, hxl]
        exact hr2
      · rw [if_neg hq] at hstep
        have t2 : (q3 != 0) = true := bne_iff_ne.mpr hq
        have c0 : W.cell? ⟨w.heap.size, 0, none⟩ = some (Value.slice none 0 0) := by simp [World.cell?, h0]
        gi_wp2_with (refine ⟨trivial, ?_⟩; gi_at_call 27; refine (hcall _ _ hB).mono ?_; rintro e w1 ⟨rfl, hb1⟩; have hs1 := hb1.size; have q0 := (dirs_allocOld w1 (.cells #[Value.int .i64 q1, Value.string q2] 27) _ (by omega)).trans ((hb1.block _ (by omega)).trans h0); have q1h := (dirs_allocOld w1 (.cells #[Value.int .i64 q1, Value.string q2] 27) _ (by omega)).trans ((hb1.block _ (by omega)).trans h1); have cA := dirs_cellOf q0; have fA := dirs_frozenOf q0; have cB := dirs_cellOf q1h; have fB := dirs_frozenOf q1h)
        have g1 := dirs_grownSet (w1.alloc (.cells #[Value.int .i64 q1, Value.string q2] 27)) w.heap.size 0 (Value.slice none 0 0)
        have g2 := dirs_grownSet ((w1.alloc (.cells #[Value.int .i64 q1, Value.string q2] 27)).setCell ⟨w.heap.size, 0, none⟩ (Value.slice none 0 0)) (w.heap.size + 1) 0 (Value.int .i64 6)
        have f0 := dirs_setHeap q0 (Value.slice none 0 0)
        have f1 := dirs_setHeap ((g1.block (w.heap.size + 1) (by simp; omega) (fun e => by injection e with e; omega)).trans q1h) (Value.int .i64 6)
        have f0' := (g2.block w.heap.size (by have := g1.size; simp only [World.size_alloc] at this; omega) (fun e => by injection e with e; omega)).trans f0
        have hk2 : ∀ j, j < W.heap.size → j ≠ w.heap.size → j ≠ w.heap.size + 1 → (((w1.alloc (.cells #[Value.int .i64 q1, Value.string q2] 27)).setCell ⟨w.heap.size, 0, none⟩ (Value.slice none 0 0)).setCell ⟨w.heap.size + 1, 0, none⟩ (Value.int .i64 6)).heap[j]? = W.heap[j]? := fun j hj hn1 hn2 =>
          (g2.block j (by have := g1.size; simp only [World.size_alloc] at this; omega) (fun e => hn2 (by cases e; rfl))).trans ((g1.block j (by simp; omega) (fun e => hn1 (by cases e; rfl))).trans ((dirs_allocOld _ _ _ (by omega)).trans (hb1.block _ hj)))
        have hkeep : ∀ K : Nat → Prop, (∀ k, K k → k < W.heap.size ∧ k ≠ w.heap.size ∧ k ≠ w.heap.size + 1) → Rf.Keep K W (((w1.alloc (.cells #[Value.int .i64 q1, Value.string q2] 27)).setCell ⟨w.heap.size, 0, none⟩ (Value.slice none 0 0)).setCell ⟨w.heap.size + 1, 0, none⟩ (Value.int .i64 6)) := fun K hK =>
          ⟨⟨hb1.os, hb1.tape, hb1.output, by have := g1.size; have := g2.size; simp only [World.size_alloc] at *; omega, fun k hk => by omega⟩, fun k hk => hk2 k (hK k hk).1 (hK k hk).2.1 (hK k hk).2.2⟩
        refine ⟨hkeep _ (fun k hk => by omega), ⟨_, by injection hstep with hstep; exact hstep.symm⟩, f0', f1, hB.trans ((hkeep (fun k => k < w.heap.size) (fun k hk => by omega)).below (fun k hk => hk))⟩
    case done =>
      rintro ys W rfl ⟨xs, v, hents, h0, h1, h2, hrow, hB⟩ hK
      rw [List.length_range, h8] at hents
      injection hents with hents
      injection hents with hb hxs
      subst hb; subst hxs
      rw [if_pos rfl] at h
      obtain ⟨tb, htw, h⟩ := Option.bind_eq_some_iff.1 h
      have hxl := dirs_ents_len k l0 8 xs8 h8
      have hrow8 := hrow
      rw [hxl] at hrow8
      obtain ⟨g', cap', rfl⟩ := ownsRow_succ hrow8
      have hR : Kd.R k27 27 W (w.heap.size + 7) (fun _ => True) (.slice (some ⟨g', 0, none⟩) 8 cap') xs8 := ⟨fun _ _ => trivial, _, by exact hrow, dirs_flat_reps _ (fun x => k27_mkM _ _ _ x) _⟩
      have hrd := Kd.R_reads' hR
      have HR := Aside0.mk hR
      have htc : ∀ n, CallsIn Fence.wide n Try.prog 28 #[.slice (some ⟨g', 0, none⟩) 8 cap'] W fun e w' => e = .returned (.bool tb) ∧ Below W.heap.size W w' := fun n => by
        have := dirs_twice.calls (some ⟨g', 0, none⟩) cap' xs8 tb W (hrd.1 ▸ hrd.2.2) (hrd.1 ▸ hrd.2.1) htw
        rw [hxl] at this
        exact callsIn_wide.2 this
      have cL : W.cell? ⟨w.heap.size + 1 + 1, 0, none⟩ = some (.slice (some ⟨g', 0, none⟩) 8 cap') := dirs_cellOf h2
      clear hrow hrow8 hR hrd
      have hsW := (Array.getElem?_eq_some_iff.1 hK).1
      cases tb with
      | true =>
        rw [if_pos rfl] at h
        injection h with h
        injection h with hr1 hr2
        subst hr1; subst hr2
        gi_wp2_with (refine ⟨trivial, ?_⟩; gi_at_call 28; refine (htc _).mono ?_; rintro e w1 ⟨rfl, hb1⟩; have q0 := (hb1.block _ (by omega)).trans h0; have q1h := (hb1.block _ (by omega)).trans h1; have q5 := (hb1.block _ (by omega)).trans hK; have cA := dirs_cellOf q0; have fA := dirs_frozenOf q0; have cB := dirs_cellOf q1h; have fB := dirs_frozenOf q1h)
        obtain ⟨F, hF⟩ : ∃ F, (w1.setCell ⟨w.heap.size, 0, none⟩ (Value.slice none 0 0)).setCell ⟨w.heap.size + 1, 0, none⟩ (Value.int .i64 6) = F := ⟨_, rfl⟩
        obtain ⟨f0, f1, fj, fs, fo, ft, fp⟩ := dirs_two q0 q1h _ _ F hF
        rw [hF]
        have hs1 := hb1.size
        have hBF : Below w.heap.size w F := hB.trans ⟨fo.trans hb1.os, ft.trans hb1.tape, fp.trans hb1.output, by omega, fun k hk => (fj k (by omega) (by omega)).trans (hb1.block k (by omega))⟩
        have hKF : F.heap[w.heap.size + 5]? = some (.deferred (some [])) := (fj _ (by omega) (by omega)).trans (by rw [hs0] at q5; exact q5)
        try simp only [hs0]
        refine ⟨by simp, .inl ⟨_, _, rfl, run_takeDeferred hKF, ?_⟩⟩
        exact ⟨_, dirs_res rfl rfl (dirs_cellOf ((World.putObj_heap_other (by omega)).trans f0)) (dirs_cellOf ((World.putObj_heap_other (by omega)).trans f1)), _, rfl, Kd.R_nil _ _ _ _ _, hBF.trans (belowK_b (w := w) (Nat.le_refl _) F (w.heap.size + 5) _ _ (by omega) hKF rfl rfl)⟩
      | false =>
        rw [if_neg (by simp)] at h
        injection h with h
        injection h with hr1 hr2
        subst hr1; subst hr2
        gi_wp2_with (refine ⟨trivial, ?_⟩; gi_at_call 28; refine (htc _).mono ?_; rintro e w1 ⟨rfl, hb1⟩; have q0 := (hb1.block _ (by omega)).trans h0; have q1h := (hb1.block _ (by omega)).trans h1; have q5 := (hb1.block _ (by omega)).trans hK; have cA := dirs_cellOf q0; have fA := dirs_frozenOf q0; have cB := dirs_cellOf q1h; have fB := dirs_frozenOf q1h; have cL1 : w1.cell? ⟨w.heap.size + 1 + 1, 0, none⟩ = some (.slice (some ⟨g', 0, none⟩) 8 cap') := dirs_cellOf ((hb1.block _ (by omega)).trans h2))
        obtain ⟨F, hF⟩ : ∃ F, (w1.setCell ⟨w.heap.size, 0, none⟩ (Value.slice (some ⟨g', 0, none⟩) 8 cap')).setCell ⟨w.heap.size + 1, 0, none⟩ (Value.int .i64 0) = F := ⟨_, rfl⟩
        obtain ⟨f0, f1, fj, fs, fo, ft, fp⟩ := dirs_two q0 q1h _ _ F hF
        rw [hF]
        have hs1 := hb1.size
        have hBF : Below w.heap.size w F := hB.trans ⟨fo.trans hb1.os, ft.trans hb1.tape, fp.trans hb1.output, by omega, fun k hk => (fj k (by omega) (by omega)).trans (hb1.block k (by omega))⟩
        have hKF : F.heap[w.heap.size + 5]? = some (.deferred (some [])) := (fj _ (by omega) (by omega)).trans (by rw [hs0] at q5; exact q5)
        try simp only [hs0]
        refine ⟨by simp, .inl ⟨_, _, rfl, run_takeDeferred hKF, ?_⟩⟩
        have hRF : Kd.R k27 27 (F.putObj (w.heap.size + 5) (.deferred none)) w.heap.size (fun _ => True) (.slice (some ⟨g', 0, none⟩) 8 cap') xs8 := by
          refine Kd.R_lower (base := w.heap.size + 7) ?_ (by omega)
          refine Kd.R_mono (Kd.R_step (Kd.R_bound HR.out) (fun k hk hlt => ?_)) (fun _ _ => trivial)
          have hk7 := hk.2.1
          exact (World.putObj_heap_other (by omega)).trans ((fj k (by omega) (by omega)).trans (hb1.block k hlt))
        exact ⟨_, dirs_res rfl rfl (dirs_cellOf ((World.putObj_heap_other (by omega)).trans f0)) (dirs_cellOf ((World.putObj_heap_other (by omega)).trans f1)), _, rfl, hRF, hBF.trans (belowK_b (w := w) (Nat.le_refl _) F (w.heap.size + 5) _ _ (by omega) hKF rfl rfl)⟩
    case stop =>
      rintro pre W ⟨j, hj1, hj2, rfl⟩ ⟨⟨xs, hents⟩, h0, h1, hB⟩ hK
      rw [List.length_range] at hents
      obtain rfl : b8 = false := dirs_ents_false k l0 j xs hents 8 (b8, xs8) hj2 h8
      rw [if_neg (by simp)] at h
      injection h with h
      injection h with hr1 hr2
      subst hr1; subst hr2
      gi_wp2
      refine ⟨by simp, .inl ⟨_, _, rfl, run_takeDeferred hK, ?_⟩⟩
      exact ⟨_, dirs_res rfl rfl (dirs_cellOf ((World.putObj_heap_other (by omega)).trans h0)) (dirs_cellOf ((World.putObj_heap_other (by omega)).trans h1)), _, rfl, Kd.R_nil _ _ _ _ _, hB.trans (belowK_b (w := w) (Nat.le_refl _) W W0.heap.size _ _ (by omega) hK rfl rfl)⟩
  · rw [if_neg (by omega)] at h
    injection h with h
    injection h with h1 h2
    subst h1; subst h2
    have t1 : ((l0.length : Int) != 128) = true := bne_iff_ne.mpr (by omega)
    gi_wp2
    refine ⟨_, dirs_res rfl rfl ?_ ?_, ⟨_, rfl, Kd.R_nil _ _ _ _ _, below_alloc (below_alloc (Below.refl _ _) _) _⟩⟩
    · exact (World.grownBy_alloc _ _ none).cell (dirs_newCell _ _ _) (by simp)
    · have := dirs_newCell (w.alloc (.cells #[Value.slice none 0 0] 23)) (.int .i64 6) 28
      rwa [World.size_alloc] at this
theorem dirs_setHeapN {W : World} {b o : Nat} {cs : Array Value} {t : TypeId} (h : W.heap[b]? = some (.cells cs t (0, 0))) (v : Value) :
    (W.setCell ⟨b, o, none⟩ v).heap[b]? = some (.cells (cs.setIfInBounds o v) t (0, 0)) := by
  obtain ⟨hlt, hk⟩ := Array.getElem?_eq_some_iff.1 h
  show (W.heap.modify b _)[b]? = _
  rw [Array.getElem?_eq_getElem (by rw [Array.size_modify]; exact hlt), Array.getElem_modify_self, hk]
  rfl
theorem dirs_setHeap2 {W : World} {b : Nat} {x y : Value} {t : TypeId} (h : W.heap[b]? = some (.cells #[x, y] t (0, 0))) (u v : Value) :
    ((W.setCell ⟨b, 0, none⟩ u).setCell ⟨b, 1, none⟩ v).heap[b]? = some (.cells #[u, v] t (0, 0)) := dirs_setHeapN (dirs_setHeapN h u) v
def dirs_ix (p : S27 → Bool) : List S27 → Int → Int
  | [], _ => -1
  | x :: r, i => if p x = true then i else dirs_ix p r (i + 1)
theorem dirs_ix_range (p : S27 → Bool) : ∀ (xs : List S27) (i : Int), 0 ≤ i → dirs_ix p xs i = -1 ∨ (i ≤ dirs_ix p xs i ∧ dirs_ix p xs i < i + xs.length)
  | [], i, h => .inl rfl
  | x :: r, i, h => by
    unfold dirs_ix
    split
    · right; simp; omega
    · rcases dirs_ix_range p r (i + 1) (by omega) with h1 | h1
      · exact .inl h1
      · right; simp only [List.length_cons]; omega
def dirs_el (p : S27 → Bool) (xs : List S27) : S27 := if dirs_ix p xs 0 < 0 then z27 else rd_T27 xs (dirs_ix p xs 0)
def dirs_at (p : S27 → Bool) (xs : List S27) : Int := if dirs_ix p xs 0 < 0 then 0 else dirs_ix p xs 0
theorem dirs_Decode_len (k : Nat) (l0 : List Int) (r1 : List S27) (r2 : Int) (h : dirs_Decode.f k l0 = some (r1, r2)) : r1.length < 1000000000000 := by
  unfold dirs_Decode.f at h
  split at h
  · obtain ⟨⟨b, xs⟩, h8, h⟩ := Option.bind_eq_some_iff.1 h
    dsimp only at h
    split at h
    next hb =>
      subst hb
      have := dirs_ents_len k l0 8 xs h8
      obtain ⟨t, _, h⟩ := Option.bind_eq_some_iff.1 h
      split at h <;> (injection h with h; injection h with h1 h2; subst h1) <;> simp <;> omega
    · injection h with h; injection h with h1 h2; subst h1; simp
  · injection h with h; injection h with h1 h2; subst h1; simp

-- NOT PRINTED: function 50 (api_Entry)

-- NOT PRINTED: function 33 (dirs_place)


/-! ### dirs_Find: function 15 -/
def dirs_pFind (a1 : ByteArray) (x : S27) : Bool := (x.f0 != 0) && (x.f1.toList == a1.toList)
theorem dirs_clFind (b : Nat) (a1 : ByteArray) (x : S27) (W : World) (hb : W.cell? ⟨b, 0, none⟩ = some (.string a1)) :
    Calls Try.prog 34 #[.agg #[.int .i64 x.f0, .string x.f1], .pointer (some ⟨b, 0, none⟩)] W fun e w' => e = .returned (.bool (dirs_pFind a1 x)) ∧ Below W.heap.size W w' := by
  refine (callsIn_wide (n := 1)).1 ?_
  refine callsIn_of_wp Try.func34 rfl trivial ?_ rfl
  simp only [Try.ntmps34, List.size_toArray, List.length_cons, List.length_nil, Nat.reduceAdd, Nat.reduceSub, Array.replicate_succ, Array.replicate_zero, List.push_toArray, List.append_toArray, List.nil_append, List.cons_append]
  have hb1 := (World.grownBy_alloc W (.cells #[.int .i64 x.f0, .string x.f1] 27) none).cell hb (by simp)
  unfold dirs_pFind
  by_cases hz : x.f0 = 0
  · have t1 : (x.f0 != 0) = false := bne_eq_false_iff_eq.mpr hz
    gi_wp2
    go_ret
    exact ⟨by rw [t1]; rfl, below_alloc (Below.refl _ _) _⟩
  · have t1 : (x.f0 != 0) = true := bne_iff_ne.mpr hz
    gi_wp2
    go_ret
    exact ⟨by rw [t1]; rfl, below_alloc (Below.refl _ _) _⟩
theorem dirs_indexFind (b : Nat) (a1 : ByteArray) (A : Option Addr) (c : Nat) (xs : List S27) (w : World) (hC : Kd.C k27 w A xs.length xs) (hc : xs.length ≤ c) (hlen : xs.length < 1000000000000) (HK : ∀ W : World, Below w.heap.size w W → W.cell? ⟨b, 0, none⟩ = some (.string a1)) :
    Calls Try.prog 50 #[.slice A xs.length c, .func (.func 34) #[] #[.pointer (some ⟨b, 0, none⟩)]] w fun e w' => e = .returned (.int .i64 (dirs_ix (dirs_pFind a1) xs 0)) ∧ Below w.heap.size w w' := by
  have HC := Aside0.mk hC
  clear hC
  refine (callsIn_wide (n := 1)).1 ?_
  refine callsIn_of_wp Try.func50 rfl trivial ?_ rfl
  simp only [Try.ntmps50, List.size_toArray, List.length_cons, List.length_nil, Nat.reduceAdd, Nat.reduceSub, Array.replicate_succ, Array.replicate_zero, List.push_toArray, List.append_toArray, List.nil_append, List.cons_append]
  gi_wp2
  gi_loopw [8] (fun v8 w' => ∃ i : Nat, v8 = .int .i64 (i : Int) ∧ i ≤ xs.length ∧ dirs_ix (dirs_pFind a1) xs 0 = dirs_ix (dirs_pFind a1) (xs.drop i) i ∧ Aside0 (Below w.heap.size w w')) (fun v8 _ => xs.length - (intOf v8).toNat)
  case atStart => exact ⟨0, rfl, Nat.zero_le _, rfl, ⟨Below.refl _ _⟩⟩
  case round =>
    obtain ⟨i, rfl, hi, hall, HB⟩ := hrel
    by_cases hlt : i < xs.length
    · have t1 : decide ((i : Int) < (xs.length : Int)) = true := decide_eq_true (by omega)
      obtain ⟨ad, rfl, hcell, hcell1⟩ := at_T27 (Kd.C_below HC.out HB.out) (i : Int) (by omega) (by omega)
      simp only [Int.toNat_natCast] at hcell hcell1
      have p1 : (0 : Int) ≤ (i : Int) := by omega
      have q1 : (i : Int) < (xs.length : Int) := by omega
      have hd : xs.drop i = rd_T27 xs i :: xs.drop (i + 1) := by
        rw [List.drop_eq_getElem_cons hlt]; simp [rd_T27, List.getD_eq_getElem?_getD, hlt]
      rw [hd] at hall
      generalize rd_T27 xs i = x at *
      rw [show dirs_ix (dirs_pFind a1) (x :: xs.drop (i + 1)) (i : Int) = if (dirs_pFind a1) x = true then (i : Int) else dirs_ix (dirs_pFind a1) (xs.drop (i + 1)) ((i : Int) + 1) from rfl] at hall
      have HL := Aside0.mk hall
      clear hall
      have hcl := fun (W : World) (hb : Below w.heap.size w W) => dirs_clFind b a1 x W (HK W hb)
      cases hn : (dirs_pFind a1) x with
      | true =>
        have HL' := HL.out
        rw [if_pos hn] at HL'
        have HL2 := Aside0.mk HL'
        clear HL'
        gi_wp2_with (refine ⟨trivial, ?_⟩; gi_at_call 34; refine (callsIn_wide.2 (hcl _ HB.out)).mono ?_; rw [hn]; rintro e w' ⟨rfl, hb⟩)
        go_ret
        have h1 := HL2.out
        exact ⟨by rw [h1]; rfl, below_step HB.out hb⟩
      | false =>
        have HL' := HL.out
        rw [if_neg (by rw [hn]; simp)] at HL'
        have HL2 := Aside0.mk HL'
        clear HL'
        gi_wp2_with (refine ⟨trivial, ?_⟩; gi_at_call 34; refine (callsIn_wide.2 (hcl _ HB.out)).mono ?_; rw [hn]; rintro e w' ⟨rfl, hb⟩)
        go_roundw
        case rel => exact ⟨i + 1, rfl, hlt, HL2.out.trans (congrArg (dirs_ix (dirs_pFind a1) _) (by omega)), ⟨below_step HB.out hb⟩⟩
        case measure =>
          show xs.length - ((i : Int) + 1).toNat < xs.length - ((i : Int)).toNat
          omega
    · obtain rfl : i = xs.length := by omega
      have t1 : decide ((xs.length : Int) < (xs.length : Int)) = false := decide_eq_false (by omega)
      rw [List.drop_length] at hall
      have HL := Aside0.mk hall
      clear hall
      gi_wp2
      go_ret
      exact ⟨by rw [HL.out]; rfl, HB.out⟩
theorem dirs_placeFind (k : Nat) (b : Nat) (a1 : ByteArray) (A0 : Option Addr) (c0 : Nat) (l0 : List Int) (r1 : List S27) (r2 : Int) (w : World) (hr0 : Kd.C (Kd.int .u8) w A0 l0.length l0) (hc0 : l0.length ≤ c0) (h : dirs_Decode.f k l0 = some (r1, r2)) (HK : ∀ W : World, Below w.heap.size w W → W.cell? ⟨b, 0, none⟩ = some (.string a1)) :
    Calls Try.prog 33 #[.slice A0 l0.length c0, .func (.func 34) #[] #[.pointer (some ⟨b, 0, none⟩)]] w fun e w' => e = .returned (.tuple #[.int .i64 (dirs_at (dirs_pFind a1) r1), .agg #[.int .i64 (dirs_el (dirs_pFind a1) r1).f0, .string (dirs_el (dirs_pFind a1) r1).f1], .bool (decide (0 ≤ dirs_ix (dirs_pFind a1) r1 0))]) ∧ Below w.heap.size w w' := by
  have HR0 := Aside0.mk hr0
  clear hr0
  have HD := Aside0.mk h
  have hlen := dirs_Decode_len k l0 r1 r2 h
  clear h
  refine (callsIn_wide (n := 1)).1 ?_
  refine callsIn_of_wp Try.func33 rfl trivial ?_ rfl
  simp only [Try.ntmps33, List.size_toArray, List.length_cons, List.length_nil, Nat.reduceAdd, Nat.reduceSub, Array.replicate_succ, Array.replicate_zero, List.push_toArray, List.append_toArray, List.nil_append, List.cons_append]
  have HB0 := Aside0.mk (below_alloc (Below.refl w.heap.size w) (.cells #[.int .i64 0, .string ⟨#[]⟩] 27))
  have hb0 := Aside0.mk <| World.alloc_heap_new w (.cells #[.int .i64 0, .string ⟨#[]⟩] 27)
  obtain ⟨ix, hix⟩ : ∃ ix, dirs_ix (dirs_pFind a1) r1 0 = ix := ⟨_, rfl⟩
  have hrg := dirs_ix_range (dirs_pFind a1) r1 0 (by omega)
  unfold dirs_at dirs_el
  rw [hix] at hrg ⊢
  by_cases hneg : ix < 0
  · have t1 : decide (ix < 0) = true := decide_eq_true hneg
    have t2 : decide (0 ≤ ix) = false := decide_eq_false (by omega)
    rw [if_pos hneg, if_pos hneg, t2]
    gi_wp2_with (first
    | (refine ⟨trivial, ?_⟩; gi_at_call 9; refine (callsIn_wide.2 (dirs_Decode.calls k A0 c0 l0 r1 r2 _ (Kd.C_below HR0.out HB0.out) hc0 HD.out)).mono ?_; rintro e w1 ⟨v0, rfl, hrr, hb1⟩; obtain ⟨A1, c1, rfl⟩ := Kd.R_slice hrr; have HR1 := Aside0.mk (Kd.R_reads' hrr); have HB1 := Aside0.mk (below_step HB0.out hb1); have hn1 := Aside0.mk ((hb1.block _ (by simp)).trans hb0.out); have hs1 := hb1.size; clear hb1 hrr)
    | (refine ⟨trivial, ?_⟩; gi_at_call 50; refine (callsIn_wide.2 (dirs_indexFind b a1 A1 c1 r1 _ HR1.out.2.2 HR1.out.2.1 hlen (fun W hb => HK W (below_step HB1.out hb)))).mono ?_; rintro e w2 ⟨rfl, hb2⟩; have HR2 := Aside0.mk (Kd.C_below HR1.out.2.2 hb2); have HB2 := Aside0.mk (below_step HB1.out hb2); have hn2 := (hb2.block _ (by simp at hs1; omega)).trans hn1.out; clear hb2; have cz0 : w2.cell? ⟨w.heap.size, 0, none⟩ = some (.int .i64 0) := (by simp [World.cell?, hn2]); have cz1 : w2.cell? ⟨w.heap.size, 1, none⟩ = some (.string ⟨#[]⟩) := (by simp [World.cell?, hn2]); have cf0 : w2.frozen? ⟨w.heap.size, 0, none⟩ = false := (by simp [World.frozen?, hn2]); have cf1 : w2.frozen? ⟨w.heap.size, 1, none⟩ = false := (by simp [World.frozen?, hn2]); rw [hix]))
    have hn3 := dirs_setHeap2 hn2 (.int .i64 0) (.string ⟨#[]⟩)
    refine bodyPost_ret (results_list (rs := [.tmp 4, .cell 5 27, .tmp 6]) (vs := [.int .i64 0, .agg #[.int .i64 0, .string ⟨#[]⟩], .bool false]) rfl (by simp) (.tmp (.cell w.heap.size 27 #[.int .i64 0, .string ⟨#[]⟩] (0, 0) _ rfl hn3 Try.underlying27 rfl (by kernel_rfl) (.tmp .nil)))) rfl ?_
    exact ⟨rfl, (HB2.out.setCell (p := ⟨w.heap.size, 0, none⟩) (Nat.le_refl _) _).setCell (p := ⟨w.heap.size, 1, none⟩) (Nat.le_refl _) _⟩
  · have t1 : decide (ix < 0) = false := decide_eq_false hneg
    have t2 : decide (0 ≤ ix) = true := decide_eq_true (by omega)
    rw [if_neg hneg, if_neg hneg, t2]
    obtain ⟨i, rfl⟩ : ∃ i : Nat, ix = (i : Int) := ⟨ix.toNat, by omega⟩
    have hil : i < r1.length := by omega
    have p1 : (0 : Int) ≤ (i : Int) := by omega
    have q1 : (i : Int) < (r1.length : Int) := by omega
    obtain ⟨el, hel⟩ : ∃ el, rd_T27 r1 (i : Int) = el := ⟨_, rfl⟩
    rw [hel]
    gi_wp2_with (first
    | (refine ⟨trivial, ?_⟩; gi_at_call 9; refine (callsIn_wide.2 (dirs_Decode.calls k A0 c0 l0 r1 r2 _ (Kd.C_below HR0.out HB0.out) hc0 HD.out)).mono ?_; rintro e w1 ⟨v0, rfl, hrr, hb1⟩; obtain ⟨A1, c1, rfl⟩ := Kd.R_slice hrr; have HR1 := Aside0.mk (Kd.R_reads' hrr); have HB1 := Aside0.mk (below_step HB0.out hb1); have hn1 := Aside0.mk ((hb1.block _ (by simp)).trans hb0.out); have hs1 := hb1.size; clear hb1 hrr)
    | (refine ⟨trivial, ?_⟩; gi_at_call 50; refine (callsIn_wide.2 (dirs_indexFind b a1 A1 c1 r1 _ HR1.out.2.2 HR1.out.2.1 hlen (fun W hb => HK W (below_step HB1.out hb)))).mono ?_; rintro e w2 ⟨rfl, hb2⟩; have HR2 := Aside0.mk (Kd.C_below HR1.out.2.2 hb2); have HB2 := Aside0.mk (below_step HB1.out hb2); have hn2 := (hb2.block _ (by simp at hs1; omega)).trans hn1.out; clear hb2; have cz0 : w2.cell? ⟨w.heap.size, 0, none⟩ = some (.int .i64 0) := (by simp [World.cell?, hn2]); have cz1 : w2.cell? ⟨w.heap.size, 1, none⟩ = some (.string ⟨#[]⟩) := (by simp [World.cell?, hn2]); have cf0 : w2.frozen? ⟨w.heap.size, 0, none⟩ = false := (by simp [World.frozen?, hn2]); have cf1 : w2.frozen? ⟨w.heap.size, 1, none⟩ = false := (by simp [World.frozen?, hn2]); rw [hix]; obtain ⟨ad, rfl, hcell, hcell1⟩ := at_T27 HR2.out (i : Int) (by omega) (by omega); simp only [Int.toNat_natCast] at hcell hcell1; rw [hel] at hcell hcell1))
    refine wpIn_wide.2 ?_
    refine start_ (n := 8) (S := fun w' => w'.cell? (ad.add (i * 2)) = some (.int .i64 el.f0) ∧ w'.cell? ⟨(ad.add (i * 2)).block, (ad.add (i * 2)).off + 1, none⟩ = some (.string el.f1)) (ds := [6]) #[false, false, false, false, false, false, false, false] (by kernel_rfl) rfl rfl ⟨hcell, hcell1⟩ (fun hHeld => ?_)
    refine pure_ (i := 0) (N := some 21) (v := ?_) (a' := ?_) #[true, false, false, false, false, false, false, false] rfl rfl (by kernel_rfl) (fun _ _ _ h => h) (Or.inl ⟨by rfl, ?_⟩) ?_ ?_
    rotate_left
    · intro w'
      go_simp
      with_reducible rfl
    rotate_left
    · simp only [Act.put, List.setIfInBounds_toArray, List.set_cons_zero, List.set_cons_succ, i64_w, i32_w]
      rfl
    refine pure_ (i := 1) (N := some 22) (v := ?_) (a' := ?_) #[true, true, false, false, false, false, false, false] rfl rfl (by kernel_rfl) (fun _ _ _ h => h) (Or.inl ⟨by rfl, ?_⟩) ?_ ?_
    rotate_left
    · intro w'
      go_simp
      with_reducible rfl
    rotate_left
    · simp only [Act.put, List.setIfInBounds_toArray, List.set_cons_zero, List.set_cons_succ, i64_w, i32_w]
      rfl
    refine pure_ (i := 2) (N := some 23) (v := ?_) (a' := ?_) #[true, true, true, false, false, false, false, false] rfl rfl (by kernel_rfl) (fun _ _ _ h => h) (Or.inl ⟨by rfl, ?_⟩) ?_ ?_
    rotate_left
    · intro w'
      go_simp
      with_reducible rfl
    rotate_left
    · simp only [Act.put, List.setIfInBounds_toArray, List.set_cons_zero, List.set_cons_succ, i64_w, i32_w]
      rfl
    refine pure_ (i := 3) (N := some 24) (v := ?_) (a' := ?_) #[true, true, true, true, false, false, false, false] rfl rfl (by kernel_rfl) (fun _ _ _ h => h) (Or.inl ⟨by rfl, ?_⟩) ?_ ?_
    rotate_left
    · intro w'
      go_simp
      with_reducible rfl
    rotate_left
    · simp only [Act.put, List.setIfInBounds_toArray, List.set_cons_zero, List.set_cons_succ, i64_w, i32_w]
      rfl
    refine pure_ (i := 5) (N := some 4) (v := ?_) (a' := ?_) #[true, true, true, true, false, true, false, false] rfl rfl (by kernel_rfl) (fun _ _ _ h => h) (Or.inl ⟨by rfl, ?_⟩) ?_ ?_
    rotate_left
    · intro w'
      go_simp
      with_reducible rfl
    rotate_left
    · simp only [Act.put, List.setIfInBounds_toArray, List.set_cons_zero, List.set_cons_succ, i64_w, i32_w]
      rfl
    refine take_ (i := 4) (N := some 25) (v := ?_) (a' := ?_) #[true, true, true, true, true, true, false, false] rfl rfl (by kernel_rfl) (fun _ _ _ h => h) (Or.inl ⟨by rfl, ?_⟩) hHeld ?_ ?_
    rotate_left
    · rintro w' ⟨s0, s1⟩
      go_simp
      with_reducible rfl
    rotate_left
    · simp only [Act.put, List.setIfInBounds_toArray, List.set_cons_zero, List.set_cons_succ, i64_w, i32_w]
      rfl
    refine last_ (i := 6) (N := none) #[true, true, true, true, true, true, true, false] rfl rfl (by kernel_rfl) (by decide) (fun K hK => ?_)
    refine skip_ (w1 := ?_) (by rfl) rfl ?_ ?_
    rotate_left
    · go_simp
      rfl
    refine hK.out _ _ ?_
    clear hK K
    refine pure_ (i := 7) (N := some 6) (v := ?_) (a' := ?_) #[true, true, true, true, true, true, true, true] rfl rfl (by kernel_rfl) (fun _ _ _ h => h) (Or.inl ⟨by rfl, ?_⟩) ?_ ?_
    rotate_left
    · intro w'
      go_simp
      with_reducible rfl
    rotate_left
    · simp only [Act.put, List.setIfInBounds_toArray, List.set_cons_zero, List.set_cons_succ, i64_w, i32_w]
      rfl
    refine done_ (by kernel_rfl) ?_

    gi_wp2
    have hn3 := dirs_setHeap2 hn2 (.int .i64 el.f0) (.string el.f1)
    refine bodyPost_ret (results_list (rs := [.tmp 4, .cell 5 27, .tmp 6]) (vs := [.int .i64 i, .agg #[.int .i64 el.f0, .string el.f1], .bool true]) rfl (by simp) (.tmp (.cell w.heap.size 27 #[.int .i64 el.f0, .string el.f1] (0, 0) _ rfl hn3 Try.underlying27 rfl (by kernel_rfl) (.tmp .nil)))) rfl ?_
    exact ⟨rfl, below_drew1 ((HB2.out.setCell (p := ⟨w.heap.size, 0, none⟩) (Nat.le_refl _) _).setCell (p := ⟨w.heap.size, 1, none⟩) (Nat.le_refl _) _)⟩
def dirs_Find.f (k : Nat) (l0 : List Int) (a1 : ByteArray) : Option (Int × Int × Bool) := (dirs_Decode.f k l0).bind fun d => some (dirs_at (dirs_pFind a1) d.1, (dirs_el (dirs_pFind a1) d.1).f0, decide (0 ≤ dirs_ix (dirs_pFind a1) d.1 0))
theorem dirs_Find.mono : ∀ a0 a1 k, LeO (dirs_Find.f k a0 a1) (dirs_Find.f (k + 1) a0 a1) := fun _ _ _ => LeO.bind (dirs_Decode.mono _ _) (fun _ => LeO.refl _)
theorem dirs_Find.calls (k : Nat) (A0 : Option Addr) (c0 : Nat) (l0 : List Int) (a1 : ByteArray) (r1 : Int) (r2 : Int) (r3 : Bool) (w : World) (hr0 : Kd.C (Kd.int .u8) w A0 l0.length l0) (hc0 : l0.length ≤ c0) (h : dirs_Find.f k l0 a1 = some (r1, r2, r3)) :
    Calls Try.prog 15 #[.slice A0 l0.length c0, .string a1] w fun e w' => e = .returned (.tuple #[.int .i64 r1, .int .i64 r2, .bool r3]) ∧ Below w.heap.size w w' := by
  obtain ⟨⟨xs, d2⟩, hd, h⟩ := Option.bind_eq_some_iff.1 h
  injection h with h
  injection h with h1 h2
  injection h2 with h2 h3
  subst h1; subst h2; subst h3
  have HD := Aside0.mk hd
  have HB := Aside0.mk (below_alloc (Below.refl w.heap.size w) (.cells #[.string a1] 9))
  have HR := Aside0.mk (Kd.C_below hr0 HB.out)
  have hbx := World.alloc_heap_new w (.cells #[.string a1] 9)
  have HK := Aside0.mk (fun (W : World) (hb : Below (w.alloc (.cells #[.string a1] 9)).heap.size (w.alloc (.cells #[.string a1] 9)) W) => dirs_cellOf ((hb.block w.heap.size (by simp)).trans hbx))
  clear hd hr0 hbx
  refine (callsIn_wide (n := 1)).1 ?_
  refine callsIn_of_wp Try.func15 rfl trivial ?_ rfl
  simp only [Try.ntmps15, List.size_toArray, List.length_cons, List.length_nil, Nat.reduceAdd, Nat.reduceSub, Array.replicate_succ, Array.replicate_zero, List.push_toArray, List.append_toArray, List.nil_append, List.cons_append]
  gi_wp2_with (refine ⟨trivial, ?_⟩; gi_at_call 33; refine (callsIn_wide.2 (dirs_placeFind k w.heap.size a1 A0 c0 l0 xs d2 _ HR.out hc0 HD.out HK.out)).mono ?_; rintro e w' ⟨rfl, hb⟩)
  refine wpIn_wide.2 ?_
  go_quiet (fail)
  gi_wp2
  refine bodyPost_ret (results_tmp3 rfl _ _ _) rfl ?_
  exact ⟨rfl, pw_below_drewN (below_alloc (below_step HB.out hb) _) _⟩


/-! ### dirs_Free: function 17 -/
def dirs_pFree (x : S27) : Bool := x.f0 == 0
theorem dirs_clFree (x : S27) (W : World) :
    Calls Try.prog 35 #[.agg #[.int .i64 x.f0, .string x.f1]] W fun e w' => e = .returned (.bool (dirs_pFree x)) ∧ Below W.heap.size W w' := by
  refine (callsIn_wide (n := 1)).1 ?_
  refine callsIn_of_wp Try.func35 rfl trivial ?_ rfl
  simp only [Try.ntmps35, List.size_toArray, List.length_cons, List.length_nil, Nat.reduceAdd, Nat.reduceSub, Array.replicate_succ, Array.replicate_zero, List.push_toArray, List.append_toArray, List.nil_append, List.cons_append]
  gi_wp2
  go_ret
  exact ⟨rfl, below_alloc (Below.refl _ _) _⟩
theorem dirs_indexFree  (A : Option Addr) (c : Nat) (xs : List S27) (w : World) (hC : Kd.C k27 w A xs.length xs) (hc : xs.length ≤ c) (hlen : xs.length < 1000000000000) :
    Calls Try.prog 50 #[.slice A xs.length c, .func (.func 35) #[] #[]] w fun e w' => e = .returned (.int .i64 (dirs_ix (dirs_pFree) xs 0)) ∧ Below w.heap.size w w' := by
  have HC := Aside0.mk hC
  clear hC
  refine (callsIn_wide (n := 1)).1 ?_
  refine callsIn_of_wp Try.func50 rfl trivial ?_ rfl
  simp only [Try.ntmps50, List.size_toArray, List.length_cons, List.length_nil, Nat.reduceAdd, Nat.reduceSub, Array.replicate_succ, Array.replicate_zero, List.push_toArray, List.append_toArray, List.nil_append, List.cons_append]
  gi_wp2
  gi_loopw [8] (fun v8 w' => ∃ i : Nat, v8 = .int .i64 (i : Int) ∧ i ≤ xs.length ∧ dirs_ix (dirs_pFree) xs 0 = dirs_ix (dirs_pFree) (xs.drop i) i ∧ Aside0 (Below w.heap.size w w')) (fun v8 _ => xs.length - (intOf v8).toNat)
  case atStart => exact ⟨0, rfl, Nat.zero_le _, rfl, ⟨Below.refl _ _⟩⟩
  case round =>
    obtain ⟨i, rfl, hi, hall, HB⟩ := hrel
    by_cases hlt : i < xs.length
    · have t1 : decide ((i : Int) < (xs.length : Int)) = true := decide_eq_true (by omega)
      obtain ⟨ad, rfl, hcell, hcell1⟩ := at_T27 (Kd.C_below HC.out HB.out) (i : Int) (by omega) (by omega)
      simp only [Int.toNat_natCast] at hcell hcell1
      have p1 : (0 : Int) ≤ (i : Int) := by omega
      have q1 : (i : Int) < (xs.length : Int) := by omega
      have hd : xs.drop i = rd_T27 xs i :: xs.drop (i + 1) := by
        rw [List.drop_eq_getElem_cons hlt]; simp [rd_T27, List.getD_eq_getElem?_getD, hlt]
      rw [hd] at hall
      generalize rd_T27 xs i = x at *
      rw [show dirs_ix (dirs_pFree) (x :: xs.drop (i + 1)) (i : Int) = if (dirs_pFree) x = true then (i : Int) else dirs_ix (dirs_pFree) (xs.drop (i + 1)) ((i : Int) + 1) from rfl] at hall
      have HL := Aside0.mk hall
      clear hall
      have hcl := fun (W : World) (hb : Below w.heap.size w W) => dirs_clFree x W
      cases hn : (dirs_pFree) x with
      | true =>
        have HL' := HL.out
        rw [if_pos hn] at HL'
        have HL2 := Aside0.mk HL'
        clear HL'
        gi_wp2_with (refine ⟨trivial, ?_⟩; gi_at_call 35; refine (callsIn_wide.2 (hcl _ HB.out)).mono ?_; rw [hn]; rintro e w' ⟨rfl, hb⟩)
        go_ret
        have h1 := HL2.out
        exact ⟨by rw [h1]; rfl, below_step HB.out hb⟩
      | false =>
        have HL' := HL.out
        rw [if_neg (by rw [hn]; simp)] at HL'
        have HL2 := Aside0.mk HL'
        clear HL'
        gi_wp2_with (refine ⟨trivial, ?_⟩; gi_at_call 35; refine (callsIn_wide.2 (hcl _ HB.out)).mono ?_; rw [hn]; rintro e w' ⟨rfl, hb⟩)
        go_roundw
        case rel => exact ⟨i + 1, rfl, hlt, HL2.out.trans (congrArg (dirs_ix (dirs_pFree) _) (by omega)), ⟨below_step HB.out hb⟩⟩
        case measure =>
          show xs.length - ((i : Int) + 1).toNat < xs.length - ((i : Int)).toNat
          omega
    · obtain rfl : i = xs.length := by omega
      have t1 : decide ((xs.length : Int) < (xs.length : Int)) = false := decide_eq_false (by omega)
      rw [List.drop_length] at hall
      have HL := Aside0.mk hall
      clear hall
      gi_wp2
      go_ret
      exact ⟨by rw [HL.out]; rfl, HB.out⟩
theorem dirs_placeFree (k : Nat)  (A0 : Option Addr) (c0 : Nat) (l0 : List Int) (r1 : List S27) (r2 : Int) (w : World) (hr0 : Kd.C (Kd.int .u8) w A0 l0.length l0) (hc0 : l0.length ≤ c0) (h : dirs_Decode.f k l0 = some (r1, r2)) :
    Calls Try.prog 33 #[.slice A0 l0.length c0, .func (.func 35) #[] #[]] w fun e w' => e = .returned (.tuple #[.int .i64 (dirs_at (dirs_pFree) r1), .agg #[.int .i64 (dirs_el (dirs_pFree) r1).f0, .string (dirs_el (dirs_pFree) r1).f1], .bool (decide (0 ≤ dirs_ix (dirs_pFree) r1 0))]) ∧ Below w.heap.size w w' := by
  have HR0 := Aside0.mk hr0
  clear hr0
  have HD := Aside0.mk h
  have hlen := dirs_Decode_len k l0 r1 r2 h
  clear h
  refine (callsIn_wide (n := 1)).1 ?_
  refine callsIn_of_wp Try.func33 rfl trivial ?_ rfl
  simp only [Try.ntmps33, List.size_toArray, List.length_cons, List.length_nil, Nat.reduceAdd, Nat.reduceSub, Array.replicate_succ, Array.replicate_zero, List.push_toArray, List.append_toArray, List.nil_append, List.cons_append]
  have HB0 := Aside0.mk (below_alloc (Below.refl w.heap.size w) (.cells #[.int .i64 0, .string ⟨#[]⟩] 27))
  have hb0 := Aside0.mk <| World.alloc_heap_new w (.cells #[.int .i64 0, .string ⟨#[]⟩] 27)
  obtain ⟨ix, hix⟩ : ∃ ix, dirs_ix (dirs_pFree) r1 0 = ix := ⟨_, rfl⟩
  have hrg := dirs_ix_range (dirs_pFree) r1 0 (by omega)
  unfold dirs_at dirs_el
  rw [hix] at hrg ⊢
  by_cases hneg : ix < 0
  · have t1 : decide (ix < 0) = true := decide_eq_true hneg
    have t2 : decide (0 ≤ ix) = false := decide_eq_false (by omega)
    rw [if_pos hneg, if_pos hneg, t2]
    gi_wp2_with (first
    | (refine ⟨trivial, ?_⟩; gi_at_call 9; refine (callsIn_wide.2 (dirs_Decode.calls k A0 c0 l0 r1 r2 _ (Kd.C_below HR0.out HB0.out) hc0 HD.out)).mono ?_; rintro e w1 ⟨v0, rfl, hrr, hb1⟩; obtain ⟨A1, c1, rfl⟩ := Kd.R_slice hrr; have HR1 := Aside0.mk (Kd.R_reads' hrr); have HB1 := Aside0.mk (below_step HB0.out hb1); have hn1 := Aside0.mk ((hb1.block _ (by simp)).trans hb0.out); have hs1 := hb1.size; clear hb1 hrr)
    | (refine ⟨trivial, ?_⟩; gi_at_call 50; refine (callsIn_wide.2 (dirs_indexFree A1 c1 r1 _ HR1.out.2.2 HR1.out.2.1 hlen)).mono ?_; rintro e w2 ⟨rfl, hb2⟩; have HR2 := Aside0.mk (Kd.C_below HR1.out.2.2 hb2); have HB2 := Aside0.mk (below_step HB1.out hb2); have hn2 := (hb2.block _ (by simp at hs1; omega)).trans hn1.out; clear hb2; have cz0 : w2.cell? ⟨w.heap.size, 0, none⟩ = some (.int .i64 0) := (by simp [World.cell?, hn2]); have cz1 : w2.cell? ⟨w.heap.size, 1, none⟩ = some (.string ⟨#[]⟩) := (by simp [World.cell?, hn2]); have cf0 : w2.frozen? ⟨w.heap.size, 0, none⟩ = false := (by simp [World.frozen?, hn2]); have cf1 : w2.frozen? ⟨w.heap.size, 1, none⟩ = false := (by simp [World.frozen?, hn2]); rw [hix]))
    have hn3 := dirs_setHeap2 hn2 (.int .i64 0) (.string ⟨#[]⟩)
    refine bodyPost_ret (results_list (rs := [.tmp 4, .cell 5 27, .tmp 6]) (vs := [.int .i64 0, .agg #[.int .i64 0, .string ⟨#[]⟩], .bool false]) rfl (by simp) (.tmp (.cell w.heap.size 27 #[.int .i64 0, .string ⟨#[]⟩] (0, 0) _ rfl hn3 Try.underlying27 rfl (by kernel_rfl) (.tmp .nil)))) rfl ?_
    exact ⟨rfl, (HB2.out.setCell (p := ⟨w.heap.size, 0, none⟩) (Nat.le_refl _) _).setCell (p := ⟨w.heap.size, 1, none⟩) (Nat.le_refl _) _⟩
  · have t1 : decide (ix < 0) = false := decide_eq_false hneg
    have t2 : decide (0 ≤ ix) = true := decide_eq_true (by omega)
    rw [if_neg hneg, if_neg hneg, t2]
    obtain ⟨i, rfl⟩ : ∃ i : Nat, ix = (i : Int) := ⟨ix.toNat, by omega⟩
    have hil : i < r1.length := by omega
    have p1 : (0 : Int) ≤ (i : Int) := by omega
    have q1 : (i : Int) < (r1.length : Int) := by omega
    obtain ⟨el, hel⟩ : ∃ el, rd_T27 r1 (i : Int) = el := ⟨_, rfl⟩
    rw [hel]
    gi_wp2_with (first
    | (refine ⟨trivial, ?_⟩; gi_at_call 9; refine (callsIn_wide.2 (dirs_Decode.calls k A0 c0 l0 r1 r2 _ (Kd.C_below HR0.out HB0.out) hc0 HD.out)).mono ?_; rintro e w1 ⟨v0, rfl, hrr, hb1⟩; obtain ⟨A1, c1, rfl⟩ := Kd.R_slice hrr; have HR1 := Aside0.mk (Kd.R_reads' hrr); have HB1 := Aside0.mk (below_step HB0.out hb1); have hn1 := Aside0.mk ((hb1.block _ (by simp)).trans hb0.out); have hs1 := hb1.size; clear hb1 hrr)
    | (refine ⟨trivial, ?_⟩; gi_at_call 50; refine (callsIn_wide.2 (dirs_indexFree A1 c1 r1 _ HR1.out.2.2 HR1.out.2.1 hlen)).mono ?_; rintro e w2 ⟨rfl, hb2⟩; have HR2 := Aside0.mk (Kd.C_below HR1.out.2.2 hb2); have HB2 := Aside0.mk (below_step HB1.out hb2); have hn2 := (hb2.block _ (by simp at hs1; omega)).trans hn1.out; clear hb2; have cz0 : w2.cell? ⟨w.heap.size, 0, none⟩ = some (.int .i64 0) := (by simp [World.cell?, hn2]); have cz1 : w2.cell? ⟨w.heap.size, 1, none⟩ = some (.string ⟨#[]⟩) := (by simp [World.cell?, hn2]); have cf0 : w2.frozen? ⟨w.heap.size, 0, none⟩ = false := (by simp [World.frozen?, hn2]); have cf1 : w2.frozen? ⟨w.heap.size, 1, none⟩ = false := (by simp [World.frozen?, hn2]); rw [hix]; obtain ⟨ad, rfl, hcell, hcell1⟩ := at_T27 HR2.out (i : Int) (by omega) (by omega); simp only [Int.toNat_natCast] at hcell hcell1; rw [hel] at hcell hcell1))
    refine wpIn_wide.2 ?_
    refine start_ (n := 8) (S := fun w' => w'.cell? (ad.add (i * 2)) = some (.int .i64 el.f0) ∧ w'.cell? ⟨(ad.add (i * 2)).block, (ad.add (i * 2)).off + 1, none⟩ = some (.string el.f1)) (ds := [6]) #[false, false, false, false, false, false, false, false] (by kernel_rfl) rfl rfl ⟨hcell, hcell1⟩ (fun hHeld => ?_)
    refine pure_ (i := 0) (N := some 21) (v := ?_) (a' := ?_) #[true, false, false, false, false, false, false, false] rfl rfl (by kernel_rfl) (fun _ _ _ h => h) (Or.inl ⟨by rfl, ?_⟩) ?_ ?_
    rotate_left
    · intro w'
      go_simp
      with_reducible rfl
    rotate_left
    · simp only [Act.put, List.setIfInBounds_toArray, List.set_cons_zero, List.set_cons_succ, i64_w, i32_w]
      rfl
    refine pure_ (i := 1) (N := some 22) (v := ?_) (a' := ?_) #[true, true, false, false, false, false, false, false] rfl rfl (by kernel_rfl) (fun _ _ _ h => h) (Or.inl ⟨by rfl, ?_⟩) ?_ ?_
    rotate_left
    · intro w'
      go_simp
      with_reducible rfl
    rotate_left
    · simp only [Act.put, List.setIfInBounds_toArray, List.set_cons_zero, List.set_cons_succ, i64_w, i32_w]
      rfl
    refine pure_ (i := 2) (N := some 23) (v := ?_) (a' := ?_) #[true, true, true, false, false, false, false, false] rfl rfl (by kernel_rfl) (fun _ _ _ h => h) (Or.inl ⟨by rfl, ?_⟩) ?_ ?_
    rotate_left
    · intro w'
      go_simp
      with_reducible rfl
    rotate_left
    · simp only [Act.put, List.setIfInBounds_toArray, List.set_cons_zero, List.set_cons_succ, i64_w, i32_w]
      rfl
    refine pure_ (i := 3) (N := some 24) (v := ?_) (a' := ?_) #[true, true, true, true, false, false, false, false] rfl rfl (by kernel_rfl) (fun _ _ _ h => h) (Or.inl ⟨by rfl, ?_⟩) ?_ ?_
    rotate_left
    · intro w'
      go_simp
      with_reducible rfl
    rotate_left
    · simp only [Act.put, List.setIfInBounds_toArray, List.set_cons_zero, List.set_cons_succ, i64_w, i32_w]
      rfl
    refine pure_ (i := 5) (N := some 4) (v := ?_) (a' := ?_) #[true, true, true, true, false, true, false, false] rfl rfl (by kernel_rfl) (fun _ _ _ h => h) (Or.inl ⟨by rfl, ?_⟩) ?_ ?_
    rotate_left
    · intro w'
      go_simp
      with_reducible rfl
    rotate_left
    · simp only [Act.put, List.setIfInBounds_toArray, List.set_cons_zero, List.set_cons_succ, i64_w, i32_w]
      rfl
    refine take_ (i := 4) (N := some 25) (v := ?_) (a' := ?_) #[true, true, true, true, true, true, false, false] rfl rfl (by kernel_rfl) (fun _ _ _ h => h) (Or.inl ⟨by rfl, ?_⟩) hHeld ?_ ?_
    rotate_left
    · rintro w' ⟨s0, s1⟩
      go_simp
      with_reducible rfl
    rotate_left
    · simp only [Act.put, List.setIfInBounds_toArray, List.set_cons_zero, List.set_cons_succ, i64_w, i32_w]
      rfl
    refine last_ (i := 6) (N := none) #[true, true, true, true, true, true, true, false] rfl rfl (by kernel_rfl) (by decide) (fun K hK => ?_)
    refine skip_ (w1 := ?_) (by rfl) rfl ?_ ?_
    rotate_left
    · go_simp
      rfl
    refine hK.out _ _ ?_
    clear hK K
    refine pure_ (i := 7) (N := some 6) (v := ?_) (a' := ?_) #[true, true, true, true, true, true, true, true] rfl rfl (by kernel_rfl) (fun _ _ _ h => h) (Or.inl ⟨by rfl, ?_⟩) ?_ ?_
    rotate_left
    · intro w'
      go_simp
      with_reducible rfl
    rotate_left
    · simp only [Act.put, List.setIfInBounds_toArray, List.set_cons_zero, List.set_cons_succ, i64_w, i32_w]
      rfl
    refine done_ (by kernel_rfl) ?_

    gi_wp2
    have hn3 := dirs_setHeap2 hn2 (.int .i64 el.f0) (.string el.f1)
    refine bodyPost_ret (results_list (rs := [.tmp 4, .cell 5 27, .tmp 6]) (vs := [.int .i64 i, .agg #[.int .i64 el.f0, .string el.f1], .bool true]) rfl (by simp) (.tmp (.cell w.heap.size 27 #[.int .i64 el.f0, .string el.f1] (0, 0) _ rfl hn3 Try.underlying27 rfl (by kernel_rfl) (.tmp .nil)))) rfl ?_
    exact ⟨rfl, below_drew1 ((HB2.out.setCell (p := ⟨w.heap.size, 0, none⟩) (Nat.le_refl _) _).setCell (p := ⟨w.heap.size, 1, none⟩) (Nat.le_refl _) _)⟩
def dirs_Free.f (k : Nat) (l0 : List Int) : Option (Int × Bool) := (dirs_Decode.f k l0).bind fun d => some (dirs_at dirs_pFree d.1, decide (0 ≤ dirs_ix dirs_pFree d.1 0))
theorem dirs_Free.mono : ∀ a0 k, LeO (dirs_Free.f k a0) (dirs_Free.f (k + 1) a0) := fun _ _ => LeO.bind (dirs_Decode.mono _ _) (fun _ => LeO.refl _)
theorem dirs_Free.calls (k : Nat) (A0 : Option Addr) (c0 : Nat) (l0 : List Int) (r1 : Int) (r2 : Bool) (w : World) (hr0 : Kd.C (Kd.int .u8) w A0 l0.length l0) (hc0 : l0.length ≤ c0) (h : dirs_Free.f k l0 = some (r1, r2)) :
    Calls Try.prog 17 #[.slice A0 l0.length c0] w fun e w' => e = .returned (.tuple #[.int .i64 r1, .bool r2]) ∧ Below w.heap.size w w' := by
  obtain ⟨⟨xs, d2⟩, hd, h⟩ := Option.bind_eq_some_iff.1 h
  injection h with h
  injection h with h1 h2
  subst h1; subst h2
  have HD := Aside0.mk hd
  have HR := Aside0.mk hr0
  clear hd hr0
  refine (callsIn_wide (n := 1)).1 ?_
  refine callsIn_of_wp Try.func17 rfl trivial ?_ rfl
  simp only [Try.ntmps17, List.size_toArray, List.length_cons, List.length_nil, Nat.reduceAdd, Nat.reduceSub, Array.replicate_succ, Array.replicate_zero, List.push_toArray, List.append_toArray, List.nil_append, List.cons_append]
  gi_wp2_with (refine ⟨trivial, ?_⟩; gi_at_call 33; refine (callsIn_wide.2 (dirs_placeFree k A0 c0 l0 xs d2 _ HR.out hc0 HD.out)).mono ?_; rintro e w' ⟨rfl, hb⟩)
  refine bodyPost_ret (results_tmp2 rfl _ _ _) rfl ?_
  exact ⟨rfl, by repeat (first | exact hb | refine below_alloc ?_ _)⟩


/-! ### slices_Clone_byte_byte: function 51 -/
def slices_Clone_byte_byte.f (l0 : List Int) : Option (List Int) := if l0.length < 140737488355328 then some l0 else none
set_option maxHeartbeats 8000000 in
set_option maxRecDepth 100000 in
theorem slices_Clone_byte_byte.calls (A0 : Option Addr) (c0 : Nat) (l0 : List Int) (r : List Int) (w : World) (hr0 : Kd.C (Kd.int .u8) w A0 l0.length l0) (hc0 : l0.length ≤ c0) (h : slices_Clone_byte_byte.f l0 = some r) :
    Calls Try.prog 51 #[.slice A0 l0.length c0] w fun e w' => ∃ v0_ : Value, e = .returned (v0_) ∧ Kd.R (Kd.int .u8) 5 w' w.heap.size (fun _ => True) v0_ r ∧ Below w.heap.size w w' := by
  unfold slices_Clone_byte_byte.f at h
  split at h
  next hlim =>
    obtain rfl := Option.some.inj h
    clear h
    have HR0 := Aside0.mk hr0
    clear hr0 hc0
    have HB := Aside0.mk (Below.refl w.heap.size w)
    have LM := Aside0.mk hlim
    clear hlim
    cases A0 with
    | none =>
      have hnil : l0 = [] := by
        by_cases hl : 0 < l0.length
        · obtain ⟨_, h1, _⟩ := HR0.out.2.2 hl
          cases h1
        · exact List.eq_nil_of_length_eq_zero (by omega)
      subst hnil
      have E1 : ∀ (n c : Nat) (W : World), (binOp .eql 22 (.slice none n c) (.slice none 0 0)).run Try.prog W = .ok (.bool true) W := fun n c W => by rfl
      go_enter Try.func51, Try.ntmps51
      go_wp2
      go_ret
      exact ⟨_, rfl, Kd.R_nil _ _ _ _ _, HB.out⟩
    | some ad =>
      have E1 : ∀ (n c : Nat) (W : World), (binOp .eql 22 (.slice (some ad) n c) (.slice none 0 0)).run Try.prog W = .ok (.bool false) W := fun n c W => by rfl
      go_enter Try.func51, Try.ntmps51
      go_wp2_with (first
        | ((with_reducible refine gate_dst (N := 5) rfl ?_); refine Kd.R_lit (Kd.int .u8) (w0 := w) w.heap.size 5 rfl (N := 5) rfl (xs := ([] : List Int)) (inner := []) (ok := fun _ => True) (okp := fun _ => True) ?hr (Reps.none _ _) (fun _ hk => hk) trivial HB.out (Nat.le_refl _) (by simp) ?_; (case hr => first | (go_simp; done) | (go_simp; rfl)); intro v1 w1 ho1 hb1 _ _; have HO1 := Aside0.mk ho1; have HB1 := Aside0.mk hb1; clear ho1 hb1)
        | ((with_reducible refine gate_builtin (b := .append) (xs := #[.tmp 5, .tmp 6]) rfl ?_); at_builtin; refine Kd.R_append_rows (Kd.int .u8) (w0 := w) w.heap.size rfl (.tmp 5) (.tmp 6) 22 5 (.int .u8 0) 1 rfl Try.underlying22 info5 rfl (by decide) (by omega) v1 ([] : List Int) l0 _ _ _ (fun _ => True) (fun _ => False) rfl rfl HO1.out (Kd.C_below HR0.out HB1.out) (fun _ _ h => h) (fun _ h => h.elim) (fun _ _ => trivial) HB1.out HB1.out.size ?aL ?_; (case aL => have := LM.out; simp; omega); intro v2 w2 ho2 hb2 _ _; have HO2 := Aside0.mk ho2; have HB2 := Aside0.mk hb2; clear ho2 hb2))
      go_ret
      exact ⟨_, rfl, HO2.out, HB2.out⟩
  next => cases h


/-! ### dirs_with: function 36 -/
def dirs_with.f (k : Nat) (l0 : List Int) (a1 : Int) (a2_0 : Int) (a2_1 : ByteArray) : Option (List Int) := if l0.length = 128 ∧ 0 ≤ a1 ∧ a1 < 8 then (layout_EncodeEntry.f k a2_0 a2_1).bind fun t => (if t.1.length = 16 then some (l0.take (16 * a1.toNat) ++ t.1 ++ l0.drop (16 * a1.toNat + 16)) else none) else none
theorem dirs_with.mono : ∀ a0 a1 a2 a3 k, LeO (dirs_with.f k a0 a1 a2 a3) (dirs_with.f (k + 1) a0 a1 a2 a3) := fun _ _ _ _ _ => LeO.ite (LeO.bind (layout_EncodeEntry.mono _ _ _) (fun _ => LeO.refl _)) (LeO.refl _)
set_option maxHeartbeats 8000000 in
set_option maxRecDepth 100000 in
theorem dirs_with.calls (k : Nat) (A0 : Option Addr) (c0 : Nat) (l0 : List Int) (a1 : Int) (a2_0 : Int) (a2_1 : ByteArray) (r : List Int) (w : World) (hr0 : Kd.C (Kd.int .u8) w A0 l0.length l0) (hc0 : l0.length ≤ c0) (h : dirs_with.f k l0 a1 a2_0 a2_1 = some r) :
    Calls Try.prog 36 #[.slice A0 l0.length c0, .int .i64 a1, .agg #[.int .i64 a2_0, .string a2_1]] w fun e w' => ∃ v0_ : Value, e = .returned (v0_) ∧ Kd.R (Kd.int .u8) 5 w' w.heap.size (fun _ => True) v0_ r ∧ Below w.heap.size w w' := by
  unfold dirs_with.f at h
  split at h
  next hc =>
    obtain ⟨hl, ha, hb⟩ := hc
    obtain ⟨⟨t1, t2⟩, ht, h⟩ := Option.bind_eq_some_iff.1 h
    dsimp only at h
    split at h
    next h16 =>
      have hr := Option.some.inj h
      clear h
      obtain ⟨i, rfl⟩ : ∃ i : Nat, a1 = (i : Int) := ⟨a1.toNat, by omega⟩
      rw [Int.toNat_natCast] at hr
      have HT := Aside0.mk ht
      have HR := Aside0.mk hr
      have HC := Aside0.mk hr0
      clear ht hr hr0
      have i8 : i < 8 := by omega
      have H16 := Aside0.mk h16
      have HL := Aside0.mk hl
      clear h16 hl ha hb
      have HB := Aside0.mk (below_alloc (Below.refl w.heap.size w) (.cells #[.int .i64 a2_0, .string a2_1] 27))
      have hbx := Aside0.mk (World.alloc_heap_new w (.cells #[.int .i64 a2_0, .string a2_1] 27))
      have HRC := Aside0.mk (Kd.C_below HC.out HB.out)
      have em : wrap64 ((i : Int) * 16) = ((i * 16 : Nat) : Int) := by unfold wrap64; omega
      refine (callsIn_wide (n := 1)).1 ?_
      refine callsIn_of_wp Try.func36 rfl trivial ?_ rfl
      simp only [Try.ntmps36, List.size_toArray, List.length_cons, List.length_nil, Nat.reduceAdd, Nat.reduceSub, Array.replicate_succ, Array.replicate_zero, List.push_toArray, List.append_toArray, List.nil_append, List.cons_append]
      gi_wp2_with (first
        | (refine ⟨trivial, ?_⟩; gi_at_call 51; refine (callsIn_wide.2 (slices_Clone_byte_byte.calls A0 c0 l0 l0 _ HRC.out hc0 (by unfold slices_Clone_byte_byte.f; rw [if_pos (by have := HL.out; omega)]))).mono ?_; rintro e w1 ⟨v0, rfl, hrr, hb1⟩; obtain ⟨A1, c1, rfl⟩ := Kd.R_slice hrr; obtain ⟨g1, cp1, hf1, _⟩ := Kd.R_form hrr (by have := HL.out; omega); injection hf1 with hA1 _ hc1; subst hA1; subst hc1; have hcap := (Kd.R_reads' hrr).2.1; rw [HL.out] at hcap; have hcap2 : i * 16 < c1 := (by omega); have hcap3 : ¬ c1 = i * 16 := (by omega); have hcap4 : ¬ i * 16 = c1 := (by omega); clear hcap; have HR1 := Aside0.mk hrr; have HB1 := Aside0.mk (below_step HB.out hb1); have hn1 := (hb1.block w.heap.size (by simp)).trans hbx.out; have cz0 : w1.cell? ⟨w.heap.size, 0, none⟩ = some (.int .i64 a2_0) := (by simp [World.cell?, hn1]); have cz1 : w1.cell? ⟨w.heap.size, 1, none⟩ = some (.string a2_1) := (by simp [World.cell?, hn1]); clear hrr hb1 hn1; rw [HL.out])
        | (refine ⟨trivial, ?_⟩; gi_at_call 31; refine (callsIn_wide.2 (layout_EncodeEntry.calls k a2_0 a2_1 t1 t2 _ HT.out)).mono ?_; rintro e w2 ⟨v2, rfl, hrr, hb2⟩; obtain ⟨A2, c2, rfl⟩ := Kd.R_slice hrr; obtain ⟨g2, cp2, hf2, _⟩ := Kd.R_form hrr (by have := H16.out; omega); injection hf2 with hA2 _ hc2; subst hA2; subst hc2; obtain ⟨W3, hcp, hR3, hg3⟩ := Go.Proofs.Ytnbkbmhiajfbpaa.Ca.dirs_copyAt w2 w.heap.size g1 c1 (i * 16) ⟨g2, 0, none⟩ c2 l0 t1 _ (Kd.R_below (Kd.R_lower HR1.out (by simp)) hb2) (Kd.R_reads' hrr).2.2 (by have := H16.out; have := HL.out; omega) (by have := H16.out; omega); rw [HL.out, H16.out] at hcp; have HR3 := Aside0.mk hR3; have HB3 := Aside0.mk (Below.grown (below_step HB1.out hb2) hg3 (below_step HB1.out hb2).size (fun k hk => by cases hk; have := Kd.R_base HR1.out g1 rfl; simp at this; omega)); clear hR3 hg3 hrr hb2; rw [H16.out]))
      go_ret
      refine ⟨_, rfl, ?_, HB3.out⟩
      have hR3 := HR3.out
      rw [H16.out] at hR3
      rw [← HR.out, show 16 * i = i * 16 from Nat.mul_comm _ _]
      rw [HL.out] at hR3
      exact Kd.R_mono hR3 (fun _ _ => trivial)
    next => cases h
  next => cases h

end Go.Proofs.Ytnbkbmhiajfbpaa.XDirsTurns
