-- Written by a program of this session (wip/tools)
import Derived.Test.YtnbkbmhiajfbpaaXDirsBackx0
import Derived.Test.YtnbkbmhiajfbpaaXDirsBackx2
namespace Go.Proofs.Ytnbkbmhiajfbpaa.XDirsBack
open Go.RowKit Go.Proofs.YtnbkbmhiajfbpaaW.PrintWords Go.Proofs.YtnbkbmhiajfbpaaW.PrintLast Go.Proofs.YtnbkbmhiajfbpaaW.PrintMore
attribute [local go_sem] max2_int min2_int max_two min_two max_three min_three max_four min_four   -- for this text's walks alone
set_option linter.unusedVariables false
set_option linter.unusedSimpArgs false


/-! ### dirs_Decode: function 9 -/
def dirs_de (k : Nat) (l0 : List Int) (j : Nat) : Option (Int × ByteArray × Int) := layout_DecodeEntry.f k ((l0.drop (j * 16)).take 16)
def dirs_ents (k : Nat) (l0 : List Int) : Nat → Option (Bool × List S27)
  | 0 => some (true, [])
  | n + 1 => (dirs_ents k l0 n).bind fun p => if p.1 = true then (dirs_de k l0 n).bind fun t => (if t.2.2 = 0 then some (true, p.2 ++ [⟨t.1, t.2.1⟩]) else some (false, [])) else some (false, [])
def dirs_Decode.f (k : Nat) (l0 : List Int) : Option (List S27 × Int) := if (l0.length : Int) = 128 then (dirs_ents k l0 8).bind fun p => (if p.1 = true then (dirs_twice.f p.2).bind fun t => (if t = true then some ([], 6) else some (p.2, 0)) else some ([], 6)) else some ([], 6)
theorem dirs_ents.mono (k : Nat) (l0 : List Int) : ∀ n, LeO (dirs_ents k l0 n) (dirs_ents (k + 1) l0 n)
  | 0 => LeO.refl _
  | n + 1 => by
    unfold dirs_ents dirs_de
    exact LeO.bind (dirs_ents.mono k l0 n) (fun _ => LeO.ite (LeO.bind (layout_DecodeEntry.mono _ _) (fun _ => LeO.refl _)) (LeO.refl _))
theorem dirs_Decode.mono : ∀ a0 k, LeO (dirs_Decode.f k a0) (dirs_Decode.f (k + 1) a0) := by
  intro a0 k
  unfold dirs_Decode.f
  exact LeO.ite (LeO.bind (dirs_ents.mono _ _ _) (fun _ => LeO.refl _)) (LeO.refl _)
theorem dirs_ents_len (k : Nat) (l0 : List Int) : ∀ n xs, dirs_ents k l0 n = some (true, xs) → xs.length = n
  | 0, xs, h => by simp only [dirs_ents, Option.some.injEq, Prod.mk.injEq, true_and] at h; subst h; rfl
  | n + 1, xs, h => by
    simp only [dirs_ents] at h
    obtain ⟨⟨b, ys⟩, h1, h2⟩ := Option.bind_eq_some_iff.1 h
    cases b with
    | false => simp at h2
    | true =>
      have ih := dirs_ents_len k l0 n ys h1
      rw [if_pos rfl] at h2
      obtain ⟨⟨a, b, c⟩, h3, h4⟩ := Option.bind_eq_some_iff.1 h2
      dsimp only at h4
      split at h4
      · simp only [Option.some.injEq, Prod.mk.injEq, true_and] at h4
        subst h4
        simp [ih]
      · simp at h4
theorem dirs_ents_down (k : Nat) (l0 : List Int) : ∀ n r, dirs_ents k l0 n = some r → ∀ m, m ≤ n → ∃ r', dirs_ents k l0 m = some r'
  | 0, r, h, m, hm => by
    obtain rfl : m = 0 := by omega
    exact ⟨r, h⟩
  | n + 1, r, h, m, hm => by
    by_cases e : m = n + 1
    · subst e; exact ⟨r, h⟩
    · simp only [dirs_ents] at h
      obtain ⟨p, h1, _⟩ := Option.bind_eq_some_iff.1 h
      exact dirs_ents_down k l0 n p h1 m (by omega)
theorem dirs_ents_false (k : Nat) (l0 : List Int) (j : Nat) (xs : List S27) (h : dirs_ents k l0 j = some (false, xs)) : ∀ n r, j ≤ n → dirs_ents k l0 n = some r → r.1 = false
  | 0, r, hn, hr => by
    obtain rfl : j = 0 := by omega
    rw [h] at hr; injection hr with hr; rw [← hr]
  | n + 1, r, hn, hr => by
    by_cases e : j = n + 1
    · subst e; rw [h] at hr; injection hr with hr; rw [← hr]
    · simp only [dirs_ents] at hr
      obtain ⟨p, h1, h2⟩ := Option.bind_eq_some_iff.1 hr
      have := dirs_ents_false k l0 j xs h n p (by omega) h1
      rw [this, if_neg (by simp)] at h2
      injection h2 with h2; rw [← h2]
theorem dirs_pieceC {W : World} {ad : Addr} {l0 : List Int} (h : Kd.C (Kd.int .u8) W (some ad) l0.length l0) (o : Nat) : Kd.C (Kd.int .u8) W (some (ad.add o)) ((l0.drop o).take 16).length ((l0.drop o).take 16) := by
  have hr : ReadsInt W .u8 (some ad) l0.length l0 := Kd.reads_of_C h
  refine Kd.C_of_reads (h1 := fun _ => rfl) (⟨rfl, by have := hr.2.1; simp; omega, fun hn => ⟨_, rfl, fun j hj => ?_⟩⟩ : ReadsInt W .u8 _ _ _)
  obtain ⟨ad', e, hc⟩ := hr.2.2 (by rw [List.length_take, List.length_drop] at hn; omega)
  injection e with e
  subst e
  have hj' : o + j < l0.length ∧ j < 16 := by rw [List.length_take, List.length_drop] at hj; omega
  have := hc (o + j) hj'.1
  rw [Addr.add_add, this]
  congr 2
  simp only [List.getD_eq_getElem?_getD]
  rw [List.getElem?_take_of_lt hj'.2, List.getElem?_drop]
def dirs_flat (xs : List S27) : List Value := (xs.map fun e => [Value.int .i64 e.f0, .string e.f1]).flatten
theorem dirs_flat_snoc (xs : List S27) (e : S27) : dirs_flat (xs ++ [e]) = dirs_flat xs ++ [Value.int .i64 e.f0, .string e.f1] := by simp [dirs_flat]
theorem dirs_flat_reps (d : S27 → List Value → Prop) (hd : ∀ x : S27, d x [.int .i64 x.f0, .string x.f1]) : ∀ xs : List S27, Reps d 2 xs (dirs_flat xs) := by
  intro xs
  generalize hn : xs.length = n
  induction n generalizing xs with
  | zero => obtain rfl := List.eq_nil_of_length_eq_zero hn; exact Reps.none _ _
  | succ n ih =>
    have hne : xs ≠ [] := by intro e; subst e; simp at hn
    rw [← List.dropLast_concat_getLast hne, dirs_flat_snoc]
    exact Reps.snoc (ih _ (by simp [hn])) (hd _) rfl
theorem dirs_oneCell {W : World} {a : Addr} {v : Value} {t : TypeId} {d : TypeDesc} (hu : Try.prog.underlying t = some d) (hd : (match d with | .struct _ | .array _ _ => true | _ => false) = false) (hc : W.cell? a = some v) : (loadVar t a).run Try.prog W = .ok v W := by
  have hag : (isAgg t).run Try.prog W = .ok false W := by
    unfold isAgg
    rw [Sem.run_bind, run_underlying hu]
    cases d <;> simp [Result.andThen] at hd ⊢
  unfold loadVar
  rw [Sem.run_bind, hag]
  simp [Result.andThen, go_sem, hc]
theorem dirs_newCell (W : World) (v : Value) (T : TypeId) : (W.alloc (.cells #[v] T)).cell? ⟨W.heap.size, 0, none⟩ = some v := cell_one_new W v T 0 v rfl
theorem dirs_allocNew (W : World) (o : Obj) (n : Nat) (h : n = W.heap.size) : (W.alloc o).heap[n]? = some o := by subst h; exact World.alloc_heap_new W o
theorem dirs_allocOld (W : World) (o : Obj) (n : Nat) (h : n < W.heap.size) : (W.alloc o).heap[n]? = W.heap[n]? := heap_alloc_old W o h
theorem dirs_cells2 (W : World) (x y : Value) (t : TypeId) {b : Nat} (hb : b = W.heap.size) : ∀ j u, [x, y][j]? = some u → (W.alloc (.cells #[x, y] t)).cell? ((⟨b, 0, none⟩ : Addr).add j) = some u := by
  subst hb
  intro j u hj
  have h := World.alloc_heap_new W (.cells #[x, y] t)
  match j, hj with
  | 0, hj => simp at hj; subst hj; show (match (W.alloc (.cells #[x, y] t)).heap[W.heap.size]? with | some (.cells c _ _) => c[_]? | _ => none) = _; rw [h]; rfl
  | 1, hj => simp at hj; subst hj; show (match (W.alloc (.cells #[x, y] t)).heap[W.heap.size]? with | some (.cells c _ _) => c[_]? | _ => none) = _; rw [h]; rfl
  | _ + 2, hj => simp at hj
theorem dirs_grownSet (W : World) (b o : Nat) (v : Value) : W.grownBy (W.setCell ⟨b, o, none⟩ v) (some b) :=
  ⟨rfl, rfl, rfl, by simp [World.setCell], fun k _ hk => Below.heap_setCell _ _ _ k (fun e => hk (by rw [e]))⟩
theorem dirs_setHeap {W : World} {b : Nat} {u : Value} {t : TypeId} (h : W.heap[b]? = some (.cells #[u] t (0, 0))) (v : Value) :
    (W.setCell ⟨b, 0, none⟩ v).heap[b]? = some (.cells #[v] t (0, 0)) := by
  obtain ⟨hlt, hk⟩ := Array.getElem?_eq_some_iff.1 h
  show (W.heap.modify b _)[b]? = _
  rw [Array.getElem?_eq_getElem (by rw [Array.size_modify]; exact hlt), Array.getElem_modify_self, hk]
  rfl
theorem dirs_cellOf {W : World} {b : Nat} {v : Value} {T : TypeId} (h : W.heap[b]? = some (.cells #[v] T (0, 0))) : W.cell? ⟨b, 0, none⟩ = some v := by simp [World.cell?, h]
theorem dirs_frozenOf {W : World} {b : Nat} {v : Value} {T : TypeId} (h : W.heap[b]? = some (.cells #[v] T (0, 0))) : W.frozen? ⟨b, 0, none⟩ = false := by simp [World.frozen?, h]
theorem dirs_two {w1 : World} {s : Nat} {u0 u1 : Value} {T0 T1 : TypeId} (q0 : w1.heap[s]? = some (.cells #[u0] T0 (0, 0))) (q1 : w1.heap[s + 1]? = some (.cells #[u1] T1 (0, 0))) (v1 v2 : Value) (F : World) (hF : (w1.setCell ⟨s, 0, none⟩ v1).setCell ⟨s + 1, 0, none⟩ v2 = F) :
    F.heap[s]? = some (.cells #[v1] T0 (0, 0)) ∧ F.heap[s + 1]? = some (.cells #[v2] T1 (0, 0)) ∧ (∀ j, j ≠ s → j ≠ s + 1 → F.heap[j]? = w1.heap[j]?) ∧ F.heap.size = w1.heap.size ∧ F.os = w1.os ∧ F.tape = w1.tape ∧ F.output = w1.output := by
  subst hF
  refine ⟨?_, ?_, fun j h0 h1 => ?_, by simp [World.setCell], rfl, rfl, rfl⟩
  · exact (Below.heap_setCell _ ⟨s + 1, 0, none⟩ v2 s (by simp)).trans (dirs_setHeap q0 v1)
  · exact dirs_setHeap ((Below.heap_setCell _ ⟨s, 0, none⟩ v1 (s + 1) (by simp)).trans q1) v2
  · exact (Below.heap_setCell _ ⟨s + 1, 0, none⟩ v2 j h1).trans (Below.heap_setCell _ ⟨s, 0, none⟩ v1 j h0)
theorem dirs_res {tmps : Array Value} {W : World} {a b : Addr} {v1 v2 : Value} (ha : tmps.getD 2 undef = .pointer (some a)) (hb : tmps.getD 3 undef = .pointer (some b)) (c1 : W.cell? a = some v1) (c2 : W.cell? b = some v2) :
    (results Try.f9 tmps).run Try.prog W = .ok (.tuple #[v1, v2]) W := by
  have h1 : tmps[2]?.getD undef = .pointer (some a) := by simpa using ha
  have h2 : tmps[3]?.getD undef = .pointer (some b) := by simpa using hb
  have e1 := dirs_oneCell Try.underlying23 rfl c1
  have e2 := dirs_oneCell Try.underlying28 rfl c2
  simp [results, show Try.f9.results = #[.cell 2 23, .cell 3 28] from rfl, h1, h2, asAddr, e1, e2]
set_option maxHeartbeats 8000000 in
set_option maxRecDepth 100000 in
attribute [local go_sem] Oper.semAt_some in
theorem dirs_Decode.calls (k : Nat) (A0 : Option Addr) (c0 : Nat) (l0 : List Int) (r1 : List (S27)) (r2 : Int) (w : World) (hr0 : Kd.C (Kd.int .u8) w A0 l0.length l0) (hc0 : l0.length ≤ c0) (h : dirs_Decode.f k l0 = some (r1, r2)) :
    Calls Try.prog 9 #[.slice A0 l0.length c0] w fun e w' => ∃ v0_ : Value, e = .returned (.tuple #[v0_, .int .i64 r2]) ∧ Kd.R k27 27 w' w.heap.size (fun _ => True) v0_ r1 ∧ Below w.heap.size w w' := by
  refine (callsIn_wide (n := 5)).1 ?_
  refine callsIn_of_wp_marks Try.func9 rfl trivial ?_ rfl
  simp only [Try.ntmps9, List.size_toArray, List.length_cons, List.length_nil, Nat.reduceAdd, Nat.reduceSub, Array.replicate_succ, Array.replicate_zero, List.push_toArray, List.append_toArray, List.nil_append, List.cons_append]
  unfold dirs_Decode.f at h
  by_cases hl : l0.length = 128
  · rw [if_pos (by omega)] at h
    obtain ⟨⟨b8, xs8⟩, h8, h⟩ := Option.bind_eq_some_iff.1 h
    dsimp only at h
    have hlen : l0.length = 128 := hl
    obtain ⟨ad, rfl⟩ : ∃ ad, A0 = some ad := by
      obtain ⟨ad, e, _⟩ := hr0.2.2 (by omega)
      exact ⟨ad, e⟩
    have HC := fun (W : World) (hb : Below w.heap.size w W) => Kd.C_below hr0 hb
    have t1 : ((128 : Int) != 128) = false := rfl
    rw [hl]
    rw [hl] at hc0
    gi_wp2_with (refine ⟨trivial, ?_⟩; gi_at_call 26; refine (Go.Proofs.Ytnbkbmhiajfbpaa.Ck.chunk_in _ _ _ _ (by omega) _ _).mono ?_; rintro e w' ⟨rfl, hw⟩; rw [hw]; clear hw)
    obtain ⟨W0, hW0⟩ : ∃ W0, (((((w.alloc (.cells #[Value.slice none 0 0] 23)).alloc (.cells #[Value.int .i64 0] 28)).alloc (.cells #[Value.slice none 0 0] 23)).alloc (.cells #[Value.slice (some ad) 128 c0] 22)).alloc (.cells #[Value.int .i64 16] 3)) = W0 := ⟨_, rfl⟩
    have hs0 : W0.heap.size = w.heap.size + 5 := by rw [← hW0]; simp
    have hB0 : Below w.heap.size w W0 := by
      rw [← hW0]
      repeat (first | exact Below.refl _ _ | refine below_alloc ?_ _)
    have e0 : W0.heap[w.heap.size]? = some (.cells #[Value.slice none 0 0] 23 (0, 0)) := by
      rw [← hW0]; exact (dirs_allocOld _ _ _ (by simp only [World.size_alloc]; omega)).trans ((dirs_allocOld _ _ _ (by simp only [World.size_alloc]; omega)).trans ((dirs_allocOld _ _ _ (by simp only [World.size_alloc]; omega)).trans ((dirs_allocOld _ _ _ (by simp only [World.size_alloc]; omega)).trans (dirs_allocNew _ _ _ rfl))))
    have e1 : W0.heap[w.heap.size + 1]? = some (.cells #[Value.int .i64 0] 28 (0, 0)) := by
      rw [← hW0]; exact (dirs_allocOld _ _ _ (by simp only [World.size_alloc]; omega)).trans ((dirs_allocOld _ _ _ (by simp only [World.size_alloc]; omega)).trans ((dirs_allocOld _ _ _ (by simp only [World.size_alloc]; omega)).trans (dirs_allocNew _ _ _ (by simp only [World.size_alloc]))))
    have e2 : W0.heap[w.heap.size + 2]? = some (.cells #[Value.slice none 0 0] 23 (0, 0)) := by
      rw [← hW0]; exact (dirs_allocOld _ _ _ (by simp only [World.size_alloc]; omega)).trans ((dirs_allocOld _ _ _ (by simp only [World.size_alloc]; omega)).trans (dirs_allocNew _ _ _ (by simp only [World.size_alloc])))
    have e3 : W0.heap[w.heap.size + 3]? = some (.cells #[Value.slice (some ad) 128 c0] 22 (0, 0)) := by
      rw [← hW0]; exact (dirs_allocOld _ _ _ (by simp only [World.size_alloc]; omega)).trans (dirs_allocNew _ _ _ (by simp only [World.size_alloc]))
    have e4 : W0.heap[w.heap.size + 4]? = some (.cells #[Value.int .i64 16] 3 (0, 0)) := by
      rw [← hW0]; exact dirs_allocNew _ _ _ (by simp only [World.size_alloc])
    rw [hW0]
    refine Rf.range_stops (by rfl) (by omega) (gf := 37) (lb := #[.pointer (some ⟨w.heap.size + 1 + 1 + 1, 0, none⟩), .pointer (some ⟨w.heap.size + 1 + 1 + 1 + 1, 0, none⟩)]) rfl trivial (enters_of Try.func37 (by kernel_rfl) rfl)
      (K := fun k => k < w.heap.size ∨ k = w.heap.size + 3 ∨ k = w.heap.size + 4) (by rw [hs0]; omega) (by simp)
      (Go.Proofs.Ytnbkbmhiajfbpaa.Ck.chunk_stops W0 (some ad) 128 c0 16 8 (by omega) (by omega) (by omega) hc0 (by omega) (by omega) ad (fun _ => rfl) (w.heap.size + 3) (w.heap.size + 4) (by omega) e3 (by omega) e4 _ (by omega) (by omega) _)
      (fun _ => rfl)
      (fun pre W => ∃ (xs : List S27) (v : Value), dirs_ents k l0 pre.length = some (true, xs) ∧ W.heap[w.heap.size]? = some (.cells #[Value.slice none 0 0] 23 (0, 0)) ∧ W.heap[w.heap.size + 1]? = some (.cells #[Value.int .i64 0] 28 (0, 0)) ∧ W.heap[w.heap.size + 2]? = some (.cells #[v] 23 (0, 0)) ∧ W.ownsRow (w.heap.size + 7) 27 2 v xs.length (dirs_flat xs) ∧ Below w.heap.size w W)
      (fun pre W => (∃ xs, dirs_ents k l0 pre.length = some (false, xs)) ∧ W.heap[w.heap.size]? = some (.cells #[Value.slice none 0 0] 23 (0, 0)) ∧ W.heap[w.heap.size + 1]? = some (.cells #[Value.int .i64 6] 28 (0, 0)) ∧ Below w.heap.size w W)
      ?hI ?hIx ?h0
      (fun x a' W => a' = { tmps := #[Value.slice (some ad) 128 c0, undef, Value.pointer (some { block := w.heap.size, off := 0 }), Value.pointer (some { block := w.heap.size + 1, off := 0 }), Value.pointer (some { block := w.heap.size + 1 + 1, off := 0 }), Go.Proofs.Ytnbkbmhiajfbpaa.Ck.piece ad 128 16 x, undef, undef, Value.slice (some ad) 128 c0, Value.int IntKind.i64 128, Value.bool false, Value.slice (some ad) 128 c0,
          Value.func (Fn.func 37) #[] #[Value.pointer (some { block := w.heap.size + 1 + 1 + 1, off := 0 }), Value.pointer (some { block := w.heap.size + 1 + 1 + 1 + 1, off := 0 })],
          Go.Proofs.Ytnbkbmhiajfbpaa.Ck.piece ad 128 16 x, undef, undef, undef, undef, undef, undef, undef, undef, undef, undef, undef, undef, undef, undef], defers := [] })
      ?hAx ?assign ?body ?done ?stop
    case hI =>
      rintro pre A A' row ⟨xs, v, hents, h0, h1, h2, hrow, hB⟩ hg hr
      have hr' : ∀ r, row = some r → w.heap.size + 5 ≤ r ∧ r < w.heap.size + 7 := fun r e => by rcases hr r e with h | h | h <;> first | omega | exact h.elim
      refine ⟨xs, v, hents, ?_, ?_, ?_, ?_, hB.trans ⟨hg.os, hg.tape, hg.output, hg.size, fun k hk => hg.block k (by have := hB.size; omega) (fun e => by have := hr' k e.symm; omega)⟩⟩
      · exact (hg.block _ (Array.getElem?_eq_some_iff.1 h0).1 (fun e => by have := hr' _ e.symm; omega)).trans h0
      · exact (hg.block _ (Array.getElem?_eq_some_iff.1 h1).1 (fun e => by have := hr' _ e.symm; omega)).trans h1
      · exact (hg.block _ (Array.getElem?_eq_some_iff.1 h2).1 (fun e => by have := hr' _ e.symm; omega)).trans h2
      · refine hrow.kept hg ?_
        cases ho : v.ownBlock with
        | none => exact .inl rfl
        | some g => exact .inr (fun e => by have := hr' g e.symm; have := (hrow.lt g ho).1; omega)
    case hIx =>
      rintro pre A A' row ⟨hents, h0, h1, hB⟩ hg hr
      have hr' : ∀ r, row = some r → w.heap.size + 5 ≤ r := fun r e => by rcases hr r e with h | h | h <;> first | omega | exact h.elim
      refine ⟨hents, ?_, ?_, hB.trans ⟨hg.os, hg.tape, hg.output, hg.size, fun k hk => hg.block k (by have := hB.size; omega) (fun e => by have := hr' k e.symm; omega)⟩⟩
      · exact (hg.block _ (Array.getElem?_eq_some_iff.1 h0).1 (fun e => by have := hr' _ e.symm; omega)).trans h0
      · exact (hg.block _ (Array.getElem?_eq_some_iff.1 h1).1 (fun e => by have := hr' _ e.symm; omega)).trans h1
    case h0 => exact ⟨[], _, rfl, e0, e1, e2, World.ownsRow_nil _ _ _ _, hB0⟩
    case hAx =>
      rintro x a' A A' row rfl hg hr
      rfl
    case assign =>
      rintro l pre x W k ⟨hv, hx⟩ hI hsz hk
      rw [show Go.Proofs.Ytnbkbmhiajfbpaa.Ck.piece ad 128 16 x = .slice (some (ad.add (x * 16))) (min 16 (128 - x * 16)) (min 16 (128 - x * 16)) from rfl]
      gi_wp2
      exact hk _ _ (Rf.Keep.refl _ _) hI rfl
    case body =>
      rintro l pre x a' W ⟨rfl, hx⟩ ⟨xs, v, hents, h0, h1, h2, hrow, hB⟩ rfl hlen2 hsz
      rw [List.length_range] at hents
      have hxl := dirs_ents_len k l0 x xs hents
      obtain ⟨r', hr'⟩ := dirs_ents_down k l0 8 _ h8 (x + 1) (by omega)
      have hstep0 := hr'
      rw [dirs_ents, hents, Option.bind_some, if_pos rfl] at hstep0
      obtain ⟨⟨q1, q2, q3⟩, hde, hstep⟩ := Option.bind_eq_some_iff.1 hstep0
      clear hstep0
      dsimp only at hstep
      have hP : ((l0.drop (x * 16)).take 16).length = 16 := by rw [List.length_take, List.length_drop]; omega
      have hpc : Go.Proofs.Ytnbkbmhiajfbpaa.Ck.piece ad 128 16 x = .slice (some (ad.add (x * 16))) 16 16 := by
        unfold Go.Proofs.Ytnbkbmhiajfbpaa.Ck.piece
        rw [show min 16 (128 - x * 16) = 16 by omega]
      have hcall : ∀ n W', Below w.heap.size w W' → CallsIn (Fence.wide.inRound l) n Try.prog 27 #[.slice (some (ad.add (x * 16))) 16 16] W' (fun e w' => e = .returned (.tuple #[.agg #[.int .i64 q1, .string q2], .int .i64 q3]) ∧ Below W'.heap.size W' w') := fun n W' hb => by
        have := layout_DecodeEntry.calls k (some (ad.add (x * 16))) 16 ((l0.drop (x * 16)).take 16) q1 q2 q3 W' (dirs_pieceC (HC W' hb) _) (by omega) hde
        rw [hP] at this
        exact CallsIn.inRound l (callsIn_wide.2 this)
      rw [hpc]
      have cL : W.cell? ⟨w.heap.size + 2, 0, none⟩ = some v := by simp [World.cell?, h2]
      by_cases hq : q3 = 0
      · rw [if_pos hq] at hstep
        subst hq
        have t2 : ((0 : Int) != 0) = false := rfl
        obtain ⟨i0, hi, hz0, hz1, hz2⟩ := info_parts info27
        gi_wp2_with (first
          | (refine ⟨trivial, ?_⟩; gi_at_call 27; refine (hcall _ _ hB).mono ?_; rintro e w1 ⟨rfl, hb1⟩; have cL1 : (w1.alloc (Obj.cells #[Value.int .i64 q1, Value.string q2] 27)).cell? ⟨w.heap.size + 1 + 1, 0, none⟩ = some v := (by simp only [World.cell?, show w.heap.size + 1 + 1 = w.heap.size + 2 from rfl]; rw [dirs_allocOld _ _ _ (by have := hb1.size; omega), hb1.block _ (by omega), h2]; rfl); have hrow1 : w1.ownsRow (w.heap.size + 7) 27 2 v xs.length (dirs_flat xs) := hrow.kept (row := none) ⟨hb1.os, hb1.tape, hb1.output, hb1.size, fun k hk _ => hb1.block k hk⟩ (by cases v.ownBlock <;> simp); have hs1 := hb1.size)
          | (gi_at_builtin; refine wpListIn_append_own _ rfl _ _ 23 rfl (w.heap.size + 7) 27 i0 (.agg #[.int .i64 0, .string ⟨#[]⟩]) 2 24 Try.underlying23 hi hz0 hz1 hz2 rfl (by decide) v xs.length (dirs_flat xs) rfl ((hrow1.alloc _).alloc _) ⟨w1.heap.size + 1, 0, none⟩ 1 1 [.int .i64 q1, .string q2] rfl rfl (dirs_cells2 _ _ _ _ (by simp)) (by simp [Value.oneCell']) (by simp [maxLen]; omega) (by omega) (by simp; omega) ?_; intro v' w2 hown2 hgrow2 _; obtain ⟨g', cap', rfl⟩ := ownsRow_succ hown2; have h22 : w2.heap[w.heap.size + 2]? = some (.cells #[v] 23 (0, 0)) := (hgrow2.block _ (by simp; omega) (fun e => by have := (hrow.lt _ e.symm).1; omega)).trans ((dirs_allocOld _ _ _ (by simp; omega)).trans ((dirs_allocOld _ _ _ (by omega)).trans ((hb1.block _ (by omega)).trans h2))); have cL2 : w2.cell? ⟨w.heap.size + 1 + 1, 0, none⟩ = some v := (by simp only [World.cell?, show w.heap.size + 1 + 1 = w.heap.size + 2 from rfl]; rw [h22]; rfl); have fL2 : w2.frozen? ⟨w.heap.size + 1 + 1, 0, none⟩ = false := (by simp only [World.frozen?, show w.heap.size + 1 + 1 = w.heap.size + 2 from rfl]; rw [h22]; rfl)))
        obtain ⟨W2, hW2⟩ : ∃ W2, w2.setCell ⟨w.heap.size + 1 + 1, 0, none⟩ (Value.slice (some ⟨g', 0, none⟩) (x + 1) cap') = W2 := ⟨_, rfl⟩
        have h2n : W2.heap[w.heap.size + 2]? = some (.cells #[Value.slice (some ⟨g', 0, none⟩) (x + 1) cap'] 23 (0, 0)) := by rw [← hW2]; exact dirs_setHeap h22 _
        have hg2 : w2.grownBy W2 (some (w.heap.size + 2)) := hW2 ▸ dirs_grownSet w2 _ _ _
        have hr2 : W2.ownsRow (w.heap.size + 7) 27 2 (Value.slice (some ⟨g', 0, none⟩) (x + 1) cap') (x + 1) (dirs_flat (xs ++ [⟨q1, q2⟩])) := by
          rw [← hW2, dirs_flat_snoc]; rw [hxl] at hown2; exact ownsRow_setCell_below hown2 (by simp) _
        have hsz2 := hgrow2.size
        simp only [World.size_alloc] at hsz2
        have hk2 : ∀ j, j < w.heap.size + 7 → j ≠ w.heap.size + 2 → W2.heap[j]? = W.heap[j]? := fun j hj hne =>
          (hg2.block j (by omega) (fun e => hne (by cases e; rfl))).trans ((hgrow2.block _ (by simp; omega) (fun e => by have := (hrow.lt _ e.symm).1; omega)).trans ((dirs_allocOld _ _ _ (by simp; omega)).trans ((dirs_allocOld _ _ _ (by omega)).trans (hb1.block _ (by omega)))))
        have hkeep : ∀ K : Nat → Prop, (∀ k, K k → k < w.heap.size + 7 ∧ k ≠ w.heap.size + 2) → Rf.Keep K W W2 := fun K hK =>
          ⟨⟨hg2.os.trans (hgrow2.os.trans hb1.os), hg2.tape.trans (hgrow2.tape.trans hb1.tape), hg2.output.trans (hgrow2.output.trans hb1.output), by have := hg2.size; omega, fun k hk => by omega⟩, fun k hk => hk2 k (hK k hk).1 (hK k hk).2⟩
        rw [hW2]
        have hr'' : r' = (true, xs ++ [⟨q1, q2⟩]) := by injection hstep with hstep; exact hstep.symm
        refine ⟨hkeep _ (fun k hk => by omega), _, hr'', (hk2 _ (by omega) (by omega)).trans h0, (hk2 _ (by omega) (by omega)).trans h1, _, h2n, ?_, hB.trans ((hkeep (fun k => k < w.heap.size) (fun k hk => by omega)).below (fun k hk => hk))⟩
        rw [List.length_append, hxl]
        exact hr2
      · rw [if_neg hq] at hstep
        have t2 : (q3 != 0) = true := bne_iff_ne.mpr hq
        have c0 : W.cell? ⟨w.heap.size, 0, none⟩ = some (Value.slice none 0 0) := by simp [World.cell?, h0]
        gi_wp2_with (refine ⟨trivial, ?_⟩; gi_at_call 27; refine (hcall _ _ hB).mono ?_; rintro e w1 ⟨rfl, hb1⟩; have hs1 := hb1.size; have q0 := (dirs_allocOld w1 (.cells #[Value.int .i64 q1, Value.string q2] 27) _ (by omega)).trans ((hb1.block _ (by omega)).trans h0); have q1h := (dirs_allocOld w1 (.cells #[Value.int .i64 q1, Value.string q2] 27) _ (by omega)).trans ((hb1.block _ (by omega)).trans h1); have cA := dirs_cellOf q0; have fA := dirs_frozenOf q0; have cB := dirs_cellOf q1h; have fB := dirs_frozenOf q1h)
        have g1 := dirs_grownSet (w1.alloc (.cells #[Value.int .i64 q1, Value.string q2] 27)) w.heap.size 0 (Value.slice none 0 0)
        have g2 := dirs_grownSet ((w1.alloc (.cells #[Value.int .i64 q1, Value.string q2] 27)).setCell ⟨w.heap.size, 0, none⟩ (Value.slice none 0 0)) (w.heap.size + 1) 0 (Value.int .i64 6)
        have f0 := dirs_setHeap q0 (Value.slice none 0 0)
        have f1 := dirs_setHeap ((g1.block (w.heap.size + 1) (by simp; omega) (fun e => by injection e with e; omega)).trans q1h) (Value.int .i64 6)
        have f0' := (g2.block w.heap.size (by have := g1.size; simp only [World.size_alloc] at this; omega) (fun e => by injection e with e; omega)).trans f0
        have hk2 : ∀ j, j < W.heap.size → j ≠ w.heap.size → j ≠ w.heap.size + 1 → (((w1.alloc (.cells #[Value.int .i64 q1, Value.string q2] 27)).setCell ⟨w.heap.size, 0, none⟩ (Value.slice none 0 0)).setCell ⟨w.heap.size + 1, 0, none⟩ (Value.int .i64 6)).heap[j]? = W.heap[j]? := fun j hj hn1 hn2 =>
          (g2.block j (by have := g1.size; simp only [World.size_alloc] at this; omega) (fun e => hn2 (by cases e; rfl))).trans ((g1.block j (by simp; omega) (fun e => hn1 (by cases e; rfl))).trans ((dirs_allocOld _ _ _ (by omega)).trans (hb1.block _ hj)))
        have hkeep : ∀ K : Nat → Prop, (∀ k, K k → k < W.heap.size ∧ k ≠ w.heap.size ∧ k ≠ w.heap.size + 1) → Rf.Keep K W (((w1.alloc (.cells #[Value.int .i64 q1, Value.string q2] 27)).setCell ⟨w.heap.size, 0, none⟩ (Value.slice none 0 0)).setCell ⟨w.heap.size + 1, 0, none⟩ (Value.int .i64 6)) := fun K hK =>
          ⟨⟨hb1.os, hb1.tape, hb1.output, by have := g1.size; have := g2.size; simp only [World.size_alloc] at *; omega, fun k hk => by omega⟩, fun k hk => hk2 k (hK k hk).1 (hK k hk).2.1 (hK k hk).2.2⟩
        refine ⟨hkeep _ (fun k hk => by omega), ⟨_, by injection hstep with hstep; exact hstep.symm⟩, f0', f1, hB.trans ((hkeep (fun k => k < w.heap.size) (fun k hk => by omega)).below (fun k hk => hk))⟩
    case done =>
      rintro ys W rfl ⟨xs, v, hents, h0, h1, h2, hrow, hB⟩ hK
      rw [List.length_range, h8] at hents
      injection hents with hents
      injection hents with hb hxs
      subst hb; subst hxs
      rw [if_pos rfl] at h
      obtain ⟨tb, htw, h⟩ := Option.bind_eq_some_iff.1 h
      have hxl := dirs_ents_len k l0 8 xs8 h8
      have hrow8 := hrow
      rw [hxl] at hrow8
      obtain ⟨g', cap', rfl⟩ := ownsRow_succ hrow8
      have hR : Kd.R k27 27 W (w.heap.size + 7) (fun _ => True) (.slice (some ⟨g', 0, none⟩) 8 cap') xs8 := ⟨fun _ _ => trivial, _, by exact hrow, dirs_flat_reps _ (fun x => k27_mkM _ _ _ x) _⟩
      have hrd := Kd.R_reads' hR
      have HR := Aside0.mk hR
      have htc : ∀ n, CallsIn Fence.wide n Try.prog 28 #[.slice (some ⟨g', 0, none⟩) 8 cap'] W fun e w' => e = .returned (.bool tb) ∧ Below W.heap.size W w' := fun n => by
        have := dirs_twice.calls (some ⟨g', 0, none⟩) cap' xs8 tb W (hrd.1 ▸ hrd.2.2) (hrd.1 ▸ hrd.2.1) htw
        rw [hxl] at this
        exact callsIn_wide.2 this
      have cL : W.cell? ⟨w.heap.size + 1 + 1, 0, none⟩ = some (.slice (some ⟨g', 0, none⟩) 8 cap') := dirs_cellOf h2
      clear hrow hrow8 hR hrd
      have hsW := (Array.getElem?_eq_some_iff.1 hK).1
      cases tb with
      | true =>
        rw [if_pos rfl] at h
        injection h with h
        injection h with hr1 hr2
        subst hr1; subst hr2
        gi_wp2_with (refine ⟨trivial, ?_⟩; gi_at_call 28; refine (htc _).mono ?_; rintro e w1 ⟨rfl, hb1⟩; have q0 := (hb1.block _ (by omega)).trans h0; have q1h := (hb1.block _ (by omega)).trans h1; have q5 := (hb1.block _ (by omega)).trans hK; have cA := dirs_cellOf q0; have fA := dirs_frozenOf q0; have cB := dirs_cellOf q1h; have fB := dirs_frozenOf q1h)
        obtain ⟨F, hF⟩ : ∃ F, (w1.setCell ⟨w.heap.size, 0, none⟩ (Value.slice none 0 0)).setCell ⟨w.heap.size + 1, 0, none⟩ (Value.int .i64 6) = F := ⟨_, rfl⟩
        obtain ⟨f0, f1, fj, fs, fo, ft, fp⟩ := dirs_two q0 q1h _ _ F hF
        rw [hF]
        have hs1 := hb1.size
        have hBF : Below w.heap.size w F := hB.trans ⟨fo.trans hb1.os, ft.trans hb1.tape, fp.trans hb1.output, by omega, fun k hk => (fj k (by omega) (by omega)).trans (hb1.block k (by omega))⟩
        have hKF : F.heap[w.heap.size + 5]? = some (.deferred (some [])) := (fj _ (by omega) (by omega)).trans (by rw [hs0] at q5; exact q5)
        try simp only [hs0]
        refine ⟨by simp, .inl ⟨_, _, rfl, run_takeDeferred hKF, ?_⟩⟩
        exact ⟨_, dirs_res rfl rfl (dirs_cellOf ((World.putObj_heap_other (by omega)).trans f0)) (dirs_cellOf ((World.putObj_heap_other (by omega)).trans f1)), _, rfl, Kd.R_nil _ _ _ _ _, hBF.trans (belowK_b (w := w) (Nat.le_refl _) F (w.heap.size + 5) _ _ (by omega) hKF rfl rfl)⟩
      | false =>
        rw [if_neg (by simp)] at h
        injection h with h
        injection h with hr1 hr2
        subst hr1; subst hr2
        gi_wp2_with (refine ⟨trivial, ?_⟩; gi_at_call 28; refine (htc _).mono ?_; rintro e w1 ⟨rfl, hb1⟩; have q0 := (hb1.block _ (by omega)).trans h0; have q1h := (hb1.block _ (by omega)).trans h1; have q5 := (hb1.block _ (by omega)).trans hK; have cA := dirs_cellOf q0; have fA := dirs_frozenOf q0; have cB := dirs_cellOf q1h; have fB := dirs_frozenOf q1h; have cL1 : w1.cell? ⟨w.heap.size + 1 + 1, 0, none⟩ = some (.slice (some ⟨g', 0, none⟩) 8 cap') := dirs_cellOf ((hb1.block _ (by omega)).trans h2))
        obtain ⟨F, hF⟩ : ∃ F, (w1.setCell ⟨w.heap.size, 0, none⟩ (Value.slice (some ⟨g', 0, none⟩) 8 cap')).setCell ⟨w.heap.size + 1, 0, none⟩ (Value.int .i64 0) = F := ⟨_, rfl⟩
        obtain ⟨f0, f1, fj, fs, fo, ft, fp⟩ := dirs_two q0 q1h _ _ F hF
        rw [hF]
        have hs1 := hb1.size
        have hBF : Below w.heap.size w F := hB.trans ⟨fo.trans hb1.os, ft.trans hb1.tape, fp.trans hb1.output, by omega, fun k hk => (fj k (by omega) (by omega)).trans (hb1.block k (by omega))⟩
        have hKF : F.heap[w.heap.size + 5]? = some (.deferred (some [])) := (fj _ (by omega) (by omega)).trans (by rw [hs0] at q5; exact q5)
        try simp only [hs0]
        refine ⟨by simp, .inl ⟨_, _, rfl, run_takeDeferred hKF, ?_⟩⟩
        have hRF : Kd.R k27 27 (F.putObj (w.heap.size + 5) (.deferred none)) w.heap.size (fun _ => True) (.slice (some ⟨g', 0, none⟩) 8 cap') xs8 := by
          refine Kd.R_lower (base := w.heap.size + 7) ?_ (by omega)
          refine Kd.R_mono (Kd.R_step (Kd.R_bound HR.out) (fun k hk hlt => ?_)) (fun _ _ => trivial)
          have hk7 := hk.2.1
          exact (World.putObj_heap_other (by omega)).trans ((fj k (by omega) (by omega)).trans (hb1.block k hlt))
        exact ⟨_, dirs_res rfl rfl (dirs_cellOf ((World.putObj_heap_other (by omega)).trans f0)) (dirs_cellOf ((World.putObj_heap_other (by omega)).trans f1)), _, rfl, hRF, hBF.trans (belowK_b (w := w) (Nat.le_refl _) F (w.heap.size + 5) _ _ (by omega) hKF rfl rfl)⟩
    case stop =>
      rintro pre W ⟨j, hj1, hj2, rfl⟩ ⟨⟨xs, hents⟩, h0, h1, hB⟩ hK
      rw [List.length_range] at hents
      obtain rfl : b8 = false := dirs_ents_false k l0 j xs hents 8 (b8, xs8) hj2 h8
      rw [if_neg (by simp)] at h
      injection h with h
      injection h with hr1 hr2
      subst hr1; subst hr2
      gi_wp2
      refine ⟨by simp, .inl ⟨_, _, rfl, run_takeDeferred hK, ?_⟩⟩
      exact ⟨_, dirs_res rfl rfl (dirs_cellOf ((World.putObj_heap_other (by omega)).trans h0)) (dirs_cellOf ((World.putObj_heap_other (by omega)).trans h1)), _, rfl, Kd.R_nil _ _ _ _ _, hB.trans (belowK_b (w := w) (Nat.le_refl _) W W0.heap.size _ _ (by omega) hK rfl rfl)⟩
  · rw [if_neg (by omega)] at h
    injection h with h
    injection h with h1 h2
    subst h1; subst h2
    have t1 : ((l0.length : Int) != 128) = true := bne_iff_ne.mpr (by omega)
    gi_wp2
    refine ⟨_, dirs_res rfl rfl ?_ ?_, ⟨_, rfl, Kd.R_nil _ _ _ _ _, below_alloc (below_alloc (Below.refl _ _) _) _⟩⟩
    · exact (World.grownBy_alloc _ _ none).cell (dirs_newCell _ _ _) (by simp)
    · have := dirs_newCell (w.alloc (.cells #[Value.slice none 0 0] 23)) (.int .i64 6) 28
      rwa [World.size_alloc] at this
theorem dirs_setHeapN {W : World} {b o : Nat} {cs : Array Value} {t : TypeId} (h : W.heap[b]? = some (.cells cs t (0, 0))) (v : Value) :
    (W.setCell ⟨b, o, none⟩ v).heap[b]? = some (.cells (cs.setIfInBounds o v) t (0, 0)) := by
  obtain ⟨hlt, hk⟩ := Array.getElem?_eq_some_iff.1 h
  show (W.heap.modify b _)[b]? = _
  rw [Array.getElem?_eq_getElem (by rw [Array.size_modify]; exact hlt), Array.getElem_modify_self, hk]
  rfl
theorem dirs_setHeap2 {W : World} {b : Nat} {x y : Value} {t : TypeId} (h : W.heap[b]? = some (.cells #[x, y] t (0, 0))) (u v : Value) :
    ((W.setCell ⟨b, 0, none⟩ u).setCell ⟨b, 1, none⟩ v).heap[b]? = some (.cells #[u, v] t (0, 0)) := dirs_setHeapN (dirs_setHeapN h u) v
def dirs_ix (p : S27 → Bool) : List S27 → Int → Int
  | [], _ => -1
  | x :: r, i => if p x = true then i else dirs_ix p r (i + 1)
theorem dirs_ix_range (p : S27 → Bool) : ∀ (xs : List S27) (i : Int), 0 ≤ i → dirs_ix p xs i = -1 ∨ (i ≤ dirs_ix p xs i ∧ dirs_ix p xs i < i + xs.length)
  | [], i, h => .inl rfl
  | x :: r, i, h => by
    unfold dirs_ix
    split
    · right; simp; omega
    · rcases dirs_ix_range p r (i + 1) (by omega) with h1 | h1
      · exact .inl h1
      · right; simp only [List.length_cons]; omega
def dirs_el (p : S27 → Bool) (xs : List S27) : S27 := if dirs_ix p xs 0 < 0 then z27 else rd_T27 xs (dirs_ix p xs 0)
def dirs_at (p : S27 → Bool) (xs : List S27) : Int := if dirs_ix p xs 0 < 0 then 0 else dirs_ix p xs 0
theorem dirs_Decode_len (k : Nat) (l0 : List Int) (r1 : List S27) (r2 : Int) (h : dirs_Decode.f k l0 = some (r1, r2)) : r1.length < 1000000000000 := by
  unfold dirs_Decode.f at h
  split at h
  · obtain ⟨⟨b, xs⟩, h8, h⟩ := Option.bind_eq_some_iff.1 h
    dsimp only at h
    split at h
    next hb =>
      subst hb
      have := dirs_ents_len k l0 8 xs h8
      obtain ⟨t, _, h⟩ := Option.bind_eq_some_iff.1 h
      split at h <;> (injection h with h; injection h with h1 h2; subst h1) <;> simp <;> omega
    · injection h with h; injection h with h1 h2; subst h1; simp
  · injection h with h; injection h with h1 h2; subst h1; simp


/-! ### dirs_Encode: function 11 -/
def dirs_encs (k : Nat) (l0 : List S27) : Nat → Option (Bool × List Int)
  | 0 => some (true, [])
  | n + 1 => (dirs_encs k l0 n).bind fun p => if p.1 = true then (layout_EncodeEntry.f k (rd_T27 l0 n).f0 (rd_T27 l0 n).f1).bind fun t => (if t.2 = 0 then (if t.1.length = 16 then some (true, p.2 ++ t.1) else none) else some (false, [])) else some (false, [])
def dirs_Encode.f (k : Nat) (l0 : List S27) : Option (List Int × Int) := if 8 < l0.length then some ([], 1) else (dirs_twice.f l0).bind fun t => if t = true then some ([], 1) else (dirs_encs k l0 l0.length).bind fun p => if p.1 = true then some (p.2 ++ List.replicate (128 - p.2.length) 0, 0) else some ([], 1)
theorem dirs_encs.mono (k : Nat) (l0 : List S27) : ∀ n, LeO (dirs_encs k l0 n) (dirs_encs (k + 1) l0 n)
  | 0 => LeO.refl _
  | n + 1 => by
    unfold dirs_encs
    exact LeO.bind (dirs_encs.mono k l0 n) (fun _ => LeO.ite (LeO.bind (layout_EncodeEntry.mono _ _ _) (fun _ => LeO.refl _)) (LeO.refl _))
theorem dirs_Encode.mono : ∀ a0 k, LeO (dirs_Encode.f k a0) (dirs_Encode.f (k + 1) a0) := by
  intro a0 k
  unfold dirs_Encode.f
  exact LeO.ite (LeO.refl _) (LeO.bind (LeO.refl _) (fun _ => LeO.ite (LeO.refl _) (LeO.bind (dirs_encs.mono _ _ _) (fun _ => LeO.refl _))))
theorem dirs_encs_len (k : Nat) (l0 : List S27) : ∀ n xs, dirs_encs k l0 n = some (true, xs) → xs.length = 16 * n
  | 0, xs, h => by simp only [dirs_encs, Option.some.injEq, Prod.mk.injEq, true_and] at h; subst h; rfl
  | n + 1, xs, h => by
    simp only [dirs_encs] at h
    obtain ⟨⟨b, ys⟩, h1, h2⟩ := Option.bind_eq_some_iff.1 h
    cases b with
    | false => simp at h2
    | true =>
      have ih := dirs_encs_len k l0 n ys h1
      rw [if_pos rfl] at h2
      obtain ⟨⟨a, c⟩, h3, h4⟩ := Option.bind_eq_some_iff.1 h2
      dsimp only at h4
      split at h4
      · split at h4
        · simp only [Option.some.injEq, Prod.mk.injEq, true_and] at h4
          subst h4
          rw [List.length_append]; omega
        · simp at h4
      · simp at h4
theorem dirs_encs_down (k : Nat) (l0 : List S27) : ∀ n r, dirs_encs k l0 n = some r → ∀ m, m ≤ n → ∃ r', dirs_encs k l0 m = some r'
  | 0, r, h, m, hm => by
    obtain rfl : m = 0 := by omega
    exact ⟨r, h⟩
  | n + 1, r, h, m, hm => by
    by_cases e : m = n + 1
    · subst e; exact ⟨r, h⟩
    · simp only [dirs_encs] at h
      obtain ⟨p, h1, _⟩ := Option.bind_eq_some_iff.1 h
      exact dirs_encs_down k l0 n p h1 m (by omega)
theorem dirs_encs_false (k : Nat) (l0 : List S27) (j : Nat) (xs : List Int) (h : dirs_encs k l0 j = some (false, xs)) : ∀ n r, j ≤ n → dirs_encs k l0 n = some r → r.1 = false
  | 0, r, hn, hr => by
    obtain rfl : j = 0 := by omega
    rw [h] at hr; injection hr with hr; rw [← hr]
  | n + 1, r, hn, hr => by
    by_cases e : j = n + 1
    · subst e; rw [h] at hr; injection hr with hr; rw [← hr]
    · simp only [dirs_encs] at hr
      obtain ⟨p, h1, h2⟩ := Option.bind_eq_some_iff.1 hr
      have := dirs_encs_false k l0 j xs h n p (by omega) h1
      rw [this, if_neg (by simp)] at h2
      injection h2 with h2; rw [← h2]
theorem dirs_encs_step (xs y : List Int) (i : Nat) (hx : xs.length = 16 * i) (hy : y.length = 16) : (xs ++ List.replicate (128 - 16 * i) 0).take (i * 16) ++ y ++ (xs ++ List.replicate (128 - 16 * i) (0 : Int)).drop (i * 16 + y.length) = (xs ++ y) ++ List.replicate (128 - 16 * (i + 1)) 0 := by
  have h1 : (xs ++ List.replicate (128 - 16 * i) (0 : Int)).take (i * 16) = xs := by
    rw [List.take_append_of_le_length (by omega), List.take_of_length_le (by omega)]
  have h2 : (xs ++ List.replicate (128 - 16 * i) (0 : Int)).drop (i * 16 + y.length) = List.replicate (128 - 16 * (i + 1)) 0 := by
    rw [List.drop_append, List.drop_eq_nil_of_le (by omega), List.nil_append, List.drop_replicate]
    congr 1
    omega
  rw [h1, h2]
set_option maxHeartbeats 8000000 in
set_option maxRecDepth 100000 in
theorem dirs_Encode.calls (k : Nat) (A0 : Option Addr) (c0 : Nat) (l0 : List (S27)) (r1 : List Int) (r2 : Int) (w : World) (hr0 : Kd.C k27 w A0 l0.length l0) (hc0 : l0.length ≤ c0) (h : dirs_Encode.f k l0 = some (r1, r2)) :
    Calls Try.prog 11 #[.slice A0 l0.length c0] w fun e w' => ∃ v0_ : Value, e = .returned (.tuple #[v0_, .int .i64 r2]) ∧ Kd.R (Kd.int .u8) 5 w' w.heap.size (fun _ => True) v0_ r1 ∧ Below w.heap.size w w' := by
  unfold dirs_Encode.f at h
  refine (callsIn_wide (n := 1)).1 ?_
  refine callsIn_of_wp Try.func11 rfl trivial ?_ rfl
  simp only [Try.ntmps11, List.size_toArray, List.length_cons, List.length_nil, Nat.reduceAdd, Nat.reduceSub, Array.replicate_succ, Array.replicate_zero, List.push_toArray, List.append_toArray, List.nil_append, List.cons_append]
  have HC := Aside0.mk hr0
  clear hr0
  by_cases h8 : 8 < l0.length
  · rw [if_pos h8] at h
    injection h with h; injection h with h1 h2; subst h1; subst h2
    have t1 : decide ((8 : Int) < (l0.length : Int)) = true := decide_eq_true (by omega)
    gi_wp2_with (refine ⟨trivial, ?_⟩)
    refine bodyPost_ret (results_tmp2 rfl _ _ _) rfl ?_
    exact ⟨_, rfl, Kd.R_nil _ _ _ _ _, Below.refl _ _⟩
  · rw [if_neg h8] at h
    have t1 : decide ((8 : Int) < (l0.length : Int)) = false := decide_eq_false (by omega)
    obtain ⟨tb, htw, h⟩ := Option.bind_eq_some_iff.1 h
    have HT := Aside0.mk htw
    clear htw
    cases tb with
    | true =>
      rw [if_pos rfl] at h
      injection h with h; injection h with h1 h2; subst h1; subst h2
      gi_wp2_with (refine ⟨trivial, ?_⟩; gi_at_call 28; refine (callsIn_wide.2 (dirs_twice.calls A0 c0 l0 true _ HC.out hc0 HT.out)).mono ?_; rintro e w1 ⟨rfl, hb1⟩)
      refine bodyPost_ret (results_tmp2 rfl _ _ _) rfl ?_
      exact ⟨_, rfl, Kd.R_nil _ _ _ _ _, hb1⟩
    | false =>
      rw [if_neg (by simp)] at h
      obtain ⟨⟨b8, x8⟩, hen, h⟩ := Option.bind_eq_some_iff.1 h
      have HE := Aside0.mk hen
      have HH := Aside0.mk h
      clear hen h
      have hmk : ∀ W : World, (Instr.makeSlice 22 (.int .i64 128) (.int .i64 128)).run Try.prog W = .ok (.slice (some ⟨W.heap.size, 0, none⟩) 128 128) (W.alloc (.cells (madeCells #[.int .u8 0] 128) 5)) := fun W => by
        obtain ⟨i, hi, hz, hs, hby⟩ : ∃ i, Try.prog.info? 5 = some i ∧ i.zero = some (.int .u8 0) ∧ i.size = 1 ∧ i.bytes = 1 := ⟨_, rfl, rfl, rfl, rfl⟩
        have := run_make (P := Try.prog) W 22 5 i (.int .u8 0) Try.underlying22 hi hz .i64 .i64 128 128 (by decide) (by decide) (by rw [hby]; decide) (by decide)
        rw [hs] at this
        exact this
      have HZ : Aside0 (madeCells #[.int .u8 0] 128 = Array.replicate 128 (Value.int .u8 0)) := ⟨by apply Array.ext <;> simp [madeCells, Nat.mod_one]⟩
      generalize madeCells #[.int .u8 0] 128 = Z at *
      gi_wp2_with (refine ⟨trivial, ?_⟩; gi_at_call 28; refine (callsIn_wide.2 (dirs_twice.calls A0 c0 l0 false _ HC.out hc0 HT.out)).mono ?_; rintro e w1 ⟨rfl, hb1⟩)
      have HB1 := Aside0.mk (below_alloc hb1 (.cells Z 5))
      have HR1 : Aside0 (Kd.R (Kd.int .u8) 5 (w1.alloc (.cells Z 5)) w.heap.size (fun k => k = w1.heap.size) (.slice (some ⟨w1.heap.size, 0, none⟩) 128 128) (List.replicate 128 (0 : Int))) := ⟨by
        refine Kd.R_of_own (h1 := fun _ => rfl) ⟨by rw [encs_length, Nat.mul_one], .inr ⟨w1.heap.size, 128, Z, by rw [List.length_replicate], hb1.size, World.alloc_heap_new _ _, by simp, by simp [maxLen], by rw [HZ.out]; simp, ?_⟩⟩ (fun k hk => by simp [Value.ownBlock] at hk; exact hk.symm)
        rw [HZ.out]
        simp [encs]⟩
      have hgs : w1.heap.size < (w1.alloc (.cells Z 5)).heap.size := by simp
      have hw1 := hb1.size
      clear hmk hb1 HT
      generalize w1.heap.size = g at *
      generalize w1.alloc (.cells Z 5) = W1 at *
      gi_loopw [19] (fun v19 w' => ∃ (i : Nat) (xs : List Int), v19 = .int .i64 (i : Int) ∧ i ≤ l0.length ∧ Aside0 (dirs_encs k l0 i = some (true, xs)) ∧ Aside0 (Kd.R (Kd.int .u8) 5 w' w.heap.size (fun k => k = g) (.slice (some ⟨g, 0, none⟩) 128 128) (xs ++ List.replicate (128 - 16 * i) 0)) ∧ Aside0 (Below w.heap.size w w'))
        (fun v19 _ => l0.length - (intOf v19).toNat)
      case atStart => exact ⟨0, [], rfl, Nat.zero_le _, ⟨rfl⟩, HR1, HB1⟩
      case round =>
        obtain ⟨i, xs, rfl, hi, HX, HR, HB⟩ := hrel
        by_cases hlt : i < l0.length
        · have t1 : decide ((i : Int) < (l0.length : Int)) = true := decide_eq_true (by omega)
          obtain ⟨ad, rfl, hcell, hcell1⟩ := at_T27 (Kd.C_below HC.out HB.out) (i : Int) (by omega) (by omega)
          simp only [Int.toNat_natCast] at hcell hcell1
          obtain ⟨r', hE1⟩ := dirs_encs_down k l0 _ _ HE.out (i + 1) (by omega)
          have hE2 := hE1
          simp only [dirs_encs, HX.out, Option.bind_some, if_true] at hE2
          obtain ⟨⟨y1, y2⟩, ht, h3⟩ := Option.bind_eq_some_iff.1 hE2
          clear hE2
          dsimp only at h3
          have hxl := dirs_encs_len k l0 _ _ HX.out
          have HBA := Aside0.mk (below_alloc HB.out (.cells #[.int .i64 (rd_T27 l0 i).f0, .string (rd_T27 l0 i).f1] 27))
          generalize rd_T27 l0 i = e at *
          have HT := Aside0.mk ht
          have HE1 := Aside0.mk hE1
          clear ht hE1
          by_cases hy : y2 = 0
          · rw [if_pos hy] at h3
            split at h3
            next h16 =>
              have HR' := Aside0.mk (Option.some.inj h3)
              clear h3
              subst hy
              have em : wrap64 ((i : Int) * 16) = ((i * 16 : Nat) : Int) := by unfold wrap64; omega
              have hcap2 : i * 16 < 128 := by omega
              have hcap3 : ¬ 128 = i * 16 := by omega
              have hcap4 : ¬ i * 16 = 128 := by omega
              have HXL := Aside0.mk hxl
              have H16 := Aside0.mk h16
              have HLL : Aside0 ((xs ++ List.replicate (128 - 16 * i) 0).length = 128) := ⟨by rw [List.length_append, List.length_replicate]; omega⟩
              clear hxl h16
              gi_wp2_with (refine ⟨trivial, ?_⟩; gi_at_call 31; refine (callsIn_wide.2 (layout_EncodeEntry.calls k e.f0 e.f1 y1 0 _ HT.out)).mono ?_; rintro e' w2 ⟨v2, rfl, hrr, hb2⟩; obtain ⟨A2, c2, rfl⟩ := Kd.R_slice hrr; obtain ⟨g2, cp2, hf2, _⟩ := Kd.R_form hrr (by have := H16.out; omega); injection hf2 with hA2 _ hc2; subst hA2; subst hc2; obtain ⟨W3, hcp, hR3, hg3⟩ := Go.Proofs.Ytnbkbmhiajfbpaa.Ca.dirs_copyAt w2 w.heap.size g 128 (i * 16) ⟨g2, 0, none⟩ c2 (xs ++ List.replicate (128 - 16 * i) 0) y1 (fun k => k = g) (by rw [HLL.out]; exact Kd.R_below (Kd.R_below HR.out (below_alloc (Below.refl _ _) _)) hb2) (Kd.R_reads' hrr).2.2 (by have := H16.out; have := HLL.out; omega) (by have := H16.out; omega); rw [HLL.out, H16.out] at hcp; have HR3 := Aside0.mk hR3; have HB3 := Aside0.mk (Below.grown (below_step HBA.out hb2) hg3 (below_step HBA.out hb2).size (fun k hk => by cases hk; have := Kd.R_base HR.out g rfl; omega)); clear hR3 hg3 hrr hb2; rw [H16.out])
              refine ⟨⟨i + 1, xs ++ y1, by simp, hlt, ⟨by rw [HE1.out, HR'.out]⟩, ⟨?_⟩, HB3⟩, by simp [intOf]; omega⟩
              have hR3 := HR3.out
              rw [HLL.out] at hR3
              rw [dirs_encs_step xs y1 i HXL.out H16.out] at hR3
              exact hR3
            next => simp at h3
          · rw [if_neg hy] at h3
            have HR' := Aside0.mk (Option.some.inj h3)
            clear h3
            have t2 : (y2 == 0) = false := by simp [hy]
            have t3 : (y2 != 0) = true := by simp [hy]
            have HXL := Aside0.mk hxl
            clear hxl
            gi_wp2_with (refine ⟨trivial, ?_⟩; gi_at_call 31; refine (callsIn_wide.2 (layout_EncodeEntry.calls k e.f0 e.f1 y1 y2 _ HT.out)).mono ?_; rintro e' w2 ⟨v2, rfl, hrr, hb2⟩; have HB3 := Aside0.mk (below_step HBA.out hb2); clear hrr hb2)
            refine bodyPost_ret (results_tmp2 rfl _ _ _) rfl ?_
            have hE := HE1.out
            rw [← HR'.out] at hE
            have hb8 : (b8, x8).1 = false := dirs_encs_false k l0 (i + 1) [] hE _ _ (by omega) HE.out
            have h5 := HH.out
            dsimp only at hb8
            rw [hb8, if_neg (by simp)] at h5
            injection h5 with h5
            injection h5 with h5 h6
            subst h5; subst h6
            exact ⟨_, rfl, Kd.R_nil _ _ _ _ _, HB3.out⟩
        · have t1 : decide ((i : Int) < (l0.length : Int)) = false := decide_eq_false (by omega)
          obtain rfl : i = l0.length := by omega
          have h1 := HX.out
          rw [HE.out] at h1
          injection h1 with h1
          injection h1 with h1 h2
          subst h1; subst h2
          have h3 := HH.out
          rw [if_pos rfl] at h3
          injection h3 with h3
          injection h3 with h3 h4
          gi_wp2
          refine bodyPost_ret (results_tmp2 rfl _ _ _) rfl ?_
          subst h3; subst h4
          refine ⟨_, rfl, ?_, HB.out⟩
          have hxl := dirs_encs_len k l0 _ _ HX.out
          have hR := HR.out
          rw [← hxl] at hR
          exact Kd.R_mono hR (fun _ _ => trivial)

/-! ### bollardref12_clash: function 30 -/
mutual
def bollardref12_clash.l0 : Nat → List (S27) → List (S27) → Int → Int → Option (Bool)
  | 0, _, _, _, _ => none
  | k + 1, x0, x7, x8, x9 => if x9 < x8 then (if 0 ≤ x9 then (if x9 < (x7.length : Int) then (if x9 ≤ (x0.length : Int) then ((some (x0.take (x9 : Int).toNat : List (S27))).bind fun y138 => (bollardref12_clash.l1 k x0 x7 x8 x9 y138 (y138.length : Int) 0 ((rd_T27 x7 x9).f0) ((rd_T27 x7 x9).f1))) else (none)) else (none)) else (none)) else (some false)
def bollardref12_clash.l1 : Nat → List (S27) → List (S27) → Int → Int → List (S27) → Int → Int → Int → ByteArray → Option (Bool)
  | 0, _, _, _, _, _, _, _, _, _ => none
  | k + 1, x0, x7, x8, x9, x16, x17, x18, x138000, x138001 => if x18 < x17 then (if 0 ≤ x18 then (if x18 < (x16.length : Int) then (if x138000 = 0 then (bollardref12_clash.l1 k x0 x7 x8 x9 x16 x17 (wrap64 (x18 + 1)) x138000 x138001) else (if ((rd_T27 x16 x18).f0) = 0 then (bollardref12_clash.l1 k x0 x7 x8 x9 x16 x17 (wrap64 (x18 + 1)) x138000 x138001) else (if x138001.toList = ((rd_T27 x16 x18).f1).toList then (some true) else (bollardref12_clash.l1 k x0 x7 x8 x9 x16 x17 (wrap64 (x18 + 1)) x138000 x138001)))) else (none)) else (none)) else (bollardref12_clash.l0 k x0 x7 x8 (wrap64 (x9 + 1)))
end
def bollardref12_clash.f (k : Nat) (l0 : List (S27)) : Option (Bool) := bollardref12_clash.l0 k l0 l0 (l0.length : Int) 0
theorem bollardref12_clash.mono_l : ∀ k, (∀ y0 y1 y2 y3, LeO (bollardref12_clash.l0 k y0 y1 y2 y3) (bollardref12_clash.l0 (k + 1) y0 y1 y2 y3)) ∧ (∀ y0 y1 y2 y3 y4 y5 y6 y7 y8, LeO (bollardref12_clash.l1 k y0 y1 y2 y3 y4 y5 y6 y7 y8) (bollardref12_clash.l1 (k + 1) y0 y1 y2 y3 y4 y5 y6 y7 y8))
  | 0 => ⟨fun _ _ _ _ r h => by simp [bollardref12_clash.l0] at h, fun _ _ _ _ _ _ _ _ _ r h => by simp [bollardref12_clash.l1] at h⟩
  | k + 1 => by
    obtain ⟨ih0, ih1⟩ := bollardref12_clash.mono_l k
    refine ⟨?_, ?_⟩
    · intro y0 y1 y2 y3
      unfold bollardref12_clash.l0
      repeat' first
      | (with_reducible exact ih0 _ _ _ _)
      | (with_reducible exact ih1 _ _ _ _ _ _ _ _ _)
      | (with_reducible exact LeO.refl _)
      | (with_reducible exact LeO.none _)
      | (with_reducible refine LeO.ite ?_ ?_)
      | (with_reducible refine LeO.bind ?_ (fun _ => ?_))
      | exact ih0 _ _ _ _
      | exact ih1 _ _ _ _ _ _ _ _ _
      | exact LeO.none _
      | refine LeO.ite ?_ ?_
      | refine LeO.bind ?_ (fun _ => ?_)
    · intro y0 y1 y2 y3 y4 y5 y6 y7 y8
      unfold bollardref12_clash.l1
      repeat' first
      | (with_reducible exact ih0 _ _ _ _)
      | (with_reducible exact ih1 _ _ _ _ _ _ _ _ _)
      | (with_reducible exact LeO.refl _)
      | (with_reducible exact LeO.none _)
      | (with_reducible refine LeO.ite ?_ ?_)
      | (with_reducible refine LeO.bind ?_ (fun _ => ?_))
      | exact ih0 _ _ _ _
      | exact ih1 _ _ _ _ _ _ _ _ _
      | exact LeO.none _
      | refine LeO.ite ?_ ?_
      | refine LeO.bind ?_ (fun _ => ?_)
theorem bollardref12_clash.mono : ∀ a0 k, LeO (bollardref12_clash.f k a0) (bollardref12_clash.f (k + 1) a0) := by
  intro a0 k
  obtain ⟨ih0, ih1⟩ := bollardref12_clash.mono_l k
  unfold bollardref12_clash.f
  repeat' first
      | (with_reducible exact ih0 _ _ _ _)
      | (with_reducible exact ih1 _ _ _ _ _ _ _ _ _)
      | (with_reducible exact LeO.refl _)
      | (with_reducible exact LeO.none _)
      | (with_reducible refine LeO.ite ?_ ?_)
      | (with_reducible refine LeO.bind ?_ (fun _ => ?_))
      | exact ih0 _ _ _ _
      | exact ih1 _ _ _ _ _ _ _ _ _
      | exact LeO.none _
      | refine LeO.ite ?_ ?_
      | refine LeO.bind ?_ (fun _ => ?_)
set_option maxHeartbeats 8000000 in
set_option maxRecDepth 100000 in
theorem bollardref12_clash.calls (k : Nat) (A0 : Option Addr) (c0 : Nat) (l0 : List (S27)) (r : Bool) (w : World) (hr0 : Kd.C k27 w A0 l0.length l0) (hc0 : l0.length ≤ c0) (h : bollardref12_clash.f k l0 = some r) :
    Calls Try.prog 30 #[.slice A0 l0.length c0] w fun e w' => e = .returned (.bool r) ∧ Below w.heap.size w w' := by
  have hu27 := Try.underlying27
  have HR0 := Aside0.mk hr0
  have HC0 := Aside0.mk hc0
  clear hr0 hc0
  have HB := Aside0.mk (Below.refl w.heap.size w)
  have H : (bollardref12_clash.l0 k l0 l0 (l0.length : Int) 0) = some r := h
  clear h
  have H' := Aside0.mk H
  clear H
  go_enter Try.func30, Try.ntmps30
  go_wp2
  go_loopg [9] k (fun kq v9 w' => ∃ (x9_1 : Int), v9 = .int .i64 x9_1 ∧ Aside0 (bollardref12_clash.l0 kq l0 l0 (l0.length : Int) x9_1 = some r) ∧ Aside0 (kq ≤ k) ∧ Aside0 (Below w.heap.size w w'))
  case atStart => exact ⟨(0), (by first | rfl | (simp; done) | (simp [*]; done)), H', ⟨Nat.le_refl _⟩, ⟨by repeat (first | (with_reducible first | exact HB.out | apply below_alloc | apply pw_below_drewN | apply below_drew1) | exact HB.out)⟩⟩
  case round =>
    clear H'
    obtain ⟨x9_1, rfl, HA, HK1, HB⟩ := hrel
    cases gk with
    | zero => exact absurd HA.out (by simp [bollardref12_clash.l0])
    | succ k1 =>
      have H := HA.out
      clear HA
      simp only [bollardref12_clash.l0] at H
      by_cases c2 : x9_1 < (l0.length : Int)
      · rw [if_pos c2] at H
        have c2b0 : decide (x9_1 < (l0.length : Int)) = true := decide_eq_true c2
        clear c2
        by_cases c3 : 0 ≤ x9_1
        · rw [if_pos c3] at H
          have c3b0 : decide (0 ≤ x9_1) = true := decide_eq_true c3
          clear c3
          by_cases c4 : x9_1 < (l0.length : Int)
          · rw [if_pos c4] at H
            have c4b0 : decide (x9_1 < (l0.length : Int)) = true := decide_eq_true c4
            clear c4
            have c5b0 := eq_true (of_decide_eq_true (by first | (with_reducible assumption) | assumption) : 0 ≤ x9_1)
            by_cases c6 : x9_1 ≤ (l0.length : Int)
            · rw [if_pos c6] at H
              have c6b0 := eq_true c6
              have c6b1 : decide (x9_1 ≤ (l0.length : Int)) = true := decide_eq_true c6
              clear c6
              obtain ⟨y138, hy138⟩ : ∃ y_ : List (S27), y_ = (l0.take (x9_1 : Int).toNat) := ⟨_, rfl⟩
              replace H : (bollardref12_clash.l1 k1 l0 l0 (l0.length : Int) x9_1 y138 (y138.length : Int) 0 ((rd_T27 l0 x9_1).f0) ((rd_T27 l0 x9_1).f1)) = some r := by first | (rw [hy138]; with_reducible exact H) | (have H2_ := (Option.bind_some _ _).symm.trans H; rw [hy138]; with_reducible exact H2_) | (have H2_ := (Option.bind_some _ _).symm.trans H; with_reducible exact H2_) | with_reducible exact H | (rw [hy138]; exact H) | exact H
              have Ny138 := Aside0.mk hy138
              clear hy138
              have H' := Aside0.mk H
              clear H
              have p136 : 0 ≤ (x9_1 : Int) := of_decide_eq_true (by first | (with_reducible assumption) | assumption)
              have q136 : x9_1 < (l0.length : Int) := of_decide_eq_true (by first | (with_reducible assumption) | assumption)
              obtain ⟨ad136, e136, hx136_0, hx136_1⟩ := at_T27 HR0.out x9_1 p136 q136
              cases e136
              replace hx136_0 := (HB.out.cell (World.block_lt_of_cell? w _ hx136_0)).trans hx136_0
              replace hx136_1 := (HB.out.cell (World.block_lt_of_cell? w _ hx136_1)).trans hx136_1
              replace p136 := eq_true p136
              replace q136 := eq_true q136
              go_wp2_with (first | ((with_reducible refine gate_dst (N := 4) rfl ?_); refine box_event ?hg (N := 4) ?hd (cs := #[.int .i64 0, .string (⟨#[]⟩ : ByteArray)]) (t := 27) ?hr ?_; (case hd => rfl); (case hg => rfl); (case hr => first | (go_simp; done) | (go_simp; rfl)); intro gb137 hg w7 hbox hb; have n0_ := Aside0.mk (below_step (by repeat (first | (with_reducible first | exact HB.out | apply below_alloc | apply pw_below_drewN | apply below_drew1) | exact HB.out)) hb); have n1_ := Aside0.mk (hbox); have n2_ := Aside0.mk ((by rw [hg]; exact (below_size (by repeat (first | (with_reducible first | exact HB.out | apply below_alloc | apply pw_below_drewN | apply below_drew1) | exact HB.out))) : w.heap.size ≤ gb137)); have n3_ := Aside0.mk ((by rw [hg]; exact (below_size (by repeat (first | (with_reducible first | exact HB.out | apply below_alloc | apply pw_below_drewN | apply below_drew1) | exact HB.out))) : w.heap.size ≤ gb137)); clear HB; have HB := n0_; have BK137 := n1_; have GW137 := n2_; have GE137 := n3_; clear n0_ n1_ n2_ n3_; clear hb hbox hg; have hcz8_0 : w7.cell? ⟨gb137, 0, none⟩ = some (.int .i64 0) := (blk_cell BK137.out 0).trans rfl; have hcz8_1 : w7.cell? ⟨gb137, 1, none⟩ = some (.string (⟨#[]⟩ : ByteArray)) := (blk_cell BK137.out 1).trans rfl; have hfz8_0 := blk_frozen BK137.out 0; have hfz8_1 := blk_frozen BK137.out 1) | ((with_reducible refine gate_store (t := 27) (p := 4) rfl ?_); refine store_event (t := 27) (p := 4) (v := ?vo_w9) (w1 := ((w7.setCell ⟨gb137, 0, none⟩ (.int .i64 ((rd_T27 l0 x9_1).f0))).setCell ⟨gb137, 1, none⟩ (.string ((rd_T27 l0 x9_1).f1)))) ?hg ?ho ?hn ?hr ?_; (case ho => rfl); (case hg => rfl); (case hn => rfl); (case hr => first | (go_simp; done) | (go_simp; rfl)); intro w9 hw; have n0_ : Aside0 (w9.heap[gb137]? = some (.cells #[.int .i64 ((rd_T27 l0 x9_1).f0), .string ((rd_T27 l0 x9_1).f1)] 27 (0, 0))) := ⟨(by rw [hw]; exact (by (with_reducible repeat (first | refine blk_drewN ?_ _ | refine blk_drew ?_ | refine blk_alloc ?_ _)); refine blk_put (cs := #[.int .i64 ((rd_T27 l0 x9_1).f0), .string (⟨#[]⟩ : ByteArray)]) ?_ 1 _ rfl; (with_reducible repeat (first | refine blk_drewN ?_ _ | refine blk_drew ?_ | refine blk_alloc ?_ _)); refine blk_put (cs := #[.int .i64 0, .string (⟨#[]⟩ : ByteArray)]) ?_ 0 _ rfl; (with_reducible repeat (first | refine blk_drewN ?_ _ | refine blk_drew ?_ | refine blk_alloc ?_ _)); exact BK137.out))⟩; have n1_ : Aside0 (Below w.heap.size w w9) := ⟨(by rw [hw]; exact (by repeat (first | (with_reducible first | exact HB.out | apply below_alloc | apply pw_below_drewN | apply below_drew1 | refine below_set ?_ GE137.out) | exact HB.out)))⟩; clear hw; clear BK137; clear HB; have BK137 := n0_; have HB := n1_; clear n0_ n1_; have q10 : (x9_1 : Int) ≤ ((l0.length : Int) : Int) := of_decide_eq_true (by first | (with_reducible assumption) | assumption); obtain ⟨i010, hi010, _, hsz10, _⟩ := info_parts info27; have hroom10 : l0.length ≤ c0 := HC0.out; have hC10 : Kd.C k27 _ (some ad136) l0.length l0 := HR0.out; have hcut10 := cut_to (P := Try.prog) 23 27 .i64 Try.underlying23 hi010 (some ad136) l0.length c0 x9_1 (of_decide_eq_true (by first | (with_reducible assumption) | assumption)) q10 hroom10; have hr10 := Kd.C_take (m := (x9_1 : Int).toNat) hC10 (by omega); have hy10 : y138.length = (x9_1 : Int).toNat := (by rw [Ny138.out, List.length_take]; omega); rw [← Ny138.out] at hr10; rw [← hy10] at hcut10; have HR141 := Aside0.mk hr10; have HC141 := Aside0.mk (show y138.length ≤ c0 from by omega); clear hr10 hC10 hroom10 hi010 hsz10; have KY10 := Aside0.mk hy10; clear hy10; replace q10 := eq_true q10))
              go_loopg [18] k1 (fun kq v18 w' => ∃ (x18_2 : Int), v18 = .int .i64 x18_2 ∧ Aside0 (bollardref12_clash.l1 kq l0 l0 (l0.length : Int) x9_1 y138 (y138.length : Int) x18_2 ((rd_T27 l0 x9_1).f0) ((rd_T27 l0 x9_1).f1) = some r) ∧ Aside0 (kq ≤ k1) ∧ Aside0 (w'.heap[gb137]? = some (.cells #[.int .i64 ((rd_T27 l0 x9_1).f0), .string ((rd_T27 l0 x9_1).f1)] 27 (0, 0))) ∧ Aside0 (Below w.heap.size w w'))
              case atStart => exact ⟨(0), (by first | rfl | (simp; done) | (simp [*]; done)), H', ⟨Nat.le_refl _⟩, ⟨by (with_reducible repeat (first | refine blk_drewN ?_ _ | refine blk_drew ?_ | refine blk_alloc ?_ _)); exact BK137.out⟩, ⟨by repeat (first | (with_reducible first | exact HB.out | apply below_alloc | apply pw_below_drewN | apply below_drew1 | refine below_set ?_ GE137.out) | exact HB.out)⟩⟩
              case round =>
                clear H'
                try clear p1
                try clear q1
                try clear hx1
                try clear c2
                try clear c2b0
                try clear p2
                try clear c3
                try clear c3b0
                try clear c4
                try clear c4b0
                try clear c5
                try clear c5b0
                try clear c6
                try clear c6b0
                try clear c6b1
                try clear q10
                try clear hcz8_0
                try clear hcz8_1
                try clear hfz8_0
                try clear hfz8_1
                try clear hx136_0
                try clear hx136_1
                try clear p136
                try clear q10
                try clear q136
                obtain ⟨x18_2, rfl, HA, HK2, BK137, HB⟩ := hrel
                cases gk with
                | zero => exact absurd HA.out (by simp [bollardref12_clash.l1])
                | succ k2 =>
                  have H := HA.out
                  clear HA
                  simp only [bollardref12_clash.l1] at H
                  by_cases c11 : x18_2 < (y138.length : Int)
                  · rw [if_pos c11] at H
                    have c11b0 : decide (x18_2 < (y138.length : Int)) = true := decide_eq_true c11
                    clear c11
                    by_cases c12 : 0 ≤ x18_2
                    · rw [if_pos c12] at H
                      have c12b0 : decide (0 ≤ x18_2) = true := decide_eq_true c12
                      clear c12
                      by_cases c13 : x18_2 < (y138.length : Int)
                      · rw [if_pos c13] at H
                        have c13b0 : decide (x18_2 < (y138.length : Int)) = true := decide_eq_true c13
                        clear c13
                        by_cases c14 : ((rd_T27 l0 x9_1).f0) = 0
                        · rw [if_pos c14] at H
                          have c14b0 : (((rd_T27 l0 x9_1).f0) == 0) = true := beq_iff_eq.mpr c14
                          have c14b1 : (((rd_T27 l0 x9_1).f0) != 0) = false := bne_eq_false_iff_eq.mpr c14
                          clear c14
                          have H' := Aside0.mk H
                          clear H
                          have p142 : 0 ≤ (x18_2 : Int) := of_decide_eq_true (by first | (with_reducible assumption) | assumption)
                          have q142 : x18_2 < (y138.length : Int) := of_decide_eq_true (by first | (with_reducible assumption) | assumption)
                          obtain ⟨ad142, e142, hx142_0, hx142_1⟩ := at_T27 HR141.out x18_2 p142 q142
                          obtain rfl : ad136 = ad142 := (by injection e142)
                          replace hx142_0 := (HB.out.cell (World.block_lt_of_cell? w _ hx142_0)).trans hx142_0
                          replace hx142_1 := (HB.out.cell (World.block_lt_of_cell? w _ hx142_1)).trans hx142_1
                          replace p142 := eq_true p142
                          replace q142 := eq_true q142
                          go_wp2_with (first | ((with_reducible refine gate_dst (N := 6) rfl ?_); refine box_event ?hg (N := 6) ?hd (cs := #[.int .i64 0, .string (⟨#[]⟩ : ByteArray)]) (t := 27) ?hr ?_; (case hd => rfl); (case hg => rfl); (case hr => first | (go_simp; done) | (go_simp; rfl)); intro gb143 hg w15 hbox hb; have n0_ := Aside0.mk (blk_below (g := gb137) (o := .cells #[.int .i64 ((rd_T27 l0 x9_1).f0), .string ((rd_T27 l0 x9_1).f1)] 27 (0, 0)) (by (with_reducible repeat (first | refine blk_drewN ?_ _ | refine blk_drew ?_ | refine blk_alloc ?_ _)); exact BK137.out) hb); have n1_ := Aside0.mk (below_step (by repeat (first | (with_reducible first | exact HB.out | apply below_alloc | apply pw_below_drewN | apply below_drew1 | refine below_set ?_ GE137.out) | exact HB.out)) hb); have n2_ := Aside0.mk (hbox); have n3_ := Aside0.mk ((by rw [hg]; exact (below_size (by repeat (first | (with_reducible first | exact HB.out | apply below_alloc | apply pw_below_drewN | apply below_drew1 | refine below_set ?_ GE137.out) | exact HB.out))) : w.heap.size ≤ gb143)); have n4_ := Aside0.mk ((by rw [hg]; exact (below_size (by repeat (first | (with_reducible first | exact HB.out | apply below_alloc | apply pw_below_drewN | apply below_drew1 | refine below_set ?_ GE137.out) | exact HB.out))) : w.heap.size ≤ gb143)); have n5_ := Aside0.mk ((by rw [hg]; exact Nat.ne_of_lt (blk_lt (g := gb137) (o := .cells #[.int .i64 ((rd_T27 l0 x9_1).f0), .string ((rd_T27 l0 x9_1).f1)] 27 (0, 0)) (by (with_reducible repeat (first | refine blk_drewN ?_ _ | refine blk_drew ?_ | refine blk_alloc ?_ _)); exact BK137.out)) : gb137 ≠ gb143)); have n6_ := Aside0.mk ((by rw [hg]; exact Nat.ne_of_gt (blk_lt (g := gb137) (o := .cells #[.int .i64 ((rd_T27 l0 x9_1).f0), .string ((rd_T27 l0 x9_1).f1)] 27 (0, 0)) (by (with_reducible repeat (first | refine blk_drewN ?_ _ | refine blk_drew ?_ | refine blk_alloc ?_ _)); exact BK137.out)) : gb143 ≠ gb137)); clear BK137; clear HB; have BK137 := n0_; have HB := n1_; have BK143 := n2_; have GW143 := n3_; have GE143 := n4_; have NB137_143 := n5_; have NB143_137 := n6_; clear n0_ n1_ n2_ n3_ n4_ n5_ n6_; clear hb hbox hg; have hnb16 := NB143_137.out; have hnc16 := NB137_143.out; have hcz17_0 : w15.cell? ⟨gb143, 0, none⟩ = some (.int .i64 0) := (blk_cell BK143.out 0).trans rfl; have hcz17_1 : w15.cell? ⟨gb143, 1, none⟩ = some (.string (⟨#[]⟩ : ByteArray)) := (blk_cell BK143.out 1).trans rfl; have hfz17_0 := blk_frozen BK143.out 0; have hfz17_1 := blk_frozen BK143.out 1; have hcz18_0 : w15.cell? ⟨gb137, 0, none⟩ = some (.int .i64 ((rd_T27 l0 x9_1).f0)) := (blk_cell BK137.out 0).trans rfl; have hcz18_1 : w15.cell? ⟨gb137, 1, none⟩ = some (.string ((rd_T27 l0 x9_1).f1)) := (blk_cell BK137.out 1).trans rfl; have hfz18_0 := blk_frozen BK137.out 0; have hfz18_1 := blk_frozen BK137.out 1))
                          go_roundg k2
                          case measure => have := HK1.out; have := HK2.out; omega
                          case rel => exact ⟨(wrap64 (x18_2 + 1)), (by first | rfl | (simp; done) | (simp [*]; done)), H', ⟨by have := HK1.out; have := HK2.out; omega⟩, ⟨by (with_reducible repeat (first | refine blk_drewN ?_ _ | refine blk_drew ?_ | refine blk_alloc ?_ _)); refine blk_far ?_ NB137_143.out _; (with_reducible repeat (first | refine blk_drewN ?_ _ | refine blk_drew ?_ | refine blk_alloc ?_ _)); refine blk_far ?_ NB137_143.out _; (with_reducible repeat (first | refine blk_drewN ?_ _ | refine blk_drew ?_ | refine blk_alloc ?_ _)); exact BK137.out⟩, ⟨by repeat (first | (with_reducible first | exact HB.out | apply below_alloc | apply pw_below_drewN | apply below_drew1 | refine below_set ?_ GE137.out | refine below_set ?_ GE143.out) | exact HB.out)⟩⟩
                        · rw [if_neg c14] at H
                          have c14b0 : (((rd_T27 l0 x9_1).f0) == 0) = false := beq_eq_false_iff_ne.mpr c14
                          have c14b1 : (((rd_T27 l0 x9_1).f0) != 0) = true := bne_iff_ne.mpr c14
                          by_cases c19 : ((rd_T27 y138 x18_2).f0) = 0
                          · rw [if_pos c19] at H
                            have c19b0 : (((rd_T27 y138 x18_2).f0) == 0) = true := beq_iff_eq.mpr c19
                            have c19b1 : (((rd_T27 y138 x18_2).f0) != 0) = false := bne_eq_false_iff_eq.mpr c19
                            clear c19
                            have H' := Aside0.mk H
                            clear H
                            have p142 : 0 ≤ (x18_2 : Int) := of_decide_eq_true (by first | (with_reducible assumption) | assumption)
                            have q142 : x18_2 < (y138.length : Int) := of_decide_eq_true (by first | (with_reducible assumption) | assumption)
                            obtain ⟨ad142, e142, hx142_0, hx142_1⟩ := at_T27 HR141.out x18_2 p142 q142
                            obtain rfl : ad136 = ad142 := (by injection e142)
                            replace hx142_0 := (HB.out.cell (World.block_lt_of_cell? w _ hx142_0)).trans hx142_0
                            replace hx142_1 := (HB.out.cell (World.block_lt_of_cell? w _ hx142_1)).trans hx142_1
                            replace p142 := eq_true p142
                            replace q142 := eq_true q142
                            go_wp2_with (first | ((with_reducible refine gate_dst (N := 6) rfl ?_); refine box_event ?hg (N := 6) ?hd (cs := #[.int .i64 0, .string (⟨#[]⟩ : ByteArray)]) (t := 27) ?hr ?_; (case hd => rfl); (case hg => rfl); (case hr => first | (go_simp; done) | (go_simp; rfl)); intro gb143 hg w20 hbox hb; have n0_ := Aside0.mk (blk_below (g := gb137) (o := .cells #[.int .i64 ((rd_T27 l0 x9_1).f0), .string ((rd_T27 l0 x9_1).f1)] 27 (0, 0)) (by (with_reducible repeat (first | refine blk_drewN ?_ _ | refine blk_drew ?_ | refine blk_alloc ?_ _)); exact BK137.out) hb); have n1_ := Aside0.mk (below_step (by repeat (first | (with_reducible first | exact HB.out | apply below_alloc | apply pw_below_drewN | apply below_drew1 | refine below_set ?_ GE137.out) | exact HB.out)) hb); have n2_ := Aside0.mk (hbox); have n3_ := Aside0.mk ((by rw [hg]; exact (below_size (by repeat (first | (with_reducible first | exact HB.out | apply below_alloc | apply pw_below_drewN | apply below_drew1 | refine below_set ?_ GE137.out) | exact HB.out))) : w.heap.size ≤ gb143)); have n4_ := Aside0.mk ((by rw [hg]; exact (below_size (by repeat (first | (with_reducible first | exact HB.out | apply below_alloc | apply pw_below_drewN | apply below_drew1 | refine below_set ?_ GE137.out) | exact HB.out))) : w.heap.size ≤ gb143)); have n5_ := Aside0.mk ((by rw [hg]; exact Nat.ne_of_lt (blk_lt (g := gb137) (o := .cells #[.int .i64 ((rd_T27 l0 x9_1).f0), .string ((rd_T27 l0 x9_1).f1)] 27 (0, 0)) (by (with_reducible repeat (first | refine blk_drewN ?_ _ | refine blk_drew ?_ | refine blk_alloc ?_ _)); exact BK137.out)) : gb137 ≠ gb143)); have n6_ := Aside0.mk ((by rw [hg]; exact Nat.ne_of_gt (blk_lt (g := gb137) (o := .cells #[.int .i64 ((rd_T27 l0 x9_1).f0), .string ((rd_T27 l0 x9_1).f1)] 27 (0, 0)) (by (with_reducible repeat (first | refine blk_drewN ?_ _ | refine blk_drew ?_ | refine blk_alloc ?_ _)); exact BK137.out)) : gb143 ≠ gb137)); clear BK137; clear HB; have BK137 := n0_; have HB := n1_; have BK143 := n2_; have GW143 := n3_; have GE143 := n4_; have NB137_143 := n5_; have NB143_137 := n6_; clear n0_ n1_ n2_ n3_ n4_ n5_ n6_; clear hb hbox hg; have hnb21 := NB143_137.out; have hnc21 := NB137_143.out; have hcz22_0 : w20.cell? ⟨gb143, 0, none⟩ = some (.int .i64 0) := (blk_cell BK143.out 0).trans rfl; have hcz22_1 : w20.cell? ⟨gb143, 1, none⟩ = some (.string (⟨#[]⟩ : ByteArray)) := (blk_cell BK143.out 1).trans rfl; have hfz22_0 := blk_frozen BK143.out 0; have hfz22_1 := blk_frozen BK143.out 1; have hcz23_0 : w20.cell? ⟨gb137, 0, none⟩ = some (.int .i64 ((rd_T27 l0 x9_1).f0)) := (blk_cell BK137.out 0).trans rfl; have hcz23_1 : w20.cell? ⟨gb137, 1, none⟩ = some (.string ((rd_T27 l0 x9_1).f1)) := (blk_cell BK137.out 1).trans rfl; have hfz23_0 := blk_frozen BK137.out 0; have hfz23_1 := blk_frozen BK137.out 1))
                            go_roundg k2
                            case measure => have := HK1.out; have := HK2.out; omega
                            case rel => exact ⟨(wrap64 (x18_2 + 1)), (by first | rfl | (simp; done) | (simp [*]; done)), H', ⟨by have := HK1.out; have := HK2.out; omega⟩, ⟨by (with_reducible repeat (first | refine blk_drewN ?_ _ | refine blk_drew ?_ | refine blk_alloc ?_ _)); refine blk_far ?_ NB137_143.out _; (with_reducible repeat (first | refine blk_drewN ?_ _ | refine blk_drew ?_ | refine blk_alloc ?_ _)); refine blk_far ?_ NB137_143.out _; (with_reducible repeat (first | refine blk_drewN ?_ _ | refine blk_drew ?_ | refine blk_alloc ?_ _)); exact BK137.out⟩, ⟨by repeat (first | (with_reducible first | exact HB.out | apply below_alloc | apply pw_below_drewN | apply below_drew1 | refine below_set ?_ GE137.out | refine below_set ?_ GE143.out) | exact HB.out)⟩⟩
                          · rw [if_neg c19] at H
                            have c19b0 : (((rd_T27 y138 x18_2).f0) == 0) = false := beq_eq_false_iff_ne.mpr c19
                            have c19b1 : (((rd_T27 y138 x18_2).f0) != 0) = true := bne_iff_ne.mpr c19
                            by_cases c24 : ((rd_T27 l0 x9_1).f1).toList = ((rd_T27 y138 x18_2).f1).toList
                            · rw [if_pos c24] at H
                              have c24b0 : (((rd_T27 l0 x9_1).f1).toList == ((rd_T27 y138 x18_2).f1).toList) = true := beq_iff_eq.mpr c24
                              have c24b1 : (((rd_T27 l0 x9_1).f1).toList != ((rd_T27 y138 x18_2).f1).toList) = false := bne_eq_false_iff_eq.mpr c24
                              clear c24
                              obtain rfl := Option.some.inj H
                              have p142 : 0 ≤ (x18_2 : Int) := of_decide_eq_true (by first | (with_reducible assumption) | assumption)
                              have q142 : x18_2 < (y138.length : Int) := of_decide_eq_true (by first | (with_reducible assumption) | assumption)
                              obtain ⟨ad142, e142, hx142_0, hx142_1⟩ := at_T27 HR141.out x18_2 p142 q142
                              obtain rfl : ad136 = ad142 := (by injection e142)
                              replace hx142_0 := (HB.out.cell (World.block_lt_of_cell? w _ hx142_0)).trans hx142_0
                              replace hx142_1 := (HB.out.cell (World.block_lt_of_cell? w _ hx142_1)).trans hx142_1
                              replace p142 := eq_true p142
                              replace q142 := eq_true q142
                              go_wp2_with (first | ((with_reducible refine gate_dst (N := 6) rfl ?_); refine box_event ?hg (N := 6) ?hd (cs := #[.int .i64 0, .string (⟨#[]⟩ : ByteArray)]) (t := 27) ?hr ?_; (case hd => rfl); (case hg => rfl); (case hr => first | (go_simp; done) | (go_simp; rfl)); intro gb143 hg w25 hbox hb; have n0_ := Aside0.mk (blk_below (g := gb137) (o := .cells #[.int .i64 ((rd_T27 l0 x9_1).f0), .string ((rd_T27 l0 x9_1).f1)] 27 (0, 0)) (by (with_reducible repeat (first | refine blk_drewN ?_ _ | refine blk_drew ?_ | refine blk_alloc ?_ _)); exact BK137.out) hb); have n1_ := Aside0.mk (below_step (by repeat (first | (with_reducible first | exact HB.out | apply below_alloc | apply pw_below_drewN | apply below_drew1 | refine below_set ?_ GE137.out) | exact HB.out)) hb); have n2_ := Aside0.mk (hbox); have n3_ := Aside0.mk ((by rw [hg]; exact (below_size (by repeat (first | (with_reducible first | exact HB.out | apply below_alloc | apply pw_below_drewN | apply below_drew1 | refine below_set ?_ GE137.out) | exact HB.out))) : w.heap.size ≤ gb143)); have n4_ := Aside0.mk ((by rw [hg]; exact (below_size (by repeat (first | (with_reducible first | exact HB.out | apply below_alloc | apply pw_below_drewN | apply below_drew1 | refine below_set ?_ GE137.out) | exact HB.out))) : w.heap.size ≤ gb143)); have n5_ := Aside0.mk ((by rw [hg]; exact Nat.ne_of_lt (blk_lt (g := gb137) (o := .cells #[.int .i64 ((rd_T27 l0 x9_1).f0), .string ((rd_T27 l0 x9_1).f1)] 27 (0, 0)) (by (with_reducible repeat (first | refine blk_drewN ?_ _ | refine blk_drew ?_ | refine blk_alloc ?_ _)); exact BK137.out)) : gb137 ≠ gb143)); have n6_ := Aside0.mk ((by rw [hg]; exact Nat.ne_of_gt (blk_lt (g := gb137) (o := .cells #[.int .i64 ((rd_T27 l0 x9_1).f0), .string ((rd_T27 l0 x9_1).f1)] 27 (0, 0)) (by (with_reducible repeat (first | refine blk_drewN ?_ _ | refine blk_drew ?_ | refine blk_alloc ?_ _)); exact BK137.out)) : gb143 ≠ gb137)); clear BK137; clear HB; have BK137 := n0_; have HB := n1_; have BK143 := n2_; have GW143 := n3_; have GE143 := n4_; have NB137_143 := n5_; have NB143_137 := n6_; clear n0_ n1_ n2_ n3_ n4_ n5_ n6_; clear hb hbox hg; have hnb26 := NB143_137.out; have hnc26 := NB137_143.out; have hcz27_0 : w25.cell? ⟨gb143, 0, none⟩ = some (.int .i64 0) := (blk_cell BK143.out 0).trans rfl; have hcz27_1 : w25.cell? ⟨gb143, 1, none⟩ = some (.string (⟨#[]⟩ : ByteArray)) := (blk_cell BK143.out 1).trans rfl; have hfz27_0 := blk_frozen BK143.out 0; have hfz27_1 := blk_frozen BK143.out 1; have hcz28_0 : w25.cell? ⟨gb137, 0, none⟩ = some (.int .i64 ((rd_T27 l0 x9_1).f0)) := (blk_cell BK137.out 0).trans rfl; have hcz28_1 : w25.cell? ⟨gb137, 1, none⟩ = some (.string ((rd_T27 l0 x9_1).f1)) := (blk_cell BK137.out 1).trans rfl; have hfz28_0 := blk_frozen BK137.out 0; have hfz28_1 := blk_frozen BK137.out 1))
                              go_ret
                              exact ⟨by first | rfl | (simp [errW_none, errW_some] <;> rfl) | (simp [*, errW_none, errW_some] <;> rfl), by repeat (first | (with_reducible first | exact HB.out | apply below_alloc | apply pw_below_drewN | apply below_drew1 | refine below_set ?_ GE137.out | refine below_set ?_ GE143.out) | exact HB.out)⟩
                            · rw [if_neg c24] at H
                              have c24b0 : (((rd_T27 l0 x9_1).f1).toList == ((rd_T27 y138 x18_2).f1).toList) = false := beq_eq_false_iff_ne.mpr c24
                              have c24b1 : (((rd_T27 l0 x9_1).f1).toList != ((rd_T27 y138 x18_2).f1).toList) = true := bne_iff_ne.mpr c24
                              have H' := Aside0.mk H
                              clear H
                              have p142 : 0 ≤ (x18_2 : Int) := of_decide_eq_true (by first | (with_reducible assumption) | assumption)
                              have q142 : x18_2 < (y138.length : Int) := of_decide_eq_true (by first | (with_reducible assumption) | assumption)
                              obtain ⟨ad142, e142, hx142_0, hx142_1⟩ := at_T27 HR141.out x18_2 p142 q142
                              obtain rfl : ad136 = ad142 := (by injection e142)
                              replace hx142_0 := (HB.out.cell (World.block_lt_of_cell? w _ hx142_0)).trans hx142_0
                              replace hx142_1 := (HB.out.cell (World.block_lt_of_cell? w _ hx142_1)).trans hx142_1
                              replace p142 := eq_true p142
                              replace q142 := eq_true q142
                              go_wp2_with (first | ((with_reducible refine gate_dst (N := 6) rfl ?_); refine box_event ?hg (N := 6) ?hd (cs := #[.int .i64 0, .string (⟨#[]⟩ : ByteArray)]) (t := 27) ?hr ?_; (case hd => rfl); (case hg => rfl); (case hr => first | (go_simp; done) | (go_simp; rfl)); intro gb143 hg w29 hbox hb; have n0_ := Aside0.mk (blk_below (g := gb137) (o := .cells #[.int .i64 ((rd_T27 l0 x9_1).f0), .string ((rd_T27 l0 x9_1).f1)] 27 (0, 0)) (by (with_reducible repeat (first | refine blk_drewN ?_ _ | refine blk_drew ?_ | refine blk_alloc ?_ _)); exact BK137.out) hb); have n1_ := Aside0.mk (below_step (by repeat (first | (with_reducible first | exact HB.out | apply below_alloc | apply pw_below_drewN | apply below_drew1 | refine below_set ?_ GE137.out) | exact HB.out)) hb); have n2_ := Aside0.mk (hbox); have n3_ := Aside0.mk ((by rw [hg]; exact (below_size (by repeat (first | (with_reducible first | exact HB.out | apply below_alloc | apply pw_below_drewN | apply below_drew1 | refine below_set ?_ GE137.out) | exact HB.out))) : w.heap.size ≤ gb143)); have n4_ := Aside0.mk ((by rw [hg]; exact (below_size (by repeat (first | (with_reducible first | exact HB.out | apply below_alloc | apply pw_below_drewN | apply below_drew1 | refine below_set ?_ GE137.out) | exact HB.out))) : w.heap.size ≤ gb143)); have n5_ := Aside0.mk ((by rw [hg]; exact Nat.ne_of_lt (blk_lt (g := gb137) (o := .cells #[.int .i64 ((rd_T27 l0 x9_1).f0), .string ((rd_T27 l0 x9_1).f1)] 27 (0, 0)) (by (with_reducible repeat (first | refine blk_drewN ?_ _ | refine blk_drew ?_ | refine blk_alloc ?_ _)); exact BK137.out)) : gb137 ≠ gb143)); have n6_ := Aside0.mk ((by rw [hg]; exact Nat.ne_of_gt (blk_lt (g := gb137) (o := .cells #[.int .i64 ((rd_T27 l0 x9_1).f0), .string ((rd_T27 l0 x9_1).f1)] 27 (0, 0)) (by (with_reducible repeat (first | refine blk_drewN ?_ _ | refine blk_drew ?_ | refine blk_alloc ?_ _)); exact BK137.out)) : gb143 ≠ gb137)); clear BK137; clear HB; have BK137 := n0_; have HB := n1_; have BK143 := n2_; have GW143 := n3_; have GE143 := n4_; have NB137_143 := n5_; have NB143_137 := n6_; clear n0_ n1_ n2_ n3_ n4_ n5_ n6_; clear hb hbox hg; have hnb30 := NB143_137.out; have hnc30 := NB137_143.out; have hcz31_0 : w29.cell? ⟨gb143, 0, none⟩ = some (.int .i64 0) := (blk_cell BK143.out 0).trans rfl; have hcz31_1 : w29.cell? ⟨gb143, 1, none⟩ = some (.string (⟨#[]⟩ : ByteArray)) := (blk_cell BK143.out 1).trans rfl; have hfz31_0 := blk_frozen BK143.out 0; have hfz31_1 := blk_frozen BK143.out 1; have hcz32_0 : w29.cell? ⟨gb137, 0, none⟩ = some (.int .i64 ((rd_T27 l0 x9_1).f0)) := (blk_cell BK137.out 0).trans rfl; have hcz32_1 : w29.cell? ⟨gb137, 1, none⟩ = some (.string ((rd_T27 l0 x9_1).f1)) := (blk_cell BK137.out 1).trans rfl; have hfz32_0 := blk_frozen BK137.out 0; have hfz32_1 := blk_frozen BK137.out 1))
                              go_roundg k2
                              case measure => have := HK1.out; have := HK2.out; omega
                              case rel => exact ⟨(wrap64 (x18_2 + 1)), (by first | rfl | (simp; done) | (simp [*]; done)), H', ⟨by have := HK1.out; have := HK2.out; omega⟩, ⟨by (with_reducible repeat (first | refine blk_drewN ?_ _ | refine blk_drew ?_ | refine blk_alloc ?_ _)); refine blk_far ?_ NB137_143.out _; (with_reducible repeat (first | refine blk_drewN ?_ _ | refine blk_drew ?_ | refine blk_alloc ?_ _)); refine blk_far ?_ NB137_143.out _; (with_reducible repeat (first | refine blk_drewN ?_ _ | refine blk_drew ?_ | refine blk_alloc ?_ _)); exact BK137.out⟩, ⟨by repeat (first | (with_reducible first | exact HB.out | apply below_alloc | apply pw_below_drewN | apply below_drew1 | refine below_set ?_ GE137.out | refine below_set ?_ GE143.out) | exact HB.out)⟩⟩
                      · rw [if_neg c13] at H
                        exact absurd H (by simp)
                    · rw [if_neg c12] at H
                      exact absurd H (by simp)
                  · rw [if_neg c11] at H
                    have c11b0 : decide (x18_2 < (y138.length : Int)) = false := decide_eq_false c11
                    clear c11
                    have H' := Aside0.mk H
                    clear H
                    go_wp2
                    go_roundg k2
                    case measure => have := HK1.out; have := HK2.out; omega
                    case rel => exact ⟨(wrap64 (x9_1 + 1)), (by first | rfl | (simp; done) | (simp [*]; done)), H', ⟨by have := HK1.out; have := HK2.out; omega⟩, ⟨by repeat (first | (with_reducible first | exact HB.out | apply below_alloc | apply pw_below_drewN | apply below_drew1 | refine below_set ?_ GE137.out) | exact HB.out)⟩⟩
            · rw [if_neg c6] at H
              exact absurd H (by simp)
          · rw [if_neg c4] at H
            exact absurd H (by simp)
        · rw [if_neg c3] at H
          exact absurd H (by simp)
      · rw [if_neg c2] at H
        have c2b0 : decide (x9_1 < (l0.length : Int)) = false := decide_eq_false c2
        clear c2
        obtain rfl := Option.some.inj H
        go_wp2
        go_ret
        exact ⟨by first | rfl | (simp [errW_none, errW_some] <;> rfl) | (simp [*, errW_none, errW_some] <;> rfl), by repeat (first | (with_reducible first | exact HB.out | apply below_alloc | apply pw_below_drewN | apply below_drew1) | exact HB.out)⟩

end Go.Proofs.Ytnbkbmhiajfbpaa.XDirsBack
