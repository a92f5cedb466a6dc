/- Written by a program of this session. Crash of a disk. -/
import Derived.Test.YtbopccjcehnfnaaDc
namespace Go.Proofs.Ytbopccjcehnfnaa.Dk
open Go Go.RowKit Go.Shelf Go.Proofs Go.Maps Go.Proofs.Ytbopccjcehnfnaa.Sp Go.Proofs.Ytbopccjcehnfnaa.XFb Go.Proofs.YtbopccjcehnfnaaW.PrintWords Go.Proofs.YtbopccjcehnfnaaW.PrintLast Go.Proofs.YtbopccjcehnfnaaW.PrintMore
set_option linter.unusedVariables false
set_option linter.unusedSimpArgs false
theorem at_int {w : World} {A : Option Addr} {n : Nat} {xs : List Int} (h : Kd.C (Kd.int .i64) w A n xs) (i : Nat) (h1 : i < n) : ∃ ad, A = some ad ∧ w.cell? (ad.add i) = some (.int .i64 (xs.getD i 0)) := by
  obtain ⟨ad, c, e, _, hK, hc0⟩ := Kd.C_get h (0 : Int) (i : Int) (by omega) (by omega)
  rw [Int.toNat_natCast] at hK hc0
  have hc : ∀ j u, c[j]? = some u → w.cell? (ad.add (i * 1 + j)) = some u := hc0
  have hK' : c = [.int .i64 (xs.getD i 0)] := hK
  subst hK'
  exact ⟨ad, e, by have := hc 0 _ rfl; rwa [Nat.mul_one, Nat.add_zero] at this⟩
theorem empty_own {w : World} {b c : Nat} (hb : w.heap[b]? = some (.map #[] c)) (n : Nat) : Fz w b n (.map []) :=
  ⟨#[], c, hb, ⟨Nat.zero_le _, ⟨(fun x hx => by cases hx), (by simp)⟩, (fun x hx => by cases hx)⟩, Nat.zero_le _, rfl⟩
/-- The first place of a number that p holds of, from i on; -1: none. -/
def ixI (p : Int → Bool) : List Int → Int → Int
  | [], _ => -1
  | x :: r, i => if p x = true then i else ixI p r (i + 1)
set_option maxRecDepth 100000 in
set_option maxHeartbeats 8000000 in
theorem clCr {W : World} {base D m : Nat} {S : Nat → Prop} {bl : List (List Int)} {q : List S32} {mo : Obj} {last : Int} (h : IsDk W base D m S bl q mo last) (X : Nat) (hX : W.cell? ⟨X, 0, none⟩ = some (.pointer (some ⟨D, 0, none⟩))) (id : Int) :
    Calls Try.prog 37 #[.int .i64 id, .pointer (some ⟨X, 0, none⟩)] W fun e w' => e = .returned (.bool (decide (ixL (fun x : S32 => x.f0 == id) q 0 < 0))) ∧ Below W.heap.size W w' := by
  have H := Aside0.mk h
  clear h
  refine (callsIn_wide (n := 1)).1 ?_
  refine callsIn_of_wp Try.func37 rfl trivial ?_ rfl
  simp only [Try.ntmps37, List.size_toArray, List.length_cons, List.length_nil, Nat.reduceAdd, Nat.reduceSub, Array.replicate_succ, Array.replicate_zero, List.push_toArray, List.append_toArray, List.nil_append, List.cons_append]
  gi_wp2_with (first
    | (refine ⟨trivial, ?_⟩; gi_at_call 33; refine (callsIn_wide.2 (place_ok H.out id)).mono ?_; rintro e w1 ⟨rfl, hb⟩; have HW := Aside0.mk hb; clear hb))
  go_ret
  exact ⟨rfl, HW.out⟩
set_option maxRecDepth 100000 in
set_option maxHeartbeats 8000000 in
theorem indexCr {w : World} {base D m : Nat} {S : Nat → Prop} {bl : List (List Int)} {q : List S32} {mo : Obj} {last : Int} (h : IsDk w base D m S bl q mo last) (X : Nat) (hX : w.cell? ⟨X, 0, none⟩ = some (.pointer (some ⟨D, 0, none⟩))) (A : Option Addr) (c : Nat) (xs : List Int) (hC : Kd.C (Kd.int .i64) w A xs.length xs) (hlen : xs.length ≤ 1000000000000000) :
    Calls Try.prog 56 #[.slice A xs.length c, .func (.func 37) #[] #[.pointer (some ⟨X, 0, none⟩)]] w fun e w' => e = .returned (.int .i64 (ixI (fun i : Int => decide (ixL (fun x : S32 => x.f0 == i) q 0 < 0)) xs 0)) ∧ Below w.heap.size w w' := by
  have HC := Aside0.mk hC
  have HK := fun (W : World) (hB : Below w.heap.size w W) (id : Int) => clCr (h.below hB) X ((hB.cell (p := ⟨X, 0, none⟩) (World.block_lt_of_cell? w _ hX)).trans hX) id
  clear hC h hX
  refine (callsIn_wide (n := 1)).1 ?_
  refine callsIn_of_wp Try.func56 rfl trivial ?_ rfl
  simp only [Try.ntmps56, List.size_toArray, List.length_cons, List.length_nil, Nat.reduceAdd, Nat.reduceSub, Array.replicate_succ, Array.replicate_zero, List.push_toArray, List.append_toArray, List.nil_append, List.cons_append]
  gi_wp2
  gi_loopw [8] (fun v8 w' => ∃ i : Nat, v8 = .int .i64 (i : Int) ∧ i ≤ xs.length ∧ ixI (fun i : Int => decide (ixL (fun x : S32 => x.f0 == i) q 0 < 0)) xs 0 = ixI (fun i : Int => decide (ixL (fun x : S32 => x.f0 == i) q 0 < 0)) (xs.drop i) i ∧ Aside0 (Below w.heap.size w w')) (fun v8 _ => xs.length - (intOf v8).toNat)
  case atStart => exact ⟨0, rfl, Nat.zero_le _, rfl, ⟨Below.refl _ _⟩⟩
  case round =>
    obtain ⟨i, rfl, hi, hall, HB⟩ := hrel
    by_cases hlt : i < xs.length
    · have t1 : decide ((i : Int) < (xs.length : Int)) = true := decide_eq_true (by omega)
      have ew : wrap64 ((i : Int) + 1) = ((i + 1 : Nat) : Int) := by rw [IntWalk.wrap64_in _ (by omega)]; omega
      obtain ⟨ad, rfl, hcell⟩ := at_int (Kd.C_below HC.out HB.out) i hlt
      have hd : xs.drop i = xs.getD i 0 :: xs.drop (i + 1) := by
        rw [List.drop_eq_getElem_cons hlt]; simp [List.getD_eq_getElem?_getD, hlt]
      rw [hd] at hall
      generalize xs.getD i 0 = x at *
      rw [show ixI (fun i : Int => decide (ixL (fun x : S32 => x.f0 == i) q 0 < 0)) (x :: xs.drop (i + 1)) (i : Int) = if (fun i : Int => decide (ixL (fun x : S32 => x.f0 == i) q 0 < 0)) x = true then (i : Int) else ixI (fun i : Int => decide (ixL (fun x : S32 => x.f0 == i) q 0 < 0)) (xs.drop (i + 1)) ((i : Int) + 1) from rfl] at hall
      have HL := Aside0.mk hall
      clear hall hd
      obtain ⟨pv, hpv⟩ : ∃ pv, decide (ixL (fun y : S32 => y.f0 == x) q 0 < 0) = pv := ⟨_, rfl⟩
      have hcl := HK _ HB.out x
      rw [hpv] at hcl
      cases pv with
      | true =>
        have HL' := HL.out
        rw [if_pos (show (fun i : Int => decide (ixL (fun x : S32 => x.f0 == i) q 0 < 0)) x = true from hpv)] at HL'
        have HL2 := Aside0.mk HL'
        have HPV := Aside0.mk hpv
        clear HL' HL hpv
        gi_wp2_with (refine ⟨trivial, ?_⟩; gi_at_call 37; refine (callsIn_wide.2 hcl).mono ?_; rintro e w' ⟨rfl, hb⟩)
        go_ret
        have h1 := HL2.out
        exact ⟨by rw [h1]; rfl, below_step HB.out hb⟩
      | false =>
        have HL' := HL.out
        rw [if_neg (show ¬ (fun i : Int => decide (ixL (fun x : S32 => x.f0 == i) q 0 < 0)) x = true by show ¬ decide (ixL (fun y : S32 => y.f0 == x) q 0 < 0) = true; rw [hpv]; simp)] at HL'
        have HL2 := Aside0.mk HL'
        clear HL' HL hpv
        gi_wp2_with (refine ⟨trivial, ?_⟩; gi_at_call 37; refine (callsIn_wide.2 hcl).mono ?_; rintro e w' ⟨rfl, hb⟩)
        refine ⟨⟨i + 1, by simp, hlt, HL2.out.trans (congrArg (ixI (fun i : Int => decide (ixL (fun x : S32 => x.f0 == i) q 0 < 0)) _) (by omega)), ⟨below_step HB.out hb⟩⟩, by simp [intOf]; omega⟩
    · obtain rfl : i = xs.length := by omega
      have t1 : decide ((xs.length : Int) < (xs.length : Int)) = false := decide_eq_false (by omega)
      rw [List.drop_length] at hall
      have HL := Aside0.mk hall
      clear hall
      gi_wp2
      go_ret
      exact ⟨by rw [HL.out]; rfl, HB.out⟩
set_option maxRecDepth 100000 in
set_option maxHeartbeats 8000000 in
theorem containsCr {w : World} {base D m : Nat} {S : Nat → Prop} {bl : List (List Int)} {q : List S32} {mo : Obj} {last : Int} (h : IsDk w base D m S bl q mo last) (X : Nat) (hX : w.cell? ⟨X, 0, none⟩ = some (.pointer (some ⟨D, 0, none⟩))) (A : Option Addr) (c : Nat) (xs : List Int) (hC : Kd.C (Kd.int .i64) w A xs.length xs) (hlen : xs.length ≤ 1000000000000000) :
    Calls Try.prog 36 #[.slice A xs.length c, .func (.func 37) #[] #[.pointer (some ⟨X, 0, none⟩)]] w fun e w' => e = .returned (.bool (decide (0 ≤ ixI (fun i : Int => decide (ixL (fun x : S32 => x.f0 == i) q 0 < 0)) xs 0))) ∧ Below w.heap.size w w' := by
  have H := Aside0.mk h
  have HC := Aside0.mk hC
  clear hC h
  refine (callsIn_wide (n := 1)).1 ?_
  refine callsIn_of_wp Try.func36 rfl trivial ?_ rfl
  simp only [Try.ntmps36, List.size_toArray, List.length_cons, List.length_nil, Nat.reduceAdd, Nat.reduceSub, Array.replicate_succ, Array.replicate_zero, List.push_toArray, List.append_toArray, List.nil_append, List.cons_append]
  gi_wp2_with (first
    | (refine ⟨trivial, ?_⟩; gi_at_call 56; refine (callsIn_wide.2 (indexCr H.out X hX A c xs HC.out hlen)).mono ?_; rintro e w1 ⟨rfl, hb⟩; have HW := Aside0.mk hb; clear hb))
  go_ret
  exact ⟨rfl, HW.out⟩
theorem ixI_none (p : Int → Bool) : ∀ (xs : List Int) (i : Int), (∀ x ∈ xs, p x = false) → ixI p xs i = -1
  | [], _, _ => rfl
  | x :: r, i, h => by
    unfold ixI
    rw [if_neg (by rw [h x (List.mem_cons_self ..)]; simp)]
    exact ixI_none p r _ (fun y hy => h y (List.mem_cons_of_mem _ hy))
theorem ixI_some (p : Int → Bool) : ∀ (xs : List Int) (i : Int), 0 ≤ i → (∃ x ∈ xs, p x = true) → 0 ≤ ixI p xs i
  | [], _, _, h => by obtain ⟨x, hx, _⟩ := h; cases hx
  | x :: r, i, h0, h => by
    unfold ixI
    by_cases hp : p x = true
    · rw [if_pos hp]; exact h0
    · rw [if_neg hp]
      obtain ⟨y, hy, hpy⟩ := h
      rcases List.mem_cons.1 hy with rfl | hy
      · exact absurd hpy hp
      · exact ixI_some p r _ (by omega) ⟨y, hy, hpy⟩
theorem ixL_range (p : S32 → Bool) : ∀ (l : List S32) (i : Int), ixL p l i = -1 ∨ ∃ k : Nat, k < l.length ∧ ixL p l i = i + k
  | [], _ => .inl rfl
  | x :: r, i => by
    unfold ixL
    by_cases hp : p x = true
    · rw [if_pos hp]; exact .inr ⟨0, by simp, by simp⟩
    · rw [if_neg hp]
      rcases ixL_range p r (i + 1) with h | ⟨k, hk, h⟩
      · exact .inl h
      · exact .inr ⟨k + 1, by simpa using hk, by rw [h]; push_cast; omega⟩
set_option maxRecDepth 100000 in
set_option maxHeartbeats 8000000 in
theorem crash_no {W : World} {base D m : Nat} {S : Nat → Prop} {bl : List (List Int)} {q : List S32} {mo : Obj} {last : Int} (h : IsDk W base D m S bl q mo last) (A : Option Addr) (c : Nat) (ids : List Int) (hC : Kd.C (Kd.int .i64) W A ids.length ids) (hlen : ids.length ≤ 1000000000000000) (hno : ∃ i ∈ ids, ixL (fun x : S32 => x.f0 == i) q 0 < 0) :
    Calls Try.prog 16 #[.pointer (some ⟨D, 0, none⟩), .slice A ids.length c] W fun e W' => e = .returned (.int .i64 20) ∧ Below W.heap.size W W' := by
  have hb0 := below_alloc (Below.refl W.heap.size W) (.cells #[.pointer (some ⟨D, 0, none⟩)] 24)
  have HB := Aside0.mk hb0
  have H := Aside0.mk (h.below hb0)
  have HC := Aside0.mk (Kd.C_below hC hb0)
  have hX : (W.alloc (.cells #[.pointer (some ⟨D, 0, none⟩)] 24)).cell? ⟨W.heap.size, 0, none⟩ = some (.pointer (some ⟨D, 0, none⟩)) := by have h := World.alloc_heap_new W (.cells #[.pointer (some ⟨D, 0, none⟩)] 24); simp only [World.cell?, h]; rfl
  have hok : decide (0 ≤ ixI (fun i : Int => decide (ixL (fun x : S32 => x.f0 == i) q 0 < 0)) ids 0) = true := decide_eq_true (ixI_some _ ids 0 (by omega) (by obtain ⟨i, hi, h⟩ := hno; exact ⟨i, hi, decide_eq_true h⟩))
  clear h hC hb0 hno
  refine (callsIn_wide (n := 1)).1 ?_
  refine callsIn_of_wp Try.func16 rfl trivial ?_ rfl
  simp only [Try.ntmps16, List.size_toArray, List.length_cons, List.length_nil, Nat.reduceAdd, Nat.reduceSub, Array.replicate_succ, Array.replicate_zero, List.push_toArray, List.append_toArray, List.nil_append, List.cons_append]
  gi_wp2_with (first
    | (refine ⟨trivial, ?_⟩; gi_at_call 32; refine (callsIn_wide.2 (made_ok H.out)).mono ?_; rintro e w0 ⟨rfl, hw⟩; rw [hw]; clear hw)
    | (refine ⟨trivial, ?_⟩; gi_at_call 36; refine (callsIn_wide.2 (containsCr H.out W.heap.size hX A c ids HC.out hlen)).mono ?_; rintro e w1 ⟨rfl, hb⟩; rw [hok]; have HW := Aside0.mk (below_step HB.out hb); clear hb))
  go_ret
  exact ⟨rfl, HW.out⟩
end Go.Proofs.Ytbopccjcehnfnaa.Dk
