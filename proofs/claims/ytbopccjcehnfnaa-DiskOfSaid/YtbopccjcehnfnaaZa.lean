/- Written by a program of this session. disk.Of and bollardref02.Of of an image. -/
import Derived.Test.YtbopccjcehnfnaaYb
namespace Go.Proofs.Ytbopccjcehnfnaa.Dk
open Go Go.RowKit Go.Shelf Go.Proofs Go.Maps Go.Proofs.Ytbopccjcehnfnaa.Sp Go.Proofs.Ytbopccjcehnfnaa.XFb Go.Proofs.YtbopccjcehnfnaaW.PrintWords Go.Proofs.YtbopccjcehnfnaaW.PrintLast Go.Proofs.YtbopccjcehnfnaaW.PrintMore
set_option linter.unusedVariables false
set_option linter.unusedSimpArgs false
/-- The first row that has not 128 bytes, from i on; -1: none. -/
def ixB : List (List Int) → Int → Int
  | [], _ => -1
  | x :: r, i => if x.length = 128 then ixB r (i + 1) else i
theorem ixB_none : ∀ (xs : List (List Int)) (i : Int), (∀ x ∈ xs, x.length = 128) → ixB xs i = -1
  | [], _, _ => rfl
  | x :: r, i, h => by unfold ixB; rw [if_pos (h x (List.mem_cons_self ..))]; exact ixB_none r _ (fun y hy => h y (List.mem_cons_of_mem _ hy))
theorem ixB_some : ∀ (xs : List (List Int)) (i : Int), 0 ≤ i → (∃ x ∈ xs, x.length ≠ 128) → 0 ≤ ixB xs i
  | [], _, _, h => by obtain ⟨x, hx, _⟩ := h; cases hx
  | x :: r, i, h0, h => by
    unfold ixB
    by_cases hp : x.length = 128
    · rw [if_pos hp]
      obtain ⟨y, hy, hpy⟩ := h
      rcases List.mem_cons.1 hy with rfl | hy
      · exact absurd hp hpy
      · exact ixB_some r _ (by omega) ⟨y, hy, hpy⟩
    · rw [if_neg hp]; exact h0
set_option maxRecDepth 100000 in
set_option maxHeartbeats 8000000 in
theorem clB (A0 : Option Addr) (n a0 : Nat) (W : World) : Calls Try.prog 51 #[.slice A0 n a0] W fun e W' => e = .returned (.bool (decide (n ≠ 128))) ∧ W' = W := by
  refine (callsIn_wide (n := 1)).1 ?_
  refine callsIn_of_wp Try.func51 rfl trivial ?_ rfl
  simp only [Try.ntmps51, List.size_toArray, List.length_cons, List.length_nil, Nat.reduceAdd, Nat.reduceSub, Array.replicate_succ, Array.replicate_zero, List.push_toArray, List.append_toArray, List.nil_append, List.cons_append]
  by_cases hn : n = 128
  · have t1 : ((n : Int) != 128) = false := bne_eq_false_iff_eq.2 (by omega)
    rw [show decide (n ≠ 128) = false by simp [hn]]
    clear hn
    gi_wp2
    go_ret
    exact ⟨rfl, rfl⟩
  · have t1 : ((n : Int) != 128) = true := bne_iff_ne.mpr (by omega)
    rw [show decide (n ≠ 128) = true by simp [hn]]
    gi_wp2
    go_ret
    exact ⟨rfl, rfl⟩
set_option maxRecDepth 100000 in
set_option maxHeartbeats 8000000 in
theorem indexB (A : Option Addr) (c : Nat) (xs : List (List Int)) (w : World) (hC : Kd.C (Kd.slice 5 (Kd.int .u8)) w A xs.length xs) (hlen : xs.length ≤ 1000000000000000) :
    Calls Try.prog 61 #[.slice A xs.length c, .func (.func 51) #[] #[]] w fun e w' => e = .returned (.int .i64 (ixB xs 0)) ∧ Below w.heap.size w w' := by
  have HC := Aside0.mk hC
  clear hC
  refine (callsIn_wide (n := 1)).1 ?_
  refine callsIn_of_wp Try.func61 rfl trivial ?_ rfl
  simp only [Try.ntmps61, List.size_toArray, List.length_cons, List.length_nil, Nat.reduceAdd, Nat.reduceSub, Array.replicate_succ, Array.replicate_zero, List.push_toArray, List.append_toArray, List.nil_append, List.cons_append]
  gi_wp2
  gi_loopw [8] (fun v8 w' => ∃ i : Nat, v8 = .int .i64 (i : Int) ∧ i ≤ xs.length ∧ ixB xs 0 = ixB (xs.drop i) i ∧ Aside0 (Below w.heap.size w w')) (fun v8 _ => xs.length - (intOf v8).toNat)
  case atStart => exact ⟨0, rfl, Nat.zero_le _, rfl, ⟨Below.refl _ _⟩⟩
  case round =>
    obtain ⟨i, rfl, hi, hall, HB⟩ := hrel
    by_cases hlt : i < xs.length
    · have t1 : decide ((i : Int) < (xs.length : Int)) = true := decide_eq_true (by omega)
      have ew : wrap64 ((i : Int) + 1) = ((i + 1 : Nat) : Int) := by rw [IntWalk.wrap64_in _ (by omega)]; omega
      obtain ⟨ad, A0, a0, rfl, ca, la, ra⟩ := at_rows (Kd.C_below HC.out HB.out) i hlt
      have hx : xs.getD i [] = xs[i] := by simp [List.getD_eq_getElem?_getD, hlt]
      rw [hx] at ca la ra
      have hd : xs.drop i = xs[i] :: xs.drop (i + 1) := List.drop_eq_getElem_cons hlt
      rw [hd] at hall
      generalize xs[i] = x at *
      rw [show ixB (x :: xs.drop (i + 1)) (i : Int) = if x.length = 128 then ixB (xs.drop (i + 1)) ((i : Int) + 1) else (i : Int) from rfl] at hall
      have HL := Aside0.mk hall
      clear hall hd hx ra
      by_cases hp : x.length = 128
      · have hcl := clB A0 x.length a0 wr
        rw [show decide (x.length ≠ 128) = false by simp [hp]] at hcl
        have HL' := HL.out
        rw [if_pos hp] at HL'
        have HL2 := Aside0.mk HL'
        clear HL' HL hp
        gi_wp2_with (refine ⟨trivial, ?_⟩; gi_at_call 51; refine (callsIn_wide.2 hcl).mono ?_; rintro e w' ⟨rfl, hw⟩; rw [hw]; clear hw)
        refine ⟨⟨i + 1, by simp, hlt, HL2.out.trans (congrArg (ixB _) (by omega)), HB⟩, by simp [intOf]; omega⟩
      · have hcl := clB A0 x.length a0 wr
        rw [show decide (x.length ≠ 128) = true by simp [hp]] at hcl
        have HL' := HL.out
        rw [if_neg hp] at HL'
        have HL2 := Aside0.mk HL'
        clear HL' HL hp
        gi_wp2_with (refine ⟨trivial, ?_⟩; gi_at_call 51; refine (callsIn_wide.2 hcl).mono ?_; rintro e w' ⟨rfl, hw⟩; rw [hw]; clear hw)
        go_ret
        exact ⟨by rw [HL2.out]; rfl, HB.out⟩
    · obtain rfl : i = xs.length := by omega
      have t1 : decide ((xs.length : Int) < (xs.length : Int)) = false := decide_eq_false (by omega)
      rw [List.drop_length] at hall
      have HL := Aside0.mk hall
      clear hall
      gi_wp2
      go_ret
      exact ⟨by rw [HL.out]; rfl, HB.out⟩
set_option maxRecDepth 100000 in
set_option maxHeartbeats 8000000 in
theorem containsB (A : Option Addr) (c : Nat) (xs : List (List Int)) (w : World) (hC : Kd.C (Kd.slice 5 (Kd.int .u8)) w A xs.length xs) (hlen : xs.length ≤ 1000000000000000) :
    Calls Try.prog 52 #[.slice A xs.length c, .func (.func 51) #[] #[]] w fun e w' => e = .returned (.bool (decide (0 ≤ ixB xs 0))) ∧ Below w.heap.size w w' := by
  have HC := Aside0.mk hC
  clear hC
  refine (callsIn_wide (n := 1)).1 ?_
  refine callsIn_of_wp Try.func52 rfl trivial ?_ rfl
  simp only [Try.ntmps52, List.size_toArray, List.length_cons, List.length_nil, Nat.reduceAdd, Nat.reduceSub, Array.replicate_succ, Array.replicate_zero, List.push_toArray, List.append_toArray, List.nil_append, List.cons_append]
  gi_wp2_with (first
    | (refine ⟨trivial, ?_⟩; gi_at_call 61; refine (callsIn_wide.2 (indexB A c xs _ HC.out hlen)).mono ?_; rintro e w1 ⟨rfl, hb⟩; have HW := Aside0.mk hb; clear hb))
  go_ret
  exact ⟨rfl, HW.out⟩
set_option maxRecDepth 100000 in
set_option maxHeartbeats 8000000 in
theorem of_no (A : Option Addr) (c : Nat) (xs : List (List Int)) (w : World) (hC : Kd.C (Kd.slice 5 (Kd.int .u8)) w A xs.length xs) (hno : xs.length < 1 ∨ 2048 < xs.length ∨ ∃ x ∈ xs, x.length ≠ 128) :
    Calls Try.prog 25 #[.slice A xs.length c] w fun e w' => e = .returned (.tuple #[.pointer none, .int .i64 1]) ∧ Below w.heap.size w w' := by
  have HC := Aside0.mk hC
  have HN := Aside0.mk hno
  clear hC hno
  refine (callsIn_wide (n := 1)).1 ?_
  refine callsIn_of_wp Try.func25 rfl trivial ?_ rfl
  simp only [Try.ntmps25, List.size_toArray, List.length_cons, List.length_nil, Nat.reduceAdd, Nat.reduceSub, Array.replicate_succ, Array.replicate_zero, List.push_toArray, List.append_toArray, List.nil_append, List.cons_append]
  by_cases h1 : xs.length < 1
  · have t1 : decide ((xs.length : Int) < 1) = true := decide_eq_true (by omega)
    gi_wp2_with (refine ⟨trivial, ?_⟩)
    refine bodyPost_ret (results_tmp2 rfl _ _ _) rfl ?_
    exact ⟨rfl, Below.refl _ _⟩
  · have t1 : decide ((xs.length : Int) < 1) = false := decide_eq_false (by omega)
    by_cases h2 : 2048 < xs.length
    · have t2 : decide ((2048 : Int) < (xs.length : Int)) = true := decide_eq_true (by omega)
      gi_wp2_with (refine ⟨trivial, ?_⟩)
      refine bodyPost_ret (results_tmp2 rfl _ _ _) rfl ?_
      exact ⟨rfl, Below.refl _ _⟩
    · have t2 : decide ((2048 : Int) < (xs.length : Int)) = false := decide_eq_false (by omega)
      have hok : decide (0 ≤ ixB xs 0) = true := decide_eq_true (ixB_some xs 0 (by omega) (by rcases HN.out with h | h | h; omega; omega; exact h))
      have HOK := Aside0.mk hok
      clear hok
      gi_wp2_with (first
        | (refine ⟨trivial, ?_⟩; gi_at_call 52; refine (callsIn_wide.2 (containsB A c xs _ HC.out (by omega))).mono ?_; rintro e w1 ⟨rfl, hb⟩; rw [HOK.out]; have HW := Aside0.mk hb; clear hb))
      refine bodyPost_ret (results_tmp2 rfl _ _ _) rfl ?_
      exact ⟨rfl, HW.out⟩
set_option maxRecDepth 100000 in
set_option maxHeartbeats 8000000 in
theorem of_dk (A : Option Addr) (c : Nat) (xs : List (List Int)) (w : World) (hC : Kd.C (Kd.slice 5 (Kd.int .u8)) w A xs.length xs) (hc : xs.length ≤ c) (h1 : 1 ≤ xs.length) (h2 : xs.length ≤ 2048) (hall : ∀ x ∈ xs, x.length = 128) :
    Calls Try.prog 25 #[.slice A xs.length c] w fun e w' => ∃ D m, e = .returned (.tuple #[.pointer (some ⟨D, 0, none⟩), .int .i64 0]) ∧ IsDk w' w.heap.size D m (fun k => w.heap.size ≤ k ∧ k < w'.heap.size) xs [] (.map #[] 0) 0 ∧ Below w.heap.size w w' := by
  have HC := Aside0.mk hC
  have HA := Aside0.mk hall
  have t1 : decide ((xs.length : Int) < 1) = false := decide_eq_false (by omega)
  have t2 : decide ((2048 : Int) < (xs.length : Int)) = false := decide_eq_false (by omega)
  have HOK := Aside0.mk (decide_eq_false (by rw [ixB_none xs 0 hall]; decide) : decide (0 ≤ ixB xs 0) = false)
  have HF := Aside0.mk (image_f xs (fun x hx => by have := hall x hx; omega) (by omega) (xs.length + 1) (Nat.lt_succ_self _))
  have hmm : ∀ W : World, (Instr.makeMap 43 none).run Try.prog W = .ok (.map (some W.heap.size)) (W.alloc (.map #[] 0)) := fun _ => rfl
  clear hC hall
  refine (callsIn_wide (n := 1)).1 ?_
  refine callsIn_of_wp Try.func25 rfl trivial ?_ rfl
  simp only [Try.ntmps25, List.size_toArray, List.length_cons, List.length_nil, Nat.reduceAdd, Nat.reduceSub, Array.replicate_succ, Array.replicate_zero, List.push_toArray, List.append_toArray, List.nil_append, List.cons_append]
  gi_wp2_with (first
    | (refine ⟨trivial, ?_⟩; gi_at_call 52; refine (callsIn_wide.2 (containsB A c xs _ HC.out (by omega))).mono ?_; rintro e w1 ⟨rfl, hb⟩; rw [HOK.out]; have HW := Aside0.mk hb; have HC1 := Aside0.mk (Kd.C_below HC.out hb); clear hb)
    | (refine ⟨trivial, ?_⟩; gi_at_call 30; refine (callsIn_wide.2 (disk_image.calls (xs.length + 1) A c xs xs _ HC1.out hc HF.out)).mono ?_; rintro e w2 ⟨v2, rfl, hs, hb⟩; obtain ⟨A2, c2, rfl⟩ := Kd.R_slice (Kd.S_R hs); have HR := Aside0.mk (Kd.S_R hs); have HW2 := Aside0.mk (below_step HW.out hb); have HS12 := Aside0.mk HW.out.size; clear hs hb))
  refine bodyPost_ret (results_tmp2 rfl _ _ _) rfl ?_
  have hm := World.alloc_heap_new w2 (.map #[] 0)
  have hsz : (w2.alloc (.map #[] 0)).heap.size = w2.heap.size + 1 := by simp
  have hD := World.alloc_heap_new (w2.alloc (.map #[] 0)) (.cells #[.slice A2 xs.length c2, .slice none 0 0, .map (some w2.heap.size), .int .i64 0] 45)
  rw [hsz] at hD
  have hw2 := HW2.out.size
  have hs12 := HS12.out
  have hb3 : Below w2.heap.size w2 ((w2.alloc (.map #[] 0)).alloc (.cells #[.slice A2 xs.length c2, .slice none 0 0, .map (some w2.heap.size), .int .i64 0] 45)) := below_alloc (below_alloc (Below.refl _ _) _) _
  have hs3 : ((w2.alloc (.map #[] 0)).alloc (.cells #[.slice A2 xs.length c2, .slice none 0 0, .map (some w2.heap.size), .int .i64 0] 45)).heap.size = w2.heap.size + 2 := by simp
  refine ⟨w2.heap.size + 1, w2.heap.size, rfl, ⟨⟨h1, h2, HA.out, Nat.zero_le 64, (fun s hs => by cases hs), (fun s hs => by cases hs), by decide, by decide⟩, ⟨_, .slice none 0 0, hD, ?_, Kd.R_nil _ _ _ _ _⟩, (heap_alloc_old _ _ _ (by simp)).trans hm, ⟨_, _, rfl⟩, ⟨by omega, by omega⟩, ⟨by omega, by omega⟩, fun k hk => hk⟩, below_step HW2.out hb3⟩
  exact Kd.R_mono (Kd.R_bound (Kd.R_below (Kd.R_lower HR.out hs12) hb3)) (fun k hk => ⟨hk.2.1, hk.2.2.1⟩)
set_option maxRecDepth 100000 in
set_option maxHeartbeats 8000000 in
theorem x_of (A : Option Addr) (c : Nat) (xs : List (List Int)) (w : World) (hC : Kd.C (Kd.slice 5 (Kd.int .u8)) w A xs.length xs) (h1 : 1 ≤ xs.length) (h2 : xs.length ≤ 2048) :
    Calls Try.prog 26 #[.slice A xs.length c] w fun e w' => Below w.heap.size w w' ∧ ((e = .returned (.tuple #[.pointer none, .int .i64 1]) ∧ ∃ x ∈ xs, x.length ≠ 128) ∨ (e = .returned (.tuple #[.pointer (some ⟨w.heap.size + 1, 0, none⟩), .int .i64 0]) ∧ (∀ x ∈ xs, x.length = 128) ∧
      IsX w' w.heap.size (w.heap.size + 1) (fun k => w.heap.size ≤ k ∧ k < w'.heap.size) xs [] (List.replicate xs.length 0) 0)) := by
  have HC := Aside0.mk hC
  have t1 : decide ((xs.length : Int) < 1) = false := decide_eq_false (by omega)
  have t2 : decide ((2048 : Int) < (xs.length : Int)) = false := decide_eq_false (by omega)
  have hmk : ∀ W : World, (Instr.makeSlice 40 (.int .i64 (xs.length : Int)) (.int .i64 (xs.length : Int))).run Try.prog W = .ok (.slice (some ⟨W.heap.size, 0, none⟩) xs.length xs.length) (W.alloc (.cells (madeCells #[.int .i64 0] xs.length) 3)) := fun W => print_make 40 3 .i64 8 Try.underlying40 infoint (by decide) xs.length (by omega) W
  clear hC
  refine (callsIn_wide (n := 1)).1 ?_
  refine callsIn_of_wp Try.func26 rfl trivial ?_ rfl
  simp only [Try.ntmps26, List.size_toArray, List.length_cons, List.length_nil, Nat.reduceAdd, Nat.reduceSub, Array.replicate_succ, Array.replicate_zero, List.push_toArray, List.append_toArray, List.nil_append, List.cons_append]
  gi_wp2
  gi_loopw [22] (fun v22 wr => ∃ (i : Nat) (v : Value), v22 = .int .i64 (i : Int) ∧ i ≤ xs.length ∧ Aside0 (∀ x ∈ xs.take i, x.length = 128) ∧ Aside0 (wr.heap[w.heap.size + 1]? = some (.cells #[v, .slice none 0 0, .slice (some ⟨w.heap.size, 0, none⟩) xs.length xs.length, .int .i64 0] 81 (0, 0))) ∧
      Aside0 (Kd.R (Kd.slice 5 (Kd.int .u8)) 30 wr w.heap.size (fun k => w.heap.size + 1 < k) v (xs.take i)) ∧ Aside0 (Below w.heap.size w wr) ∧ Aside0 (wr.heap[w.heap.size]? = some (.cells (madeCells #[.int .i64 0] xs.length) 3 (0, 0)))) (fun v22 _ => xs.length - (intOf v22).toNat)
  case atStart =>
    refine ⟨0, _, rfl, Nat.zero_le _, ⟨fun x hx => by cases hx⟩, ⟨?_⟩, ⟨Kd.R_nil _ _ _ _ _⟩, ⟨?_⟩, ⟨(heap_alloc_old _ _ _ (by simp)).trans (World.alloc_heap_new _ _)⟩⟩
    · have := World.alloc_heap_new (w.alloc (.cells (madeCells #[.int .i64 0] xs.length) 3)) (.cells #[.slice none 0 0, .slice none 0 0, .slice (some ⟨w.heap.size, 0, none⟩) xs.length xs.length, .int .i64 0] 81)
      rwa [World.size_alloc] at this
    · exact below_alloc (below_alloc (Below.refl _ _) _) _
  case round =>
    obtain ⟨i, v, rfl, hi, HA, HD, HR, HB, HM⟩ := hrel
    by_cases hlt : i < xs.length
    · have t3 : decide ((i : Int) < (xs.length : Int)) = true := decide_eq_true (by omega)
      obtain ⟨ad, A0, a0, rfl, ca, la, ra⟩ := at_rows (Kd.C_below HC.out HB.out) i hlt
      have hx : xs.getD i [] = xs[i] := by simp [List.getD_eq_getElem?_getD, hlt]
      rw [hx] at ca la ra
      have htk : xs.take (i + 1) = xs.take i ++ [xs[i]] := by rw [List.take_add_one, List.getElem?_eq_getElem hlt]; rfl
      have HMM := Aside0.mk (List.getElem_mem hlt : xs[i] ∈ xs)
      generalize xs[i] = x at *
      have RA := Aside0.mk ra
      have HTK := Aside0.mk htk
      clear ra htk hx
      by_cases hp : x.length = 128
      · have t4 : ((x.length : Int) != 128) = false := bne_eq_false_iff_eq.2 (by omega)
        have HP := Aside0.mk hp
        have cD : wr.cell? ⟨w.heap.size + 1, 0, none⟩ = some v := by simp [World.cell?, HD.out]
        have HLT := Aside0.mk (Array.getElem?_eq_some_iff.1 HD.out).1
        have HVL := Aside0.mk (fun k (e : v.ownBlock = some k) => (Kd.R_lt HR.out k e : k < wr.heap.size))
        have HVD := Aside0.mk (fun k (e : v.ownBlock = some k) => (HR.out.1 k e : w.heap.size + 1 < k))
        have hcl := bollardref02_copied.calls A0 a0 x x wr.drew (Kd.C_below RA.out (below_drew (Below.refl wr.heap.size wr))) la (copied_f x (by omega))
        clear hp
        gi_wp2
        refine wpIn_wide.2 ?_
        refine start_ (n := 12) (S := fun w' => w'.cell? ⟨w.heap.size + 1, 0, none⟩ = some v) (ds := [11]) #[false, false, false, false, false, false, false, false, false, false, false, false] (by kernel_rfl) rfl rfl (cD) (fun hHeld => ?_)
        refine pure_ (i := 0) (N := some 29) (v := ?_) (a' := ?_) #[true, false, false, false, false, false, false, false, false, false, false, false] rfl rfl (by kernel_rfl) (fun _ _ _ h => h) (Or.inl ⟨by rfl, ?_⟩) ?_ ?_
        rotate_left
        · intro w'
          go_simp
          with_reducible rfl
        rotate_left
        · simp only [Act.put, List.setIfInBounds_toArray, List.set_cons_zero, List.set_cons_succ, i64_w, i32_w]
          rfl
        refine pure_ (i := 1) (N := some 30) (v := ?_) (a' := ?_) #[true, true, false, false, false, false, false, false, false, false, false, false] rfl rfl (by kernel_rfl) (fun _ _ _ h => h) (Or.inl ⟨by rfl, ?_⟩) ?_ ?_
        rotate_left
        · intro w'
          go_simp
          with_reducible rfl
        rotate_left
        · simp only [Act.put, List.setIfInBounds_toArray, List.set_cons_zero, List.set_cons_succ, i64_w, i32_w]
          rfl
        refine pure_ (i := 2) (N := some 31) (v := ?_) (a' := ?_) #[true, true, true, false, false, false, false, false, false, false, false, false] rfl rfl (by kernel_rfl) (fun _ _ _ h => h) (Or.inl ⟨by rfl, ?_⟩) ?_ ?_
        rotate_left
        · intro w'
          go_simp
          with_reducible rfl
        rotate_left
        · simp only [Act.put, List.setIfInBounds_toArray, List.set_cons_zero, List.set_cons_succ, i64_w, i32_w]
          rfl
        refine pure_ (i := 3) (N := some 32) (v := ?_) (a' := ?_) #[true, true, true, true, false, false, false, false, false, false, false, false] rfl rfl (by kernel_rfl) (fun _ _ _ h => h) (Or.inl ⟨by rfl, ?_⟩) ?_ ?_
        rotate_left
        · intro w'
          go_simp
          with_reducible rfl
        rotate_left
        · simp only [Act.put, List.setIfInBounds_toArray, List.set_cons_zero, List.set_cons_succ, i64_w, i32_w]
          rfl
        refine pure_ (i := 5) (N := some 34) (v := ?_) (a' := ?_) #[true, true, true, true, false, true, false, false, false, false, false, false] rfl rfl (by kernel_rfl) (fun _ _ _ h => h) (Or.inl ⟨by rfl, ?_⟩) ?_ ?_
        rotate_left
        · intro w'
          go_simp
          with_reducible rfl
        rotate_left
        · simp only [Act.put, List.setIfInBounds_toArray, List.set_cons_zero, List.set_cons_succ, i64_w, i32_w]
          rfl
        refine take_ (i := 4) (N := some 33) (v := ?_) (a' := ?_) #[true, true, true, true, true, true, false, false, false, false, false, false] rfl rfl (by kernel_rfl) (fun _ _ _ h => h) (Or.inl ⟨by rfl, ?_⟩) hHeld ?_ ?_
        rotate_left
        · intro w' s0
          go_simp
          with_reducible rfl
        rotate_left
        · simp only [Act.put, List.setIfInBounds_toArray, List.set_cons_zero, List.set_cons_succ, i64_w, i32_w]
          rfl
        refine one_ (i := 6) (N := some 35) #[true, true, true, true, true, true, true, false, false, false, false, false] rfl rfl (by kernel_rfl) (by decide) (fun K hK => ?_)
        refine goes_ Try.func53 (by kernel_rfl) rfl #[.slice A0 x.length a0] (by rfl) rfl rfl (by simp only [List.map_toArray, List.map_cons, List.map_nil]; rfl) ?_
        with_reducible refine (hcl).mono ?_
        rintro e w1 ⟨v0, rfl, hr1, hb1⟩
        refine ⟨_, rfl, ?_⟩
        obtain ⟨A1, c1, rfl⟩ := Kd.R_slice hr1
        have HR1 := Aside0.mk hr1
        have HB1 := Aside0.mk (below_step (below_drew HB.out) hb1)
        have HK1 := Aside0.mk (show w1.heap[w.heap.size + 1]? = some (.cells #[v, .slice none 0 0, .slice (some ⟨w.heap.size, 0, none⟩) xs.length xs.length, .int .i64 0] 81 (0, 0)) from (hb1.block _ HLT.out).trans HD.out)
        have HM1 := Aside0.mk (show w1.heap[w.heap.size]? = some (.cells (madeCells #[.int .i64 0] xs.length) 3 (0, 0)) from (hb1.block _ (Nat.lt_of_succ_lt HLT.out)).trans HM.out)
        have HV1 := Aside0.mk (Kd.R_below (show Kd.R (Kd.slice 5 (Kd.int .u8)) 30 wr.drew w.heap.size (fun k => w.heap.size + 1 < k) v (xs.take i) from Kd.R_step HR.out (fun _ _ _ => rfl)) hb1)
        have HS1 := Aside0.mk (show wr.heap.size ≤ w1.heap.size from hb1.size)
        clear hr1 hb1
        refine hK.out _ _ ((by simp [World.cell?, HK1.out])) (fun hHeld => ?_)
        clear hK K
        refine norm_ (a' := ?_) ?_ ?_
        rotate_left
        · show Act.put _ (some 35) _ = _
          simp only [Act.put, List.setIfInBounds_toArray, List.set_cons_zero, List.set_cons_succ, i64_w, i32_w]
          rfl
        refine one_ (i := 7) (N := some 36) #[true, true, true, true, true, true, true, true, false, false, false, false] rfl rfl (by kernel_rfl) (by decide) (fun K hK => ?_)
        refine value_ (w1 := ?_) (v := ?_) (by rfl) rfl ?_ ?_
        rotate_left 2
        · go_simp
          constructor
          · rfl
          · rfl
        refine hK.out _ _ ((by simp [World.cell?, heap_alloc_old _ _ _ (Nat.lt_of_lt_of_le HLT.out HS1.out), HK1.out])) (fun hHeld => ?_)
        clear hK K
        refine norm_ (a' := ?_) ?_ ?_
        rotate_left
        · show Act.put _ (some 36) _ = _
          simp only [Act.put, List.setIfInBounds_toArray, List.set_cons_zero, List.set_cons_succ, i64_w, i32_w]
          rfl
        refine one_ (i := 8) (N := some 37) #[true, true, true, true, true, true, true, true, true, false, false, false] rfl rfl (by kernel_rfl) (by decide) (fun K hK => ?_)
        refine Kd.R_append_step (Kd.slice 5 (Kd.int .u8)) (w0 := w) w.heap.size (by rfl) (.tmp 33) (.tmp 36) 26 30 (.slice none 0 0) 24 rfl Try.underlying26 Go.Proofs.Ytbopccjcehnfnaa.Nb.infosl rfl (by decide) (by decide) v (xs.take i) x [_] (fun k => w.heap.size + 1 < k) (fun k => wr.heap.size ≤ k) rfl rfl ⟨_, rfl, Kd.R_lower (Kd.R_mono (Kd.R_bound HR1.out) (fun k hk => hk.2.1)) (show w.heap.size ≤ wr.drew.heap.size from HB.out.size)⟩ ?okp ?fresh HV1.out HB1.out ?base ?room ?_
        case okp => exact fun k hk => ⟨by have := HLT.out; omega, fun e => by have := HVL.out k e.symm; omega⟩
        case fresh => exact fun k hk => by have := HLT.out; have := HS1.out; omega
        case base => exact HB1.out.size
        case room => rw [List.length_take]; omega
        intro v2 w2 hr2 hb2 hg2 ht2
        obtain ⟨ad2, cp2, hv2⟩ := Kd.R_slice1 hr2 (by simp)
        obtain ⟨n2, hn2⟩ : ∃ n2, (xs.take i ++ [x]).length = n2 := ⟨_, rfl⟩
        rw [hn2] at hv2
        clear hn2
        subst hv2
        have HR2 := Aside0.mk hr2
        have HB2 := Aside0.mk hb2
        have HK2 := Aside0.mk (show w2.heap[w.heap.size + 1]? = some (.cells #[v, .slice none 0 0, .slice (some ⟨w.heap.size, 0, none⟩) xs.length xs.length, .int .i64 0] 81 (0, 0)) from (hg2.block _ (Nat.lt_of_lt_of_le HLT.out HS1.out) (fun e => by have := HVD.out _ e.symm; omega)).trans HK1.out)
        have HM2 := Aside0.mk (show w2.heap[w.heap.size]? = some (.cells (madeCells #[.int .i64 0] xs.length) 3 (0, 0)) from (hg2.block _ (Nat.lt_of_lt_of_le (Nat.lt_of_succ_lt HLT.out) HS1.out) (fun e => by have := HVD.out _ e.symm; omega)).trans HM1.out)
        have c2 : w2.cell? ⟨w.heap.size + 1, 0, none⟩ = some v := (by simp [World.cell?, HK2.out])
        have f2 : w2.frozen? ⟨w.heap.size + 1, 0, none⟩ = false := (by simp [World.frozen?, HK2.out])
        clear hr2 hb2 hg2 ht2
        refine hK.out _ _ (c2) (fun hHeld => ?_)
        clear hK K
        refine norm_ (a' := ?_) ?_ ?_
        rotate_left
        · show Act.put _ (some 37) _ = _
          simp only [Act.put, List.setIfInBounds_toArray, List.set_cons_zero, List.set_cons_succ, i64_w, i32_w]
          rfl
        refine pure_ (i := 9) (N := some 38) (v := ?_) (a' := ?_) #[true, true, true, true, true, true, true, true, true, true, false, false] rfl rfl (by kernel_rfl) (fun _ _ _ h => h) (Or.inl ⟨by rfl, ?_⟩) ?_ ?_
        rotate_left
        · intro w'
          go_simp
          with_reducible rfl
        rotate_left
        · simp only [Act.put, List.setIfInBounds_toArray, List.set_cons_zero, List.set_cons_succ, i64_w, i32_w]
          rfl
        refine pure_ (i := 10) (N := some 39) (v := ?_) (a' := ?_) #[true, true, true, true, true, true, true, true, true, true, true, false] rfl rfl (by kernel_rfl) (fun _ _ _ h => h) (Or.inl ⟨by rfl, ?_⟩) ?_ ?_
        rotate_left
        · intro w'
          go_simp
          with_reducible rfl
        rotate_left
        · simp only [Act.put, List.setIfInBounds_toArray, List.set_cons_zero, List.set_cons_succ, i64_w, i32_w]
          rfl
        refine last_ (i := 11) (N := none) #[true, true, true, true, true, true, true, true, true, true, true, true] rfl rfl (by kernel_rfl) (by decide) (fun K hK => ?_)
        refine skip_ (w1 := ?_) (by rfl) rfl ?_ ?_
        rotate_left
        · go_simp
          rfl
        refine hK.out _ _ ?_
        clear hK K
        refine done_ (by kernel_rfl) ?_

        gi_wp2
        go_roundw
        case rel =>
          have hR := HR2.out
          rw [← HTK.out] at hR
          refine ⟨i + 1, _, rfl, hlt, ⟨fun y hy => ?_⟩, ⟨Go.Proofs.Ytbopccjcehnfnaa.Nb.set_heap HK2.out _⟩, ⟨?_⟩, ⟨HB2.out.setCell (p := ⟨w.heap.size + 1, 0, none⟩) (by simp) _⟩, ⟨(Below.heap_setCell w2 ⟨w.heap.size + 1, 0, none⟩ _ _ (by simp)).trans HM2.out⟩⟩
          · rw [HTK.out] at hy
            rcases List.mem_append.1 hy with hy | hy
            · exact HA.out y hy
            · rw [List.mem_singleton.1 hy]; exact HP.out
          · exact Kd.R_far hR (p := ⟨w.heap.size + 1, 0, none⟩) (fun j hj => by have : w.heap.size + 1 < j := hj; simp; omega) _
        case measure =>
          show xs.length - ((i : Int) + 1).toNat < xs.length - ((i : Int)).toNat
          omega
      · have t4 : ((x.length : Int) != 128) = true := bne_iff_ne.mpr (by omega)
        gi_wp2
        refine bodyPost_ret (results_tmp2 rfl _ _ _) rfl ?_
        exact ⟨HB.out, .inl ⟨rfl, x, HMM.out, hp⟩⟩
    · obtain rfl : i = xs.length := by omega
      have t3 : decide ((xs.length : Int) < (xs.length : Int)) = false := decide_eq_false (by omega)
      gi_wp2
      refine bodyPost_ret (results_tmp2 rfl _ _ _) rfl ?_
      have hA := HA.out
      have hR := HR.out
      rw [List.take_length] at hA hR
      have hlt2 := (Array.getElem?_eq_some_iff.1 HD.out).1
      have hF : Kd.R (Kd.int .i64) 3 wr w.heap.size (fun k => w.heap.size ≤ k ∧ k < wr.heap.size) (.slice (some ⟨w.heap.size, 0, none⟩) xs.length xs.length) (List.replicate xs.length 0) := by
        have h3 : Kd.R (Kd.int .i64) 3 (w.alloc (.cells (madeCells #[.int .i64 0] xs.length) 3)) w.heap.size (fun k => k = w.heap.size) (.slice (some ⟨w.heap.size, 0, none⟩) xs.length xs.length) (List.replicate xs.length 0) := Kd.R_of_own (own_made' w w.heap.size 3 .i64 xs.length (Nat.le_refl _) (by omega)) (fun k hk => by simpa [Value.ownBlock] using hk.symm)
        exact Kd.R_mono (Kd.R_step h3 (fun k hk hl => by subst hk; exact HM.out.trans (World.alloc_heap_new _ _).symm)) (fun k hk => by subst hk; exact ⟨Nat.le_refl _, by omega⟩)
      exact ⟨HB.out, .inr ⟨rfl, hA, ⟨⟨h1, h2, hA, Nat.zero_le 64, (fun s hs => by cases hs), (fun s hs => by cases hs), by decide, by decide⟩, by rw [List.length_replicate], ⟨v, .slice none 0 0, _, HD.out, Kd.R_mono (Kd.R_bound hR) (fun k hk => ⟨hk.2.1, hk.2.2.1⟩), Kd.R_nil _ _ _ _ _, hF⟩, ⟨by omega, hlt2⟩, fun k hk => hk⟩⟩⟩
set_option maxRecDepth 100000 in
set_option maxHeartbeats 8000000 in
theorem x_of_no (A : Option Addr) (c : Nat) (n : Nat) (w : World) (hno : n < 1 ∨ 2048 < n) :
    Calls Try.prog 26 #[.slice A n c] w fun e w' => e = .returned (.tuple #[.pointer none, .int .i64 1]) ∧ w' = w := by
  refine (callsIn_wide (n := 1)).1 ?_
  refine callsIn_of_wp Try.func26 rfl trivial ?_ rfl
  simp only [Try.ntmps26, List.size_toArray, List.length_cons, List.length_nil, Nat.reduceAdd, Nat.reduceSub, Array.replicate_succ, Array.replicate_zero, List.push_toArray, List.append_toArray, List.nil_append, List.cons_append]
  by_cases h1 : n < 1
  · have t1 : decide ((n : Int) < 1) = true := decide_eq_true (by omega)
    gi_wp2
    refine bodyPost_ret (results_tmp2 rfl _ _ _) rfl ?_
    exact ⟨rfl, rfl⟩
  · have t1 : decide ((n : Int) < 1) = false := decide_eq_false (by omega)
    have t2 : decide ((2048 : Int) < (n : Int)) = true := decide_eq_true (by omega)
    gi_wp2
    refine bodyPost_ret (results_tmp2 rfl _ _ _) rfl ?_
    exact ⟨rfl, rfl⟩
end Go.Proofs.Ytbopccjcehnfnaa.Dk
