/- Written by a program of this session. A disk behind a script of writes. -/
import Derived.Test.YtbopccjcehnfnaaDw
import Derived.Test.YtbopccjcehnfnaaNv
import Derived.Test.YtbopccjcehnfnaaAz
namespace Go.Proofs.Ytbopccjcehnfnaa.Dk
open Go Go.RowKit Go.Shelf Go.Proofs Go.Proofs.Ytbopccjcehnfnaa.Sp Go.Proofs.Ytbopccjcehnfnaa.Ap Go.Proofs.Ytbopccjcehnfnaa.XFb Go.Proofs.YtbopccjcehnfnaaW.PrintWords Go.Proofs.YtbopccjcehnfnaaW.PrintLast Go.Proofs.YtbopccjcehnfnaaW.PrintMore
set_option linter.unusedVariables false
set_option linter.unusedSimpArgs false
abbrev DoT := Int × Int × Int × List Int × List Int
def kDo : Kd DoT := Kd.pair (Kd.int .i64) (Kd.pair (Kd.int .i64) (Kd.pair (Kd.int .i64) (Kd.pair (Kd.slice 5 (Kd.int .u8)) (Kd.slice 3 (Kd.int .i64)))))
def zDo : DoT := (0, 0, 0, [], [])
theorem at_Do {w : World} {A : Option Addr} {n : Nat} {xs : List DoT} (h : Kd.C kDo w A n xs) (i : Nat) (h1 : i < n) : ∃ ad A3 c3 A4 c4, A = some ad ∧ w.cell? (ad.add (i * 5)) = some (.int .i64 (xs.getD i zDo).1) ∧ w.cell? ⟨(ad.add (i * 5)).block, (ad.add (i * 5)).off + 1, none⟩ = some (.int .i64 (xs.getD i zDo).2.1) ∧
    w.cell? ⟨(ad.add (i * 5)).block, (ad.add (i * 5)).off + 2, none⟩ = some (.int .i64 (xs.getD i zDo).2.2.1) ∧ w.cell? ⟨(ad.add (i * 5)).block, (ad.add (i * 5)).off + 3, none⟩ = some (.slice A3 (xs.getD i zDo).2.2.2.1.length c3) ∧ w.cell? ⟨(ad.add (i * 5)).block, (ad.add (i * 5)).off + 4, none⟩ = some (.slice A4 (xs.getD i zDo).2.2.2.2.length c4) ∧
    (xs.getD i zDo).2.2.2.1.length ≤ c3 ∧ (Kd.int .u8).C w A3 (xs.getD i zDo).2.2.2.1.length (xs.getD i zDo).2.2.2.1 ∧ (xs.getD i zDo).2.2.2.2.length ≤ c4 ∧ (Kd.int .i64).C w A4 (xs.getD i zDo).2.2.2.2.length (xs.getD i zDo).2.2.2.2 := by
  obtain ⟨ad, c, e, _, hK, hc0⟩ := Kd.C_get h zDo (i : Int) (by omega) (by omega)
  rw [Int.toNat_natCast] at hK hc0
  have hc : ∀ j u, c[j]? = some u → w.cell? (ad.add (i * 5 + j)) = some u := hc0
  obtain ⟨_, _, rfl, rfl, ⟨_, _, rfl, rfl, ⟨_, _, rfl, rfl, ⟨_, _, rfl, ⟨A3, c3, rfl, l3, g3⟩, ⟨A4, c4, rfl, l4, g4⟩⟩⟩⟩⟩ := hK
  exact ⟨ad, A3, c3, A4, c4, e, hc 0 _ rfl, by rw [← add_field _ _ 1 (by omega)]; exact hc 1 _ rfl, by rw [← add_field _ _ 2 (by omega)]; exact hc 2 _ rfl, by rw [← add_field _ _ 3 (by omega)]; exact hc 3 _ rfl, by rw [← add_field _ _ 4 (by omega)]; exact hc 4 _ rfl, l3, g3, l4, g4⟩
theorem C_pre {α : Type} {d : Kd α} {W : World} {A : Option Addr} {n : Nat} {xs : List α} (h : Kd.C d W A n xs) (k : Nat) (hk : k ≤ xs.length) : Kd.C d W A k (xs.take k) :=
  ⟨by rw [List.length_take]; omega, by have h1 := h.1; have h2 := h.2.1; omega, fun h0 => by
    obtain ⟨ad, e, hc⟩ := h.2.2 (by have h1 := h.1; omega)
    refine ⟨ad, e, fun j p hj => hc j p ?_⟩
    rw [List.getElem?_take] at hj
    split at hj
    · exact hj
    · cases hj⟩
theorem u64_w (n : Int) : IntKind.u64.wrap n = n % 18446744073709551616 := by
  first | rfl | simp [IntKind.wrap]
theorem mod8 (n : Int) : wrap64 (1 + wrap64 ((IntKind.u64.wrap n).tmod 8)) = ((1 + (n % 8).toNat : Nat) : Int) := by
  rw [u64_w, Int.tmod_eq_emod_of_nonneg (by omega)]
  have h : n % 18446744073709551616 % 8 = n % 8 := by omega
  rw [h]
  unfold wrap64
  omega
theorem modN (n : Int) (k : Nat) (h1 : 1 ≤ k) (h2 : k ≤ 2048) : ∃ b : Int, wrap64 ((IntKind.u64.wrap n).tmod (IntKind.u64.wrap (k : Int))) = b ∧ 0 ≤ b ∧ b < k := by
  rw [u64_w, u64_w, Int.tmod_eq_emod_of_nonneg (by omega), show (k : Int) % 18446744073709551616 = (k : Int) by omega]
  have h3 := Int.emod_nonneg (n % 18446744073709551616) (show (k : Int) ≠ 0 by omega)
  have h4 := Int.emod_lt_of_pos (n % 18446744073709551616) (show (0 : Int) < k by omega)
  generalize n % 18446744073709551616 % (k : Int) = z at *
  refine ⟨z, IntWalk.wrap64_in _ (by omega), h3, h4⟩
/-- A write into a block that is there, of 128 bytes: it is in the queue then, or nothing has turned. -/
theorem write_any {W : World} {base D m : Nat} {S : Nat → Prop} {bl : List (List Int)} {q : List S32} {mo : Obj} {last : Int} (h : IsDk W base D m S bl q mo last) (b : Int) (A : Option Addr) (c : Nat) (x : List Int) (hb : 0 ≤ b ∧ b < bl.length) (hx128 : x.length = 128) (hc : 128 ≤ c) (hC : ∀ W', Kept S W W' → Kd.C (Kd.int .u8) W' A x.length x) (hlast : last + 1 < 1000000000000000000) :
    Calls Try.prog 18 #[.pointer (some ⟨D, 0, none⟩), .int .i64 b, .slice A 128 c] W fun e W' => ∃ r0 r1 S' q' last', e = .returned (.tuple #[.int .i64 r0, .int .i64 r1]) ∧ IsDk W' base D m S' bl q' mo last' ∧ Kept S W W' ∧ ((q' = q ∧ last' = last) ∨ (q' = q ++ [⟨last + 1, b, x⟩] ∧ last' = last + 1)) ∧ 0 < q'.length := by
  by_cases he : wrE bl q b 128 = 0
  · refine (write_full h b A c x hx128 hc hC he hlast).mono ?_
    rintro e W' ⟨rfl, hI, hK⟩
    exact ⟨_, _, _, _, _, rfl, hI, hK, .inr ⟨rfl, rfl⟩, by simp⟩
  · refine (write_no h b A 128 c he).mono ?_
    rintro e W' ⟨rfl, hB⟩
    refine ⟨_, _, _, _, _, rfl, h.below hB, Kept.of_below hB, .inl ⟨rfl, rfl⟩, ?_⟩
    cases q with
    | nil =>
      exfalso
      apply he
      unfold wrE
      rw [if_neg (fun hh => hh hb), if_neg (by decide), if_neg (by show ¬ 0 ≤ (-1 : Int); decide), if_neg (by decide)]
    | cons a r => simp
attribute [local go_sem] max2_int min2_int max_two min_two max_three min_three max_four min_four
set_option maxRecDepth 100000 in
set_option maxHeartbeats 8000000 in
theorem script_ok (w : World) (n : Int) (hn : (Lit.int .i64 n).wf = true) (A : Option Addr) (c : Nat) (l : List DoT) (hC : Kd.C kDo w A l.length l) (hl : l.length ≤ 1000000000000000) :
    Calls Try.prog 8 #[.int .i64 n, .slice A l.length c] w fun e w' => ∃ D m S q last, e = .returned (.pointer (some ⟨D, 0, none⟩)) ∧ IsDk w' w.heap.size D m S (List.replicate (1 + (n % 8).toNat) (List.replicate 128 0)) q (.map #[] 0) last ∧ (q.map fun s => s.f0).Nodup ∧ (0 < l.length → 0 < q.length) ∧ Below w.heap.size w w' := by
  have HC := Aside0.mk hC
  clear hC
  refine (callsIn_wide (n := 1)).1 ?_
  refine callsIn_of_wp Try.func8 rfl trivial ?_ rfl
  simp only [Try.ntmps8, List.size_toArray, List.length_cons, List.length_nil, Nat.reduceAdd, Nat.reduceSub, Array.replicate_succ, Array.replicate_zero, List.push_toArray, List.append_toArray, List.nil_append, List.cons_append]
  have em := mod8 n
  have hnb : 1 ≤ 1 + (n % 8).toNat ∧ 1 + (n % 8).toNat ≤ 2048 := by omega
  obtain ⟨nb, hNB⟩ : ∃ nb : Nat, 1 + (n % 8).toNat = nb := ⟨_, rfl⟩
  rw [hNB] at em hnb ⊢
  have t1 : decide ((nb : Int) < 1) = false := decide_eq_false (by omega)
  have hle : (List.replicate nb (List.replicate 128 (0 : Int))).length = nb := List.length_replicate
  have t0 : decide (((List.replicate nb (List.replicate 128 (0 : Int))).length : Int) < 1) = false := by rw [hle]; exact t1
  gi_wp2_with (first
    | (refine ⟨trivial, ?_⟩; gi_at_call 20; refine (callsIn_wide.2 (new_dk nb hnb.1 hnb.2 _)).mono ?_; rintro e w1 ⟨rfl, hi, hb⟩; have HI := Aside0.mk hi; have HB := Aside0.mk hb; clear hi hb)
    | (refine ⟨trivial, ?_⟩; gi_at_call 13; refine (callsIn_wide.2 (blocks_ok HI.out)).mono ?_; rintro e w2 ⟨rfl, hw⟩; rw [hw]; clear hw))
  clear em t1 t0
  obtain ⟨BL, hBL⟩ : ∃ BL, List.replicate nb (List.replicate 128 (0 : Int)) = BL := ⟨_, rfl⟩
  rw [hBL] at HI hle
  have HBL := Aside0.mk hBL
  clear hBL hNB
  gi_loopw [27] (fun v27 w' => ∃ (i : Nat) (S : Nat → Prop) (q : List S32) (last : Int), v27 = .int .i64 (i : Int) ∧ i ≤ l.length ∧ Aside0 (IsDk w' w.heap.size (w.heap.size + 1) w.heap.size S BL q (.map #[] 0) last) ∧ Aside0 ((q.map fun s => s.f0).Nodup ∧ (∀ s ∈ q, s.f0 ≤ last) ∧ last ≤ (i : Int) ∧ (0 < i → 0 < q.length)) ∧ Aside0 (Below w.heap.size w w'))
    (fun v27 _ => l.length - (intOf v27).toNat)
  case atStart => exact ⟨0, _, [], 0, rfl, Nat.zero_le _, HI, ⟨List.nodup_nil, (fun s hs => by cases hs), Int.le_refl _, (fun h => absurd h (by omega))⟩, HB⟩
  case round =>
    obtain ⟨i, S, q, last, rfl, hi, HJ, HQ, HBW⟩ := hrel
    by_cases hlt : i < l.length
    · have t1 : decide ((i : Int) < (l.length : Int)) = true := decide_eq_true (by omega)
      obtain ⟨ad, A3, c3, A4, c4, rfl, k0, k1, k2, k3, k4, l3, g3, l4, g4⟩ := at_Do (Kd.C_below HC.out HBW.out) i hlt
      obtain ⟨⟨op, B, N, bs, ids⟩, hel⟩ : ∃ e, l.getD i zDo = e := ⟨_, rfl⟩
      rw [hel] at k0 k1 k2 k3 k4 l3 g3 l4 g4
      dsimp only at k0 k1 k2 k3 k4 l3 g3 l4 g4
      have G3 := Aside0.mk g3
      clear g3 g4 hel
      by_cases h64 : i < 64
      · have t2 : decide ((i : Int) < 64) = true := decide_eq_true (by omega)
        gi_wp2
        have hbx := World.alloc_heap_new wr (.cells #[.int .i64 op, .int .i64 B, .int .i64 N, .slice A3 bs.length c3, .slice A4 ids.length c4] 59)
        have hbb : Below wr.heap.size wr (wr.alloc (.cells #[.int .i64 op, .int .i64 B, .int .i64 N, .slice A3 bs.length c3, .slice A4 ids.length c4] 59)).drew := below_drew (below_alloc (Below.refl wr.heap.size wr) _)
        generalize wr.alloc (.cells #[.int .i64 op, .int .i64 B, .int .i64 N, .slice A3 bs.length c3, .slice A4 ids.length c4] 59) = W1 at *
        have y1 : W1.drew.cell? ⟨wr.heap.size, 1, none⟩ = some (.int .i64 B) := show W1.cell? _ = _ by simp [World.cell?, hbx]
        have y3 : W1.drew.cell? ⟨wr.heap.size, 3, none⟩ = some (.slice A3 bs.length c3) := show W1.cell? _ = _ by simp [World.cell?, hbx]
        have HJ1 := Aside0.mk (HJ.out.below hbb)
        have G31 := Aside0.mk (Kd.C_below G3.out hbb)
        have HBB := Aside0.mk hbb
        have HBX := Aside0.mk (show W1.drew.heap[wr.heap.size]? = _ from hbx)
        have hXlt : wr.heap.size < W1.drew.heap.size := (Array.getElem?_eq_some_iff.1 hbx).1
        clear hbb hbx k0 k1 k2 k3 k4
        obtain ⟨b, hbm, hb0, hb1⟩ := modN B nb hnb.1 hnb.2
        obtain ⟨L, hLd⟩ : ∃ L, min bs.length 128 = L := ⟨_, rfl⟩
        have hL1 : L ≤ bs.length := by omega
        have hL2 : L ≤ 128 := by omega
        have hL3 : (bs.take L).length = L := by rw [List.length_take]; omega
        have hmin : (if (128 : Int) < (bs.length : Int) then (128 : Int) else (bs.length : Int)) = (L : Int) := by split <;> omega
        have hLc : L ≤ c3 := by omega
        have hnz : ¬ IntKind.u64.wrap (nb : Int) = 0 := by rw [u64_w]; omega
        have hsub : wrap64 (128 - (L : Int)) = ((128 - L : Nat) : Int) := (IntWalk.wrap64_in _ (by omega)).trans (by omega)
        have hcl : Calls Try.prog 29 #[.slice A3 L c3] W1.drew (fun e w' => ∃ v0 : Value, e = .returned v0 ∧ Kd.R (Kd.int .u8) 5 w' W1.drew.heap.size (fun _ => True) v0 (bs.take L) ∧ Below W1.drew.heap.size W1.drew w') := by
          have := bytes_Clone.calls A3 c3 (bs.take L) (bs.take L) W1.drew (by rw [hL3]; exact C_pre G31.out L hL1) (by omega) (by unfold bytes_Clone.f; rw [if_pos (by omega)])
          rw [hL3] at this
          exact this
        refine wpIn_wide.2 ?_
        refine start_ (n := 24) (S := fun w' => w'.cell? ⟨wr.heap.size, 1, none⟩ = some (.int .i64 B) ∧ w'.cell? ⟨wr.heap.size, 3, none⟩ = some (.slice A3 bs.length c3)) (ds := [23]) #[false, false, false, false, false, false, false, false, false, false, false, false, false, false, false, false, false, false, false, false, false, false, false, false] (by kernel_rfl) rfl rfl ⟨y1, y3⟩ (fun hHeld => ?_)
        refine pure_ (i := 0) (N := some 34) (v := ?_) (a' := ?_) #[true, false, false, false, false, false, false, false, false, false, false, false, false, false, false, false, false, false, false, false, false, false, false, false] rfl rfl (by kernel_rfl) (fun _ _ _ h => h) (Or.inl ⟨by rfl, ?_⟩) ?_ ?_
        rotate_left
        · intro w'
          go_simp
          with_reducible rfl
        rotate_left
        · simp only [Act.put, List.setIfInBounds_toArray, List.set_cons_zero, List.set_cons_succ, i64_w, i32_w]
          rfl
        refine pure_ (i := 1) (N := some 35) (v := ?_) (a' := ?_) #[true, true, false, false, false, false, false, false, false, false, false, false, false, false, false, false, false, false, false, false, false, false, false, false] rfl rfl (by kernel_rfl) (fun _ _ _ h => h) (Or.inl ⟨by rfl, ?_⟩) ?_ ?_
        rotate_left
        · intro w'
          go_simp
          with_reducible rfl
        rotate_left
        · simp only [Act.put, List.setIfInBounds_toArray, List.set_cons_zero, List.set_cons_succ, i64_w, i32_w]
          rfl
        refine pure_ (i := 4) (N := some 38) (v := ?_) (a' := ?_) #[true, true, false, false, true, false, false, false, false, false, false, false, false, false, false, false, false, false, false, false, false, false, false, false] rfl rfl (by kernel_rfl) (fun _ _ _ h => h) (Or.inl ⟨by rfl, ?_⟩) ?_ ?_
        rotate_left
        · intro w'
          go_simp
          with_reducible rfl
        rotate_left
        · simp only [Act.put, List.setIfInBounds_toArray, List.set_cons_zero, List.set_cons_succ, i64_w, i32_w]
          rfl
        refine pure_ (i := 9) (N := some 43) (v := ?_) (a' := ?_) #[true, true, false, false, true, false, false, false, false, true, false, false, false, false, false, false, false, false, false, false, false, false, false, false] rfl rfl (by kernel_rfl) (fun _ _ _ h => h) (Or.inl ⟨by rfl, ?_⟩) ?_ ?_
        rotate_left
        · intro w'
          go_simp
          with_reducible rfl
        rotate_left
        · simp only [Act.put, List.setIfInBounds_toArray, List.set_cons_zero, List.set_cons_succ, i64_w, i32_w]
          rfl
        refine pure_ (i := 11) (N := some 45) (v := ?_) (a' := ?_) #[true, true, false, false, true, false, false, false, false, true, false, true, false, false, false, false, false, false, false, false, false, false, false, false] rfl rfl (by kernel_rfl) (fun _ _ _ h => h) (Or.inl ⟨by rfl, ?_⟩) ?_ ?_
        rotate_left
        · intro w'
          go_simp
          with_reducible rfl
        rotate_left
        · simp only [Act.put, List.setIfInBounds_toArray, List.set_cons_zero, List.set_cons_succ, i64_w, i32_w]
          rfl
        refine pure_ (i := 17) (N := some 51) (v := ?_) (a' := ?_) #[true, true, false, false, true, false, false, false, false, true, false, true, false, false, false, false, false, true, false, false, false, false, false, false] rfl rfl (by kernel_rfl) (fun _ _ _ h => h) (Or.inl ⟨by rfl, ?_⟩) ?_ ?_
        rotate_left
        · intro w'
          go_simp
          with_reducible rfl
        rotate_left
        · simp only [Act.put, List.setIfInBounds_toArray, List.set_cons_zero, List.set_cons_succ, i64_w, i32_w]
          rfl
        refine take_ (i := 2) (N := some 36) (v := ?_) (a' := ?_) #[true, true, true, false, true, false, false, false, false, true, false, true, false, false, false, false, false, true, false, false, false, false, false, false] rfl rfl (by kernel_rfl) (fun _ _ _ h => h) (Or.inl ⟨by rfl, ?_⟩) hHeld ?_ ?_
        rotate_left
        · rintro w' ⟨s0, s1⟩
          go_simp
          with_reducible rfl
        rotate_left
        · simp only [Act.put, List.setIfInBounds_toArray, List.set_cons_zero, List.set_cons_succ, i64_w, i32_w]
          rfl
        refine pure_ (i := 3) (N := some 37) (v := ?_) (a' := ?_) #[true, true, true, true, true, false, false, false, false, true, false, true, false, false, false, false, false, true, false, false, false, false, false, false] rfl rfl (by kernel_rfl) (fun _ _ _ h => h) (Or.inl ⟨by rfl, ?_⟩) ?_ ?_
        rotate_left
        · intro w'
          go_simp
          with_reducible rfl
        rotate_left
        · simp only [Act.put, List.setIfInBounds_toArray, List.set_cons_zero, List.set_cons_succ, i64_w, i32_w]
          rfl
        refine take_ (i := 10) (N := some 44) (v := ?_) (a' := ?_) #[true, true, true, true, true, false, false, false, false, true, true, true, false, false, false, false, false, true, false, false, false, false, false, false] rfl rfl (by kernel_rfl) (fun _ _ _ h => h) (Or.inl ⟨by rfl, ?_⟩) hHeld ?_ ?_
        rotate_left
        · rintro w' ⟨s0, s1⟩
          go_simp
          with_reducible rfl
        rotate_left
        · simp only [Act.put, List.setIfInBounds_toArray, List.set_cons_zero, List.set_cons_succ, i64_w, i32_w]
          rfl
        refine take_ (i := 12) (N := some 46) (v := ?_) (a' := ?_) #[true, true, true, true, true, false, false, false, false, true, true, true, true, false, false, false, false, true, false, false, false, false, false, false] rfl rfl (by kernel_rfl) (fun _ _ _ h => h) (Or.inl ⟨by rfl, ?_⟩) hHeld ?_ ?_
        rotate_left
        · rintro w' ⟨s0, s1⟩
          go_simp
          with_reducible rfl
        rotate_left
        · simp only [Act.put, List.setIfInBounds_toArray, List.set_cons_zero, List.set_cons_succ, i64_w, i32_w]
          rfl
        refine pure_ (i := 13) (N := some 47) (v := ?_) (a' := ?_) #[true, true, true, true, true, false, false, false, false, true, true, true, true, true, false, false, false, true, false, false, false, false, false, false] rfl rfl (by kernel_rfl) (fun _ _ _ h => h) (Or.inl ⟨by rfl, ?_⟩) ?_ ?_
        rotate_left
        · intro w'
          go_simp
          with_reducible rfl
        rotate_left
        · simp only [Act.put, List.setIfInBounds_toArray, List.set_cons_zero, List.set_cons_succ, i64_w, i32_w]
          rfl
        refine pure_ (i := 14) (N := some 48) (v := ?_) (a' := ?_) #[true, true, true, true, true, false, false, false, false, true, true, true, true, true, true, false, false, true, false, false, false, false, false, false] rfl rfl (by kernel_rfl) (fun _ _ _ h => h) (Or.inl ⟨by rfl, ?_⟩) ?_ ?_
        rotate_left
        · intro w'
          go_simp
          with_reducible rfl
        rotate_left
        · simp only [Act.put, List.setIfInBounds_toArray, List.set_cons_zero, List.set_cons_succ, i64_w, i32_w]
          rfl
        refine pure_ (i := 15) (N := some 49) (v := ?_) (a' := ?_) #[true, true, true, true, true, false, false, false, false, true, true, true, true, true, true, true, false, true, false, false, false, false, false, false] rfl rfl (by kernel_rfl) (fun _ _ _ h => h) (Or.inl ⟨by rfl, ?_⟩) ?_ ?_
        rotate_left
        · intro w'
          go_simp
          with_reducible rfl
        rotate_left
        · simp only [Act.put, List.setIfInBounds_toArray, List.set_cons_zero, List.set_cons_succ, i64_w, i32_w]
          rfl
        refine take_ (i := 18) (N := some 52) (v := ?_) (a' := ?_) #[true, true, true, true, true, false, false, false, false, true, true, true, true, true, true, true, false, true, true, false, false, false, false, false] rfl rfl (by kernel_rfl) (fun _ _ _ h => h) (Or.inl ⟨by rfl, ?_⟩) hHeld ?_ ?_
        rotate_left
        · rintro w' ⟨s0, s1⟩
          go_simp
          with_reducible rfl
        rotate_left
        · simp only [Act.put, List.setIfInBounds_toArray, List.set_cons_zero, List.set_cons_succ, i64_w, i32_w]
          rfl
        refine pure_ (i := 19) (N := some 53) (v := ?_) (a' := ?_) #[true, true, true, true, true, false, false, false, false, true, true, true, true, true, true, true, false, true, true, true, false, false, false, false] rfl rfl (by kernel_rfl) (fun _ _ _ h => h) (Or.inl ⟨by rfl, ?_⟩) ?_ ?_
        rotate_left
        · intro w'
          go_simp
          with_reducible rfl
        rotate_left
        · simp only [Act.put, List.setIfInBounds_toArray, List.set_cons_zero, List.set_cons_succ, i64_w, i32_w]
          rfl
        refine pure_ (i := 20) (N := some 54) (v := ?_) (a' := ?_) #[true, true, true, true, true, false, false, false, false, true, true, true, true, true, true, true, false, true, true, true, true, false, false, false] rfl rfl (by kernel_rfl) (fun _ _ _ h => h) (Or.inl ⟨by rfl, ?_⟩) ?_ ?_
        rotate_left
        · intro w'
          go_simp
          with_reducible rfl
        rotate_left
        · simp only [Act.put, List.setIfInBounds_toArray, List.set_cons_zero, List.set_cons_succ, i64_w, i32_w]
          rfl
        refine pure_ (i := 21) (N := some 55) (v := ?_) (a' := ?_) #[true, true, true, true, true, false, false, false, false, true, true, true, true, true, true, true, false, true, true, true, true, true, false, false] rfl rfl (by kernel_rfl) (fun _ _ _ h => h) (Or.inl ⟨by rfl, ?_⟩) ?_ ?_
        rotate_left
        · intro w'
          go_simp
          with_reducible rfl
        rotate_left
        · simp only [Act.put, List.setIfInBounds_toArray, List.set_cons_zero, List.set_cons_succ, i64_w, i32_w]
          rfl
        refine one_ (i := 5) (N := some 39) #[true, true, true, true, true, true, false, false, false, true, true, true, true, true, true, true, false, true, true, true, true, true, false, false] rfl rfl (by kernel_rfl) (by decide) (fun K hK => ?_)
        refine goes_ Try.func13 (by kernel_rfl) rfl #[.pointer (some ⟨w.heap.size + 1, 0, none⟩)] (by rfl) rfl rfl (by simp only [List.map_toArray, List.map_cons, List.map_nil]; rfl) ?_
        with_reducible refine (blocks_ok HJ1.out).mono ?_
        rintro e w4 ⟨rfl, hw4⟩
        refine ⟨_, rfl, ?_⟩
        rw [hw4]
        clear hw4
        rw [hle]
        refine hK.out _ _ ⟨y1, y3⟩ (fun hHeld => ?_)
        clear hK K
        refine norm_ (a' := ?_) ?_ ?_
        rotate_left
        · show Act.put _ (some 39) _ = _
          simp only [Act.put, List.setIfInBounds_toArray, List.set_cons_zero, List.set_cons_succ, i64_w, i32_w]
          rfl
        refine pure_ (i := 6) (N := some 40) (v := ?_) (a' := ?_) #[true, true, true, true, true, true, true, false, false, true, true, true, true, true, true, true, false, true, true, true, true, true, false, false] rfl rfl (by kernel_rfl) (fun _ _ _ h => h) (Or.inl ⟨by rfl, ?_⟩) ?_ ?_
        rotate_left
        · intro w'
          go_simp
          with_reducible rfl
        rotate_left
        · simp only [Act.put, List.setIfInBounds_toArray, List.set_cons_zero, List.set_cons_succ, i64_w, i32_w]
          rfl
        refine pure_ (i := 7) (N := some 41) (v := ?_) (a' := ?_) #[true, true, true, true, true, true, true, true, false, true, true, true, true, true, true, true, false, true, true, true, true, true, false, false] rfl rfl (by kernel_rfl) (fun _ _ _ h => h) (Or.inl ⟨by rfl, ?_⟩) ?_ ?_
        rotate_left
        · intro w'
          go_simp
          with_reducible rfl
        rotate_left
        · simp only [Act.put, List.setIfInBounds_toArray, List.set_cons_zero, List.set_cons_succ, i64_w, i32_w]
          rfl
        refine pure_ (i := 8) (N := some 42) (v := ?_) (a' := ?_) #[true, true, true, true, true, true, true, true, true, true, true, true, true, true, true, true, false, true, true, true, true, true, false, false] rfl rfl (by kernel_rfl) (fun _ _ _ h => h) (Or.inl ⟨by rfl, ?_⟩) ?_ ?_
        rotate_left
        · intro w'
          go_simp
          with_reducible rfl
        rotate_left
        · simp only [Act.put, List.setIfInBounds_toArray, List.set_cons_zero, List.set_cons_succ, i64_w, i32_w]
          rfl
        refine one_ (i := 16) (N := some 50) #[true, true, true, true, true, true, true, true, true, true, true, true, true, true, true, true, true, true, true, true, true, true, false, false] rfl rfl (by kernel_rfl) (by decide) (fun K hK => ?_)
        refine goes_ Try.func29 (by kernel_rfl) rfl #[.slice A3 L c3] (by rfl) rfl rfl (by simp only [List.map_toArray, List.map_cons, List.map_nil]; rfl) ?_
        with_reducible refine (hcl).mono ?_
        rintro e w4 ⟨v0, rfl, hr1, hb1⟩
        refine ⟨_, rfl, ?_⟩
        obtain ⟨A5, c5, hv0⟩ := Kd.R_slice hr1
        rw [hL3] at hv0
        subst hv0
        obtain ⟨v5, w5, hrun, hr5, hg5⟩ := run_append_zeros_own (P := Try.prog) (W := w4) W1.drew.heap.size 30 3 30 5 .u8 1 Try.underlying30 Try.underlying3 Go.Proofs.Ytbopccjcehnfnaa.Nb.infou8 (by omega) _ (bs.take L) (fun _ => True) (fun _ _ => trivial) hr1 (128 - L) hb1.size (by rw [hL3]; omega)
        have H4 := Aside0.mk (show w4.heap[wr.heap.size]? = _ from (hb1.block wr.heap.size hXlt).trans HBX.out)
        have H5 := Aside0.mk (show w5.heap[wr.heap.size]? = _ from (hg5.block wr.heap.size (by have := hb1.size; omega) (fun e => by have := Kd.R_base hr1 _ e.symm; omega)).trans H4.out)
        have HB5 := Aside0.mk (Below.grown hb1 hg5 hb1.size (fun k hk => Kd.R_base hr1 k hk))
        have HR5 := Aside0.mk hr5
        clear hr1 hb1 hg5 hr5
        refine hK.out _ _ ⟨(by simp [World.cell?, H4.out]), (by simp [World.cell?, H4.out])⟩ (fun hHeld => ?_)
        clear hK K
        refine norm_ (a' := ?_) ?_ ?_
        rotate_left
        · show Act.put _ (some 50) _ = _
          simp only [Act.put, List.setIfInBounds_toArray, List.set_cons_zero, List.set_cons_succ, i64_w, i32_w]
          rfl
        refine one_ (i := 22) (N := some 56) #[true, true, true, true, true, true, true, true, true, true, true, true, true, true, true, true, true, true, true, true, true, true, true, false] rfl rfl (by kernel_rfl) (by decide) (fun K hK => ?_)
        refine append_step (by rfl) (.tmp 50) (.tmp 55) #[30, 3] rfl (.slice A5 L c5) (.int .i64 ((128 - L : Nat) : Int)) rfl ?hx (by exact hrun) ?_
        case hx => show Value.int .i64 (wrap64 (128 - (L : Int))) = _; rw [hsub]
        clear hrun
        refine hK.out _ _ ⟨(by simp [World.cell?, H5.out]), (by simp [World.cell?, H5.out])⟩ (fun hHeld => ?_)
        clear hK K
        refine norm_ (a' := ?_) ?_ ?_
        rotate_left
        · show Act.put _ (some 56) _ = _
          simp only [Act.put, List.setIfInBounds_toArray, List.set_cons_zero, List.set_cons_succ, i64_w, i32_w]
          rfl
        refine last_ (i := 23) (N := some 57) #[true, true, true, true, true, true, true, true, true, true, true, true, true, true, true, true, true, true, true, true, true, true, true, true] rfl rfl (by kernel_rfl) (by decide) (fun K hK => ?_)
        obtain ⟨A6, c6, hv5⟩ := Kd.R_slice HR5.out
        have hX : (bs.take L ++ List.replicate (128 - L) (0 : Int)).length = 128 := by rw [List.length_append, List.length_replicate, hL3]; omega
        have hR6 := HR5.out
        rw [hX] at hv5
        subst hv5
        have HJ5 := Aside0.mk (HJ1.out.below HB5.out)
        rw [hbm]
        refine goes_ Try.func18 (by kernel_rfl) rfl #[.pointer (some ⟨w.heap.size + 1, 0, none⟩), .int .i64 b, .slice A6 128 c6] (by rfl) rfl rfl (by simp only [List.map_toArray, List.map_cons, List.map_nil]; rfl) ?_
        with_reducible refine (write_any HJ5.out b A6 c6 (bs.take L ++ List.replicate (128 - L) 0) ⟨hb0, by rw [hle]; exact hb1⟩ hX (Kd.R_reads' hR6).2.1 (fun W' hk => by have h := (Kd.R_reads' (Kept.R (Kd.R_bound hR6) hk (fun k h1 h2 => by have := (HJ.out.low k h2).2; have := h1.2.1; omega))).2.2; exact (Kd.R_reads' hR6).1 ▸ h) (by have := HQ.out.2.2.1; omega)).mono ?_
        rintro e w6 ⟨r0, r1, S', q', last', rfl, hi6, hk6, hq6, hp6⟩
        refine ⟨_, rfl, ?_⟩
        have HI6 := Aside0.mk hi6
        have HK6 := Aside0.mk hk6
        have HQ6 := Aside0.mk (And.intro hq6 hp6)
        clear hi6 hk6 hq6 hp6
        refine hK.out _ _ ?_
        clear hK K
        refine norm_ (a' := ?_) ?_ ?_
        rotate_left
        · show Act.put _ (some 57) _ = _
          simp only [Act.put, List.setIfInBounds_toArray, List.set_cons_zero, List.set_cons_succ, i64_w, i32_w]
          rfl
        refine done_ (by kernel_rfl) ?_

        clear hsub hbm hmin hnz
        gi_wp2
        have hbw : Below w.heap.size w w6 := (below_step (below_step HBW.out HBB.out) HB5.out).trans (HK6.out.below (n := w.heap.size) (fun k hk => (HJ.out.low k hk).1) (by have := HBW.out.size; have := HBB.out.size; have := HB5.out.size; omega))
        obtain ⟨n1, n2, n3, n4⟩ := HQ.out
        refine ⟨⟨i + 1, S', q', last', by simp, by omega, HI6, ⟨?_, ?_, ?_, fun _ => HQ6.out.2⟩, ⟨hbw⟩⟩, by simp [intOf]; omega⟩
        · rcases HQ6.out.1 with ⟨rfl, _⟩ | ⟨rfl, _⟩
          · exact n1
          · rw [List.map_append, List.nodup_append]
            refine ⟨n1, by simp, fun a ha b hb => ?_⟩
            obtain ⟨s, hs, rfl⟩ := List.mem_map.1 ha
            have := n2 s hs
            simp at hb
            omega
        · rcases HQ6.out.1 with ⟨rfl, rfl⟩ | ⟨rfl, rfl⟩
          · exact n2
          · intro s hs
            rcases List.mem_append.1 hs with hs | hs
            · have := n2 s hs; omega
            · rw [List.mem_singleton.1 hs]; exact Int.le_refl _
        · rcases HQ6.out.1 with ⟨_, rfl⟩ | ⟨_, rfl⟩ <;> omega
      · have t2 : decide ((i : Int) < 64) = false := decide_eq_false (by omega)
        gi_wp2
        have hb := below_alloc (Below.refl wr.heap.size wr) (.cells #[.int .i64 op, .int .i64 B, .int .i64 N, .slice A3 bs.length c3, .slice A4 ids.length c4] 59)
        exact ⟨⟨i + 1, S, q, last, by simp, by omega, ⟨HJ.out.below hb⟩, ⟨HQ.out.1, HQ.out.2.1, by have := HQ.out.2.2.1; omega, fun _ => HQ.out.2.2.2 (by omega)⟩, ⟨below_step HBW.out hb⟩⟩, by simp [intOf]; omega⟩
    · have t1 : decide ((i : Int) < (l.length : Int)) = false := decide_eq_false (by omega)
      obtain rfl : i = l.length := by omega
      gi_wp2
      go_ret
      exact ⟨_, _, S, q, last, rfl, HBL.out ▸ HJ.out, HQ.out.1, HQ.out.2.2.2, HBW.out⟩
end Go.Proofs.Ytbopccjcehnfnaa.Dk
