/- Written by a program of this session. bollardlaw02.does: a call of both disks. -/
import Derived.Test.YtbopccjcehnfnaaYb
import Derived.Test.YtbopccjcehnfnaaDs
namespace Go.Proofs.Ytbopccjcehnfnaa.Dk
open Go Go.RowKit Go.Shelf Go.Proofs Go.Maps Go.Proofs.Ytbopccjcehnfnaa.Sp Go.Proofs.Ytbopccjcehnfnaa.XFb Go.Proofs.YtbopccjcehnfnaaW.PrintWords Go.Proofs.YtbopccjcehnfnaaW.PrintLast Go.Proofs.YtbopccjcehnfnaaW.PrintMore
set_option linter.unusedVariables false
set_option linter.unusedSimpArgs false
theorem eqi_l (l : List Int) (hl : l.length ≤ 140737488355328) (d : Nat) : ∀ (k i : Nat), i + d = l.length → d < k → slices_Equal_int_int.l0 k l l (l.length : Int) (i : Int) = some true := by
  induction d with
  | zero =>
    intro k i hi hk
    obtain ⟨k, rfl⟩ : ∃ m, k = m + 1 := ⟨k - 1, by omega⟩
    simp only [slices_Equal_int_int.l0]
    rw [if_neg (by omega)]
  | succ d ih =>
    intro k i hi hk
    obtain ⟨k, rfl⟩ : ∃ m, k = m + 1 := ⟨k - 1, by omega⟩
    simp only [slices_Equal_int_int.l0]
    rw [if_pos (by omega), if_pos (by omega), if_pos (by omega), if_pos (by omega), if_pos trivial, show wrap64 ((i : Int) + 1) = ((i + 1 : Nat) : Int) by unfold wrap64; omega]
    exact ih k (i + 1) (by omega) (by omega)
theorem eqi_f (l : List Int) (hl : l.length ≤ 140737488355328) (k : Nat) (hk : l.length < k) : slices_Equal_int_int.f k l l = some true := by
  unfold slices_Equal_int_int.f
  rw [if_pos rfl]
  exact eqi_l l hl l.length k 0 (by omega) hk
theorem Both.mono {W : World} {base D m : Nat} {Sd : Nat → Prop} {X : Nat} {Sx : Nat → Prop} {bl : List (List Int)} {q : List S32} {fl : List Int} {last : Int} {n : Nat} (h : Both W base D m Sd X Sx bl q fl last n) {n' : Nat} (hn : n ≤ n') : Both W base D m Sd X Sx bl q fl last n' := ⟨h.dm.mono hn, h.x, h.dis, h.flb⟩
theorem kept_spoils {W W' : World} {S : Nat → Prop} (h : Spoils W W' S) : Kept S W W' := ⟨h.os, h.tape, h.output, by rw [h.size]; exact Nat.le_refl _, fun k _ hn => h.same k hn⟩
theorem Both.step {W : World} {base D m : Nat} {Sd : Nat → Prop} {X : Nat} {Sx : Nat → Prop} {bl : List (List Int)} {q : List S32} {fl : List Int} {last : Int} {n : Nat} (h : Both W base D m Sd X Sx bl q fl last n) {W3 W4 : World} {Sd' Sx' : Nat → Prop} {bl' : List (List Int)} {q' : List S32} {fl' : List Int} {last' : Int} {n' : Nat} (hd : IsDm W3 base D m Sd' bl' q' fl' last' n') (hs1 : ∀ k, Sd' k → Sd k ∨ W.heap.size ≤ k) (hk1 : Kept Sd W W3)
    (hx : IsX W4 base X Sx' bl' q' fl' last') (hs2 : ∀ k, Sx' k → Sx k ∨ W3.heap.size ≤ k) (hk2 : Kept Sx W3 W4) (hfb : ∀ c ∈ fl', 0 ≤ c ∧ c ≤ 1000) : Both W4 base D m Sd' X Sx' bl' q' fl' last' n' ∧ Kept (fun k => Sd k ∨ Sx k) W W4 ∧ (∀ k, Sd' k → Sd k ∨ W.heap.size ≤ k) ∧ (∀ k, Sx' k → Sx k ∨ W.heap.size ≤ k) := by
  have hxl : ∀ k, Sx k → k < W.heap.size := fun k hk => (h.x.low k hk).2
  have hdl := hd.low
  have hs := hk1.size
  refine ⟨⟨hd.kept hk2 (fun k h1 h2 => ?_), hx, fun k h1 h2 => ?_, hfb⟩, (hk1.mono (fun k _ hk => .inl hk)).trans hk2 (fun k hk => .inl (.inr hk)), hs1, fun k hk => (hs2 k hk).imp (fun h => h) (fun h => by omega)⟩
  · rcases hs1 k h1 with h3 | h3
    · exact h.dis k h3 h2
    · have := hxl k h2; omega
  · rcases hs2 k h2 with h3 | h3
    · rcases hs1 k h1 with h4 | h4
      · exact h.dis k h4 h3
      · have := hxl k h3; omega
    · have := hdl k h1; omega
theorem mem_set_ok {fl : List Int} {i : Nat} {c : Int} (h : ∀ x ∈ fl, 0 ≤ x ∧ x ≤ 1000) (hc : 0 ≤ c ∧ c ≤ 1000) : ∀ x ∈ fl.set i c, 0 ≤ x ∧ x ≤ 1000 := fun x hx => by
  rcases List.mem_or_eq_of_mem_set hx with hx | rfl
  · exact h x hx
  · exact hc
theorem rdF_ok {bl : List (List Int)} {fl : List Int} (b : Int) (h : ∀ x ∈ fl, 0 ≤ x ∧ x ≤ 1000) (hl : fl.length = bl.length) : ∀ x ∈ rdF bl fl b, 0 ≤ x ∧ x ≤ 1000 := by
  unfold rdF
  by_cases he : rdE bl fl b = 4
  · rw [if_pos he]
    have h0 : 0 ≤ b ∧ b < bl.length ∧ 0 < fl.getD b.toNat 0 := by
      unfold rdE at he
      split at he
      · exact absurd he (by decide)
      · next hh =>
        split at he
        · next h3 => exact ⟨(Decidable.not_not.1 hh).1, (Decidable.not_not.1 hh).2, h3⟩
        · exact absurd he (by decide)
    have hlt : b.toNat < fl.length := by omega
    have h1 : fl.getD b.toNat 0 = fl[b.toNat] := by simp [List.getD_eq_getElem?_getD, hlt]
    have h2 := h fl[b.toNat] (List.getElem_mem hlt)
    exact mem_set_ok h (by omega)
  · rw [if_neg he]; exact h
theorem faF_ok {bl : List (List Int)} {fl : List Int} (b t : Int) (h : ∀ x ∈ fl, 0 ≤ x ∧ x ≤ 1000) : ∀ x ∈ faF bl fl b t, 0 ≤ x ∧ x ≤ 1000 := by
  unfold faF
  by_cases he : faE bl b t = 0
  · rw [if_pos he]
    unfold faE at he
    split at he
    · next hh => exact mem_set_ok h ⟨hh.2.2.1, hh.2.2.2⟩
    · exact absurd he (by decide)
  · rw [if_neg he]; exact h
theorem crF_ok {bl : List (List Int)} {q : List S32} {fl : List Int} (ids : List Int) (h : ∀ x ∈ fl, 0 ≤ x ∧ x ≤ 1000) : ∀ x ∈ crF bl q fl ids, 0 ≤ x ∧ x ≤ 1000 := by
  unfold crF
  split
  · intro x hx
    rw [List.eq_of_mem_replicate hx]
    decide
  · exact h
theorem rdB_len {bl : List (List Int)} {q : List S32} {last : Int} (h : Fits bl q last) (fl : List Int) (b : Int) : (rdB bl fl b).length ≤ 128 := by
  unfold rdB
  split
  · by_cases hb : b.toNat < bl.length
    · rw [show bl.getD b.toNat [] = bl[b.toNat] by simp [List.getD_eq_getElem?_getD, hb], h.each _ (List.getElem_mem hb)]
      exact Nat.le_refl _
    · simp [List.getD_eq_getElem?_getD, hb]
  · simp
theorem mod6 (op : Int) : ∃ r : Int, wrap64 ((IntKind.u64.wrap op).tmod 6) = r ∧ (r = 0 ∨ r = 1 ∨ r = 2 ∨ r = 3 ∨ r = 4 ∨ r = 5) := by
  rw [u64_w, Int.tmod_eq_emod_of_nonneg (by omega)]
  have h1 := Int.emod_nonneg (op % 18446744073709551616) (show (6 : Int) ≠ 0 by omega)
  have h2 := Int.emod_lt_of_pos (op % 18446744073709551616) (show (0 : Int) < 6 by omega)
  generalize op % 18446744073709551616 % 6 = z at *
  exact ⟨z, IntWalk.wrap64_in _ (by omega), by omega⟩
theorem does_end {W3 WE w7 w8 : World} {base D m : Nat} {Sd : Nat → Prop} {X : Nat} {Sx : Nat → Prop} {bl : List (List Int)} {q : List S32} {fl : List Int} {last : Int} {n : Nat} {Sd' Sx' : Nat → Prop} {bl' : List (List Int)} {q' : List S32} {fl' : List Int} {last' : Int} {n' b1 lw : Nat} {v : Value} {bs : List Int}
    (h : Both WE base D m Sd' X Sx' bl' q' fl' last' n') (hb : Below WE.heap.size WE w7) (hs : Spoils w7 w8 (fun k => v.ownBlock = some k)) (hR : Kd.R (Kd.int .u8) 5 W3 b1 (fun _ => True) v bs) (h1 : ∀ k, Sd' k → Sd k ∨ W3.heap.size ≤ k) (h2 : ∀ k, Sx' k → Sx k ∨ W3.heap.size ≤ k) (h0 : Both W3 base D m Sd X Sx bl q fl last n)
    (hd : ∀ k, Sd k → k < lw) (hx : ∀ k, Sx k → k < lw) (hlw : lw ≤ b1) : Both w8 base D m Sd' X Sx' bl' q' fl' last' n' := by
  refine (h.below hb).kept (kept_spoils hs) (fun k hk e => ?_) (fun k hk e => ?_)
  · have := Kd.R_base hR k e
    have := Kd.R_lt hR k e
    rcases h1 k hk with h3 | h3
    · have := hd k h3; omega
    · omega
  · have := Kd.R_base hR k e
    have := Kd.R_lt hR k e
    rcases h2 k hk with h3 | h3
    · have := hx k h3; omega
    · omega
set_option maxRecDepth 100000 in
set_option maxHeartbeats 8000000 in
theorem does_ok {W : World} {base D m : Nat} {Sd : Nat → Prop} {X : Nat} {Sx : Nat → Prop} {bl : List (List Int)} {q : List S32} {fl : List Int} {last : Int} {n : Nat} (h : Both W base D m Sd X Sx bl q fl last n) (op B N : Int) (A3 : Option Addr) (c3 : Nat) (bs : List Int) (A4 : Option Addr) (c4 : Nat) (ids : List Int) (hwB : (Lit.int .i64 B).wf = true) (hwN : (Lit.int .i64 N).wf = true)
    (hC3 : ∀ W', Kept (fun k => Sd k ∨ Sx k) W W' → Kd.C (Kd.int .u8) W' A3 bs.length bs) (l3 : bs.length ≤ c3) (hl3 : bs.length ≤ 140737488351232) (hC4 : ∀ W', Kept (fun k => Sd k ∨ Sx k) W W' → Kd.C (Kd.int .i64) W' A4 ids.length ids) (l4 : ids.length ≤ c4) (hl4 : ids.length * 8 ≤ 140737488351232) (hlast : last + 1 < 1000000000000000000) (hn : n + 1 < maxLen) :
    Calls Try.prog 22 #[.pointer (some ⟨D, 0, none⟩), .pointer (some ⟨X, 0, none⟩), .agg #[.int .i64 op, .int .i64 B, .int .i64 N, .slice A3 bs.length c3, .slice A4 ids.length c4]] W fun e W' => e = .returned (.bool true) ∧
      ∃ Sd' Sx' bl' q' fl' last', Both W' base D m Sd' X Sx' bl' q' fl' last' (n + 1) ∧ last' ≤ last + 1 ∧ Kept (fun k => Sd k ∨ Sx k) W W' ∧ (∀ k, Sd' k → Sd k ∨ W.heap.size ≤ k) ∧ (∀ k, Sx' k → Sx k ∨ W.heap.size ≤ k) := by
  obtain ⟨SS, hSS⟩ : ∃ SS : Nat → Prop, (fun k => Sd k ∨ Sx k) = SS := ⟨_, rfl⟩
  rw [hSS] at hC3 hC4 ⊢
  have HSS := Aside0.mk hSS
  have HC3 := Aside0.mk hC3
  have HC4 := Aside0.mk hC4
  have HW := Aside0.mk h
  have hlow : ∀ k, SS k → k < W.heap.size := fun k hk => by
    rw [← hSS] at hk
    rcases hk with hk | hk
    · exact (h.dm.low k hk).2
    · exact (h.x.low k hk).2
  have HLOW := Aside0.mk hlow
  obtain ⟨r, em, hr⟩ := mod6 op
  clear hC3 hC4 h hlow hSS
  refine (callsIn_wide (n := 1)).1 ?_
  refine callsIn_of_wp Try.func22 rfl trivial ?_ rfl
  simp only [Try.ntmps22, List.size_toArray, List.length_cons, List.length_nil, Nat.reduceAdd, Nat.reduceSub, Array.replicate_succ, Array.replicate_zero, List.push_toArray, List.append_toArray, List.nil_append, List.cons_append]
  gi_wp2
  have hbx := World.alloc_heap_new W (.cells #[.int .i64 op, .int .i64 B, .int .i64 N, .slice A3 bs.length c3, .slice A4 ids.length c4] 59)
  have hbb : Below W.heap.size W (W.alloc (.cells #[.int .i64 op, .int .i64 B, .int .i64 N, .slice A3 bs.length c3, .slice A4 ids.length c4] 59)) := below_alloc (Below.refl W.heap.size W) _
  have hzl : W.heap.size < (W.alloc (.cells #[.int .i64 op, .int .i64 B, .int .i64 N, .slice A3 bs.length c3, .slice A4 ids.length c4] 59)).heap.size := by simp
  obtain ⟨zb, hzb⟩ : ∃ zb, W.heap.size = zb := ⟨_, rfl⟩
  rw [hzb] at hbx
  have HZB := Aside0.mk hzb
  rw [hzb] at hzl ⊢
  generalize W.alloc (.cells #[.int .i64 op, .int .i64 B, .int .i64 N, .slice A3 bs.length c3, .slice A4 ids.length c4] 59) = W1 at *
  have hbd : Below W.heap.size W W1.drew := below_drew hbb
  have HB1 := Aside0.mk hbd
  have HK1 := Aside0.mk (Kept.of_below (S := SS) hbd)
  have k0 : ∀ (i : Nat) (v : Value), #[Value.int .i64 op, .int .i64 B, .int .i64 N, .slice A3 bs.length c3, .slice A4 ids.length c4][i]? = some v → ∀ W2, Below W1.drew.heap.size W1.drew W2 → W2.cell? ⟨zb, i, none⟩ = some v := fun i v hv W2 hb => by
    have h1 := (hb.block zb hzl).trans (show W1.drew.heap[zb]? = _ from hbx)
    simp only [World.cell?, h1]
    exact hv
  have k1 := k0 1 _ rfl
  have k2 := k0 2 _ rfl
  have k3 := k0 3 _ rfl
  have k4 := k0 4 _ rfl
  have HBX := Aside0.mk (show W1.drew.heap[zb]? = _ from hbx)
  have hz1 : zb < W1.drew.heap.size := hzl
  have k00 := k0 0 _ rfl
  clear k0 hbx hbb hbd hzl hzb
  refine wpIn_wide.2 ?_
  refine start_ (n := 8) (S := fun w' => w'.cell? ⟨zb, 3, none⟩ = some (.slice A3 bs.length c3) ∧ w'.cell? ⟨zb, 4, none⟩ = some (.slice A4 ids.length c4)) (ds := []) #[false, false, false, false, false, false, false, false] (by kernel_rfl) rfl rfl ⟨(k3 _ (Below.refl W1.drew.heap.size W1.drew)), (k4 _ (Below.refl W1.drew.heap.size W1.drew))⟩ (fun hHeld => ?_)
  refine pure_ (i := 0) (N := some 18) (v := ?_) (a' := ?_) #[true, false, false, false, false, false, false, false] rfl rfl (by kernel_rfl) (fun _ _ _ h => h) (Or.inl ⟨by rfl, ?_⟩) ?_ ?_
  rotate_left
  · intro w'
    go_simp
    with_reducible rfl
  rotate_left
  · simp only [Act.put, List.setIfInBounds_toArray, List.set_cons_zero, List.set_cons_succ, i64_w, i32_w]
    rfl
  refine pure_ (i := 3) (N := some 21) (v := ?_) (a' := ?_) #[true, false, false, true, false, false, false, false] rfl rfl (by kernel_rfl) (fun _ _ _ h => h) (Or.inl ⟨by rfl, ?_⟩) ?_ ?_
  rotate_left
  · intro w'
    go_simp
    with_reducible rfl
  rotate_left
  · simp only [Act.put, List.setIfInBounds_toArray, List.set_cons_zero, List.set_cons_succ, i64_w, i32_w]
    rfl
  refine take_ (i := 1) (N := some 19) (v := ?_) (a' := ?_) #[true, true, false, true, false, false, false, false] rfl rfl (by kernel_rfl) (fun _ _ _ h => h) (Or.inl ⟨by rfl, ?_⟩) hHeld ?_ ?_
  rotate_left
  · rintro w' ⟨s0, s1⟩
    go_simp
    with_reducible rfl
  rotate_left
  · simp only [Act.put, List.setIfInBounds_toArray, List.set_cons_zero, List.set_cons_succ, i64_w, i32_w]
    rfl
  refine take_ (i := 4) (N := some 22) (v := ?_) (a' := ?_) #[true, true, false, true, true, false, false, false] rfl rfl (by kernel_rfl) (fun _ _ _ h => h) (Or.inl ⟨by rfl, ?_⟩) hHeld ?_ ?_
  rotate_left
  · rintro w' ⟨s0, s1⟩
    go_simp
    with_reducible rfl
  rotate_left
  · simp only [Act.put, List.setIfInBounds_toArray, List.set_cons_zero, List.set_cons_succ, i64_w, i32_w]
    rfl
  refine one_ (i := 2) (N := some 20) #[true, true, true, true, true, false, false, false] rfl rfl (by kernel_rfl) (by decide) (fun K hK => ?_)
  refine goes_ Try.func29 (by kernel_rfl) rfl #[.slice A3 bs.length c3] (by rfl) rfl rfl (by simp only [List.map_toArray, List.map_cons, List.map_nil]; rfl) ?_
  with_reducible refine ((bytes_Clone.calls A3 c3 bs bs W1.drew (HC3.out _ HK1.out) l3 (by unfold bytes_Clone.f; rw [if_pos (by omega)]))).mono ?_
  rintro e w2 ⟨v2, rfl, hr, hb⟩
  refine ⟨_, rfl, ?_⟩
  obtain ⟨A5, c5, rfl⟩ := Kd.R_slice hr
  have HR2 := Aside0.mk hr
  have HB2 := Aside0.mk hb
  clear hr hb
  refine hK.out _ _ ⟨(k3 _ HB2.out), (k4 _ HB2.out)⟩ (fun hHeld => ?_)
  clear hK K
  refine norm_ (a' := ?_) ?_ ?_
  rotate_left
  · show Act.put _ (some 20) _ = _
    simp only [Act.put, List.setIfInBounds_toArray, List.set_cons_zero, List.set_cons_succ, i64_w, i32_w]
    rfl
  refine one_ (i := 5) (N := some 23) #[true, true, true, true, true, true, false, false] rfl rfl (by kernel_rfl) (by decide) (fun K hK => ?_)
  refine goes_ Try.func41 (by kernel_rfl) rfl #[.slice A4 ids.length c4] (by rfl) rfl rfl (by simp only [List.map_toArray, List.map_cons, List.map_nil]; rfl) ?_
  with_reducible refine ((slices_Clone_int_int.calls A4 c4 ids ids w2 (HC4.out _ (HK1.out.trans (Kept.of_below (S := SS) HB2.out) (fun j hj => .inl hj))) l4 (by unfold slices_Clone_int_int.f; rw [if_pos (by omega)]))).mono ?_
  rintro e w3 ⟨v3, rfl, hr, hb⟩
  refine ⟨_, rfl, ?_⟩
  obtain ⟨A6, c6, rfl⟩ := Kd.R_slice hr
  have HR3 := Aside0.mk hr
  have HG3 := Aside0.mk (Kd.R_below HR2.out hb)
  have HB3 := Aside0.mk (below_step HB2.out hb)
  clear hr hb
  refine hK.out _ _ ⟨(k3 _ HB3.out), (k4 _ HB3.out)⟩ (fun hHeld => ?_)
  clear hK K
  refine norm_ (a' := ?_) ?_ ?_
  rotate_left
  · show Act.put _ (some 23) _ = _
    simp only [Act.put, List.setIfInBounds_toArray, List.set_cons_zero, List.set_cons_succ, i64_w, i32_w]
    rfl
  refine pure_ (i := 6) (N := some 7) (v := ?_) (a' := ?_) #[true, true, true, true, true, true, true, false] rfl rfl (by kernel_rfl) (fun _ _ _ h => h) (Or.inl ⟨by rfl, ?_⟩) ?_ ?_
  rotate_left
  · intro w'
    go_simp
    with_reducible rfl
  rotate_left
  · simp only [Act.put, List.setIfInBounds_toArray, List.set_cons_zero, List.set_cons_succ, i64_w, i32_w]
    rfl
  refine pure_ (i := 7) (N := some 8) (v := ?_) (a' := ?_) #[true, true, true, true, true, true, true, true] rfl rfl (by kernel_rfl) (fun _ _ _ h => h) (Or.inl ⟨by rfl, ?_⟩) ?_ ?_
  rotate_left
  · intro w'
    go_simp
    with_reducible rfl
  rotate_left
  · simp only [Act.put, List.setIfInBounds_toArray, List.set_cons_zero, List.set_cons_succ, i64_w, i32_w]
    rfl
  refine done_ (by kernel_rfl) ?_

  have HBo := Aside0.mk (HW.out.below (below_step HB1.out HB3.out))
  have hsW := HB1.out.size
  have hs23 := HB2.out.size
  have hs33 := HB3.out.size
  have hz3 : w3.heap[zb]? = some (.cells #[.int .i64 op, .int .i64 B, .int .i64 N, .slice A3 bs.length c3, .slice A4 ids.length c4] 59 (0, 0)) := (HB3.out.block zb hz1).trans HBX.out
  have hzn : ¬ SS zb := fun e => by have := HLOW.out zb e; have := HZB.out; omega
  have hKW3 : Kept SS W w3 := Kept.of_below (below_step HB1.out HB3.out)
  have KC := Aside0.mk (fun (W' : World) (hk : Kept SS w3 W') (i : Nat) (v : Value) (hv : #[Value.int .i64 op, .int .i64 B, .int .i64 N, .slice A3 bs.length c3, .slice A4 ids.length c4][i]? = some v) => (show W'.cell? ⟨zb, i, none⟩ = some v by
    have h1 := (hk.same zb (heap_lt hz3) hzn).trans hz3
    simp only [World.cell?, h1]
    exact hv))
  have KG := Aside0.mk (fun (W' : World) (hk : Kept SS w3 W') => Kept.R (Kd.R_bound HG3.out) hk (fun k h1 h2 => by have := HLOW.out k h2; have := h1.2.1; omega))
  have KI := Aside0.mk (fun (W' : World) (hk : Kept SS w3 W') => Kept.R (Kd.R_bound HR3.out) hk (fun k h1 h2 => by have := HLOW.out k h2; have := h1.2.1; omega))
  have K3 := Aside0.mk (fun (W' : World) (hk : Kept SS w3 W') => HC3.out W' (hKW3.trans hk (fun j hj => .inl hj)))
  have K4 := Aside0.mk (fun (W' : World) (hk : Kept SS w3 W') => HC4.out W' (hKW3.trans hk (fun j hj => .inl hj)))
  have HKW := Aside0.mk hKW3
  have HFB := Aside0.mk HBo.out.flb
  have HFL := Aside0.mk HBo.out.dm.fails
  have lg := (Kd.R_reads' HG3.out).2.1
  have li := (Kd.R_reads' HR3.out).2.1
  have HLT := Aside0.mk (fun k (hk : Sd k) => ((HW.out.dm.low k hk).2 : k < W.heap.size))
  have HLX := Aside0.mk (fun k (hk : Sx k) => ((HW.out.x.low k hk).2 : k < W.heap.size))
  have hbase : W.heap.size ≤ W1.drew.heap.size := hsW
  have hs3w : W.heap.size ≤ w3.heap.size := by omega
  have KW := Aside0.mk (fun (w7 w8 : World) (hk : Kept SS w3 w7) (hs : Spoils w7 w8 (fun k => (Value.slice A5 bs.length c5).ownBlock = some k)) => ((hKW3.trans hk (fun j hj => .inl hj)).trans (kept_spoils hs) (fun j hj => .inr (by have := Kd.R_base HG3.out j hj; omega)) : Kept SS W w8))
  have c00 := KC.out w3 (Kept.refl _ _) 0 _ rfl
  have c01 := KC.out w3 (Kept.refl _ _) 1 _ rfl
  have c02 := KC.out w3 (Kept.refl _ _) 2 _ rfl
  clear k1 k2 k3 k4 k00 hz3 hzn hKW3 hHeld
  rcases hr with rfl | rfl | rfl | rfl | rfl | rfl
  · skip
    gi_wp2_with (first
      | (refine ⟨trivial, ?_⟩; gi_at_call 18; refine (callsIn_wide.2 (dm_write HBo.out.dm B A5 c5 bs lg (fun W' hk => (Kd.R_reads' (KG.out W' (hk.mono (fun k _ hk => by rw [← HSS.out]; exact .inl hk)))).2.2) hlast)).mono ?_; rintro e w4 ⟨rfl, ⟨Sd1, hs1, hd⟩, hk1⟩; have HD4 := Aside0.mk hd; have HS1 := Aside0.mk hs1; have HK4 := Aside0.mk hk1; have HKK4 := Aside0.mk (hk1.mono (fun k _ hk => by rw [← HSS.out]; exact .inl hk) : Kept SS w3 w4); have d1 := KC.out w4 HKK4.out 1 _ rfl; have d2 := KC.out w4 HKK4.out 2 _ rfl; have d3 := KC.out w4 HKK4.out 3 _ rfl; have d4 := KC.out w4 HKK4.out 4 _ rfl; clear hd hs1 hk1)
      | (refine ⟨trivial, ?_⟩; gi_at_call 42; refine (callsIn_wide.2 (x_writeS (HBo.out.x.kept HK4.out (fun k h1 h2 => absurd h1 (HBo.out.dis k h2))) B A3 c3 bs l3 (fun W' hk => K3.out W' (HKK4.out.trans (S1 := Sx) hk (fun j hj => .inl (by rw [← HSS.out]; exact .inr hj)))) hlast)).mono ?_; rintro e wE ⟨rfl, ⟨Sx1, hs2, hx⟩, hk2⟩; obtain ⟨hbE, hkE, hsd, hsx⟩ := HBo.out.step HD4.out HS1.out HK4.out hx hs2 hk2 (HFB.out); rw [HSS.out] at hkE; have HBE := Aside0.mk (hbE.mono (Nat.le_succ n)); have HKE := Aside0.mk hkE; have HSD := Aside0.mk hsd; have HSX := Aside0.mk hsx; have HLA := Aside0.mk (show wrL bl q last B bs ≤ last + 1 by unfold wrL; split <;> omega); have y3 := KC.out wE hkE 3 _ rfl; have y4 := KC.out wE hkE 4 _ rfl; clear hbE hkE hsd hsx hx hs2 hk2)
      | (refine ⟨trivial, ?_⟩; gi_at_call 14; refine (callsIn_wide.2 (bytes_Equal.calls A5 c5 bs A3 c3 bs true wE (Kd.R_reads' (KG.out wE HKE.out)).2.2 (Kd.R_reads' (KG.out wE HKE.out)).2.1 (K3.out wE HKE.out) l3 (by unfold bytes_Equal.f; simp))).mono ?_; rintro e w6 ⟨rfl, hd⟩; have HB6 := Aside0.mk (below_drawn (Below.refl wE.heap.size wE) hd); have HK6 := Aside0.mk (HKE.out.trans (Kept.of_below (S := SS) HB6.out) (fun j hj => .inl hj)); have z4 := KC.out w6 HK6.out 4 _ rfl; clear hd)
      | (refine ⟨trivial, ?_⟩; gi_at_call 48; refine (callsIn_wide.2 (slices_Equal_int_int.calls (ids.length + 1) A6 c6 ids A4 c4 ids true w6 (Kd.R_reads' (KI.out w6 HK6.out)).2.2 (Kd.R_reads' (KI.out w6 HK6.out)).2.1 (K4.out w6 HK6.out) l4 (eqi_f ids (by omega) _ (Nat.lt_succ_self _)))).mono ?_; rintro e w7 ⟨rfl, hd⟩; have HB7 := Aside0.mk (below_drawn HB6.out hd); have HK7 := Aside0.mk (HKE.out.trans (Kept.of_below (S := SS) HB7.out) (fun j hj => .inl hj)); clear hd)
      | (refine ⟨trivial, ?_⟩; gi_at_call 45; refine (callsIn_wide.2 (spoil_bytes w7 (.slice A5 bs.length c5) (SB.of_R (KG.out w7 HK7.out) (by omega)))).mono ?_; rintro e w8 ⟨rfl, hs⟩; have HSP := Aside0.mk hs; clear hs))
    go_ret
    exact ⟨rfl, _, _, _, _, _, _, does_end HBE.out HB7.out HSP.out HG3.out HSD.out HSX.out HBo.out HLT.out HLX.out hbase, HLA.out, KW.out w7 w8 HK7.out HSP.out, (fun k hk => (HSD.out k hk).imp (fun h => h) (fun h => by omega)), (fun k hk => (HSX.out k hk).imp (fun h => h) (fun h => by omega))⟩
  · skip
    gi_wp2_with (first
      | (refine ⟨trivial, ?_⟩; gi_at_call 18; refine (callsIn_wide.2 (dm_write HBo.out.dm B A5 c5 bs lg (fun W' hk => (Kd.R_reads' (KG.out W' (hk.mono (fun k _ hk => by rw [← HSS.out]; exact .inl hk)))).2.2) hlast)).mono ?_; rintro e w4 ⟨rfl, ⟨Sd1, hs1, hd⟩, hk1⟩; have HD4 := Aside0.mk hd; have HS1 := Aside0.mk hs1; have HK4 := Aside0.mk hk1; have HKK4 := Aside0.mk (hk1.mono (fun k _ hk => by rw [← HSS.out]; exact .inl hk) : Kept SS w3 w4); have d1 := KC.out w4 HKK4.out 1 _ rfl; have d2 := KC.out w4 HKK4.out 2 _ rfl; have d3 := KC.out w4 HKK4.out 3 _ rfl; have d4 := KC.out w4 HKK4.out 4 _ rfl; clear hd hs1 hk1)
      | (refine ⟨trivial, ?_⟩; gi_at_call 42; refine (callsIn_wide.2 (x_writeS (HBo.out.x.kept HK4.out (fun k h1 h2 => absurd h1 (HBo.out.dis k h2))) B A3 c3 bs l3 (fun W' hk => K3.out W' (HKK4.out.trans (S1 := Sx) hk (fun j hj => .inl (by rw [← HSS.out]; exact .inr hj)))) hlast)).mono ?_; rintro e wE ⟨rfl, ⟨Sx1, hs2, hx⟩, hk2⟩; obtain ⟨hbE, hkE, hsd, hsx⟩ := HBo.out.step HD4.out HS1.out HK4.out hx hs2 hk2 (HFB.out); rw [HSS.out] at hkE; have HBE := Aside0.mk (hbE.mono (Nat.le_succ n)); have HKE := Aside0.mk hkE; have HSD := Aside0.mk hsd; have HSX := Aside0.mk hsx; have HLA := Aside0.mk (show wrL bl q last B bs ≤ last + 1 by unfold wrL; split <;> omega); have y3 := KC.out wE hkE 3 _ rfl; have y4 := KC.out wE hkE 4 _ rfl; clear hbE hkE hsd hsx hx hs2 hk2)
      | (refine ⟨trivial, ?_⟩; gi_at_call 14; refine (callsIn_wide.2 (bytes_Equal.calls A5 c5 bs A3 c3 bs true wE (Kd.R_reads' (KG.out wE HKE.out)).2.2 (Kd.R_reads' (KG.out wE HKE.out)).2.1 (K3.out wE HKE.out) l3 (by unfold bytes_Equal.f; simp))).mono ?_; rintro e w6 ⟨rfl, hd⟩; have HB6 := Aside0.mk (below_drawn (Below.refl wE.heap.size wE) hd); have HK6 := Aside0.mk (HKE.out.trans (Kept.of_below (S := SS) HB6.out) (fun j hj => .inl hj)); have z4 := KC.out w6 HK6.out 4 _ rfl; clear hd)
      | (refine ⟨trivial, ?_⟩; gi_at_call 48; refine (callsIn_wide.2 (slices_Equal_int_int.calls (ids.length + 1) A6 c6 ids A4 c4 ids true w6 (Kd.R_reads' (KI.out w6 HK6.out)).2.2 (Kd.R_reads' (KI.out w6 HK6.out)).2.1 (K4.out w6 HK6.out) l4 (eqi_f ids (by omega) _ (Nat.lt_succ_self _)))).mono ?_; rintro e w7 ⟨rfl, hd⟩; have HB7 := Aside0.mk (below_drawn HB6.out hd); have HK7 := Aside0.mk (HKE.out.trans (Kept.of_below (S := SS) HB7.out) (fun j hj => .inl hj)); clear hd)
      | (refine ⟨trivial, ?_⟩; gi_at_call 45; refine (callsIn_wide.2 (spoil_bytes w7 (.slice A5 bs.length c5) (SB.of_R (KG.out w7 HK7.out) (by omega)))).mono ?_; rintro e w8 ⟨rfl, hs⟩; have HSP := Aside0.mk hs; clear hs))
    go_ret
    exact ⟨rfl, _, _, _, _, _, _, does_end HBE.out HB7.out HSP.out HG3.out HSD.out HSX.out HBo.out HLT.out HLX.out hbase, HLA.out, KW.out w7 w8 HK7.out HSP.out, (fun k hk => (HSD.out k hk).imp (fun h => h) (fun h => by omega)), (fun k hk => (HSX.out k hk).imp (fun h => h) (fun h => by omega))⟩
  · skip
    gi_wp2
    have HBd := Aside0.mk (HBo.out.below (below_drew (Below.refl w3.heap.size w3)))
    refine wpIn_wide.2 ?_
    refine start_ (n := 18) (S := fun w' => w'.cell? ⟨zb, 1, none⟩ = some (.int .i64 B) ∧ w'.cell? ⟨zb, 2, none⟩ = some (.int .i64 N)) (ds := []) #[false, false, false, false, false, false, false, false, false, false, false, false, false, false, false, false, false, false] (by kernel_rfl) rfl rfl ⟨(KC.out _ (Kept.of_below (S := SS) (below_drew (Below.refl w3.heap.size w3))) 1 _ rfl), (KC.out _ (Kept.of_below (S := SS) (below_drew (Below.refl w3.heap.size w3))) 2 _ rfl)⟩ (fun hHeld => ?_)
    refine pure_ (i := 0) (N := some 67) (v := ?_) (a' := ?_) #[true, false, false, false, false, false, false, false, false, false, false, false, false, false, false, false, false, false] rfl rfl (by kernel_rfl) (fun _ _ _ h => h) (Or.inl ⟨by rfl, ?_⟩) ?_ ?_
    rotate_left
    · intro w'
      go_simp
      with_reducible rfl
    rotate_left
    · simp only [Act.put, List.setIfInBounds_toArray, List.set_cons_zero, List.set_cons_succ, i64_w, i32_w]
      rfl
    refine pure_ (i := 1) (N := some 68) (v := ?_) (a' := ?_) #[true, true, false, false, false, false, false, false, false, false, false, false, false, false, false, false, false, false] rfl rfl (by kernel_rfl) (fun _ _ _ h => h) (Or.inl ⟨by rfl, ?_⟩) ?_ ?_
    rotate_left
    · intro w'
      go_simp
      with_reducible rfl
    rotate_left
    · simp only [Act.put, List.setIfInBounds_toArray, List.set_cons_zero, List.set_cons_succ, i64_w, i32_w]
      rfl
    refine pure_ (i := 3) (N := some 70) (v := ?_) (a' := ?_) #[true, true, false, true, false, false, false, false, false, false, false, false, false, false, false, false, false, false] rfl rfl (by kernel_rfl) (fun _ _ _ h => h) (Or.inl ⟨by rfl, ?_⟩) ?_ ?_
    rotate_left
    · intro w'
      go_simp
      with_reducible rfl
    rotate_left
    · simp only [Act.put, List.setIfInBounds_toArray, List.set_cons_zero, List.set_cons_succ, i64_w, i32_w]
      rfl
    refine pure_ (i := 8) (N := some 75) (v := ?_) (a' := ?_) #[true, true, false, true, false, false, false, false, true, false, false, false, false, false, false, false, false, false] rfl rfl (by kernel_rfl) (fun _ _ _ h => h) (Or.inl ⟨by rfl, ?_⟩) ?_ ?_
    rotate_left
    · intro w'
      go_simp
      with_reducible rfl
    rotate_left
    · simp only [Act.put, List.setIfInBounds_toArray, List.set_cons_zero, List.set_cons_succ, i64_w, i32_w]
      rfl
    refine pure_ (i := 9) (N := some 76) (v := ?_) (a' := ?_) #[true, true, false, true, false, false, false, false, true, true, false, false, false, false, false, false, false, false] rfl rfl (by kernel_rfl) (fun _ _ _ h => h) (Or.inl ⟨by rfl, ?_⟩) ?_ ?_
    rotate_left
    · intro w'
      go_simp
      with_reducible rfl
    rotate_left
    · simp only [Act.put, List.setIfInBounds_toArray, List.set_cons_zero, List.set_cons_succ, i64_w, i32_w]
      rfl
    refine pure_ (i := 11) (N := some 78) (v := ?_) (a' := ?_) #[true, true, false, true, false, false, false, false, true, true, false, true, false, false, false, false, false, false] rfl rfl (by kernel_rfl) (fun _ _ _ h => h) (Or.inl ⟨by rfl, ?_⟩) ?_ ?_
    rotate_left
    · intro w'
      go_simp
      with_reducible rfl
    rotate_left
    · simp only [Act.put, List.setIfInBounds_toArray, List.set_cons_zero, List.set_cons_succ, i64_w, i32_w]
      rfl
    refine take_ (i := 2) (N := some 69) (v := ?_) (a' := ?_) #[true, true, true, true, false, false, false, false, true, true, false, true, false, false, false, false, false, false] rfl rfl (by kernel_rfl) (fun _ _ _ h => h) (Or.inl ⟨by rfl, ?_⟩) hHeld ?_ ?_
    rotate_left
    · rintro w' ⟨s0, s1⟩
      go_simp
      with_reducible rfl
    rotate_left
    · simp only [Act.put, List.setIfInBounds_toArray, List.set_cons_zero, List.set_cons_succ, i64_w, i32_w]
      rfl
    refine take_ (i := 4) (N := some 71) (v := ?_) (a' := ?_) #[true, true, true, true, true, false, false, false, true, true, false, true, false, false, false, false, false, false] rfl rfl (by kernel_rfl) (fun _ _ _ h => h) (Or.inl ⟨by rfl, ?_⟩) hHeld ?_ ?_
    rotate_left
    · rintro w' ⟨s0, s1⟩
      go_simp
      with_reducible rfl
    rotate_left
    · simp only [Act.put, List.setIfInBounds_toArray, List.set_cons_zero, List.set_cons_succ, i64_w, i32_w]
      rfl
    refine pure_ (i := 5) (N := some 72) (v := ?_) (a' := ?_) #[true, true, true, true, true, true, false, false, true, true, false, true, false, false, false, false, false, false] rfl rfl (by kernel_rfl) (fun _ _ _ h => h) (Or.inl ⟨by rfl, ?_⟩) ?_ ?_
    rotate_left
    · intro w'
      go_simp
      with_reducible rfl
    rotate_left
    · simp only [Act.put, List.setIfInBounds_toArray, List.set_cons_zero, List.set_cons_succ, i64_w, i32_w]
      rfl
    refine pure_ (i := 6) (N := some 73) (v := ?_) (a' := ?_) #[true, true, true, true, true, true, true, false, true, true, false, true, false, false, false, false, false, false] rfl rfl (by kernel_rfl) (fun _ _ _ h => h) (Or.inl ⟨by rfl, ?_⟩) ?_ ?_
    rotate_left
    · intro w'
      go_simp
      with_reducible rfl
    rotate_left
    · simp only [Act.put, List.setIfInBounds_toArray, List.set_cons_zero, List.set_cons_succ, i64_w, i32_w]
      rfl
    refine take_ (i := 10) (N := some 77) (v := ?_) (a' := ?_) #[true, true, true, true, true, true, true, false, true, true, true, true, false, false, false, false, false, false] rfl rfl (by kernel_rfl) (fun _ _ _ h => h) (Or.inl ⟨by rfl, ?_⟩) hHeld ?_ ?_
    rotate_left
    · rintro w' ⟨s0, s1⟩
      go_simp
      with_reducible rfl
    rotate_left
    · simp only [Act.put, List.setIfInBounds_toArray, List.set_cons_zero, List.set_cons_succ, i64_w, i32_w]
      rfl
    refine take_ (i := 12) (N := some 79) (v := ?_) (a' := ?_) #[true, true, true, true, true, true, true, false, true, true, true, true, true, false, false, false, false, false] rfl rfl (by kernel_rfl) (fun _ _ _ h => h) (Or.inl ⟨by rfl, ?_⟩) hHeld ?_ ?_
    rotate_left
    · rintro w' ⟨s0, s1⟩
      go_simp
      with_reducible rfl
    rotate_left
    · simp only [Act.put, List.setIfInBounds_toArray, List.set_cons_zero, List.set_cons_succ, i64_w, i32_w]
      rfl
    refine pure_ (i := 13) (N := some 80) (v := ?_) (a' := ?_) #[true, true, true, true, true, true, true, false, true, true, true, true, true, true, false, false, false, false] rfl rfl (by kernel_rfl) (fun _ _ _ h => h) (Or.inl ⟨by rfl, ?_⟩) ?_ ?_
    rotate_left
    · intro w'
      go_simp
      with_reducible rfl
    rotate_left
    · simp only [Act.put, List.setIfInBounds_toArray, List.set_cons_zero, List.set_cons_succ, i64_w, i32_w]
      rfl
    refine pure_ (i := 14) (N := some 81) (v := ?_) (a' := ?_) #[true, true, true, true, true, true, true, false, true, true, true, true, true, true, true, false, false, false] rfl rfl (by kernel_rfl) (fun _ _ _ h => h) (Or.inl ⟨by rfl, ?_⟩) ?_ ?_
    rotate_left
    · intro w'
      go_simp
      with_reducible rfl
    rotate_left
    · simp only [Act.put, List.setIfInBounds_toArray, List.set_cons_zero, List.set_cons_succ, i64_w, i32_w]
      rfl
    refine one_ (i := 7) (N := some 74) #[true, true, true, true, true, true, true, true, true, true, true, true, true, true, true, false, false, false] rfl rfl (by kernel_rfl) (by decide) (fun K hK => ?_)
    refine goes_ Try.func11 (by kernel_rfl) rfl #[.pointer (some ⟨D, 0, none⟩), .int .i64 N, .bool (B.tmod 2 == 0)] (by rfl) rfl rfl (by simp only [List.map_toArray, List.map_cons, List.map_nil]; rfl) ?_
    with_reducible refine ((dm_complete HBd.out.dm N (B.tmod 2 == 0))).mono ?_
    rintro e w4 ⟨rfl, ⟨Sd1, hs1, hd⟩, hk1⟩
    refine ⟨_, rfl, ?_⟩
    have HD4 := Aside0.mk hd
    have HS1 := Aside0.mk (show ∀ k, Sd1 k → Sd k ∨ w3.heap.size ≤ k from hs1)
    have HK4 := Aside0.mk ((Kept.of_below (S := Sd) (below_drew (Below.refl w3.heap.size w3))).trans hk1 (fun j hj => .inl hj) : Kept Sd w3 w4)
    have HKK4 := Aside0.mk (HK4.out.mono (fun k _ hk => by rw [← HSS.out]; exact .inl hk) : Kept SS w3 w4)
    clear hd hs1 hk1
    refine hK.out _ _ ⟨(KC.out _ HKK4.out 1 _ rfl), (KC.out _ HKK4.out 2 _ rfl)⟩ (fun hHeld => ?_)
    clear hK K
    refine norm_ (a' := ?_) ?_ ?_
    rotate_left
    · show Act.put _ (some 74) _ = _
      simp only [Act.put, List.setIfInBounds_toArray, List.set_cons_zero, List.set_cons_succ, i64_w, i32_w]
      rfl
    refine one_ (i := 15) (N := some 82) #[true, true, true, true, true, true, true, true, true, true, true, true, true, true, true, true, false, false] rfl rfl (by kernel_rfl) (by decide) (fun K hK => ?_)
    refine goes_ Try.func43 (by kernel_rfl) rfl #[.pointer (some ⟨X, 0, none⟩), .int .i64 N, .bool (B.tmod 2 == 0)] (by rfl) rfl rfl (by simp only [List.map_toArray, List.map_cons, List.map_nil]; rfl) ?_
    with_reducible refine ((x_completeS (HBo.out.x.kept HK4.out (fun k h1 h2 => absurd h1 (HBo.out.dis k h2))) N (B.tmod 2 == 0))).mono ?_
    rintro e wE ⟨rfl, ⟨Sx1, hs2, hx⟩, hk2⟩
    refine ⟨_, rfl, ?_⟩
    obtain ⟨hbE, hkE, hsd, hsx⟩ := HBo.out.step HD4.out HS1.out HK4.out hx hs2 hk2 (HFB.out)
    rw [HSS.out] at hkE
    have HBE := Aside0.mk (hbE.mono (Nat.le_succ n))
    have HKE := Aside0.mk hkE
    have HSD := Aside0.mk hsd
    have HSX := Aside0.mk hsx
    have HLA := Aside0.mk (show last ≤ last + 1 by omega)
    have y3 := KC.out wE hkE 3 _ rfl
    have y4 := KC.out wE hkE 4 _ rfl
    clear hbE hkE hsd hsx hx hs2 hk2
    refine hK.out _ _ ⟨(KC.out _ HKE.out 1 _ rfl), (KC.out _ HKE.out 2 _ rfl)⟩ (fun hHeld => ?_)
    clear hK K
    refine norm_ (a' := ?_) ?_ ?_
    rotate_left
    · show Act.put _ (some 82) _ = _
      simp only [Act.put, List.setIfInBounds_toArray, List.set_cons_zero, List.set_cons_succ, i64_w, i32_w]
      rfl
    refine pure_ (i := 16) (N := some 83) (v := ?_) (a' := ?_) #[true, true, true, true, true, true, true, true, true, true, true, true, true, true, true, true, true, false] rfl rfl (by kernel_rfl) (fun _ _ _ h => h) (Or.inl ⟨by rfl, ?_⟩) ?_ ?_
    rotate_left
    · intro w'
      go_simp
      with_reducible rfl
    rotate_left
    · simp only [Act.put, List.setIfInBounds_toArray, List.set_cons_zero, List.set_cons_succ, i64_w, i32_w]
      rfl
    refine pure_ (i := 17) (N := some 9) (v := ?_) (a' := ?_) #[true, true, true, true, true, true, true, true, true, true, true, true, true, true, true, true, true, true] rfl rfl (by kernel_rfl) (fun _ _ _ h => h) (Or.inl ⟨by rfl, ?_⟩) ?_ ?_
    rotate_left
    · intro w'
      go_simp
      with_reducible rfl
    rotate_left
    · simp only [Act.put, List.setIfInBounds_toArray, List.set_cons_zero, List.set_cons_succ, i64_w, i32_w]
      rfl
    refine done_ (by kernel_rfl) ?_

    clear hHeld
    gi_wp2_with (first
      | (refine ⟨trivial, ?_⟩; gi_at_call 14; refine (callsIn_wide.2 (bytes_Equal.calls A5 c5 bs A3 c3 bs true wE (Kd.R_reads' (KG.out wE HKE.out)).2.2 (Kd.R_reads' (KG.out wE HKE.out)).2.1 (K3.out wE HKE.out) l3 (by unfold bytes_Equal.f; simp))).mono ?_; rintro e w6 ⟨rfl, hd⟩; have HB6 := Aside0.mk (below_drawn (Below.refl wE.heap.size wE) hd); have HK6 := Aside0.mk (HKE.out.trans (Kept.of_below (S := SS) HB6.out) (fun j hj => .inl hj)); have z4 := KC.out w6 HK6.out 4 _ rfl; clear hd)
      | (refine ⟨trivial, ?_⟩; gi_at_call 48; refine (callsIn_wide.2 (slices_Equal_int_int.calls (ids.length + 1) A6 c6 ids A4 c4 ids true w6 (Kd.R_reads' (KI.out w6 HK6.out)).2.2 (Kd.R_reads' (KI.out w6 HK6.out)).2.1 (K4.out w6 HK6.out) l4 (eqi_f ids (by omega) _ (Nat.lt_succ_self _)))).mono ?_; rintro e w7 ⟨rfl, hd⟩; have HB7 := Aside0.mk (below_drawn HB6.out hd); have HK7 := Aside0.mk (HKE.out.trans (Kept.of_below (S := SS) HB7.out) (fun j hj => .inl hj)); clear hd)
      | (refine ⟨trivial, ?_⟩; gi_at_call 45; refine (callsIn_wide.2 (spoil_bytes w7 (.slice A5 bs.length c5) (SB.of_R (KG.out w7 HK7.out) (by omega)))).mono ?_; rintro e w8 ⟨rfl, hs⟩; have HSP := Aside0.mk hs; clear hs))
    go_ret
    exact ⟨rfl, _, _, _, _, _, _, does_end HBE.out HB7.out HSP.out HG3.out HSD.out HSX.out HBo.out HLT.out HLX.out hbase, HLA.out, KW.out w7 w8 HK7.out HSP.out, (fun k hk => (HSD.out k hk).imp (fun h => h) (fun h => by omega)), (fun k hk => (HSX.out k hk).imp (fun h => h) (fun h => by omega))⟩
  · skip
    gi_wp2_with (first
      | (refine ⟨trivial, ?_⟩; gi_at_call 17; refine (callsIn_wide.2 (dm_read HBo.out.dm B hwB (by omega))).mono ?_; rintro e w4 ⟨va, rfl, hra, hd, hk1⟩; obtain ⟨Aa, ca, rfl⟩ := Kd.R_slice hra; have HRA := Aside0.mk hra; have hs1 : ∀ k, Sd k → Sd k ∨ w3.heap.size ≤ k := (fun k hk => .inl hk); have HD4 := Aside0.mk hd; have HS1 := Aside0.mk hs1; have HK4 := Aside0.mk hk1; have HKK4 := Aside0.mk (hk1.mono (fun k _ hk => by rw [← HSS.out]; exact .inl hk) : Kept SS w3 w4); have d1 := KC.out w4 HKK4.out 1 _ rfl; have d2 := KC.out w4 HKK4.out 2 _ rfl; have d3 := KC.out w4 HKK4.out 3 _ rfl; have d4 := KC.out w4 HKK4.out 4 _ rfl; clear hd hs1 hk1; clear hra)
      | (refine ⟨trivial, ?_⟩; gi_at_call 44; refine (callsIn_wide.2 (x_read (HBo.out.x.kept HK4.out (fun k h1 h2 => absurd h1 (HBo.out.dis k h2))) B HFB.out)).mono ?_; rintro e wX ⟨vb, rfl, hrb, hx, hk2⟩; obtain ⟨Ab, cb, rfl⟩ := Kd.R_slice hrb; obtain ⟨hbE, hkE, hsd, hsx⟩ := HBo.out.step HD4.out HS1.out HK4.out hx (fun k hk => .inl hk) hk2 (rdF_ok B HFB.out HFL.out); rw [HSS.out] at hkE; have HBX2 := Aside0.mk hbE; have HKX := Aside0.mk hkE; have HAX := Aside0.mk (Kept.R (Kd.R_bound HRA.out) hk2 (fun k h1 h2 => by have := HLX.out k h2; have := h1.2.1; omega)); have HBXr := Aside0.mk hrb; clear hbE hkE hsd hsx hx hk2 hrb)
      | (refine ⟨trivial, ?_⟩; gi_at_call 14; refine (callsIn_wide.2 (bytes_Equal.calls Aa ca (rdB bl fl B) Ab cb (rdB bl fl B) true wX (Kd.R_reads' HAX.out).2.2 (Kd.R_reads' HAX.out).2.1 (Kd.R_reads' HBXr.out).2.2 (Kd.R_reads' HBXr.out).2.1 (by unfold bytes_Equal.f; simp))).mono ?_; rintro e wY ⟨rfl, hd⟩; have HBY := Aside0.mk (below_drawn (Below.refl wX.heap.size wX) hd); have HAY := Aside0.mk (Kd.R_below HAX.out HBY.out); clear hd HAX HBXr)
      | (refine ⟨trivial, ?_⟩; gi_at_call 45; refine (callsIn_wide.2 (spoil_bytes wY (.slice Aa (rdB bl fl B).length ca) (SB.of_R HAY.out (by have := rdB_len HBo.out.x.fits fl B; omega)))).mono ?_; rintro e wE ⟨rfl, hs⟩; have HBE := Aside0.mk ((HBX2.out.below HBY.out).kept (kept_spoils hs) (fun k hk e => by have := Kd.R_base HAY.out k e; have := HBo.out.dm.low k hk; omega) (fun k hk e => by have := Kd.R_base HAY.out k e; have := HBo.out.x.low k hk; omega)); have hkE : Kept SS w3 wE := (HKX.out.trans (Kept.of_below (S := SS) HBY.out) (fun j hj => .inl hj)).trans (kept_spoils hs) (fun j hj => .inr (by have := Kd.R_base HAY.out j hj; omega)); have HKE := Aside0.mk hkE; have HSD := Aside0.mk (fun k (hk : Sd k) => (.inl hk : Sd k ∨ w3.heap.size ≤ k)); have HSX := Aside0.mk (fun k (hk : Sx k) => (.inl hk : Sx k ∨ w3.heap.size ≤ k)); have HLA := Aside0.mk (show last ≤ last + 1 by omega); have y3 := KC.out wE hkE 3 _ rfl; have y4 := KC.out wE hkE 4 _ rfl; clear hs hkE HAY)
      | (refine ⟨trivial, ?_⟩; gi_at_call 14; refine (callsIn_wide.2 (bytes_Equal.calls A5 c5 bs A3 c3 bs true wE (Kd.R_reads' (KG.out wE HKE.out)).2.2 (Kd.R_reads' (KG.out wE HKE.out)).2.1 (K3.out wE HKE.out) l3 (by unfold bytes_Equal.f; simp))).mono ?_; rintro e w6 ⟨rfl, hd⟩; have HB6 := Aside0.mk (below_drawn (Below.refl wE.heap.size wE) hd); have HK6 := Aside0.mk (HKE.out.trans (Kept.of_below (S := SS) HB6.out) (fun j hj => .inl hj)); have z4 := KC.out w6 HK6.out 4 _ rfl; clear hd)
      | (refine ⟨trivial, ?_⟩; gi_at_call 48; refine (callsIn_wide.2 (slices_Equal_int_int.calls (ids.length + 1) A6 c6 ids A4 c4 ids true w6 (Kd.R_reads' (KI.out w6 HK6.out)).2.2 (Kd.R_reads' (KI.out w6 HK6.out)).2.1 (K4.out w6 HK6.out) l4 (eqi_f ids (by omega) _ (Nat.lt_succ_self _)))).mono ?_; rintro e w7 ⟨rfl, hd⟩; have HB7 := Aside0.mk (below_drawn HB6.out hd); have HK7 := Aside0.mk (HKE.out.trans (Kept.of_below (S := SS) HB7.out) (fun j hj => .inl hj)); clear hd)
      | (refine ⟨trivial, ?_⟩; gi_at_call 45; refine (callsIn_wide.2 (spoil_bytes w7 (.slice A5 bs.length c5) (SB.of_R (KG.out w7 HK7.out) (by omega)))).mono ?_; rintro e w8 ⟨rfl, hs⟩; have HSP := Aside0.mk hs; clear hs))
    go_ret
    exact ⟨rfl, _, _, _, _, _, _, does_end HBE.out HB7.out HSP.out HG3.out HSD.out HSX.out HBo.out HLT.out HLX.out hbase, HLA.out, KW.out w7 w8 HK7.out HSP.out, (fun k hk => (HSD.out k hk).imp (fun h => h) (fun h => by omega)), (fun k hk => (HSX.out k hk).imp (fun h => h) (fun h => by omega))⟩
  · skip
    gi_wp2
    have HBd := Aside0.mk (HBo.out.below (below_drew (Below.refl w3.heap.size w3)))
    refine wpIn_wide.2 ?_
    refine start_ (n := 14) (S := fun w' => w'.cell? ⟨zb, 1, none⟩ = some (.int .i64 B) ∧ w'.cell? ⟨zb, 2, none⟩ = some (.int .i64 N)) (ds := []) #[false, false, false, false, false, false, false, false, false, false, false, false, false, false] (by kernel_rfl) rfl rfl ⟨(KC.out _ (Kept.of_below (S := SS) (below_drew (Below.refl w3.heap.size w3))) 1 _ rfl), (KC.out _ (Kept.of_below (S := SS) (below_drew (Below.refl w3.heap.size w3))) 2 _ rfl)⟩ (fun hHeld => ?_)
    refine pure_ (i := 0) (N := some 112) (v := ?_) (a' := ?_) #[true, false, false, false, false, false, false, false, false, false, false, false, false, false] rfl rfl (by kernel_rfl) (fun _ _ _ h => h) (Or.inl ⟨by rfl, ?_⟩) ?_ ?_
    rotate_left
    · intro w'
      go_simp
      with_reducible rfl
    rotate_left
    · simp only [Act.put, List.setIfInBounds_toArray, List.set_cons_zero, List.set_cons_succ, i64_w, i32_w]
      rfl
    refine pure_ (i := 1) (N := some 113) (v := ?_) (a' := ?_) #[true, true, false, false, false, false, false, false, false, false, false, false, false, false] rfl rfl (by kernel_rfl) (fun _ _ _ h => h) (Or.inl ⟨by rfl, ?_⟩) ?_ ?_
    rotate_left
    · intro w'
      go_simp
      with_reducible rfl
    rotate_left
    · simp only [Act.put, List.setIfInBounds_toArray, List.set_cons_zero, List.set_cons_succ, i64_w, i32_w]
      rfl
    refine pure_ (i := 3) (N := some 115) (v := ?_) (a' := ?_) #[true, true, false, true, false, false, false, false, false, false, false, false, false, false] rfl rfl (by kernel_rfl) (fun _ _ _ h => h) (Or.inl ⟨by rfl, ?_⟩) ?_ ?_
    rotate_left
    · intro w'
      go_simp
      with_reducible rfl
    rotate_left
    · simp only [Act.put, List.setIfInBounds_toArray, List.set_cons_zero, List.set_cons_succ, i64_w, i32_w]
      rfl
    refine pure_ (i := 6) (N := some 118) (v := ?_) (a' := ?_) #[true, true, false, true, false, false, true, false, false, false, false, false, false, false] rfl rfl (by kernel_rfl) (fun _ _ _ h => h) (Or.inl ⟨by rfl, ?_⟩) ?_ ?_
    rotate_left
    · intro w'
      go_simp
      with_reducible rfl
    rotate_left
    · simp only [Act.put, List.setIfInBounds_toArray, List.set_cons_zero, List.set_cons_succ, i64_w, i32_w]
      rfl
    refine pure_ (i := 7) (N := some 119) (v := ?_) (a' := ?_) #[true, true, false, true, false, false, true, true, false, false, false, false, false, false] rfl rfl (by kernel_rfl) (fun _ _ _ h => h) (Or.inl ⟨by rfl, ?_⟩) ?_ ?_
    rotate_left
    · intro w'
      go_simp
      with_reducible rfl
    rotate_left
    · simp only [Act.put, List.setIfInBounds_toArray, List.set_cons_zero, List.set_cons_succ, i64_w, i32_w]
      rfl
    refine pure_ (i := 9) (N := some 121) (v := ?_) (a' := ?_) #[true, true, false, true, false, false, true, true, false, true, false, false, false, false] rfl rfl (by kernel_rfl) (fun _ _ _ h => h) (Or.inl ⟨by rfl, ?_⟩) ?_ ?_
    rotate_left
    · intro w'
      go_simp
      with_reducible rfl
    rotate_left
    · simp only [Act.put, List.setIfInBounds_toArray, List.set_cons_zero, List.set_cons_succ, i64_w, i32_w]
      rfl
    refine take_ (i := 2) (N := some 114) (v := ?_) (a' := ?_) #[true, true, true, true, false, false, true, true, false, true, false, false, false, false] rfl rfl (by kernel_rfl) (fun _ _ _ h => h) (Or.inl ⟨by rfl, ?_⟩) hHeld ?_ ?_
    rotate_left
    · rintro w' ⟨s0, s1⟩
      go_simp
      with_reducible rfl
    rotate_left
    · simp only [Act.put, List.setIfInBounds_toArray, List.set_cons_zero, List.set_cons_succ, i64_w, i32_w]
      rfl
    refine take_ (i := 4) (N := some 116) (v := ?_) (a' := ?_) #[true, true, true, true, true, false, true, true, false, true, false, false, false, false] rfl rfl (by kernel_rfl) (fun _ _ _ h => h) (Or.inl ⟨by rfl, ?_⟩) hHeld ?_ ?_
    rotate_left
    · rintro w' ⟨s0, s1⟩
      go_simp
      with_reducible rfl
    rotate_left
    · simp only [Act.put, List.setIfInBounds_toArray, List.set_cons_zero, List.set_cons_succ, i64_w, i32_w]
      rfl
    refine take_ (i := 8) (N := some 120) (v := ?_) (a' := ?_) #[true, true, true, true, true, false, true, true, true, true, false, false, false, false] rfl rfl (by kernel_rfl) (fun _ _ _ h => h) (Or.inl ⟨by rfl, ?_⟩) hHeld ?_ ?_
    rotate_left
    · rintro w' ⟨s0, s1⟩
      go_simp
      with_reducible rfl
    rotate_left
    · simp only [Act.put, List.setIfInBounds_toArray, List.set_cons_zero, List.set_cons_succ, i64_w, i32_w]
      rfl
    refine take_ (i := 10) (N := some 122) (v := ?_) (a' := ?_) #[true, true, true, true, true, false, true, true, true, true, true, false, false, false] rfl rfl (by kernel_rfl) (fun _ _ _ h => h) (Or.inl ⟨by rfl, ?_⟩) hHeld ?_ ?_
    rotate_left
    · rintro w' ⟨s0, s1⟩
      go_simp
      with_reducible rfl
    rotate_left
    · simp only [Act.put, List.setIfInBounds_toArray, List.set_cons_zero, List.set_cons_succ, i64_w, i32_w]
      rfl
    refine one_ (i := 5) (N := some 117) #[true, true, true, true, true, true, true, true, true, true, true, false, false, false] rfl rfl (by kernel_rfl) (by decide) (fun K hK => ?_)
    refine goes_ Try.func19 (by kernel_rfl) rfl #[.pointer (some ⟨D, 0, none⟩), .int .i64 B, .int .i64 N] (by rfl) rfl rfl (by simp only [List.map_toArray, List.map_cons, List.map_nil]; rfl) ?_
    with_reducible refine ((dm_fail HBd.out.dm B N hwB hwN (by omega))).mono ?_
    rintro e w4 ⟨rfl, hd, hk1⟩
    refine ⟨_, rfl, ?_⟩
    have hs1 : ∀ k, Sd k → Sd k ∨ w3.heap.size ≤ k := fun k hk => .inl hk
    have HD4 := Aside0.mk hd
    have HS1 := Aside0.mk (show ∀ k, Sd k → Sd k ∨ w3.heap.size ≤ k from hs1)
    have HK4 := Aside0.mk ((Kept.of_below (S := Sd) (below_drew (Below.refl w3.heap.size w3))).trans hk1 (fun j hj => .inl hj) : Kept Sd w3 w4)
    have HKK4 := Aside0.mk (HK4.out.mono (fun k _ hk => by rw [← HSS.out]; exact .inl hk) : Kept SS w3 w4)
    clear hd hs1 hk1
    refine hK.out _ _ ⟨(KC.out _ HKK4.out 1 _ rfl), (KC.out _ HKK4.out 2 _ rfl)⟩ (fun hHeld => ?_)
    clear hK K
    refine norm_ (a' := ?_) ?_ ?_
    rotate_left
    · show Act.put _ (some 117) _ = _
      simp only [Act.put, List.setIfInBounds_toArray, List.set_cons_zero, List.set_cons_succ, i64_w, i32_w]
      rfl
    refine one_ (i := 11) (N := some 123) #[true, true, true, true, true, true, true, true, true, true, true, true, false, false] rfl rfl (by kernel_rfl) (by decide) (fun K hK => ?_)
    refine goes_ Try.func46 (by kernel_rfl) rfl #[.pointer (some ⟨X, 0, none⟩), .int .i64 B, .int .i64 N] (by rfl) rfl rfl (by simp only [List.map_toArray, List.map_cons, List.map_nil]; rfl) ?_
    with_reducible refine ((x_fail (HBo.out.x.kept HK4.out (fun k h1 h2 => absurd h1 (HBo.out.dis k h2))) B N)).mono ?_
    rintro e wE ⟨rfl, hx, hk2⟩
    refine ⟨_, rfl, ?_⟩
    have hs2 : ∀ k, Sx k → Sx k ∨ w4.heap.size ≤ k := fun k hk => .inl hk
    obtain ⟨hbE, hkE, hsd, hsx⟩ := HBo.out.step HD4.out HS1.out HK4.out hx hs2 hk2 (faF_ok B N HFB.out)
    rw [HSS.out] at hkE
    have HBE := Aside0.mk (hbE)
    have HKE := Aside0.mk hkE
    have HSD := Aside0.mk hsd
    have HSX := Aside0.mk hsx
    have HLA := Aside0.mk (show last ≤ last + 1 by omega)
    have y3 := KC.out wE hkE 3 _ rfl
    have y4 := KC.out wE hkE 4 _ rfl
    clear hbE hkE hsd hsx hx hs2 hk2
    refine hK.out _ _ ⟨(KC.out _ HKE.out 1 _ rfl), (KC.out _ HKE.out 2 _ rfl)⟩ (fun hHeld => ?_)
    clear hK K
    refine norm_ (a' := ?_) ?_ ?_
    rotate_left
    · show Act.put _ (some 123) _ = _
      simp only [Act.put, List.setIfInBounds_toArray, List.set_cons_zero, List.set_cons_succ, i64_w, i32_w]
      rfl
    refine pure_ (i := 12) (N := some 124) (v := ?_) (a' := ?_) #[true, true, true, true, true, true, true, true, true, true, true, true, true, false] rfl rfl (by kernel_rfl) (fun _ _ _ h => h) (Or.inl ⟨by rfl, ?_⟩) ?_ ?_
    rotate_left
    · intro w'
      go_simp
      with_reducible rfl
    rotate_left
    · simp only [Act.put, List.setIfInBounds_toArray, List.set_cons_zero, List.set_cons_succ, i64_w, i32_w]
      rfl
    refine pure_ (i := 13) (N := some 9) (v := ?_) (a' := ?_) #[true, true, true, true, true, true, true, true, true, true, true, true, true, true] rfl rfl (by kernel_rfl) (fun _ _ _ h => h) (Or.inl ⟨by rfl, ?_⟩) ?_ ?_
    rotate_left
    · intro w'
      go_simp
      with_reducible rfl
    rotate_left
    · simp only [Act.put, List.setIfInBounds_toArray, List.set_cons_zero, List.set_cons_succ, i64_w, i32_w]
      rfl
    refine done_ (by kernel_rfl) ?_

    clear hHeld
    gi_wp2_with (first
      | (refine ⟨trivial, ?_⟩; gi_at_call 14; refine (callsIn_wide.2 (bytes_Equal.calls A5 c5 bs A3 c3 bs true wE (Kd.R_reads' (KG.out wE HKE.out)).2.2 (Kd.R_reads' (KG.out wE HKE.out)).2.1 (K3.out wE HKE.out) l3 (by unfold bytes_Equal.f; simp))).mono ?_; rintro e w6 ⟨rfl, hd⟩; have HB6 := Aside0.mk (below_drawn (Below.refl wE.heap.size wE) hd); have HK6 := Aside0.mk (HKE.out.trans (Kept.of_below (S := SS) HB6.out) (fun j hj => .inl hj)); have z4 := KC.out w6 HK6.out 4 _ rfl; clear hd)
      | (refine ⟨trivial, ?_⟩; gi_at_call 48; refine (callsIn_wide.2 (slices_Equal_int_int.calls (ids.length + 1) A6 c6 ids A4 c4 ids true w6 (Kd.R_reads' (KI.out w6 HK6.out)).2.2 (Kd.R_reads' (KI.out w6 HK6.out)).2.1 (K4.out w6 HK6.out) l4 (eqi_f ids (by omega) _ (Nat.lt_succ_self _)))).mono ?_; rintro e w7 ⟨rfl, hd⟩; have HB7 := Aside0.mk (below_drawn HB6.out hd); have HK7 := Aside0.mk (HKE.out.trans (Kept.of_below (S := SS) HB7.out) (fun j hj => .inl hj)); clear hd)
      | (refine ⟨trivial, ?_⟩; gi_at_call 45; refine (callsIn_wide.2 (spoil_bytes w7 (.slice A5 bs.length c5) (SB.of_R (KG.out w7 HK7.out) (by omega)))).mono ?_; rintro e w8 ⟨rfl, hs⟩; have HSP := Aside0.mk hs; clear hs))
    go_ret
    exact ⟨rfl, _, _, _, _, _, _, does_end HBE.out HB7.out HSP.out HG3.out HSD.out HSX.out HBo.out HLT.out HLX.out hbase, HLA.out, KW.out w7 w8 HK7.out HSP.out, (fun k hk => (HSD.out k hk).imp (fun h => h) (fun h => by omega)), (fun k hk => (HSX.out k hk).imp (fun h => h) (fun h => by omega))⟩
  · skip
    gi_wp2
    have HBd := Aside0.mk (HBo.out.below (below_drew (Below.refl w3.heap.size w3)))
    refine wpIn_wide.2 ?_
    refine start_ (n := 9) (S := fun w' => w'.cell? ⟨zb, 4, none⟩ = some (.slice A4 ids.length c4)) (ds := []) #[false, false, false, false, false, false, false, false, false] (by kernel_rfl) rfl rfl ((KC.out _ (Kept.of_below (S := SS) (below_drew (Below.refl w3.heap.size w3))) 4 _ rfl)) (fun hHeld => ?_)
    refine pure_ (i := 0) (N := some 29) (v := ?_) (a' := ?_) #[true, false, false, false, false, false, false, false, false] rfl rfl (by kernel_rfl) (fun _ _ _ h => h) (Or.inl ⟨by rfl, ?_⟩) ?_ ?_
    rotate_left
    · intro w'
      go_simp
      with_reducible rfl
    rotate_left
    · simp only [Act.put, List.setIfInBounds_toArray, List.set_cons_zero, List.set_cons_succ, i64_w, i32_w]
      rfl
    refine pure_ (i := 1) (N := some 30) (v := ?_) (a' := ?_) #[true, true, false, false, false, false, false, false, false] rfl rfl (by kernel_rfl) (fun _ _ _ h => h) (Or.inl ⟨by rfl, ?_⟩) ?_ ?_
    rotate_left
    · intro w'
      go_simp
      with_reducible rfl
    rotate_left
    · simp only [Act.put, List.setIfInBounds_toArray, List.set_cons_zero, List.set_cons_succ, i64_w, i32_w]
      rfl
    refine pure_ (i := 3) (N := some 32) (v := ?_) (a' := ?_) #[true, true, false, true, false, false, false, false, false] rfl rfl (by kernel_rfl) (fun _ _ _ h => h) (Or.inl ⟨by rfl, ?_⟩) ?_ ?_
    rotate_left
    · intro w'
      go_simp
      with_reducible rfl
    rotate_left
    · simp only [Act.put, List.setIfInBounds_toArray, List.set_cons_zero, List.set_cons_succ, i64_w, i32_w]
      rfl
    refine pure_ (i := 4) (N := some 33) (v := ?_) (a' := ?_) #[true, true, false, true, true, false, false, false, false] rfl rfl (by kernel_rfl) (fun _ _ _ h => h) (Or.inl ⟨by rfl, ?_⟩) ?_ ?_
    rotate_left
    · intro w'
      go_simp
      with_reducible rfl
    rotate_left
    · simp only [Act.put, List.setIfInBounds_toArray, List.set_cons_zero, List.set_cons_succ, i64_w, i32_w]
      rfl
    refine take_ (i := 5) (N := some 34) (v := ?_) (a' := ?_) #[true, true, false, true, true, true, false, false, false] rfl rfl (by kernel_rfl) (fun _ _ _ h => h) (Or.inl ⟨by rfl, ?_⟩) hHeld ?_ ?_
    rotate_left
    · intro w' s0
      go_simp
      with_reducible rfl
    rotate_left
    · simp only [Act.put, List.setIfInBounds_toArray, List.set_cons_zero, List.set_cons_succ, i64_w, i32_w]
      rfl
    refine one_ (i := 2) (N := some 31) #[true, true, true, true, true, true, false, false, false] rfl rfl (by kernel_rfl) (by decide) (fun K hK => ?_)
    refine goes_ Try.func16 (by kernel_rfl) rfl #[.pointer (some ⟨D, 0, none⟩), .slice A6 ids.length c6] (by rfl) rfl rfl (by simp only [List.map_toArray, List.map_cons, List.map_nil]; rfl) ?_
    with_reducible refine ((dm_crash HBd.out.dm A6 c6 ids (fun W' hk => (Kd.R_reads' (KI.out W' ((Kept.of_below (S := SS) (below_drew (Below.refl w3.heap.size w3))).trans hk (fun j hj => .inl (by rw [← HSS.out]; exact .inl hj))))).2.2) (by omega))).mono ?_
    rintro e w4 ⟨rfl, ⟨Sd1, hs1, hd⟩, hk1⟩
    refine ⟨_, rfl, ?_⟩
    have HD4 := Aside0.mk hd
    have HS1 := Aside0.mk (show ∀ k, Sd1 k → Sd k ∨ w3.heap.size ≤ k from hs1)
    have HK4 := Aside0.mk ((Kept.of_below (S := Sd) (below_drew (Below.refl w3.heap.size w3))).trans hk1 (fun j hj => .inl hj) : Kept Sd w3 w4)
    have HKK4 := Aside0.mk (HK4.out.mono (fun k _ hk => by rw [← HSS.out]; exact .inl hk) : Kept SS w3 w4)
    clear hd hs1 hk1
    refine hK.out _ _ ((KC.out _ HKK4.out 4 _ rfl)) (fun hHeld => ?_)
    clear hK K
    refine norm_ (a' := ?_) ?_ ?_
    rotate_left
    · show Act.put _ (some 31) _ = _
      simp only [Act.put, List.setIfInBounds_toArray, List.set_cons_zero, List.set_cons_succ, i64_w, i32_w]
      rfl
    refine one_ (i := 6) (N := some 35) #[true, true, true, true, true, true, true, false, false] rfl rfl (by kernel_rfl) (by decide) (fun K hK => ?_)
    refine goes_ Try.func47 (by kernel_rfl) rfl #[.pointer (some ⟨X, 0, none⟩), .slice A4 ids.length c4] (by rfl) rfl rfl (by simp only [List.map_toArray, List.map_cons, List.map_nil]; rfl) ?_
    with_reducible refine ((x_crashS (HBo.out.x.kept HK4.out (fun k h1 h2 => absurd h1 (HBo.out.dis k h2))) A4 c4 ids (fun W' hk => K4.out W' (HKK4.out.trans (S1 := Sx) hk (fun j hj => .inl (by rw [← HSS.out]; exact .inr hj)))) (by omega))).mono ?_
    rintro e wE ⟨rfl, ⟨Sx1, hs2, hx⟩, hk2⟩
    refine ⟨_, rfl, ?_⟩
    obtain ⟨hbE, hkE, hsd, hsx⟩ := HBo.out.step HD4.out HS1.out HK4.out hx hs2 hk2 (crF_ok ids HFB.out)
    rw [HSS.out] at hkE
    have HBE := Aside0.mk (hbE.mono (Nat.le_succ n))
    have HKE := Aside0.mk hkE
    have HSD := Aside0.mk hsd
    have HSX := Aside0.mk hsx
    have HLA := Aside0.mk (show last ≤ last + 1 by omega)
    have y3 := KC.out wE hkE 3 _ rfl
    have y4 := KC.out wE hkE 4 _ rfl
    clear hbE hkE hsd hsx hx hs2 hk2
    refine hK.out _ _ ((KC.out _ HKE.out 4 _ rfl)) (fun hHeld => ?_)
    clear hK K
    refine norm_ (a' := ?_) ?_ ?_
    rotate_left
    · show Act.put _ (some 35) _ = _
      simp only [Act.put, List.setIfInBounds_toArray, List.set_cons_zero, List.set_cons_succ, i64_w, i32_w]
      rfl
    refine pure_ (i := 7) (N := some 36) (v := ?_) (a' := ?_) #[true, true, true, true, true, true, true, true, false] rfl rfl (by kernel_rfl) (fun _ _ _ h => h) (Or.inl ⟨by rfl, ?_⟩) ?_ ?_
    rotate_left
    · intro w'
      go_simp
      with_reducible rfl
    rotate_left
    · simp only [Act.put, List.setIfInBounds_toArray, List.set_cons_zero, List.set_cons_succ, i64_w, i32_w]
      rfl
    refine pure_ (i := 8) (N := some 9) (v := ?_) (a' := ?_) #[true, true, true, true, true, true, true, true, true] rfl rfl (by kernel_rfl) (fun _ _ _ h => h) (Or.inl ⟨by rfl, ?_⟩) ?_ ?_
    rotate_left
    · intro w'
      go_simp
      with_reducible rfl
    rotate_left
    · simp only [Act.put, List.setIfInBounds_toArray, List.set_cons_zero, List.set_cons_succ, i64_w, i32_w]
      rfl
    refine done_ (by kernel_rfl) ?_

    clear hHeld
    gi_wp2_with (first
      | (refine ⟨trivial, ?_⟩; gi_at_call 14; refine (callsIn_wide.2 (bytes_Equal.calls A5 c5 bs A3 c3 bs true wE (Kd.R_reads' (KG.out wE HKE.out)).2.2 (Kd.R_reads' (KG.out wE HKE.out)).2.1 (K3.out wE HKE.out) l3 (by unfold bytes_Equal.f; simp))).mono ?_; rintro e w6 ⟨rfl, hd⟩; have HB6 := Aside0.mk (below_drawn (Below.refl wE.heap.size wE) hd); have HK6 := Aside0.mk (HKE.out.trans (Kept.of_below (S := SS) HB6.out) (fun j hj => .inl hj)); have z4 := KC.out w6 HK6.out 4 _ rfl; clear hd)
      | (refine ⟨trivial, ?_⟩; gi_at_call 48; refine (callsIn_wide.2 (slices_Equal_int_int.calls (ids.length + 1) A6 c6 ids A4 c4 ids true w6 (Kd.R_reads' (KI.out w6 HK6.out)).2.2 (Kd.R_reads' (KI.out w6 HK6.out)).2.1 (K4.out w6 HK6.out) l4 (eqi_f ids (by omega) _ (Nat.lt_succ_self _)))).mono ?_; rintro e w7 ⟨rfl, hd⟩; have HB7 := Aside0.mk (below_drawn HB6.out hd); have HK7 := Aside0.mk (HKE.out.trans (Kept.of_below (S := SS) HB7.out) (fun j hj => .inl hj)); clear hd)
      | (refine ⟨trivial, ?_⟩; gi_at_call 45; refine (callsIn_wide.2 (spoil_bytes w7 (.slice A5 bs.length c5) (SB.of_R (KG.out w7 HK7.out) (by omega)))).mono ?_; rintro e w8 ⟨rfl, hs⟩; have HSP := Aside0.mk hs; clear hs))
    go_ret
    exact ⟨rfl, _, _, _, _, _, _, does_end HBE.out HB7.out HSP.out HG3.out HSD.out HSX.out HBo.out HLT.out HLX.out hbase, HLA.out, KW.out w7 w8 HK7.out HSP.out, (fun k hk => (HSD.out k hk).imp (fun h => h) (fun h => by omega)), (fun k hk => (HSX.out k hk).imp (fun h => h) (fun h => by omega))⟩
end Go.Proofs.Ytbopccjcehnfnaa.Dk
