/- Written by a program of this session. DiskLives: whatever is done to a disk, it answers and has what the document says. -/
import Derived.Test.YtbopccjcehnfnaaYc
namespace Go.Proofs.Ytbopccjcehnfnaa.Dk
open Go Go.RowKit Go.Shelf Go.Proofs Go.Maps Go.Proofs.Ytbopccjcehnfnaa.Sp Go.Proofs.Ytbopccjcehnfnaa.XFb Go.Proofs.YtbopccjcehnfnaaW.PrintWords Go.Proofs.YtbopccjcehnfnaaW.PrintLast Go.Proofs.YtbopccjcehnfnaaW.PrintMore
set_option linter.unusedVariables false
set_option linter.unusedSimpArgs false
theorem IsX.lower {W : World} {base X : Nat} {S : Nat → Prop} {bl : List (List Int)} {q : List S32} {fl : List Int} {last : Int} (h : IsX W base X S bl q fl last) {base' : Nat} (hb : base' ≤ base) : IsX W base' X S bl q fl last := by
  obtain ⟨h1, h0, ⟨vB, vQ, vF, hD, hB, hQ, hF⟩, h2, h4⟩ := h
  exact ⟨h1, h0, ⟨vB, vQ, vF, hD, Kd.R_lower hB hb, Kd.R_lower hQ hb, Kd.R_lower hF hb⟩, h2, fun k hs => ⟨by have := (h4 k hs).1; omega, (h4 k hs).2⟩⟩
theorem both_new {w w1 w2 : World} {n : Nat} (h1 : IsDk w1 w.heap.size (w.heap.size + 1) w.heap.size (fun k => w.heap.size ≤ k ∧ k < w1.heap.size) (List.replicate n (List.replicate 128 0)) [] (.map #[] 0) 0) (hb1 : Below w.heap.size w w1)
    (h2 : IsX w2 w1.heap.size (w1.heap.size + 1) (fun k => w1.heap.size ≤ k ∧ k < w2.heap.size) (List.replicate n (List.replicate 128 0)) [] (List.replicate n 0) 0) (hb2 : Below w1.heap.size w1 w2) :
    Both w2 w.heap.size (w.heap.size + 1) w.heap.size (fun k => w.heap.size ≤ k ∧ k < w1.heap.size) (w1.heap.size + 1) (fun k => w1.heap.size ≤ k ∧ k < w2.heap.size) (List.replicate n (List.replicate 128 0)) [] (List.replicate n 0) 0 0 := by
  have hm := h1.below hb2
  refine ⟨⟨⟨_, hm⟩, ⟨.map [], made_own hm.map 0, AgF.none_ n⟩, by simp⟩, h2.lower hb1.size, fun k h3 h4 => ?_, fun c hc => ?_⟩
  · have := h3.2; have := h4.1; omega
  · rw [List.eq_of_mem_replicate hc]; decide
theorem kept_or {Sd Sx : Nat → Prop} {n : Nat} {W W' : World} (h : Kept (fun k => Sd k ∨ Sx k) W W') (h1 : ∀ k, Sd k → n ≤ k) (h2 : ∀ k, Sx k → n ≤ k) (hn : n ≤ W.heap.size) : Below n W W' := h.below (fun k hk => by rcases hk with hk | hk; exact h1 k hk; exact h2 k hk) hn
set_option maxRecDepth 100000 in
set_option maxHeartbeats 8000000 in
theorem DiskLives_walk (n : Int) (A : Option Addr) (c : Nat) (l : List DoT) (w : World) (hn : (Lit.int .i64 n).wf = true) (hC : Kd.C kDo w A l.length l) (hl : l.length ≤ 1000000000000000) (hF : ∀ x ∈ l, (fun x : DoT => (Lit.int .i64 x.1).wf = true ∧ (Lit.int .i64 x.2.1).wf = true ∧ (Lit.int .i64 x.2.2.1).wf = true ∧ ((∀ y ∈ x.2.2.2.1, (Lit.int .u8 y).wf = true) ∧ x.2.2.2.1.length * 1 ≤ 140737488351232) ∧ (∀ y ∈ x.2.2.2.2, (Lit.int .i64 y).wf = true) ∧ x.2.2.2.2.length * 8 ≤ 140737488351232) x) :
    Calls Try.prog 6 #[.int .i64 n, .slice A l.length c] w fun e w' => e = .returned (.bool true) ∧ Below w.heap.size w w' := by
  have HC := Aside0.mk hC
  have HF := Aside0.mk hF
  clear hC hF
  refine (callsIn_wide (n := 1)).1 ?_
  refine callsIn_of_wp Try.func6 rfl trivial ?_ rfl
  simp only [Try.ntmps6, List.size_toArray, List.length_cons, List.length_nil, Nat.reduceAdd, Nat.reduceSub, Array.replicate_succ, Array.replicate_zero, List.push_toArray, List.append_toArray, List.nil_append, List.cons_append]
  by_cases hr : n < 1 ∨ 2048 < n
  · have HR := Aside0.mk hr
    clear hr
    gi_wp2_with (first
      | (refine ⟨trivial, ?_⟩; gi_at_call 20; refine (callsIn_wide.2 (new_no n _ HR.out)).mono ?_; rintro e w1 ⟨rfl, hw⟩; rw [hw]; clear hw)
      | (refine ⟨trivial, ?_⟩; gi_at_call 21; refine (callsIn_wide.2 (x_new_no n _ HR.out)).mono ?_; rintro e w1 ⟨rfl, hw⟩; rw [hw]; clear hw))
    gi_loopw [33] (fun v33 wr => v33 = .int .i64 0 ∧ Aside0 (Below w.heap.size w wr)) (fun _ _ => 0)
    case atStart => exact ⟨rfl, ⟨Below.refl _ _⟩⟩
    case round =>
      obtain ⟨rfl, HBW⟩ := hrel
      by_cases hlt0 : 0 < l.length
      · have t1 : decide ((0 : Int) < (l.length : Int)) = true := decide_eq_true (by omega)
        obtain ⟨i, hi0⟩ : ∃ i : Nat, i = 0 := ⟨0, rfl⟩
        have hlt : i < l.length := by omega
        obtain ⟨ad, A3, c3, A4, c4, rfl, k0, k1, k2, k3, k4, l3, g3, l4, g4⟩ := at_Do HC.out i hlt
        have hmem : l.getD i zDo ∈ l := by rw [List.getD_eq_getElem?_getD, List.getElem?_eq_getElem hlt]; exact List.getElem_mem _
        have hf1 := HF.out _ hmem
        obtain ⟨⟨op, B, N, bs, ids⟩, hel⟩ : ∃ e, l.getD i zDo = e := ⟨_, rfl⟩
        rw [hel] at k0 k1 k2 k3 k4 l3 g3 l4 g4 hf1
        dsimp only at k0 k1 k2 k3 k4 l3 g3 l4 g4 hf1
        have G3 := Aside0.mk g3
        have G4 := Aside0.mk g4
        have HF1 := Aside0.mk hf1
        have j0 := (HBW.out.cell (World.block_lt_of_cell? w _ k0)).trans k0
        have j1 := (HBW.out.cell (World.block_lt_of_cell? w _ k1)).trans k1
        have j2 := (HBW.out.cell (World.block_lt_of_cell? w _ k2)).trans k2
        have j3 := (HBW.out.cell (World.block_lt_of_cell? w _ k3)).trans k3
        have j4 := (HBW.out.cell (World.block_lt_of_cell? w _ k4)).trans k4
        clear g3 g4 hel hmem hf1 k0 k1 k2 k3 k4
        subst hi0
        have e0 : ad.add (0 * 5) = ad := by unfold Addr.add; simp
        rw [e0] at j0 j1 j2 j3 j4
        clear e0
        have HBX := Aside0.mk (below_alloc HBW.out (.cells #[.int .i64 op, .int .i64 B, .int .i64 N, .slice A3 bs.length c3, .slice A4 ids.length c4] 59))
        gi_wp2_with (refine ⟨trivial, ?_⟩)
        go_ret
        exact ⟨rfl, HBX.out⟩
      · have t1 : decide ((0 : Int) < (l.length : Int)) = false := decide_eq_false (by omega)
        gi_wp2_with (refine ⟨trivial, ?_⟩)
        go_ret
        exact ⟨rfl, HBW.out⟩
  · obtain ⟨nb, rfl⟩ : ∃ nb : Nat, n = nb := ⟨n.toNat, by omega⟩
    have hnb1 : 1 ≤ nb := by omega
    have hnb2 : nb ≤ 2048 := by omega
    gi_wp2_with (first
      | (refine ⟨trivial, ?_⟩; gi_at_call 20; refine (callsIn_wide.2 (new_dk nb hnb1 hnb2 _)).mono ?_; rintro e w1 ⟨rfl, hi1, hb1⟩; have HI1 := Aside0.mk hi1; have HB1 := Aside0.mk hb1; clear hi1 hb1)
      | (refine ⟨trivial, ?_⟩; gi_at_call 21; refine (callsIn_wide.2 (x_new nb hnb1 hnb2 _)).mono ?_; rintro e w2 ⟨rfl, hi2, hb2⟩; have HBo := Aside0.mk (both_new HI1.out HB1.out hi2 hb2); have HB2 := Aside0.mk (below_step HB1.out hb2); clear hi2 hb2 HI1))
    generalize List.replicate nb (List.replicate 128 (0 : Int)) = BL at *
    generalize List.replicate nb (0 : Int) = FL at *
    obtain ⟨X, hX⟩ : ∃ X, w1.heap.size + 1 = X := ⟨_, rfl⟩
    rw [hX] at HBo ⊢
    obtain ⟨Sd0, hSd0⟩ : ∃ S : Nat → Prop, (fun k => w.heap.size ≤ k ∧ k < w1.heap.size) = S := ⟨_, rfl⟩
    obtain ⟨Sx0, hSx0⟩ : ∃ S : Nat → Prop, (fun k => w1.heap.size ≤ k ∧ k < w2.heap.size) = S := ⟨_, rfl⟩
    rw [hSd0, hSx0] at HBo
    clear hX HB1 hSd0 hSx0
    gi_loopw [33] (fun v33 wr => ∃ (i : Nat) (Sd Sx : Nat → Prop) (bl : List (List Int)) (q : List S32) (fl : List Int) (last : Int), v33 = .int .i64 (i : Int) ∧ i ≤ l.length ∧ Aside0 (Both wr w.heap.size (w.heap.size + 1) w.heap.size Sd X Sx bl q fl last i) ∧ Aside0 (last ≤ (i : Int)) ∧ Aside0 (Below w.heap.size w wr)) (fun v33 _ => l.length - (intOf v33).toNat)
    case atStart => exact ⟨0, _, _, _, _, _, _, rfl, Nat.zero_le _, HBo, ⟨Int.le_refl _⟩, HB2⟩
    case round =>
      obtain ⟨i, Sd, Sx, bl, q, fl, last, rfl, hi, HBo, HLA, HBW⟩ := hrel
      by_cases hlt : i < l.length
      · have t1 : decide ((i : Int) < (l.length : Int)) = true := decide_eq_true (by omega)
        have ew : wrap64 ((i : Int) + 1) = ((i + 1 : Nat) : Int) := by rw [IntWalk.wrap64_in _ (by omega)]; omega
        obtain ⟨ad, A3, c3, A4, c4, rfl, k0, k1, k2, k3, k4, l3, g3, l4, g4⟩ := at_Do HC.out i hlt
        have hmem : l.getD i zDo ∈ l := by rw [List.getD_eq_getElem?_getD, List.getElem?_eq_getElem hlt]; exact List.getElem_mem _
        have hf1 := HF.out _ hmem
        obtain ⟨⟨op, B, N, bs, ids⟩, hel⟩ : ∃ e, l.getD i zDo = e := ⟨_, rfl⟩
        rw [hel] at k0 k1 k2 k3 k4 l3 g3 l4 g4 hf1
        dsimp only at k0 k1 k2 k3 k4 l3 g3 l4 g4 hf1
        have G3 := Aside0.mk g3
        have G4 := Aside0.mk g4
        have HF1 := Aside0.mk hf1
        have j0 := (HBW.out.cell (World.block_lt_of_cell? w _ k0)).trans k0
        have j1 := (HBW.out.cell (World.block_lt_of_cell? w _ k1)).trans k1
        have j2 := (HBW.out.cell (World.block_lt_of_cell? w _ k2)).trans k2
        have j3 := (HBW.out.cell (World.block_lt_of_cell? w _ k3)).trans k3
        have j4 := (HBW.out.cell (World.block_lt_of_cell? w _ k4)).trans k4
        clear g3 g4 hel hmem hf1 k0 k1 k2 k3 k4
        have hbx := below_alloc (Below.refl wr.heap.size wr) (.cells #[.int .i64 op, .int .i64 B, .int .i64 N, .slice A3 bs.length c3, .slice A4 ids.length c4] 59)
        have hbwx := below_step HBW.out hbx
        have hbo := HBo.out.below hbx
        have hlowd := hbo.dm.low
        have hlowx := hbo.x.low
        have hsz := hbwx.size
        have hbk : ∀ W', Kept (fun k => Sd k ∨ Sx k) (wr.alloc (.cells #[.int .i64 op, .int .i64 B, .int .i64 N, .slice A3 bs.length c3, .slice A4 ids.length c4] 59)) W' → Below w.heap.size w W' := fun W' hk => hbwx.trans (kept_or hk (fun k hk => (hlowd k hk).1) (fun k hk => (hlowx k hk).1) hsz)
        have HBK := Aside0.mk hbk
        have hdo := does_ok hbo op B N A3 c3 bs A4 c4 ids HF1.out.2.1 HF1.out.2.2.1 (fun W' hk => Kd.C_below G3.out (hbk W' hk)) l3 (by have := HF1.out.2.2.2.1.2; omega) (fun W' hk => Kd.C_below G4.out (hbk W' hk)) l4 HF1.out.2.2.2.2.2 (by have := HLA.out; clear ew; omega) (by simp only [maxLen]; clear ew; omega)
        clear hbx hbwx hbo hlowd hlowx hbk hsz
        gi_wp2_with (first
          | (refine ⟨trivial, ?_⟩; gi_at_call 22; refine (callsIn_wide.2 hdo).mono ?_; rintro e w4 ⟨rfl, Sd1, Sx1, bl1, q1, fl1, last1, hb4, hla, hk4⟩; have HBo4 := Aside0.mk hb4; have HLA4 := Aside0.mk hla; have HBW4 := Aside0.mk (HBK.out w4 hk4); clear hb4 hla hk4 hdo)
          | (refine ⟨trivial, ?_⟩; gi_at_call 23; refine (callsIn_wide.2 (same_ok HBo4.out)).mono ?_; rintro e w5 ⟨rfl, hb⟩; have HBo5 := Aside0.mk (HBo4.out.below hb); have HBW5 := Aside0.mk (below_step HBW4.out hb); clear hb))
        exact ⟨⟨i + 1, Sd1, Sx1, bl1, q1, fl1, last1, by simp, hlt, HBo5, ⟨by have := HLA.out; have := HLA4.out; omega⟩, HBW5⟩, by simp [intOf]; omega⟩
      · have t1 : decide ((i : Int) < (l.length : Int)) = false := decide_eq_false (by omega)
        gi_wp2_with (first
          | (refine ⟨trivial, ?_⟩; gi_at_call 23; refine (callsIn_wide.2 (same_ok HBo.out)).mono ?_; rintro e w5 ⟨rfl, hb⟩; have HBW5 := Aside0.mk (below_step HBW.out hb); clear hb))
        go_ret
        exact ⟨rfl, HBW5.out⟩
end Go.Proofs.Ytbopccjcehnfnaa.Dk
