/- Written by a program of this session. ForeBytes: an image of bytes, and the bytes of one: the law's walk. -/
import Derived.Test.YtalmfdlnmhhbbaaFo
import Derived.Test.YtalmfdlnmhhbbaaOpB
namespace Go.Proofs.Ytalmfdlnmhhbbaa.Sp
open Go Go.RowKit Go.Shelf Go.Proofs Go.Proofs.Ytalmfdlnmhhbbaa.Ap Go.Proofs.Ytalmfdlnmhhbbaa.XFb Go.Proofs.YtalmfdlnmhhbbaaW.PrintWords Go.Proofs.YtalmfdlnmhhbbaaW.PrintLast Go.Proofs.YtalmfdlnmhhbbaaW.PrintMore
set_option linter.unusedVariables false
set_option linter.unusedSimpArgs false
def blkR (l : List Int) : List (List Int) × Int := if l.length = 0 ∨ l.length % 128 ≠ 0 ∨ 2048 < l.length / 128 then ([], 220) else (chL l (l.length / 128), 0)
theorem blocks_ok (w : World) (A : Option Addr) (c : Nat) (l : List Int) (hC : Kd.C (Kd.int .u8) w A l.length l) (hc : l.length ≤ c) (hn : l.length ≤ 140737488351232) :
    Calls Try.prog 5 #[.slice A l.length c] w fun e w' => ∃ v, e = .returned (.tuple #[v, .int .i64 (blkR l).2]) ∧ Kd.R (Kd.slice 5 (Kd.int .u8)) 22 w' w.heap.size (fun _ => True) v (blkR l).1 ∧ Below w.heap.size w w' := by
  by_cases h : l.length = 0 ∨ l.length % 128 ≠ 0 ∨ 2048 < l.length / 128
  · have e : blkR l = ([], 220) := by unfold blkR; rw [if_pos h]
    rw [e]
    exact (blocks_bad w A c l.length hn h).mono (fun e w' ⟨h1, h2⟩ => ⟨_, h1, Kd.R_nil _ _ _ _ _, h2 ▸ Below.refl _ _⟩)
  · have e : blkR l = (chL l (l.length / 128), 0) := by unfold blkR; rw [if_neg h]
    rw [e]
    exact blocks_good w A c (l.length / 128) l (by omega) (by omega) (by omega) hC hc
theorem rows_of_R {W : World} {base : Nat} {ok : Nat → Prop} {g n cap : Nat} {xs : List (List Int)} (h : Kd.R (Kd.slice 5 (Kd.int .u8)) 22 W base ok (.slice (some ⟨g, 0, none⟩) n cap) xs) (hx : ∀ x ∈ xs, x.length < 9223372036854775807) :
    ∃ vs : List Value, vs.length = n ∧ (∀ j, j < n → W.cell? ⟨g, j, none⟩ = some (vs.getD j undef)) ∧ ∀ v ∈ vs, SB W v ∧ v.ownBlock ≠ some g ∧ ∀ k, v.ownBlock = some k → base ≤ k ∧ k < W.heap.size := by
  have hn := (Kd.R_reads' h).1
  obtain ⟨vs, hl, hp⟩ := Open.list_of (p := fun i v => W.cell? ⟨g, i, none⟩ = some v ∧ SB W v ∧ v.ownBlock ≠ some g ∧ ∀ k, v.ownBlock = some k → base ≤ k ∧ k < W.heap.size) n (fun i hi => by
    obtain ⟨c, _, ⟨v, hcv, hr⟩, hcell, _⟩ := Kd.R_elem h ([] : List Int) (i : Int) (by omega) (by omega)
    have hm : xs.getD i [] ∈ xs := by rw [List.getD_eq_getElem?_getD, List.getElem?_eq_getElem (by omega)]; exact List.getElem_mem _
    rw [Int.toNat_natCast] at hr hcell
    have hc0 := hcell 0 v (by rw [hcv]; rfl)
    refine ⟨v, ?_, SB.of_R hr (hx _ hm), fun e => (hr.1 g e).2 rfl, fun k hk => ⟨Kd.R_base hr k hk, Kd.R_lt hr k hk⟩⟩
    have e : i * (Kd.slice 5 (Kd.int .u8)).sz + 0 = i := Nat.mul_one i
    rwa [e] at hc0)
  refine ⟨vs, hl, fun j hj => ?_, fun v hv => ?_⟩
  · have := (hp j vs[j] (List.getElem?_eq_getElem (by omega))).1
    rw [List.getD_eq_getElem?_getD, List.getElem?_eq_getElem (by omega)]; exact this
  · obtain ⟨i, hi⟩ := List.getElem?_of_mem hv
    exact (hp i v hi).2
theorem spoil_R {W0 W : World} {base : Nat} {ok : Nat → Prop} {v : Value} {xs : List (List Int)} (h : Kd.R (Kd.slice 5 (Kd.int .u8)) 22 W0 base ok v xs) (hx : ∀ x ∈ xs, x.length < 9223372036854775807) (hl : xs.length < 9223372036854775807) (hb : Below W0.heap.size W0 W) :
    Calls Try.prog 11 #[v] W fun e W' => e = .returned (.tuple #[]) ∧ Spoils W W' (fun k => base ≤ k ∧ k < W0.heap.size) := by
  by_cases h0 : 0 < xs.length
  · obtain ⟨g, cap, rfl, hg1, hg2, cells, hgc⟩ := Kd.R_form h h0
    obtain ⟨vs, hvl, hvc, hvs⟩ := rows_of_R h hx
    refine (spoil_image W (some ⟨g, 0, none⟩) xs.length cap vs hvl hl (fun _ => ⟨_, rfl, fun j hj => ?_, fun v hv => (hvs v hv).2.1⟩) (fun v hv => (hvs v hv).1.below hb)).mono (fun e W' ⟨h1, h2⟩ => ⟨h1, h2.mono (fun k ⟨v, hv, hk⟩ => (hvs v hv).2.2 k hk)⟩)
    rw [← hvc j hj]
    have e : (⟨g, 0, none⟩ : Addr).add j = ⟨g, j, none⟩ := by unfold Addr.add; by_cases hj0 : j = 0 <;> simp [hj0]
    rw [e]
    exact World.cell?_of_block (hb.block g hg2)
  · obtain rfl : xs = [] := List.eq_nil_of_length_eq_zero (by omega)
    obtain ⟨A, c, rfl⟩ := Kd.R_slice h
    refine (spoil_image W A 0 c [] rfl (by decide) (fun h => absurd h (by omega)) (fun v hv => by cases hv)).mono (fun e W' ⟨h1, h2⟩ => ⟨h1, h2.mono (fun k ⟨v, hv, _⟩ => by cases hv)⟩)
theorem chL_flat (l : List Int) : ∀ m, (chL l m).flatten = l.take (m * 128)
  | 0 => by simp [chL]
  | m + 1 => by
    rw [← chL_snoc, List.flatten_append, chL_flat l m]
    simp only [List.flatten_cons, List.flatten_nil, List.append_nil]
    rw [show (m + 1) * 128 = m * 128 + 128 by omega, List.take_add]
theorem blkR_flat (l : List Int) (h : (blkR l).2 = 0) : (blkR l).1.flatten = l := by
  unfold blkR at h ⊢
  split
  · next h1 => rw [if_pos h1] at h; exact absurd h (by decide)
  · next h1 => rw [chL_flat, List.take_of_length_le (by omega)]
theorem blkR_len (l : List Int) : (blkR l).1.length ≤ 2048 := by
  unfold blkR
  split
  · exact Nat.zero_le _
  · rw [chL_len]; omega
theorem blkR_each (l : List Int) : ∀ x ∈ (blkR l).1, x.length ≤ 128 := by
  unfold blkR
  split
  · intro x hx; cases hx
  · intro x hx
    unfold chL at hx
    obtain ⟨j, _, rfl⟩ := List.mem_map.1 hx
    rw [List.length_take]; omega
theorem refBlocks_l0 (l : List Int) (m : Nat) (hl : l.length = 128 * m) (hm : m ≤ 2048) (d : Nat) : ∀ (i K : Nat), i + d = m → d < K → bollardref22_Blocks.l0 K l (chL l i) ((i * 128 : Nat) : Int) = some (chL l m, 0) := by
  induction d with
  | zero =>
    intro i K hi hK
    cases K with
    | zero => omega
    | succ K =>
      unfold bollardref22_Blocks.l0
      obtain rfl : i = m := by omega
      rw [if_neg (by omega)]
  | succ d ih =>
    intro i K hi hK
    cases K with
    | zero => omega
    | succ K =>
      have w3 : wrap64 (((i * 128 : Nat) : Int) + 128) = (((i + 1) * 128 : Nat) : Int) := by unfold wrap64; omega
      unfold bollardref22_Blocks.l0
      rw [if_pos (by omega), Option.bind_some, w3, if_pos (by omega), if_pos (by omega), if_pos (by omega), Int.toNat_natCast, Int.toNat_natCast, List.drop_take, List.nil_append, show (i + 1) * 128 - i * 128 = 128 by omega,
        if_pos (by rw [List.length_take]; simp; omega), if_pos (by rw [chL_len]; omega), chL_snoc]
      exact ih (i + 1) K (by omega) (by omega)
theorem refBlocks_f (l : List Int) (hn : l.length ≤ 140737488351232) (k : Nat) (hk : 3000 ≤ k) : bollardref22_Blocks.f k l = some (blkR l) := by
  unfold bollardref22_Blocks.f blkR
  cases k with
  | zero => omega
  | succ k =>
    by_cases h0 : l.length = 0
    · rw [if_pos (by omega), if_pos (.inl h0)]
      simp only [bollardref22_Blocks.j0]
      rw [if_pos trivial]
    · rw [if_neg (by omega)]
      by_cases h1 : l.length % 128 = 0
      · have hw : wrap64 ((l.length : Int) / 128) = (l.length : Int) / 128 := by unfold wrap64; omega
        rw [if_pos (by omega), hw]
        simp only [bollardref22_Blocks.j0]
        by_cases h2 : 2048 < l.length / 128
        · rw [if_pos (decide_eq_true (by omega)), if_pos (.inr (.inr h2))]
        · rw [if_neg (by simp; omega), if_neg (by omega)]
          exact refBlocks_l0 l (l.length / 128) (by omega) (by omega) (l.length / 128) 0 k (by omega) (by omega)
      · rw [if_neg (by omega), if_pos (.inr (.inl h1))]
        simp only [bollardref22_Blocks.j0]
        rw [if_pos trivial]
theorem refBytes_l0 (xs : List (List Int)) (hl : xs.length ≤ 1000000000000) (hf : xs.flatten.length ≤ 1000000000000) (d : Nat) : ∀ (i K : Nat), i + d = xs.length → d < K → bollardref22_Bytes.l0 K (xs.take i).flatten xs (xs.length : Int) (i : Int) = some xs.flatten := by
  induction d with
  | zero =>
    intro i K hi hK
    cases K with
    | zero => omega
    | succ K =>
      unfold bollardref22_Bytes.l0
      rw [if_neg (by omega), List.take_of_length_le (by omega)]
  | succ d ih =>
    intro i K hi hK
    cases K with
    | zero => omega
    | succ K =>
      have w3 : wrap64 ((i : Int) + 1) = ((i + 1 : Nat) : Int) := by unfold wrap64; omega
      have h1 := flat_le xs (i + 1)
      have h2 := flat_take xs i (by omega)
      have e : rd_L1 xs (i : Int) = xs.getD i [] := rfl
      unfold bollardref22_Bytes.l0
      rw [w3, e, if_pos (by omega), if_pos (by omega), if_pos (by omega), ← h2, if_pos (by rw [← List.length_append, ← h2]; omega)]
      exact ih (i + 1) K (by omega) (by omega)
theorem refBytes_f (xs : List (List Int)) (hl : xs.length ≤ 1000000000000) (hf : xs.flatten.length ≤ 1000000000000) (k : Nat) (hk : xs.length < k) : bollardref22_Bytes.f k xs = some xs.flatten := by
  unfold bollardref22_Bytes.f
  exact refBytes_l0 xs hl hf xs.length 0 k (by omega) hk
set_option maxRecDepth 100000 in
set_option maxHeartbeats 8000000 in
theorem ForeBytes_walk (A0 : Option Addr) (c0 : Nat) (l : List Int) (A1i : Option Addr) (ci : Nat) (xs : List (List Int)) (w : World) (hr0 : Kd.C (Kd.int .u8) w A0 l.length l) (hc0 : l.length ≤ c0) (hl0 : l.length ≤ 1000000000000)
    (hr1 : Kd.C (Kd.slice 5 (Kd.int .u8)) w A1i xs.length xs) (hci : xs.length ≤ ci) (hlx : xs.length ≤ 1000000000000) (hfx : xs.flatten.length ≤ 1000000000000) :
    Calls Try.prog 3 #[.slice A0 l.length c0, .slice A1i xs.length ci] w fun e w' => e = .returned (.bool true) ∧ Below w.heap.size w w' := by
  have HR0 := Aside0.mk hr0
  have HI := Aside0.mk hr1
  have HCL := Aside0.mk (show bytes_Clone.f l = some l by unfold bytes_Clone.f; rw [if_pos (by omega)])
  have HRB := Aside0.mk (refBlocks_f l (by omega) 3000 (Nat.le_refl _))
  obtain ⟨F, hF⟩ : ∃ F, xs.flatten = F := ⟨_, rfl⟩
  have HF := Aside0.mk hF
  have HRY := Aside0.mk ((refBytes_f xs hlx hfx (xs.length + 1) (Nat.lt_succ_self _)).trans (by rw [hF]))
  clear hF
  have HW0 := Aside0.mk (Below.refl w.heap.size w)
  clear hr0 hr1
  have t1 : ((blkR l).2 != (blkR l).2) = false := by simp
  refine (callsIn_wide (n := 1)).1 ?_
  refine callsIn_of_wp Try.func3 rfl trivial ?_ rfl
  simp only [Try.ntmps3, List.size_toArray, List.length_cons, List.length_nil, Nat.reduceAdd, Nat.reduceSub, Array.replicate_succ, Array.replicate_zero, List.push_toArray, List.append_toArray, List.nil_append, List.cons_append]
  by_cases he : (blkR l).2 = 0
  · have t2 : ((blkR l).2 != 0) = false := by simp [he]
    gi_wp2_with (first
      | (refine ⟨trivial, ?_⟩; gi_at_call 4; refine (callsIn_wide.2 (bytes_Clone.calls A0 c0 l l _ HR0.out hc0 HCL.out)).mono ?_; rintro e w1 ⟨v1, rfl, hr, hb⟩; obtain ⟨A1, c1, rfl⟩ := Kd.R_slice hr; have HG := Aside0.mk hr; have HW1 := Aside0.mk (below_step HW0.out hb); have HM1_1 := Aside0.mk (Below.refl w1.heap.size w1); clear hr hb HCL)
      | (refine ⟨trivial, ?_⟩; gi_at_call 5; refine (callsIn_wide.2 (blocks_ok _ A1 c1 l (Kd.R_reads' HG.out).2.2 (Kd.R_reads' HG.out).2.1 (by omega))).mono ?_; rintro e w2 ⟨v2, rfl, hr, hb⟩; obtain ⟨A2, c2, rfl⟩ := Kd.R_slice hr; have HX := Aside0.mk hr; have HW2 := Aside0.mk (below_step HW1.out hb); have HM1_2 := Aside0.mk (below_step HM1_1.out hb); have HM2_2 := Aside0.mk (Below.refl w2.heap.size w2); clear hr hb)
      | (refine ⟨trivial, ?_⟩; gi_at_call 6; refine (callsIn_wide.2 (bollardref22_Blocks.calls 3000 A0 c0 l (blkR l).1 (blkR l).2 _ (Kd.C_below HR0.out HW2.out) hc0 HRB.out)).mono ?_; rintro e w3 ⟨v3, rfl, hr, hb⟩; obtain ⟨A3, c3, rfl⟩ := Kd.R_slice (Kd.S_R hr); have HY := Aside0.mk (Kd.S_R hr); have HW3 := Aside0.mk (below_step HW2.out hb); have HM1_3 := Aside0.mk (below_step HM1_2.out hb); have HM2_3 := Aside0.mk (below_step HM2_2.out hb); have HM3_3 := Aside0.mk (Below.refl w3.heap.size w3); clear hr hb HRB)
      | (refine ⟨trivial, ?_⟩; gi_at_call 7; refine (callsIn_wide.2 (same_image _ A2 A3 c2 c3 (blkR l).1 (Kd.C_below (Kd.R_reads' HX.out).2.2 HM2_3.out) (Kd.R_reads' HY.out).2.2 (by have := blkR_len l; omega))).mono ?_; rintro e w4 ⟨rfl, hb⟩; have HW4 := Aside0.mk (below_step HW3.out hb); have HM1_4 := Aside0.mk (below_step HM1_3.out hb); have HM2_4 := Aside0.mk (below_step HM2_3.out hb); have HM3_4 := Aside0.mk (below_step HM3_3.out hb); clear hb)
      | (refine ⟨trivial, ?_⟩; gi_at_call 9; refine (callsIn_wide.2 (bytes_ok _ A1i ci xs (Kd.C_below HI.out HW4.out) hlx hfx)).mono ?_; rintro e w5 ⟨v5, rfl, hr, hb⟩; rw [HF.out] at hr; obtain ⟨A5, c5, rfl⟩ := Kd.R_slice hr; have HP := Aside0.mk hr; have HW5 := Aside0.mk (below_step HW4.out hb); have HM1_5 := Aside0.mk (below_step HM1_4.out hb); have HM2_5 := Aside0.mk (below_step HM2_4.out hb); have HM3_5 := Aside0.mk (below_step HM3_4.out hb); clear hr hb)
      | (refine ⟨trivial, ?_⟩; gi_at_call 10; refine (callsIn_wide.2 (bollardref22_Bytes.calls (xs.length + 1) A1i ci xs F _ (Kd.C_below HI.out HW5.out) hci HRY.out)).mono ?_; rintro e w6 ⟨v6, rfl, hr, hb⟩; obtain ⟨A6, c6, rfl⟩ := Kd.R_slice hr; have HQ := Aside0.mk hr; have HP6 := Aside0.mk (Kd.R_below HP.out hb); have HW6 := Aside0.mk (below_step HW5.out hb); have HM1_6 := Aside0.mk (below_step HM1_5.out hb); have HM2_6 := Aside0.mk (below_step HM2_5.out hb); have HM3_6 := Aside0.mk (below_step HM3_5.out hb); clear hr hb HP HRY)
      | (refine ⟨trivial, ?_⟩; gi_at_call 8; refine (callsIn_wide.2 (bytes_Equal.calls A5 c5 F A6 c6 F true _ (Kd.R_reads' HP6.out).2.2 (Kd.R_reads' HP6.out).2.1 (Kd.R_reads' HQ.out).2.2 (Kd.R_reads' HQ.out).2.1 (by unfold bytes_Equal.f; simp))).mono ?_; rintro e w7 ⟨rfl, hd⟩; have hb := below_drawn (Below.refl w6.heap.size w6) hd; have HW7 := Aside0.mk (below_step HW6.out hb); have HM1_7 := Aside0.mk (below_step HM1_6.out hb); have HM2_7 := Aside0.mk (below_step HM2_6.out hb); have HM3_7 := Aside0.mk (below_step HM3_6.out hb); clear hb hd HP6 HQ HI)
      | (refine ⟨trivial, ?_⟩; gi_at_call 11; refine (callsIn_wide.2 (spoil_R HX.out (fun x hx => by have := blkR_each l x hx; omega) (by have := blkR_len l; omega) HM2_7.out)).mono ?_; rintro e w8 ⟨rfl, hs⟩; have HS := Aside0.mk hs; have HW8 := Aside0.mk (HW7.out.trans (hs.below (n := w.heap.size) (fun k hk => Nat.le_trans HW1.out.size hk.1))); have HM1_8 := Aside0.mk (HM1_7.out.trans (hs.below (n := w1.heap.size) (fun k hk => hk.1))); have HY8 := Aside0.mk (Kd.R_mono (Kd.R_step (Kd.R_bound (Kd.R_below HY.out HM3_7.out)) (fun k hk hlt => hs.same k (fun e => by have := hk.2.1; omega))) (fun _ _ => trivial)); clear hs HX HY)
      | (refine ⟨trivial, ?_⟩; gi_at_call 8; refine (callsIn_wide.2 (bytes_Equal.calls A1 c1 l A0 c0 l true _ (Kd.R_reads' (Kd.R_below HG.out HM1_8.out)).2.2 (Kd.R_reads' HG.out).2.1 (Kd.C_below HR0.out HW8.out) hc0 (by unfold bytes_Equal.f; simp))).mono ?_; rintro e w9 ⟨rfl, hd⟩; have hb := below_drawn (Below.refl w8.heap.size w8) hd; have HW9 := Aside0.mk (below_step HW8.out hb); have HY9 := Aside0.mk (Kd.R_below HY8.out hb); clear hb hd HG HY8)
      | (refine ⟨trivial, ?_⟩; gi_at_call 9; refine (callsIn_wide.2 (bytes_ok _ A3 c3 (blkR l).1 (Kd.R_reads' HY9.out).2.2 (by have := blkR_len l; omega) (by rw [blkR_flat l he]; omega))).mono ?_; rintro e w10 ⟨v10, rfl, hr, hb⟩; rw [blkR_flat l he] at hr; obtain ⟨A10, c10, rfl⟩ := Kd.R_slice hr; have HZ := Aside0.mk hr; have HW10 := Aside0.mk (below_step HW9.out hb); clear hr hb HY9)
      | (refine ⟨trivial, ?_⟩; gi_at_call 8; refine (callsIn_wide.2 (bytes_Equal.calls A10 c10 l A0 c0 l true _ (Kd.R_reads' HZ.out).2.2 (Kd.R_reads' HZ.out).2.1 (Kd.C_below HR0.out HW10.out) hc0 (by unfold bytes_Equal.f; simp))).mono ?_; rintro e w11 ⟨rfl, hd⟩; have HW11 := Aside0.mk (below_step HW10.out (below_drawn (Below.refl w10.heap.size w10) hd)); clear hd HZ))
    go_ret
    exact ⟨rfl, HW11.out⟩
  · have t2 : ((blkR l).2 != 0) = true := by simp [he]
    gi_wp2_with (first
      | (refine ⟨trivial, ?_⟩; gi_at_call 4; refine (callsIn_wide.2 (bytes_Clone.calls A0 c0 l l _ HR0.out hc0 HCL.out)).mono ?_; rintro e w1 ⟨v1, rfl, hr, hb⟩; obtain ⟨A1, c1, rfl⟩ := Kd.R_slice hr; have HG := Aside0.mk hr; have HW1 := Aside0.mk (below_step HW0.out hb); have HM1_1 := Aside0.mk (Below.refl w1.heap.size w1); clear hr hb HCL)
      | (refine ⟨trivial, ?_⟩; gi_at_call 5; refine (callsIn_wide.2 (blocks_ok _ A1 c1 l (Kd.R_reads' HG.out).2.2 (Kd.R_reads' HG.out).2.1 (by omega))).mono ?_; rintro e w2 ⟨v2, rfl, hr, hb⟩; obtain ⟨A2, c2, rfl⟩ := Kd.R_slice hr; have HX := Aside0.mk hr; have HW2 := Aside0.mk (below_step HW1.out hb); have HM1_2 := Aside0.mk (below_step HM1_1.out hb); have HM2_2 := Aside0.mk (Below.refl w2.heap.size w2); clear hr hb)
      | (refine ⟨trivial, ?_⟩; gi_at_call 6; refine (callsIn_wide.2 (bollardref22_Blocks.calls 3000 A0 c0 l (blkR l).1 (blkR l).2 _ (Kd.C_below HR0.out HW2.out) hc0 HRB.out)).mono ?_; rintro e w3 ⟨v3, rfl, hr, hb⟩; obtain ⟨A3, c3, rfl⟩ := Kd.R_slice (Kd.S_R hr); have HY := Aside0.mk (Kd.S_R hr); have HW3 := Aside0.mk (below_step HW2.out hb); have HM1_3 := Aside0.mk (below_step HM1_2.out hb); have HM2_3 := Aside0.mk (below_step HM2_2.out hb); have HM3_3 := Aside0.mk (Below.refl w3.heap.size w3); clear hr hb HRB)
      | (refine ⟨trivial, ?_⟩; gi_at_call 7; refine (callsIn_wide.2 (same_image _ A2 A3 c2 c3 (blkR l).1 (Kd.C_below (Kd.R_reads' HX.out).2.2 HM2_3.out) (Kd.R_reads' HY.out).2.2 (by have := blkR_len l; omega))).mono ?_; rintro e w4 ⟨rfl, hb⟩; have HW4 := Aside0.mk (below_step HW3.out hb); have HM1_4 := Aside0.mk (below_step HM1_3.out hb); have HM2_4 := Aside0.mk (below_step HM2_3.out hb); have HM3_4 := Aside0.mk (below_step HM3_3.out hb); clear hb)
      | (refine ⟨trivial, ?_⟩; gi_at_call 9; refine (callsIn_wide.2 (bytes_ok _ A1i ci xs (Kd.C_below HI.out HW4.out) hlx hfx)).mono ?_; rintro e w5 ⟨v5, rfl, hr, hb⟩; rw [HF.out] at hr; obtain ⟨A5, c5, rfl⟩ := Kd.R_slice hr; have HP := Aside0.mk hr; have HW5 := Aside0.mk (below_step HW4.out hb); have HM1_5 := Aside0.mk (below_step HM1_4.out hb); have HM2_5 := Aside0.mk (below_step HM2_4.out hb); have HM3_5 := Aside0.mk (below_step HM3_4.out hb); clear hr hb)
      | (refine ⟨trivial, ?_⟩; gi_at_call 10; refine (callsIn_wide.2 (bollardref22_Bytes.calls (xs.length + 1) A1i ci xs F _ (Kd.C_below HI.out HW5.out) hci HRY.out)).mono ?_; rintro e w6 ⟨v6, rfl, hr, hb⟩; obtain ⟨A6, c6, rfl⟩ := Kd.R_slice hr; have HQ := Aside0.mk hr; have HP6 := Aside0.mk (Kd.R_below HP.out hb); have HW6 := Aside0.mk (below_step HW5.out hb); have HM1_6 := Aside0.mk (below_step HM1_5.out hb); have HM2_6 := Aside0.mk (below_step HM2_5.out hb); have HM3_6 := Aside0.mk (below_step HM3_5.out hb); clear hr hb HP HRY)
      | (refine ⟨trivial, ?_⟩; gi_at_call 8; refine (callsIn_wide.2 (bytes_Equal.calls A5 c5 F A6 c6 F true _ (Kd.R_reads' HP6.out).2.2 (Kd.R_reads' HP6.out).2.1 (Kd.R_reads' HQ.out).2.2 (Kd.R_reads' HQ.out).2.1 (by unfold bytes_Equal.f; simp))).mono ?_; rintro e w7 ⟨rfl, hd⟩; have hb := below_drawn (Below.refl w6.heap.size w6) hd; have HW7 := Aside0.mk (below_step HW6.out hb); have HM1_7 := Aside0.mk (below_step HM1_6.out hb); have HM2_7 := Aside0.mk (below_step HM2_6.out hb); have HM3_7 := Aside0.mk (below_step HM3_6.out hb); clear hb hd HP6 HQ HI)
      | (refine ⟨trivial, ?_⟩; gi_at_call 11; refine (callsIn_wide.2 (spoil_R HX.out (fun x hx => by have := blkR_each l x hx; omega) (by have := blkR_len l; omega) HM2_7.out)).mono ?_; rintro e w8 ⟨rfl, hs⟩; have HS := Aside0.mk hs; have HW8 := Aside0.mk (HW7.out.trans (hs.below (n := w.heap.size) (fun k hk => Nat.le_trans HW1.out.size hk.1))); have HM1_8 := Aside0.mk (HM1_7.out.trans (hs.below (n := w1.heap.size) (fun k hk => hk.1))); have HY8 := Aside0.mk (Kd.R_mono (Kd.R_step (Kd.R_bound (Kd.R_below HY.out HM3_7.out)) (fun k hk hlt => hs.same k (fun e => by have := hk.2.1; omega))) (fun _ _ => trivial)); clear hs HX HY)
      | (refine ⟨trivial, ?_⟩; gi_at_call 8; refine (callsIn_wide.2 (bytes_Equal.calls A1 c1 l A0 c0 l true _ (Kd.R_reads' (Kd.R_below HG.out HM1_8.out)).2.2 (Kd.R_reads' HG.out).2.1 (Kd.C_below HR0.out HW8.out) hc0 (by unfold bytes_Equal.f; simp))).mono ?_; rintro e w9 ⟨rfl, hd⟩; have hb := below_drawn (Below.refl w8.heap.size w8) hd; have HW9 := Aside0.mk (below_step HW8.out hb); have HY9 := Aside0.mk (Kd.R_below HY8.out hb); clear hb hd HG HY8)
      | (refine ⟨trivial, ?_⟩))
    go_ret
    exact ⟨rfl, HW9.out⟩
theorem ForeBytes_row (A0 : Option Addr) (c0 : Nat) (l : List Int) (A1i : Option Addr) (ci : Nat) (xs : List (List Int)) (w : World) (hr0 : Kd.C (Kd.int .u8) w A0 l.length l) (hc0 : l.length ≤ c0) (_ : ∀ x ∈ l, (Lit.int .u8 x).wf = true) (hb0 : (l.map fun _ => 1).sum + 1 ≤ 1048576)
    (hr1 : Kd.C (Kd.slice 5 (Kd.int .u8)) w A1i xs.length xs) (hci : xs.length ≤ ci) (_ : ∀ x ∈ xs, ∀ y ∈ x, (Lit.int .u8 y).wf = true) (hb1 : (xs.map fun l => (l.map fun _ => 1).sum + 1).sum + 1 ≤ 1048576) :
    Calls Try.prog 3 #[.slice A0 l.length c0, .slice A1i xs.length ci] w fun e w' => e = .returned (.bool true) ∧ Below w.heap.size w w' := by
  rw [Open.ones] at hb0
  rw [Open.ones2] at hb1
  exact ForeBytes_walk A0 c0 l A1i ci xs w hr0 hc0 (by omega) hr1 hci (by omega) (by omega)
end Go.Proofs.Ytalmfdlnmhhbbaa.Sp
