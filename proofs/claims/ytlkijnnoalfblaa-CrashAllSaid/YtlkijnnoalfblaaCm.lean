/- Written by a program of this session. crash.Images of a disk: one image for each set of its queue. -/
import Derived.Test.YtlkijnnoalfblaaCe
import Derived.Test.YtlkijnnoalfblaaCf
namespace Go.Proofs.Ytlkijnnoalfblaa.Dk
open Go Go.RowKit Go.Shelf Go.Proofs Go.Maps Go.Proofs.Ytlkijnnoalfblaa.Sp Go.Proofs.Ytlkijnnoalfblaa.XFb Go.Proofs.YtlkijnnoalfblaaW.PrintWords Go.Proofs.YtlkijnnoalfblaaW.PrintLast Go.Proofs.YtlkijnnoalfblaaW.PrintMore
set_option linter.unusedVariables false
set_option linter.unusedSimpArgs false
theorem cinfoM : (Try.prog.info? 22).map (fun i => (i.zero, i.size, i.bytes)) = some (some (.slice none 0 0), 1, 24) := by kernel_rfl
theorem keepL_sublist (p : Nat → Bool) : ∀ (l : List Int) (i : Nat), (keepL p l i).Sublist l
  | [], _ => List.Sublist.refl _
  | y :: r, i => by
    unfold keepL
    split
    · exact (keepL_sublist p r (i + 1)).cons_cons y
    · exact (keepL_sublist p r (i + 1)).cons y
/-- The images of the first k sets. -/
def imgsL (F : List Int → List (List Int)) (I : List Int) (k : Nat) : List (List (List Int)) := (List.range k).map (fun (j : Nat) => F (keepL (bitP (j : Int)) I 0))
theorem imgsL_succ (F : List Int → List (List Int)) (I : List Int) (k : Nat) : imgsL F I (k + 1) = imgsL F I k ++ [F (keepL (bitP (k : Int)) I 0)] := by
  unfold imgsL
  rw [List.range_succ, List.map_append]
  rfl
theorem imgsL_len (F : List Int → List (List Int)) (I : List Int) (k : Nat) : (imgsL F I k).length = k := by unfold imgsL; simp
theorem imgsL_get (F : List Int → List (List Int)) (I : List Int) (n k : Nat) (h : k < n) : (imgsL F I n).getD k [] = F (keepL (bitP (k : Int)) I 0) := by
  unfold imgsL
  simp [List.getD_eq_getElem?_getD, h]
theorem cnt_all {n : Nat} (h : n < 12) : cntS n 4096 = 2 ^ n := by
  have h2 : (2 : Nat) ^ n ≤ 2048 := Nat.le_trans (Nat.pow_le_pow_right (by decide) (show n ≤ 11 by omega)) (by decide)
  unfold cntS
  generalize (2 : Nat) ^ n = z at *
  omega
set_option maxRecDepth 100000 in
set_option maxHeartbeats 8000000 in
theorem images_ok {W : World} {base D m : Nat} {S : Nat → Prop} {bl : List (List Int)} {q : List S49} {fl : List Int} {last : Int} {n : Nat} (h : IsDm W base D m S bl q fl last n) (hn : n ≤ maxLen) (hnd : (q.map fun s => s.f0).Nodup) (most : Int) (hm : 0 ≤ most ∧ most ≤ 4096) (hq : q.length < 12) :
    Calls Try.prog 10 #[.pointer (some ⟨D, 0, none⟩), .int .i64 most] W fun e W' => ∃ v, e = .returned v ∧ Kd.R (Kd.slice 47 (Kd.slice 5 (Kd.int .u8))) 22 W' W.heap.size (fun _ => True) v (imgsL (fun s => s.foldl (crB q) bl) (q.map fun s => s.f0) (cntS q.length most)) ∧ Below W.heap.size W W' := by
  have HDM := Aside0.mk h
  obtain ⟨⟨mo, hdk⟩, _, _⟩ := h
  have hsets := sets_ok hdk most hm hq
  have hcm : cntS q.length most ≤ 4096 := by unfold cntS; omega
  have HAF := Aside0.mk (fun (W1 : World) (hb : Below W.heap.size W W1) (A : Option Addr) (c : Nat) (ids : List Int) (hC : ∀ W', Below W1.heap.size W1 W' → Kd.C (Kd.int .i64) W' A ids.length ids) (hs : ids.Sublist (q.map fun s => s.f0)) => after_ok (HDM.out.below hb) hn A c ids hC (by have := hs.length_le; rw [List.length_map] at this; omega) (fun i hi => hs.subset hi) (hnd.sublist hs))
  obtain ⟨I, hI⟩ : ∃ I, (q.map fun s => s.f0) = I := ⟨_, rfl⟩
  have hIl : I.length = q.length := by rw [← hI, List.length_map]
  rw [hI] at hsets HAF ⊢
  obtain ⟨cnt, hcnt⟩ : ∃ c, cntS q.length most = c := ⟨_, rfl⟩
  rw [hcnt] at hsets hcm ⊢
  obtain ⟨F, hF⟩ : ∃ F : List Int → List (List Int), (fun s : List Int => s.foldl (crB q) bl) = F := ⟨_, rfl⟩
  have HF := Aside0.mk (fun s : List Int => (congrFun hF s : s.foldl (crB q) bl = F s))
  rw [hF]
  have HSETS := Aside0.mk hsets
  have HLEN := Aside0.mk (setsL_len I cnt)
  clear hdk hI hcnt hF hsets hn hnd
  refine (callsIn_wide (n := 1)).1 ?_
  refine callsIn_of_wp Try.func10 rfl trivial ?_ rfl
  simp only [Try.ntmps10, List.size_toArray, List.length_cons, List.length_nil, Nat.reduceAdd, Nat.reduceSub, Array.replicate_succ, Array.replicate_zero, List.push_toArray, List.append_toArray, List.nil_append, List.cons_append]
  gi_wp2_with (first
    | (refine ⟨trivial, ?_⟩; gi_at_call 6; refine (callsIn_wide.2 (HSETS.out)).mono ?_; rintro e w2 ⟨v2, rfl, hr, hb⟩; obtain ⟨AS, cS, hv2⟩ := Kd.R_slice hr; rw [HLEN.out] at hv2; subst hv2; have HR2 := Aside0.mk hr; have HB2 := Aside0.mk hb; clear hr hb))
  have hcS : cnt ≤ cS := (Kd.R_reads' HR2.out).2.1
  have HCS := Aside0.mk (Kd.R_reads' HR2.out).2.2
  gi_loopw [5, 14] (fun v5 v14 wr => ∃ k : Nat, v14 = .int .i64 (k : Int) ∧ k ≤ cnt ∧ Aside0 (Kd.R (Kd.slice 47 (Kd.slice 5 (Kd.int .u8))) 22 wr w2.heap.size (fun _ => True) v5 (imgsL F I k)) ∧ Aside0 (Below w2.heap.size w2 wr)) (fun _ v14 _ => cnt - (intOf v14).toNat)
  case atStart => exact ⟨0, rfl, Nat.zero_le _, ⟨Kd.R_nil _ _ _ _ _⟩, ⟨Below.refl _ _⟩⟩
  case round =>
    obtain ⟨k, rfl, hk, HR, HW⟩ := hrel
    by_cases hlt : k < cnt
    · have t1 : decide ((k : Int) < (cnt : Int)) = true := decide_eq_true (by omega)
      obtain ⟨ad, Ak, ck, hA, k00, lk, gk⟩ := at_irows HCS.out k (by rw [HLEN.out]; exact hlt)
      rw [setsL_get I cnt k hlt] at k00 lk gk
      subst hA
      have k0 := (HW.out.cell (World.block_lt_of_cell? w2 _ k00)).trans k00
      clear k00
      obtain ⟨s, hs⟩ : ∃ s, keepL (bitP (k : Int)) I 0 = s := ⟨_, rfl⟩
      have hsub : s.Sublist I := by rw [← hs]; exact keepL_sublist _ _ _
      rw [hs] at k0 lk gk
      have haf := HAF.out wr (below_step HB2.out HW.out) Ak ck s (fun W' hb => Kd.C_below gk (below_step HW.out hb)) hsub
      rw [HF.out s] at haf
      have HS := Aside0.mk hs
      have HSL := Aside0.mk (imgsL_len F I k)
      have hs2 := HW.out.size
      obtain ⟨im, him⟩ : ∃ im, F s = im := ⟨_, rfl⟩
      rw [him] at haf
      have HIM := Aside0.mk him
      clear gk hs hsub him
      gi_wp2_with (first
        | (refine ⟨trivial, ?_⟩; gi_at_call 31; refine (callsIn_wide.2 (haf)).mono ?_; rintro e w3 ⟨D3, m3, S3, fl3, base3, rfl, hd, hb, hb3⟩; obtain ⟨⟨mo3, hdk3⟩, _, _⟩ := hd; have HD3 := Aside0.mk hdk3; have HB3 := Aside0.mk hb; clear hdk3 hb hb3 haf)
        | (refine ⟨trivial, ?_⟩; gi_at_call 16; refine (callsIn_wide.2 (image_ok HD3.out)).mono ?_; rintro e w4 ⟨v4, rfl, hs, hb⟩; have hr := Kd.S_R hs; obtain ⟨A4, c4, hv4⟩ := Kd.R_slice hr; subst hv4; have hb4 := below_step HB3.out hb; have hs3 := HB3.out.size; obtain ⟨v6, w6, hrun, hr6, hg6, ho6⟩ := Ap.run_append_one (P := Try.prog) (Kd.slice 47 (Kd.slice 5 (Kd.int .u8))) (W := w4) w2.heap.size 38 38 22 (.slice none 0 0) 24 Try.underlying38 cinfoM rfl (by decide) (by decide) u5 (imgsL F I k) im [.slice A4 im.length c4] (fun _ => True) (fun z => w3.heap.size ≤ z) ⟨_, rfl, Kd.R_lower (Kd.R_mono (Kd.R_bound hr) (fun k hk => hk.2.1)) (Nat.le_trans hs2 hs3)⟩ (fun z hz => ⟨trivial, fun e => by have h1 := Kd.R_lt HR.out z e.symm; omega⟩) (fun _ _ => trivial) (Kd.R_below HR.out hb4) (by have h2 := hb4.size; omega) (by rw [HSL.out]; omega); have HR6 := Aside0.mk hr6; have HW6 := Aside0.mk (Below.grown (below_step HW.out hb4) hg6 (by have h2 := hb4.size; omega) (fun k hk => Kd.R_base HR.out k hk)); clear hs hr hb hb4 hs3 hr6 hg6 ho6)
        | (gi_at_builtin; refine Ap.wpListIn_append_run _ rfl _ _ _ rfl _ _ rfl rfl _ _ hrun ?_))
      exact ⟨⟨k + 1, by simp, hlt, ⟨by rw [imgsL_succ, HS.out, HIM.out]; exact HR6.out⟩, HW6⟩, by simp [intOf]; omega⟩
    · obtain rfl : k = cnt := by omega
      have t1 : decide ((k : Int) < (k : Int)) = false := decide_eq_false (by omega)
      gi_wp2
      go_ret
      exact ⟨_, rfl, Kd.R_lower HR.out HB2.out.size, below_step HB2.out HW.out⟩
end Go.Proofs.Ytlkijnnoalfblaa.Dk
