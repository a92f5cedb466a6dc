/- Written by a program of this session. crash.After of numbers that are in the queue, each once. -/
import Derived.Test.YtlkijnnoalfblaaDi
namespace Go.Proofs.Ytlkijnnoalfblaa.Dk
open Go Go.RowKit Go.Shelf Go.Proofs Go.Maps Go.Proofs.Ytlkijnnoalfblaa.Sp Go.Proofs.Ytlkijnnoalfblaa.XFb Go.Proofs.YtlkijnnoalfblaaW.PrintWords Go.Proofs.YtlkijnnoalfblaaW.PrintLast Go.Proofs.YtlkijnnoalfblaaW.PrintMore
set_option linter.unusedVariables false
set_option linter.unusedSimpArgs false
theorem dm_copy {W : World} {base D m : Nat} {S : Nat → Prop} {bl : List (List Int)} {q : List S49} {fl : List Int} {last : Int} {n : Nat} (h : IsDm W base D m S bl q fl last n) (hn : n ≤ maxLen) :
    Calls Try.prog 12 #[.pointer (some ⟨D, 0, none⟩)] W fun e W' => ∃ D2 m2, e = .returned (.pointer (some ⟨D2, 0, none⟩)) ∧ IsDm W' W.heap.size D2 m2 (fun k => W.heap.size ≤ k ∧ k < W'.heap.size) bl q fl last n ∧ Below W.heap.size W W' := by
  obtain ⟨⟨mo, hd⟩, ⟨Dm, ho, ha⟩, hfl⟩ := h
  have hs : Maps.size Dm ≤ n := by
    obtain ⟨es, c, h1, h2, h3, h4⟩ := ho
    rw [h4]
    simp only [Maps.size]
    rw [length_sorted]
    simpa using h3
  refine (copy_ok hd ho (by omega)).mono ?_
  rintro e W' ⟨D2, m2, mo2, rfl, hi, ho2, hb⟩
  exact ⟨D2, m2, rfl, ⟨⟨mo2, hi⟩, ⟨Dm, ho2.mono hs, ha⟩, hfl⟩, hb⟩
theorem ixE_in : ∀ (L : List Int) (v : Int) (i : Int), v ∈ L → ∃ j : Nat, ∃ hj : j < L.length, ixE v L i = i + j ∧ L[j] = v
  | [], v, i, h => by cases h
  | x :: r, v, i, h => by
    unfold ixE
    by_cases hp : v = x
    · rw [if_pos hp]; exact ⟨0, by simp, by simp, by simp [hp]⟩
    · rw [if_neg hp]
      rcases List.mem_cons.1 h with rfl | h
      · exact absurd rfl hp
      · obtain ⟨j, hj, e, g⟩ := ixE_in r v (i + 1) h
        exact ⟨j + 1, by simpa using hj, by rw [e]; push_cast; omega, by simpa using g⟩
theorem erase_in {L : List Int} {j : Nat} (hj : j < L.length) {y : Int} (hy : y ∈ L) (hne : y ≠ L[j]) : y ∈ L.eraseIdx j := by
  rw [List.mem_eraseIdx_iff_getElem]
  obtain ⟨i, hi, rfl⟩ := List.mem_iff_getElem.1 hy
  exact ⟨i, hi, fun e => hne (by subst e; rfl), rfl⟩
theorem ixL_of_mem {q : List S49} {id : Int} (h : id ∈ q.map fun s => s.f0) : 0 ≤ ixL (fun x : S49 => x.f0 == id) q 0 := by
  have key : ∀ (q : List S49) (i : Int), 0 ≤ i → (id ∈ q.map fun s => s.f0) → 0 ≤ ixL (fun x : S49 => x.f0 == id) q i := by
    intro q
    induction q with
    | nil => intro i _ h; cases h
    | cons x r ih =>
      intro i h0 h
      unfold ixL
      by_cases hp : (x.f0 == id) = true
      · rw [if_pos hp]; exact h0
      · rw [if_neg hp]
        rw [List.map_cons] at h
        rcases List.mem_cons.1 h with h | h
        · exact absurd (beq_iff_eq.2 h.symm) hp
        · exact ih (i + 1) (by omega) h
  exact key q 0 (by omega) h
set_option maxRecDepth 100000 in
set_option maxHeartbeats 8000000 in
theorem after_ok {W : World} {base D m : Nat} {S : Nat → Prop} {bl : List (List Int)} {q : List S49} {fl : List Int} {last : Int} {n : Nat} (h : IsDm W base D m S bl q fl last n) (hn : n ≤ maxLen) (A : Option Addr) (c : Nat) (ids : List Int) (hC : ∀ W', Below W.heap.size W W' → Kd.C (Kd.int .i64) W' A ids.length ids) (hlen : ids.length ≤ 1000000) (hsub : ∀ i ∈ ids, i ∈ q.map fun s => s.f0) (hnd : ids.Nodup) :
    Calls Try.prog 31 #[.pointer (some ⟨D, 0, none⟩), .slice A ids.length c] W fun e W' => ∃ D2 m2 S2 fl2 base2, e = .returned (.tuple #[.pointer (some ⟨D2, 0, none⟩), .int .i64 0]) ∧ IsDm W' base2 D2 m2 S2 (ids.foldl (crB q) bl) [] fl2 last n ∧ Below W.heap.size W W' ∧ W.heap.size ≤ base2 := by
  have HDM := Aside0.mk h
  obtain ⟨⟨mo, hdk⟩, _, _⟩ := h
  have H := Aside0.mk hdk
  have hbl := hdk.fits.some
  have hq64 := hdk.fits.queue
  have t0 : ((bl.length : Int) == 0) = false := by rw [beq_eq_false_iff_ne]; omega
  have HC := Aside0.mk hC
  have HSUB := Aside0.mk hsub
  have HND := Aside0.mk hnd
  have HCR := Aside0.mk (show crE q ids = 0 by unfold crE; rw [if_pos (List.all_eq_true.2 (fun i hi => decide_eq_true (ixL_of_mem (hsub i hi))))])
  have HN := Aside0.mk hn
  clear hdk hC hsub hnd hn
  refine (callsIn_wide (n := 1)).1 ?_
  refine callsIn_of_wp Try.func31 rfl trivial ?_ rfl
  simp only [Try.ntmps31, List.size_toArray, List.length_cons, List.length_nil, Nat.reduceAdd, Nat.reduceSub, Array.replicate_succ, Array.replicate_zero, List.push_toArray, List.append_toArray, List.nil_append, List.cons_append]
  gi_wp2_with (first
    | (refine ⟨trivial, ?_⟩; gi_at_call 24; refine (callsIn_wide.2 (blocks_ok H.out)).mono ?_; rintro e w0 ⟨rfl, hw⟩; rw [hw]; clear hw)
    | (refine ⟨trivial, ?_⟩; gi_at_call 25; refine (callsIn_wide.2 (ids_ok H.out)).mono ?_; rintro e w1 ⟨v1, rfl, hr, hb⟩; have HR1 := Aside0.mk hr; have HB1 := Aside0.mk hb; clear hr hb))
  gi_loopw [6, 19] (fun v6 v19 wr => ∃ (i : Nat) (L : List Int), v19 = .int .i64 (i : Int) ∧ i ≤ ids.length ∧ L.length ≤ 64 ∧ Aside0 (∀ x ∈ ids.drop i, x ∈ L) ∧ Aside0 (Kd.R (Kd.int .i64) 3 wr W.heap.size (fun _ => True) v6 L) ∧ Aside0 (Below W.heap.size W wr)) (fun _ v19 _ => ids.length - (intOf v19).toNat)
  case atStart => exact ⟨0, _, rfl, Nat.zero_le _, by rw [List.length_map]; exact hq64, ⟨fun x hx => HSUB.out x (by simpa using hx)⟩, HR1, HB1⟩
  case round =>
    obtain ⟨i, L, rfl, hi, hL, HIN, HR, HW⟩ := hrel
    by_cases hlt : i < ids.length
    · have t1 : decide ((i : Int) < (ids.length : Int)) = true := decide_eq_true (by omega)
      obtain ⟨ad, hA, hcid⟩ := at_int (HC.out wr HW.out) i hlt
      subst hA
      have hg : ids.getD i 0 = ids[i] := by simp [List.getD_eq_getElem?_getD, hlt]
      rw [hg] at hcid
      have hd : ids.drop i = ids[i] :: ids.drop (i + 1) := List.drop_eq_getElem_cons hlt
      have hin := HIN.out
      rw [hd] at hin
      have hnd2 : (ids.drop i).Nodup := HND.out.sublist (List.drop_sublist _ _)
      rw [hd, List.nodup_cons] at hnd2
      generalize ids[i] = id at *
      obtain ⟨j, hj, hix, hLj⟩ := ixE_in L id 0 (hin id (List.mem_cons_self ..))
      rw [Int.zero_add] at hix
      have HIN2 := Aside0.mk (fun x (hx : x ∈ ids.drop (i + 1)) => (erase_in hj (hin x (List.mem_cons_of_mem _ hx)) (fun e => hnd2.1 (by rw [← hLj, ← e]; exact hx)) : x ∈ L.eraseIdx j))
      have hlen2 : (L.eraseIdx j).length = L.length - 1 := List.length_eraseIdx_of_lt hj
      obtain ⟨g, cap, hv, hg1, hg2, _⟩ := Kd.R_form HR.out (by omega)
      subst hv
      have hixo := indexI_ok (some ⟨g, 0, none⟩) cap L id wr (Kd.R_reads' HR.out).2.2 (by omega)
      rw [hix] at hixo
      have hdel := deleteI_ok wr W.heap.size (fun _ => True) g L.length cap j L HR.out hj hL HW.out.size
      have t2 : decide ((j : Int) < 0) = false := decide_eq_false (by omega)
      have HL2 := Aside0.mk hlen2
      clear hd hin hnd2 hLj hix hg hlen2
      gi_wp2_with (first
        | (refine ⟨trivial, ?_⟩; gi_at_call 49; refine (callsIn_wide.2 hixo).mono ?_; rintro e w2 ⟨rfl, hw⟩; rw [hw]; clear hw hixo)
        | (refine ⟨trivial, ?_⟩; gi_at_call 50; refine (callsIn_wide.2 hdel).mono ?_; rintro e w3 ⟨rfl, hr, hg3⟩; have HR3 := Aside0.mk hr; have HW3 := Aside0.mk (Below.grown HW.out hg3 HW.out.size (fun k hk => by injection hk with hk; omega)); clear hr hg3 hdel))
      exact ⟨⟨i + 1, L.eraseIdx j, by simp, hlt, by rw [HL2.out]; omega, HIN2, HR3, HW3⟩, by simp [intOf]; omega⟩
    · obtain rfl : i = ids.length := by omega
      have t1 : decide ((ids.length : Int) < (ids.length : Int)) = false := decide_eq_false (by omega)
      gi_wp2_with (first
        | (refine ⟨trivial, ?_⟩; gi_at_call 12; refine (callsIn_wide.2 (dm_copy (HDM.out.below HW.out) HN.out)).mono ?_; rintro e w4 ⟨D2, m2, rfl, hc, hb⟩; have HC4 := Aside0.mk hc; have HB4 := Aside0.mk (below_step HW.out hb); clear hc hb)
        | (refine ⟨trivial, ?_⟩; gi_at_call 13; refine (callsIn_wide.2 (dm_crash HC4.out A c ids (fun W' hk => HC.out W' (HB4.out.trans (hk.below (n := W.heap.size) (fun k hk => by have := HW.out.size; omega) HB4.out.size))) (by omega))).mono ?_; rintro e w5 ⟨rfl, ⟨S2, hs2, hd⟩, hk⟩; rw [HCR.out]; have HD5 := Aside0.mk hd; have HB5 := Aside0.mk (HB4.out.trans (hk.below (n := W.heap.size) (fun k hk => by have := HW.out.size; omega) HB4.out.size)); clear hd hs2 hk))
      refine bodyPost_ret (results_tmp2 rfl _ _ _) rfl ?_
      have hd := HD5.out
      unfold crBs crQ at hd
      rw [if_pos HCR.out, if_pos HCR.out] at hd
      exact ⟨D2, m2, S2, _, _, rfl, hd, HB5.out, HW.out.size⟩
end Go.Proofs.Ytlkijnnoalfblaa.Dk
