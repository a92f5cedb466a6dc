/- Written by a program of this session. A disk's image is among some images: the closure and what calls it. -/
import Derived.Test.YtlkijnnoalfblaaCs
namespace Go.Proofs.Ytlkijnnoalfblaa.Dk
open Go Go.RowKit Go.Shelf Go.Proofs Go.Maps Go.Proofs.Ytlkijnnoalfblaa.Sp Go.Proofs.Ytlkijnnoalfblaa.XFb Go.Proofs.YtlkijnnoalfblaaW.PrintWords Go.Proofs.YtlkijnnoalfblaaW.PrintLast Go.Proofs.YtlkijnnoalfblaaW.PrintMore
set_option linter.unusedVariables false
set_option linter.unusedSimpArgs false
theorem at_imgs {w : World} {A : Option Addr} {n : Nat} {xs : List (List (List Int))} (h : Kd.C (Kd.slice 47 (Kd.slice 5 (Kd.int .u8))) w A n xs) (i : Nat) (h1 : i < n) : ∃ ad A0 c0, A = some ad ∧ w.cell? (ad.add i) = some (.slice A0 (xs.getD i []).length c0) ∧ (xs.getD i []).length ≤ c0 ∧ Kd.C (Kd.slice 5 (Kd.int .u8)) w A0 (xs.getD i []).length (xs.getD i []) := by
  obtain ⟨ad, c, e, _, hK, hc0⟩ := Kd.C_get h ([] : List (List Int)) (i : Int) (by omega) (by omega)
  rw [Int.toNat_natCast] at hK hc0
  have hc : ∀ j u, c[j]? = some u → w.cell? (ad.add (i * 1 + j)) = some u := hc0
  obtain ⟨A0, c0, rfl, l0, g0⟩ := hK
  exact ⟨ad, A0, c0, e, by have hq := hc 0 _ rfl; rwa [Nat.mul_one, Nat.add_zero] at hq, l0, g0⟩
set_option maxRecDepth 100000 in
set_option maxHeartbeats 8000000 in
theorem clAll {w : World} {base D m : Nat} {S : Nat → Prop} {bl : List (List Int)} {q : List S49} {mo : Obj} {last : Int} (h : IsDk w base D m S bl q mo last) (X : Nat) (hX : w.cell? ⟨X, 0, none⟩ = some (.pointer (some ⟨D, 0, none⟩))) (A : Option Addr) (d : Nat) (ys : List (List Int)) (hA : Kd.C (Kd.slice 5 (Kd.int .u8)) w A ys.length ys) (hd : ys.length ≤ d) (hl : ys.length < 9223372036854775807) :
    Calls Try.prog 15 #[.slice A ys.length d, .pointer (some ⟨X, 0, none⟩)] w fun e w' => ∃ b, e = .returned (.bool b) ∧ (ys = bl → b = true) ∧ Below w.heap.size w w' := by
  have H := Aside0.mk h
  have HA := Aside0.mk hA
  have hbl := h.fits.most
  clear hA h
  refine (callsIn_wide (n := 1)).1 ?_
  refine callsIn_of_wp Try.func15 rfl trivial ?_ rfl
  simp only [Try.ntmps15, List.size_toArray, List.length_cons, List.length_nil, Nat.reduceAdd, Nat.reduceSub, Array.replicate_succ, Array.replicate_zero, List.push_toArray, List.append_toArray, List.nil_append, List.cons_append]
  gi_wp2_with (first
    | (refine ⟨trivial, ?_⟩; gi_at_call 16; refine (callsIn_wide.2 (image_ok H.out)).mono ?_; rintro e w1 ⟨v1, rfl, hs, hb⟩; have hr := Kd.S_R hs; obtain ⟨A1, c1, hv1⟩ := Kd.R_slice hr; subst hv1; have HR := Aside0.mk hr; have HB := Aside0.mk hb; have hsm := same_any w1 A A1 d c1 ys bl (Kd.C_below HA.out hb) (Kd.R_reads' hr).2.2 hd (Kd.R_reads' hr).2.1 hl (by omega); clear hs hr hb)
    | (refine ⟨trivial, ?_⟩; gi_at_call 11; refine (callsIn_wide.2 (hsm)).mono ?_; rintro e w2 ⟨b, rfl, hbt, hb⟩; have HBT := Aside0.mk hbt; have HB2 := Aside0.mk (below_step HB.out hb); clear hbt hb hsm))
  go_ret
  exact ⟨b, rfl, HBT.out, HB2.out⟩
set_option maxRecDepth 100000 in
set_option maxHeartbeats 8000000 in
theorem indexAll {w : World} {base D m : Nat} {S : Nat → Prop} {bl : List (List Int)} {q : List S49} {mo : Obj} {last : Int} (h : IsDk w base D m S bl q mo last) (X : Nat) (hX : w.cell? ⟨X, 0, none⟩ = some (.pointer (some ⟨D, 0, none⟩))) (A : Option Addr) (c : Nat) (xs : List (List (List Int))) (hC : Kd.C (Kd.slice 47 (Kd.slice 5 (Kd.int .u8))) w A xs.length xs) (hc : xs.length ≤ c) (hlen : xs.length ≤ 1000000) (hsz : ∀ x ∈ xs, x.length ≤ 1000000) (hin : bl ∈ xs) :
    Calls Try.prog 40 #[.slice A xs.length c, .func (.func 15) #[] #[.pointer (some ⟨X, 0, none⟩)]] w fun e w' => ∃ z : Int, e = .returned (.int .i64 z) ∧ 0 ≤ z ∧ Below w.heap.size w w' := by
  have HC := Aside0.mk hC
  have HSZ := Aside0.mk hsz
  have HIN := Aside0.mk hin
  have HK := Aside0.mk (fun (W : World) (hB : Below w.heap.size w W) => clAll (h.below hB) X ((hB.cell (p := ⟨X, 0, none⟩) (World.block_lt_of_cell? w _ hX)).trans hX))
  clear hC h hX hsz hin
  refine (callsIn_wide (n := 1)).1 ?_
  refine callsIn_of_wp Try.func40 rfl trivial ?_ rfl
  simp only [Try.ntmps40, List.size_toArray, List.length_cons, List.length_nil, Nat.reduceAdd, Nat.reduceSub, Array.replicate_succ, Array.replicate_zero, List.push_toArray, List.append_toArray, List.nil_append, List.cons_append]
  gi_wp2
  gi_loopw [8] (fun v8 w' => ∃ i : Nat, v8 = .int .i64 (i : Int) ∧ i ≤ xs.length ∧ Aside0 (bl ∈ xs.drop i) ∧ Aside0 (Below w.heap.size w w')) (fun v8 _ => xs.length - (intOf v8).toNat)
  case atStart => exact ⟨0, rfl, Nat.zero_le _, HIN, ⟨Below.refl _ _⟩⟩
  case round =>
    obtain ⟨i, rfl, hi, HI, HB⟩ := hrel
    by_cases hlt : i < xs.length
    · have t1 : decide ((i : Int) < (xs.length : Int)) = true := decide_eq_true (by omega)
      obtain ⟨ad, A0, c0, rfl, hcell, l0, g0⟩ := at_imgs (Kd.C_below HC.out HB.out) i hlt
      have hd : xs.drop i = xs.getD i [] :: xs.drop (i + 1) := by
        rw [List.drop_eq_getElem_cons hlt]; simp [List.getD_eq_getElem?_getD, hlt]
      have hi2 := HI.out
      rw [hd] at hi2
      have hx : (xs.getD i []).length ≤ 1000000 := HSZ.out _ (List.mem_of_mem_drop (by rw [hd]; exact List.mem_cons_self ..))
      obtain ⟨y, hy⟩ : ∃ y, xs.getD i [] = y := ⟨_, rfl⟩
      rw [hy] at hcell l0 g0 hi2 hx
      have hcl := HK.out wr HB.out A0 c0 y g0 l0 (by omega)
      have HI2 := Aside0.mk hi2
      clear hi2 hd hy g0
      gi_wp2_with (first
        | (refine ⟨trivial, ?_⟩; gi_at_call 15; refine (callsIn_wide.2 (hcl)).mono ?_; rintro e w2 ⟨b, rfl, hbt, hb⟩; have HBT := Aside0.mk hbt; have HB2 := Aside0.mk (below_step HB.out hb); clear hbt hb hcl; cases b))
      · refine ⟨⟨i + 1, by simp, hlt, ⟨?_⟩, HB2⟩, by simp [intOf]; omega⟩
        rcases List.mem_cons.1 HI2.out with e | h
        · exact absurd (HBT.out e.symm) (by simp)
        · exact h
      · go_ret
        exact ⟨_, rfl, by omega, HB2.out⟩
    · obtain rfl : i = xs.length := by omega
      have hn := HI.out
      rw [List.drop_length] at hn
      cases hn
set_option maxRecDepth 100000 in
set_option maxHeartbeats 8000000 in
theorem containsAll {w : World} {base D m : Nat} {S : Nat → Prop} {bl : List (List Int)} {q : List S49} {mo : Obj} {last : Int} (h : IsDk w base D m S bl q mo last) (X : Nat) (hX : w.cell? ⟨X, 0, none⟩ = some (.pointer (some ⟨D, 0, none⟩))) (A : Option Addr) (c : Nat) (xs : List (List (List Int))) (hC : Kd.C (Kd.slice 47 (Kd.slice 5 (Kd.int .u8))) w A xs.length xs) (hc : xs.length ≤ c) (hlen : xs.length ≤ 1000000) (hsz : ∀ x ∈ xs, x.length ≤ 1000000) (hin : bl ∈ xs) :
    Calls Try.prog 14 #[.slice A xs.length c, .func (.func 15) #[] #[.pointer (some ⟨X, 0, none⟩)]] w fun e w' => e = .returned (.bool true) ∧ Below w.heap.size w w' := by
  have HK := Aside0.mk (indexAll h X hX A c xs hC hc hlen hsz hin)
  clear hC h hX hsz hin
  refine (callsIn_wide (n := 1)).1 ?_
  refine callsIn_of_wp Try.func14 rfl trivial ?_ rfl
  simp only [Try.ntmps14, List.size_toArray, List.length_cons, List.length_nil, Nat.reduceAdd, Nat.reduceSub, Array.replicate_succ, Array.replicate_zero, List.push_toArray, List.append_toArray, List.nil_append, List.cons_append]
  gi_wp2_with (first
    | (refine ⟨trivial, ?_⟩; gi_at_call 40; refine (callsIn_wide.2 (HK.out)).mono ?_; rintro e w1 ⟨z, rfl, hz, hb⟩; have t1 : decide (z ≥ 0) = true := decide_eq_true hz; have HW := Aside0.mk hb; clear hb))
  go_ret
  exact ⟨by first | rfl | (congr 2), HW.out⟩
end Go.Proofs.Ytlkijnnoalfblaa.Dk
