/- Written by a program of this session. The reference's disk: Read, Fail, Write. -/
import Derived.Test.YtbopccjcehnfnaaDy
import Derived.Test.YtbopccjcehnfnaaXa
namespace Go.Proofs.Ytbopccjcehnfnaa.Dk
open Go Go.RowKit Go.Shelf Go.Proofs Go.Maps Go.Proofs.Ytbopccjcehnfnaa.Sp Go.Proofs.Ytbopccjcehnfnaa.XFb Go.Proofs.YtbopccjcehnfnaaW.PrintWords Go.Proofs.YtbopccjcehnfnaaW.PrintLast Go.Proofs.YtbopccjcehnfnaaW.PrintMore
set_option linter.unusedVariables false
set_option linter.unusedSimpArgs false
theorem x_putQ {W : World} {base X : Nat} {S : Nat → Prop} {bl : List (List Int)} {q : List S32} {fl : List Int} {last : Int} {vB vQ vF v0 : Value} (hX : W.heap[X]? = some (.cells #[vB, v0, vF, .int .i64 last] 81 (0, 0))) (hB : Kd.R (Kd.slice 5 (Kd.int .u8)) 30 W base S vB bl) (hQ : Kd.R k32 32 W base S vQ q) (hF : Kd.R (Kd.int .i64) 3 W base S vF fl)
    (fits : Fits bl q last) (fails : fl.length = bl.length) (inX : S X) (low : ∀ k, S k → base ≤ k ∧ k < W.heap.size) : IsX (W.setCell ⟨X, 1, none⟩ vQ) base X S bl q fl last :=
  ⟨fits, fails, ⟨vB, vQ, vF, by have := Go.Proofs.Ytbopccjcehnfnaa.Nb.set_heap hX (o := 1) vQ; simpa using this, Kd.R_mono (Kd.R_far (Kd.R_types hB hX (by decide)) (p := ⟨X, 1, none⟩) (fun j hj => hj.2) _) (fun j hj => hj.1), Kd.R_mono (Kd.R_far (Kd.R_types hQ hX (by decide)) (p := ⟨X, 1, none⟩) (fun j hj => hj.2) _) (fun j hj => hj.1), Kd.R_mono (Kd.R_far (Kd.R_types hF hX (by decide)) (p := ⟨X, 1, none⟩) (fun j hj => hj.2) _) (fun j hj => hj.1)⟩, inX, fun k hk => by have := low k hk; simpa [World.setCell] using this⟩
theorem x_putF {W : World} {base X : Nat} {S : Nat → Prop} {bl : List (List Int)} {q : List S32} {fl : List Int} {last : Int} {vB vQ vF v0 : Value} (hX : W.heap[X]? = some (.cells #[vB, vQ, v0, .int .i64 last] 81 (0, 0))) (hB : Kd.R (Kd.slice 5 (Kd.int .u8)) 30 W base S vB bl) (hQ : Kd.R k32 32 W base S vQ q) (hF : Kd.R (Kd.int .i64) 3 W base S vF fl)
    (fits : Fits bl q last) (fails : fl.length = bl.length) (inX : S X) (low : ∀ k, S k → base ≤ k ∧ k < W.heap.size) : IsX (W.setCell ⟨X, 2, none⟩ vF) base X S bl q fl last :=
  ⟨fits, fails, ⟨vB, vQ, vF, by have := Go.Proofs.Ytbopccjcehnfnaa.Nb.set_heap hX (o := 2) vF; simpa using this, Kd.R_mono (Kd.R_far (Kd.R_types hB hX (by decide)) (p := ⟨X, 2, none⟩) (fun j hj => hj.2) _) (fun j hj => hj.1), Kd.R_mono (Kd.R_far (Kd.R_types hQ hX (by decide)) (p := ⟨X, 2, none⟩) (fun j hj => hj.2) _) (fun j hj => hj.1), Kd.R_mono (Kd.R_far (Kd.R_types hF hX (by decide)) (p := ⟨X, 2, none⟩) (fun j hj => hj.2) _) (fun j hj => hj.1)⟩, inX, fun k hk => by have := low k hk; simpa [World.setCell] using this⟩
theorem x_putL {W : World} {base X : Nat} {S : Nat → Prop} {bl : List (List Int)} {q : List S32} {fl : List Int} {last : Int} {vB vQ vF v0 : Value} (hX : W.heap[X]? = some (.cells #[vB, vQ, vF, v0] 81 (0, 0))) (hB : Kd.R (Kd.slice 5 (Kd.int .u8)) 30 W base S vB bl) (hQ : Kd.R k32 32 W base S vQ q) (hF : Kd.R (Kd.int .i64) 3 W base S vF fl)
    (fits : Fits bl q last) (fails : fl.length = bl.length) (inX : S X) (low : ∀ k, S k → base ≤ k ∧ k < W.heap.size) : IsX (W.setCell ⟨X, 3, none⟩ (.int .i64 last)) base X S bl q fl last :=
  ⟨fits, fails, ⟨vB, vQ, vF, by have := Go.Proofs.Ytbopccjcehnfnaa.Nb.set_heap hX (o := 3) (.int .i64 last); simpa using this, Kd.R_mono (Kd.R_far (Kd.R_types hB hX (by decide)) (p := ⟨X, 3, none⟩) (fun j hj => hj.2) _) (fun j hj => hj.1), Kd.R_mono (Kd.R_far (Kd.R_types hQ hX (by decide)) (p := ⟨X, 3, none⟩) (fun j hj => hj.2) _) (fun j hj => hj.1), Kd.R_mono (Kd.R_far (Kd.R_types hF hX (by decide)) (p := ⟨X, 3, none⟩) (fun j hj => hj.2) _) (fun j hj => hj.1)⟩, inX, fun k hk => by have := low k hk; simpa [World.setCell] using this⟩
theorem kept_set (W : World) (p : Addr) (v : Value) (S : Nat → Prop) (h : S p.block) : Kept S W (W.setCell p v) :=
  ⟨rfl, rfl, rfl, by simp [World.setCell], fun k _ hn => Below.heap_setCell W p v k (fun e => hn (e ▸ h))⟩
theorem C_len {α : Type} {d : Kd α} {W : World} {A : Option Addr} {n : Nat} {xs : List α} (h : Kd.C d W A n xs) : xs.length = n := h.1
/-- The cell of a number in a row of one's own. -/
theorem at_own {W : World} {base : Nat} {S : Nat → Prop} {v : Value} {xs : List Int} (h : Kd.R (Kd.int .i64) 3 W base S v xs) (i : Nat) (hi : i < xs.length) : ∃ g cap, v = .slice (some ⟨g, 0, none⟩) xs.length cap ∧ S g ∧ g < W.heap.size ∧
    W.cell? ⟨g, i, none⟩ = some (.int .i64 (xs.getD i 0)) ∧ W.frozen? ⟨g, i, none⟩ = false ∧ ∀ c : Int, Kd.R (Kd.int .i64) 3 (W.setCell ⟨g, i, none⟩ (.int .i64 c)) base S v (xs.set i c) := by
  obtain ⟨g, cap, rfl, h1, h2, _⟩ := Kd.R_form h (by omega)
  obtain ⟨cs, hcl, hM, hcell, hfro⟩ := Kd.R_elem h (0 : Int) (i : Int) (by omega) (by omega)
  have hM' : cs = [.int .i64 (xs.getD i 0)] := by rw [Int.toNat_natCast] at hM; exact hM
  subst hM'
  refine ⟨g, cap, rfl, h.1 g (by simp [Value.ownBlock]), h2, ?_, ?_, fun c => ?_⟩
  · have h3 := hcell 0 _ rfl
    rwa [Int.toNat_natCast, show i * (Kd.int .i64 : Kd Int).sz + 0 = i from Nat.mul_one _] at h3
  · have h3 := hfro 0
    rwa [Int.toNat_natCast, show i * (Kd.int .i64 : Kd Int).sz + 0 = i from Nat.mul_one _] at h3
  · obtain ⟨hB6, _⟩ := Kd.R_seg (okp := fun _ => False) (j := 0) (seg := [.int .i64 c]) h (i : Int) (by omega) (by omega) hcl hcell (show (0 + 1 : Nat) ≤ 1 by decide) (x' := c) rfl (fun k hk => hk.elim)
    have e4 : W.setCells g (((i : Int)).toNat * (Kd.int .i64 : Kd Int).sz + 0) [.int .i64 c] = W.setCell ⟨g, i, none⟩ (.int .i64 c) := by
      show W.setCell ⟨g, ((i : Int)).toNat * 1 + 0, none⟩ _ = _
      rw [Int.toNat_natCast, Nat.mul_one, Nat.add_zero]
    rw [e4, Int.toNat_natCast] at hB6
    exact hB6
/-- Behind a number written into the row of reads that fail. -/
theorem x_cellF {W : World} {base X : Nat} {S : Nat → Prop} {bl : List (List Int)} {q : List S32} {fl : List Int} {last : Int} (h : IsX W base X S bl q fl last) {vB vQ vF : Value} (hX : W.heap[X]? = some (.cells #[vB, vQ, vF, .int .i64 last] 81 (0, 0))) (hB : Kd.R (Kd.slice 5 (Kd.int .u8)) 30 W base S vB bl) (hQ : Kd.R k32 32 W base S vQ q) (hF : Kd.R (Kd.int .i64) 3 W base S vF fl) (g : Nat) (hg : vF.ownBlock = some g) (i : Nat) (c : Int) (hF' : Kd.R (Kd.int .i64) 3 (W.setCell ⟨g, i, none⟩ (.int .i64 c)) base S vF (fl.set i c)) :
    IsX (W.setCell ⟨g, i, none⟩ (.int .i64 c)) base X S bl q (fl.set i c) last := by
  obtain ⟨fits, fails, _, inX, low⟩ := h
  have hne : some X ≠ vF.ownBlock := Kd.R_ne hF hX (by decide)
  have hXg : X ≠ g := fun e => hne (by rw [hg, e])
  have hB2 := Kd.R_apart' hB (Kd.R_typed hF) (by decide)
  have hQ2 := Kd.R_apart' hQ (Kd.R_typed hF) (by decide)
  refine ⟨fits, by rw [List.length_set]; exact fails, ⟨vB, vQ, vF, (Below.heap_setCell W ⟨g, i, none⟩ _ X hXg).trans hX, ?_, ?_, hF'⟩, inX, fun k hk => by have := low k hk; simpa [World.setCell] using this⟩
  · exact Kd.R_mono (Kd.R_far hB2 (p := ⟨g, i, none⟩) (fun j hj e => hj.2 (by rw [hg, e])) _) (fun j hj => hj.1)
  · exact Kd.R_mono (Kd.R_far hQ2 (p := ⟨g, i, none⟩) (fun j hj e => hj.2 (by rw [hg, e])) _) (fun j hj => hj.1)
set_option maxRecDepth 100000 in
set_option maxHeartbeats 8000000 in
theorem x_read {W : World} {base X : Nat} {S : Nat → Prop} {bl : List (List Int)} {q : List S32} {fl : List Int} {last : Int} (h : IsX W base X S bl q fl last) (b : Int) (hfb : ∀ c ∈ fl, 0 ≤ c ∧ c ≤ 1000) :
    Calls Try.prog 44 #[.pointer (some ⟨X, 0, none⟩), .int .i64 b] W fun e W' => ∃ v, e = .returned (.tuple #[v, .int .i64 (rdE bl fl b)]) ∧ Kd.R (Kd.int .u8) 5 W' W.heap.size (fun _ => True) v (rdB bl fl b) ∧ IsX W' base X S bl q (rdF bl fl b) last ∧ Kept S W W' := by
  have H := Aside0.mk h
  obtain ⟨hf, hfl, ⟨vB, vQ, vF, hX, hB, hQ, hF⟩, hiX, hlow⟩ := h
  have HB := Aside0.mk hB
  have HQ := Aside0.mk hQ
  have HF := Aside0.mk hF
  have HX := Aside0.mk hX
  have HI := Aside0.mk hf
  refine (callsIn_wide (n := 1)).1 ?_
  refine callsIn_of_wp Try.func44 rfl trivial ?_ rfl
  simp only [Try.ntmps44, List.size_toArray, List.length_cons, List.length_nil, Nat.reduceAdd, Nat.reduceSub, Array.replicate_succ, Array.replicate_zero, List.push_toArray, List.append_toArray, List.nil_append, List.cons_append]
  by_cases h0 : 0 ≤ b ∧ b < bl.length
  · have e0 : decide (0 ≤ b ∧ b < (bl.length : Int)) = true := decide_eq_true h0
    obtain ⟨i, rfl⟩ : ∃ i : Nat, b = i := ⟨b.toNat, by omega⟩
    have hil : i < bl.length := by omega
    obtain ⟨gF, cF, hvF, hSg, hgl, k0, kf, kset⟩ := at_own hF i (by omega)
    obtain ⟨c, hc⟩ : ∃ c, fl.getD i 0 = c := ⟨_, rfl⟩
    have hcb : 0 ≤ c ∧ c ≤ 1000 := by rw [← hc]; simp only [List.getD_eq_getElem?_getD, List.getElem?_eq_getElem (show i < fl.length by omega), Option.getD_some]; exact hfb _ (List.getElem_mem _)
    rw [hc] at k0
    have c2 : W.cell? ⟨X, 2, none⟩ = some (.slice (some ⟨gF, 0, none⟩) fl.length cF) := by rw [← hvF]; simp [World.cell?, hX]
    have p1 : (i : Int) < (fl.length : Int) := by omega
    have hown : vF.ownBlock = some gF := by rw [hvF]; simp [Value.ownBlock]
    have HK := Aside0.mk kset
    have HO := Aside0.mk hown
    obtain ⟨AB, cB, hvB⟩ := Kd.R_slice hB
    have c0 : W.cell? ⟨X, 0, none⟩ = some (.slice AB bl.length cB) := by rw [← hvB]; simp [World.cell?, hX]
    by_cases hcp : 0 < c
    · have t1 : decide (0 < c) = true := decide_eq_true hcp
      have hE : rdE bl fl (i : Int) = 4 := by unfold rdE; rw [if_neg (fun hh => hh h0), Int.toNat_natCast, hc, if_pos hcp]
      have hFn : rdF bl fl (i : Int) = fl.set i (c - 1) := by unfold rdF; rw [if_pos hE, Int.toNat_natCast, hc]
      have hBy : rdB bl fl (i : Int) = [] := by unfold rdB; rw [if_neg (by rw [hE]; decide)]
      rw [hE, hFn, hBy]
      have hw1 : wrap64 (c - 1) = c - 1 := IntWalk.wrap64_in _ (by omega)
      clear hE hFn hBy hc hfl hB hQ hF hX hf kset hown hvF hfb hvB
      gi_wp2_with (first
        | (refine ⟨trivial, ?_⟩; gi_at_call 57; refine (callsIn_wide.2 (x_has H.out _)).mono ?_; rintro e w0 ⟨rfl, hw⟩; rw [e0, hw]; clear hw))
      refine bodyPost_ret (results_tmp2 rfl _ _ _) rfl ?_
      exact ⟨_, rfl, Kd.R_nil _ _ _ _ _, x_cellF H.out HX.out HB.out HQ.out HF.out gF HO.out i (c - 1) (HK.out (c - 1)), kept_set _ _ _ _ hSg⟩
    · have t1 : decide (0 < c) = false := decide_eq_false hcp
      have hE : rdE bl fl (i : Int) = 0 := by unfold rdE; rw [if_neg (fun hh => hh h0), Int.toNat_natCast, hc, if_neg hcp]
      have hFn : rdF bl fl (i : Int) = fl := by unfold rdF; rw [if_neg (by rw [hE]; decide)]
      have hBy : rdB bl fl (i : Int) = bl[i] := by unfold rdB; rw [if_pos hE, Int.toNat_natCast]; simp [List.getD_eq_getElem?_getD, hil]
      rw [hE, hFn, hBy]
      have hB2 := hB
      rw [hvB] at hB2
      obtain ⟨ad, A0, a0, hA, ca, la, ra⟩ := at_rows (Kd.R_reads' hB2).2.2 i hil
      subst hA
      rw [show bl.getD i [] = bl[i] by simp [List.getD_eq_getElem?_getD, hil]] at ca la ra
      have hxl : bl[i].length < 1000000 := by have := HI.out.each bl[i] (List.getElem_mem _); omega
      generalize bl[i] = x at *
      have RA := Aside0.mk ra
      clear hE hFn hBy hc hfl hB2 hB hQ hF hX hf kset hown hvF hfb hvB ra
      gi_wp2_with (first
        | (refine ⟨trivial, ?_⟩; gi_at_call 57; refine (callsIn_wide.2 (x_has H.out _)).mono ?_; rintro e w0 ⟨rfl, hw⟩; rw [e0, hw]; clear hw)
        | (refine ⟨trivial, ?_⟩; gi_at_call 53; refine (callsIn_wide.2 (bollardref02_copied.calls A0 a0 x x _ RA.out la (copied_f x hxl))).mono ?_; rintro e w1 ⟨v0, rfl, hr1, hb1⟩; have HR := Aside0.mk hr1; have HW := Aside0.mk hb1; clear hr1 hb1))
      refine bodyPost_ret (results_tmp2 rfl _ _ _) rfl ?_
      exact ⟨_, rfl, HR.out, H.out.below HW.out, Kept.of_below HW.out⟩
  · have e0 : decide (0 ≤ b ∧ b < (bl.length : Int)) = false := decide_eq_false h0
    have hE : rdE bl fl b = 1 := by unfold rdE; rw [if_pos h0]
    have hFn : rdF bl fl b = fl := by unfold rdF; rw [if_neg (by rw [hE]; decide)]
    have hBy : rdB bl fl b = [] := by unfold rdB; rw [if_neg (by rw [hE]; decide)]
    rw [hE, hFn, hBy]
    clear hE hFn hBy hfl hB hQ hF hX hf hfb
    gi_wp2_with (first
      | (refine ⟨trivial, ?_⟩; gi_at_call 57; refine (callsIn_wide.2 (x_has H.out _)).mono ?_; rintro e w0 ⟨rfl, hw⟩; rw [e0, hw]; clear hw))
    refine bodyPost_ret (results_tmp2 rfl _ _ _) rfl ?_
    exact ⟨_, rfl, Kd.R_nil _ _ _ _ _, H.out, Kept.refl _ _⟩
set_option maxRecDepth 100000 in
set_option maxHeartbeats 8000000 in
theorem x_fail {W : World} {base X : Nat} {S : Nat → Prop} {bl : List (List Int)} {q : List S32} {fl : List Int} {last : Int} (h : IsX W base X S bl q fl last) (b t : Int) :
    Calls Try.prog 46 #[.pointer (some ⟨X, 0, none⟩), .int .i64 b, .int .i64 t] W fun e W' => e = .returned (.int .i64 (faE bl b t)) ∧ IsX W' base X S bl q (faF bl fl b t) last ∧ Kept S W W' := by
  have H := Aside0.mk h
  obtain ⟨hf, hfl, ⟨vB, vQ, vF, hX, hB, hQ, hF⟩, hiX, hlow⟩ := h
  have HB := Aside0.mk hB
  have HQ := Aside0.mk hQ
  have HF := Aside0.mk hF
  have HX := Aside0.mk hX
  refine (callsIn_wide (n := 1)).1 ?_
  refine callsIn_of_wp Try.func46 rfl trivial ?_ rfl
  simp only [Try.ntmps46, List.size_toArray, List.length_cons, List.length_nil, Nat.reduceAdd, Nat.reduceSub, Array.replicate_succ, Array.replicate_zero, List.push_toArray, List.append_toArray, List.nil_append, List.cons_append]
  by_cases h0 : 0 ≤ b ∧ b < bl.length
  · have e0 : decide (0 ≤ b ∧ b < (bl.length : Int)) = true := decide_eq_true h0
    by_cases h1 : t < 0
    · have t1 : decide (t < 0) = true := decide_eq_true h1
      have hE : faE bl b t = 1 := by unfold faE; rw [if_neg (by omega)]
      have hFn : faF bl fl b t = fl := by unfold faF; rw [if_neg (by rw [hE]; decide)]
      rw [hE, hFn]
      clear hE hFn hfl hB hQ hF hX hf
      gi_wp2_with (first
        | (refine ⟨trivial, ?_⟩; gi_at_call 57; refine (callsIn_wide.2 (x_has H.out _)).mono ?_; rintro e w0 ⟨rfl, hw⟩; rw [e0, hw]; clear hw))
      go_ret
      exact ⟨rfl, H.out, Kept.refl _ _⟩
    · have t1 : decide (t < 0) = false := decide_eq_false h1
      by_cases h2 : 1000 < t
      · have t2 : decide (1000 < t) = true := decide_eq_true h2
        have hE : faE bl b t = 1 := by unfold faE; rw [if_neg (by omega)]
        have hFn : faF bl fl b t = fl := by unfold faF; rw [if_neg (by rw [hE]; decide)]
        rw [hE, hFn]
        clear hE hFn hfl hB hQ hF hX hf
        gi_wp2_with (first
          | (refine ⟨trivial, ?_⟩; gi_at_call 57; refine (callsIn_wide.2 (x_has H.out _)).mono ?_; rintro e w0 ⟨rfl, hw⟩; rw [e0, hw]; clear hw))
        go_ret
        exact ⟨rfl, H.out, Kept.refl _ _⟩
      · have t2 : decide (1000 < t) = false := decide_eq_false h2
        have hE : faE bl b t = 0 := by unfold faE; rw [if_pos (by omega)]
        have hFn : faF bl fl b t = fl.set b.toNat t := by unfold faF; rw [if_pos hE]
        rw [hE, hFn]
        obtain ⟨i, rfl⟩ : ∃ i : Nat, b = i := ⟨b.toNat, by omega⟩
        obtain ⟨gF, cF, hvF, hSg, hgl, k0, kf, kset⟩ := at_own hF i (by omega)
        have c2 : W.cell? ⟨X, 2, none⟩ = some (.slice (some ⟨gF, 0, none⟩) fl.length cF) := by rw [← hvF]; simp [World.cell?, hX]
        have p1 : (i : Int) < (fl.length : Int) := by omega
        have hown : vF.ownBlock = some gF := by rw [hvF]; simp [Value.ownBlock]
        have HK := Aside0.mk kset
        have HO := Aside0.mk hown
        clear hE hFn hfl hB hQ hF hX hf kset hown hvF
        gi_wp2_with (first
          | (refine ⟨trivial, ?_⟩; gi_at_call 57; refine (callsIn_wide.2 (x_has H.out _)).mono ?_; rintro e w0 ⟨rfl, hw⟩; rw [e0, hw]; clear hw))
        go_ret
        exact ⟨rfl, x_cellF H.out HX.out HB.out HQ.out HF.out gF HO.out i t (HK.out t), kept_set _ _ _ _ hSg⟩
  · have e0 : decide (0 ≤ b ∧ b < (bl.length : Int)) = false := decide_eq_false h0
    have hE : faE bl b t = 1 := by unfold faE; rw [if_neg (by omega)]
    have hFn : faF bl fl b t = fl := by unfold faF; rw [if_neg (by rw [hE]; decide)]
    rw [hE, hFn]
    clear hE hFn hfl hB hQ hF hX hf
    gi_wp2_with (first
      | (refine ⟨trivial, ?_⟩; gi_at_call 57; refine (callsIn_wide.2 (x_has H.out _)).mono ?_; rintro e w0 ⟨rfl, hw⟩; rw [e0, hw]; clear hw)
      | (refine ⟨trivial, ?_⟩))
    go_ret
    exact ⟨rfl, H.out, Kept.refl _ _⟩
end Go.Proofs.Ytbopccjcehnfnaa.Dk
