/- Written by a program of this session. Complete of a disk. -/
import Derived.Test.YtbopccjcehnfnaaDe
namespace Go.Proofs.Ytbopccjcehnfnaa.Dk
open Go Go.RowKit Go.Shelf Go.Proofs Go.Proofs.Ytbopccjcehnfnaa.Sp Go.Proofs.Ytbopccjcehnfnaa.XFb Go.Proofs.YtbopccjcehnfnaaW.PrintWords Go.Proofs.YtbopccjcehnfnaaW.PrintLast Go.Proofs.YtbopccjcehnfnaaW.PrintMore
set_option linter.unusedVariables false
set_option linter.unusedSimpArgs false
theorem addr0 (g j : Nat) : (⟨g, 0, none⟩ : Addr).add j = ⟨g, j, none⟩ := by unfold Addr.add; by_cases h : j = 0 <;> simp [h]
set_option maxRecDepth 100000 in
set_option maxHeartbeats 8000000 in
theorem complete_none {W : World} {base D m : Nat} {S : Nat → Prop} {bl : List (List Int)} {q : List S32} {mo : Obj} {last : Int} (h : IsDk W base D m S bl q mo last) (id : Int) (ok : Bool) (hix : ixL (fun x : S32 => x.f0 == id) q 0 < 0) :
    Calls Try.prog 11 #[.pointer (some ⟨D, 0, none⟩), .int .i64 id, .bool ok] W fun e W' => e = .returned (.int .i64 20) ∧ Below W.heap.size W W' := by
  have H := Aside0.mk h
  clear h
  have t1 : decide (ixL (fun x : S32 => x.f0 == id) q 0 < 0) = true := decide_eq_true hix
  refine (callsIn_wide (n := 1)).1 ?_
  refine callsIn_of_wp Try.func11 rfl trivial ?_ rfl
  simp only [Try.ntmps11, List.size_toArray, List.length_cons, List.length_nil, Nat.reduceAdd, Nat.reduceSub, Array.replicate_succ, Array.replicate_zero, List.push_toArray, List.append_toArray, List.nil_append, List.cons_append]
  gi_wp2_with (first
    | (refine ⟨trivial, ?_⟩; gi_at_call 32; refine (callsIn_wide.2 (made_ok H.out)).mono ?_; rintro e w0 ⟨rfl, hw⟩; rw [hw]; clear hw)
    | (refine ⟨trivial, ?_⟩; gi_at_call 33; refine (callsIn_wide.2 (place_ok H.out id)).mono ?_; rintro e w1 ⟨rfl, hb⟩; have HW1 := Aside0.mk hb; clear hb))
  go_ret
  exact ⟨rfl, HW1.out⟩
set_option maxRecDepth 100000 in
set_option maxHeartbeats 8000000 in
theorem complete_some {W : World} {base D m : Nat} {S : Nat → Prop} {bl : List (List Int)} {q : List S32} {mo : Obj} {last : Int} (h : IsDk W base D m S bl q mo last) (id : Int) (ok : Bool) (k : Nat) (hk : k < q.length) (hix : ixL (fun x : S32 => x.f0 == id) q 0 = (k : Int)) :
    Calls Try.prog 11 #[.pointer (some ⟨D, 0, none⟩), .int .i64 id, .bool ok] W fun e W' => e = .returned (.int .i64 (if ok then 0 else 4)) ∧ IsDk W' base D m S (if ok then bl.set q[k].f1.toNat q[k].f2 else bl) (q.eraseIdx k) mo last ∧ Kept S W W' := by
  have H := Aside0.mk h
  obtain ⟨hf, ⟨vB, vQ, hD, hB, hQ⟩, hm, hmm, hSD, hSm, hlow⟩ := h
  obtain ⟨gB, cB, rfl, hgB1, hgB2, csB, hgBc⟩ := Kd.R_form hB (by have := hf.some; omega)
  obtain ⟨gQ, cQ, rfl, hgQ1, hgQ2, csQ, hgQc⟩ := Kd.R_form hQ (by omega)
  have hDlt := (hlow D hSD).2
  have hq64 := hf.queue
  have hSB := hB.1 gB (by simp [Value.ownBlock])
  have hSQ := hQ.1 gQ (by simp [Value.ownBlock])
  have HB := Aside0.mk (Kd.R_types (Kd.R_types hB hD (by decide)) hgQc (by decide))
  have HQ := Aside0.mk (Kd.R_types hQ hD (by decide))
  have HC := Aside0.mk (Kd.R_reads' hQ).2.2
  obtain ⟨s, hsk⟩ : ∃ s, q[k] = s := ⟨_, rfl⟩
  have hin := hf.in_ q[k] (List.getElem_mem _)
  rw [hsk] at hin ⊢
  have t1 : decide ((k : Int) < 0) = false := decide_eq_false (by omega)
  have hDQ : D ≠ gQ := fun e => by rw [e, hgQc] at hD; simp at hD
  have hDB : D ≠ gB := fun e => by rw [e, hgBc] at hD; simp at hD
  have hmD : m ≠ D := fun e => by obtain ⟨es, c, rfl⟩ := hmm; rw [e, hD] at hm; simp at hm
  have hmQ : m ≠ gQ := fun e => by obtain ⟨es, c, rfl⟩ := hmm; rw [e, hgQc] at hm; simp at hm
  have hmB : m ≠ gB := fun e => by obtain ⟨es, c, rfl⟩ := hmm; rw [e, hgBc] at hm; simp at hm
  have hBQ : gB ≠ gQ := fun e => by rw [e, hgQc] at hgBc; simp at hgBc
  clear hB hQ
  refine (callsIn_wide (n := 1)).1 ?_
  refine callsIn_of_wp Try.func11 rfl trivial ?_ rfl
  simp only [Try.ntmps11, List.size_toArray, List.length_cons, List.length_nil, Nat.reduceAdd, Nat.reduceSub, Array.replicate_succ, Array.replicate_zero, List.push_toArray, List.append_toArray, List.nil_append, List.cons_append]
  cases ok with
  | false =>
    gi_wp2_with (first
    | (refine ⟨trivial, ?_⟩; gi_at_call 32; refine (callsIn_wide.2 (made_ok H.out)).mono ?_; rintro e w0 ⟨rfl, hw⟩; rw [hw]; clear hw)
    | (refine ⟨trivial, ?_⟩; gi_at_call 33; refine (callsIn_wide.2 (place_ok H.out id)).mono ?_; rintro e w1 ⟨rfl, hb⟩; rw [hix]; have HW1 := Aside0.mk hb; have HQ1 := Aside0.mk (Kd.R_below HQ.out hb); obtain ⟨cs, hcl, hM, hcell, _⟩ := Kd.R_elem HQ1.out z32 (k : Int) (by omega) (by omega); rw [Int.toNat_natCast, show q.getD k z32 = s by rw [← hsk]; simp [List.getD_eq_getElem?_getD, hk]] at hM; obtain ⟨v2, rfl, hv2⟩ := k32_openM hM; obtain ⟨A2, c2, rfl⟩ := Kd.R_slice hv2; have hc0 := hcell 0 _ rfl; have hc1 := hcell 1 _ rfl; have hc2 := hcell 2 _ rfl; rw [Int.toNat_natCast, show (k32 : Kd S32).sz = 3 from rfl, Nat.add_zero] at hc0; rw [Int.toNat_natCast, show (k32 : Kd S32).sz = 3 from rfl] at hc1 hc2; have HV := Aside0.mk hv2; clear hM hcell hcl hv2; have d0 := (hb.block D hDlt).trans hD; have e1 : w1.cell? ⟨D, 1, none⟩ = some (.slice (some ⟨gQ, 0, none⟩) q.length cQ) := (by simp [World.cell?, d0]); have HD1 := Aside0.mk (show (w1.alloc (.cells #[.int .i64 s.f0, .int .i64 s.f1, .slice A2 s.f2.length c2] 32)).heap[D]? = _ from (heap_alloc_old _ _ _ (by have := hb.size; omega)).trans d0); have e2 : (w1.alloc (.cells #[.int .i64 s.f0, .int .i64 s.f1, .slice A2 s.f2.length c2] 32)).cell? ⟨D, 1, none⟩ = some (.slice (some ⟨gQ, 0, none⟩) q.length cQ) := (by simp [World.cell?, HD1.out]); have HQ2 := Aside0.mk (Kd.R_alloc HQ1.out (.cells #[.int .i64 s.f0, .int .i64 s.f1, .slice A2 s.f2.length c2] 32)); have HV2 := Aside0.mk (Kd.R_alloc HV.out (.cells #[.int .i64 s.f0, .int .i64 s.f1, .slice A2 s.f2.length c2] 32)); clear hb d0 HQ1 HV)
    | (refine ⟨trivial, ?_⟩; gi_at_call 34; refine (callsIn_wide.2 (delete_ok _ base _ gQ q.length cQ k q HQ2.out hk hq64 (by have := HW1.out.size; have := (hlow D hSD).1; simp; omega))).mono ?_; rintro e w2 ⟨rfl, hr, hg⟩; have HR := Aside0.mk hr; have HG := Aside0.mk hg; have HD2 := Aside0.mk ((hg.block D (by have := HW1.out.size; simp; omega) (fun e => hDQ (Option.some.inj e))).trans HD1.out); have e3 : w2.cell? ⟨D, 1, none⟩ = some (.slice (some ⟨gQ, 0, none⟩) q.length cQ) := (by simp [World.cell?, HD2.out]); have f3 : w2.frozen? ⟨D, 1, none⟩ = false := (by simp [World.frozen?, HD2.out]); clear hr hg HQ2 HD1))
    have hkW : ∀ j, j < W.heap.size → j ≠ gQ → j ≠ D → (w2.setCell ⟨D, 1, none⟩ (.slice (some ⟨gQ, 0, none⟩) (q.length - 1) cQ)).heap[j]? = W.heap[j]? := fun j hj h1 h2 =>
      (Below.heap_setCell w2 ⟨D, 1, none⟩ _ j h2).trans ((HG.out.block j (by have := HW1.out.size; simp; omega) (fun e => h1 (Option.some.inj e))).trans ((heap_alloc_old _ _ _ (by have := HW1.out.size; omega)).trans (HW1.out.block j hj)))
    have hsz3 : W.heap.size ≤ (w2.setCell ⟨D, 1, none⟩ (.slice (some ⟨gQ, 0, none⟩) (q.length - 1) cQ)).heap.size := by have := HW1.out.size; have := HG.out.size; simp only [World.size_alloc] at this; simp [World.setCell]; omega
    have hD3 : (w2.setCell ⟨D, 1, none⟩ (.slice (some ⟨gQ, 0, none⟩) (q.length - 1) cQ)).heap[D]? = some (.cells #[.slice (some ⟨gB, 0, none⟩) bl.length cB, .slice (some ⟨gQ, 0, none⟩) (q.length - 1) cQ, .map (some m), .int .i64 last] 45 (0, 0)) := Go.Proofs.Ytbopccjcehnfnaa.Nb.set_heap HD2.out _
    have hB3 : Kd.R (Kd.slice 5 (Kd.int .u8)) 30 (w2.setCell ⟨D, 1, none⟩ (.slice (some ⟨gQ, 0, none⟩) (q.length - 1) cQ)) base (fun k => (S k ∧ k ≠ D) ∧ k ≠ gQ) (.slice (some ⟨gB, 0, none⟩) bl.length cB) bl := Kd.R_step HB.out (fun j hj hlt => hkW j hlt hj.2 hj.1.2)
    have hQ3 := Kd.R_far HR.out (p := ⟨D, 1, none⟩) (fun j hj => hj.2) (.slice (some ⟨gQ, 0, none⟩) (q.length - 1) cQ)
    have hV3 : Kd.R (Kd.int .u8) 5 (w2.setCell ⟨D, 1, none⟩ (.slice (some ⟨gQ, 0, none⟩) (q.length - 1) cQ)) base (fun k => (S k ∧ k ≠ D) ∧ k ≠ gQ) (.slice A2 s.f2.length c2) s.f2 :=
      Kd.R_step HV2.out (fun j hj hlt => (Below.heap_setCell w2 ⟨D, 1, none⟩ _ j hj.1.2).trans (HG.out.block j hlt (fun e => hj.2 (Option.some.inj e))))
    have hbox : (w2.setCell ⟨D, 1, none⟩ (.slice (some ⟨gQ, 0, none⟩) (q.length - 1) cQ)).heap[w1.heap.size]? = some (.cells #[.int .i64 s.f0, .int .i64 s.f1, .slice A2 s.f2.length c2] 32 (0, 0)) :=
      (Below.heap_setCell w2 ⟨D, 1, none⟩ _ _ (by have := HW1.out.size; simp; omega)).trans ((HG.out.block _ (by simp) (fun e => by have := Option.some.inj e; have := HW1.out.size; omega)).trans (World.alloc_heap_new _ _))
    have hfq : ∀ x ∈ q.eraseIdx k, x ∈ q := fun x hx => List.mem_of_mem_eraseIdx hx
    have hf3 : Fits bl (q.eraseIdx k) last := ⟨hf.some, hf.most, hf.each, by rw [List.length_eraseIdx]; split <;> omega, fun x hx => hf.sent x (hfq x hx), fun x hx => hf.in_ x (hfq x hx), hf.low, hf.high⟩
    have hK3 : Kept S W (w2.setCell ⟨D, 1, none⟩ (.slice (some ⟨gQ, 0, none⟩) (q.length - 1) cQ)) := ⟨HG.out.os.trans HW1.out.os, HG.out.tape.trans HW1.out.tape, HG.out.output.trans HW1.out.output, hsz3, fun j hj hn => hkW j hj (fun e => hn (e ▸ hSQ)) (fun e => hn (e ▸ hSD))⟩
    have hm3 := (hkW m (hlow m hSm).2 hmQ hmD).trans hm
    generalize w2.setCell ⟨D, 1, none⟩ (.slice (some ⟨gQ, 0, none⟩) (q.length - 1) cQ) = W3 at *
    go_ret
    exact ⟨rfl, ⟨hf3, ⟨_, _, hD3, Kd.R_mono hB3 (fun j hj => hj.1.1), Kd.R_mono hQ3 (fun j hj => hj.1)⟩, hm3, hmm, hSD, hSm, fun j hj => ⟨(hlow j hj).1, Nat.lt_of_lt_of_le (hlow j hj).2 hsz3⟩⟩, hK3⟩
  | true =>
    gi_wp2_with (first
    | (refine ⟨trivial, ?_⟩; gi_at_call 32; refine (callsIn_wide.2 (made_ok H.out)).mono ?_; rintro e w0 ⟨rfl, hw⟩; rw [hw]; clear hw)
    | (refine ⟨trivial, ?_⟩; gi_at_call 33; refine (callsIn_wide.2 (place_ok H.out id)).mono ?_; rintro e w1 ⟨rfl, hb⟩; rw [hix]; have HW1 := Aside0.mk hb; have HQ1 := Aside0.mk (Kd.R_below HQ.out hb); obtain ⟨cs, hcl, hM, hcell, _⟩ := Kd.R_elem HQ1.out z32 (k : Int) (by omega) (by omega); rw [Int.toNat_natCast, show q.getD k z32 = s by rw [← hsk]; simp [List.getD_eq_getElem?_getD, hk]] at hM; obtain ⟨v2, rfl, hv2⟩ := k32_openM hM; obtain ⟨A2, c2, rfl⟩ := Kd.R_slice hv2; have hc0 := hcell 0 _ rfl; have hc1 := hcell 1 _ rfl; have hc2 := hcell 2 _ rfl; rw [Int.toNat_natCast, show (k32 : Kd S32).sz = 3 from rfl, Nat.add_zero] at hc0; rw [Int.toNat_natCast, show (k32 : Kd S32).sz = 3 from rfl] at hc1 hc2; have HV := Aside0.mk hv2; clear hM hcell hcl hv2; have d0 := (hb.block D hDlt).trans hD; have e1 : w1.cell? ⟨D, 1, none⟩ = some (.slice (some ⟨gQ, 0, none⟩) q.length cQ) := (by simp [World.cell?, d0]); have HD1 := Aside0.mk (show (w1.alloc (.cells #[.int .i64 s.f0, .int .i64 s.f1, .slice A2 s.f2.length c2] 32)).heap[D]? = _ from (heap_alloc_old _ _ _ (by have := hb.size; omega)).trans d0); have e2 : (w1.alloc (.cells #[.int .i64 s.f0, .int .i64 s.f1, .slice A2 s.f2.length c2] 32)).cell? ⟨D, 1, none⟩ = some (.slice (some ⟨gQ, 0, none⟩) q.length cQ) := (by simp [World.cell?, HD1.out]); have HQ2 := Aside0.mk (Kd.R_alloc HQ1.out (.cells #[.int .i64 s.f0, .int .i64 s.f1, .slice A2 s.f2.length c2] 32)); have HV2 := Aside0.mk (Kd.R_alloc HV.out (.cells #[.int .i64 s.f0, .int .i64 s.f1, .slice A2 s.f2.length c2] 32)); clear hb d0 HQ1 HV)
    | (refine ⟨trivial, ?_⟩; gi_at_call 34; refine (callsIn_wide.2 (delete_ok _ base _ gQ q.length cQ k q HQ2.out hk hq64 (by have := HW1.out.size; have := (hlow D hSD).1; simp; omega))).mono ?_; rintro e w2 ⟨rfl, hr, hg⟩; have HR := Aside0.mk hr; have HG := Aside0.mk hg; have HD2 := Aside0.mk ((hg.block D (by have := HW1.out.size; simp; omega) (fun e => hDQ (Option.some.inj e))).trans HD1.out); have e3 : w2.cell? ⟨D, 1, none⟩ = some (.slice (some ⟨gQ, 0, none⟩) q.length cQ) := (by simp [World.cell?, HD2.out]); have f3 : w2.frozen? ⟨D, 1, none⟩ = false := (by simp [World.frozen?, HD2.out]); clear hr hg HQ2 HD1))
    have hkW : ∀ j, j < W.heap.size → j ≠ gQ → j ≠ D → (w2.setCell ⟨D, 1, none⟩ (.slice (some ⟨gQ, 0, none⟩) (q.length - 1) cQ)).heap[j]? = W.heap[j]? := fun j hj h1 h2 =>
      (Below.heap_setCell w2 ⟨D, 1, none⟩ _ j h2).trans ((HG.out.block j (by have := HW1.out.size; simp; omega) (fun e => h1 (Option.some.inj e))).trans ((heap_alloc_old _ _ _ (by have := HW1.out.size; omega)).trans (HW1.out.block j hj)))
    have hsz3 : W.heap.size ≤ (w2.setCell ⟨D, 1, none⟩ (.slice (some ⟨gQ, 0, none⟩) (q.length - 1) cQ)).heap.size := by have := HW1.out.size; have := HG.out.size; simp only [World.size_alloc] at this; simp [World.setCell]; omega
    have hD3 : (w2.setCell ⟨D, 1, none⟩ (.slice (some ⟨gQ, 0, none⟩) (q.length - 1) cQ)).heap[D]? = some (.cells #[.slice (some ⟨gB, 0, none⟩) bl.length cB, .slice (some ⟨gQ, 0, none⟩) (q.length - 1) cQ, .map (some m), .int .i64 last] 45 (0, 0)) := Go.Proofs.Ytbopccjcehnfnaa.Nb.set_heap HD2.out _
    have hB3 : Kd.R (Kd.slice 5 (Kd.int .u8)) 30 (w2.setCell ⟨D, 1, none⟩ (.slice (some ⟨gQ, 0, none⟩) (q.length - 1) cQ)) base (fun k => (S k ∧ k ≠ D) ∧ k ≠ gQ) (.slice (some ⟨gB, 0, none⟩) bl.length cB) bl := Kd.R_step HB.out (fun j hj hlt => hkW j hlt hj.2 hj.1.2)
    have hQ3 := Kd.R_far HR.out (p := ⟨D, 1, none⟩) (fun j hj => hj.2) (.slice (some ⟨gQ, 0, none⟩) (q.length - 1) cQ)
    have hV3 : Kd.R (Kd.int .u8) 5 (w2.setCell ⟨D, 1, none⟩ (.slice (some ⟨gQ, 0, none⟩) (q.length - 1) cQ)) base (fun k => (S k ∧ k ≠ D) ∧ k ≠ gQ) (.slice A2 s.f2.length c2) s.f2 :=
      Kd.R_step HV2.out (fun j hj hlt => (Below.heap_setCell w2 ⟨D, 1, none⟩ _ j hj.1.2).trans (HG.out.block j hlt (fun e => hj.2 (Option.some.inj e))))
    have hbox : (w2.setCell ⟨D, 1, none⟩ (.slice (some ⟨gQ, 0, none⟩) (q.length - 1) cQ)).heap[w1.heap.size]? = some (.cells #[.int .i64 s.f0, .int .i64 s.f1, .slice A2 s.f2.length c2] 32 (0, 0)) :=
      (Below.heap_setCell w2 ⟨D, 1, none⟩ _ _ (by have := HW1.out.size; simp; omega)).trans ((HG.out.block _ (by simp) (fun e => by have := Option.some.inj e; have := HW1.out.size; omega)).trans (World.alloc_heap_new _ _))
    have hfq : ∀ x ∈ q.eraseIdx k, x ∈ q := fun x hx => List.mem_of_mem_eraseIdx hx
    have hf3 : Fits bl (q.eraseIdx k) last := ⟨hf.some, hf.most, hf.each, by rw [List.length_eraseIdx]; split <;> omega, fun x hx => hf.sent x (hfq x hx), fun x hx => hf.in_ x (hfq x hx), hf.low, hf.high⟩
    have hK3 : Kept S W (w2.setCell ⟨D, 1, none⟩ (.slice (some ⟨gQ, 0, none⟩) (q.length - 1) cQ)) := ⟨HG.out.os.trans HW1.out.os, HG.out.tape.trans HW1.out.tape, HG.out.output.trans HW1.out.output, hsz3, fun j hj hn => hkW j hj (fun e => hn (e ▸ hSQ)) (fun e => hn (e ▸ hSD))⟩
    have hm3 := (hkW m (hlow m hSm).2 hmQ hmD).trans hm
    generalize w2.setCell ⟨D, 1, none⟩ (.slice (some ⟨gQ, 0, none⟩) (q.length - 1) cQ) = W3 at *
    have z0 : W3.drew.cell? ⟨D, 0, none⟩ = some (.slice (some ⟨gB, 0, none⟩) bl.length cB) := show W3.cell? ⟨D, 0, none⟩ = _ by simp [World.cell?, hD3]
    have z1 : W3.drew.cell? ⟨w1.heap.size, 1, none⟩ = some (.int .i64 s.f1) := show W3.cell? _ = _ by simp [World.cell?, hbox]
    have z2 : W3.drew.cell? ⟨w1.heap.size, 2, none⟩ = some (.slice A2 s.f2.length c2) := show W3.cell? _ = _ by simp [World.cell?, hbox]
    obtain ⟨csE, hclE, ⟨vE, rfl, hvE⟩, hcellE, hfroE⟩ := Kd.R_elem hB3 ([] : List Int) s.f1 hin.1 hin.2
    have p1 : 0 ≤ s.f1 := hin.1
    have p2 : s.f1 < (bl.length : Int) := hin.2
    have e1' : s.f1.toNat * (Kd.slice 5 (Kd.int .u8)).sz + 0 = s.f1.toNat := Nat.mul_one _
    have y0 : W3.drew.cell? ⟨gB, s.f1.toNat, none⟩ = some vE := by have := hcellE 0 vE rfl; rw [e1'] at this; exact this
    have y1 : W3.drew.frozen? ⟨gB, s.f1.toNat, none⟩ = false := by have := hfroE 0; rw [e1'] at this; exact this
    clear hfroE e1' hvE
    refine wpIn_wide.2 ?_
    refine start_ (n := 10) (S := fun w' => w'.cell? ⟨D, 0, none⟩ = some (.slice (some ⟨gB, 0, none⟩) bl.length cB) ∧ w'.cell? ⟨w1.heap.size, 1, none⟩ = some (.int .i64 s.f1) ∧ w'.cell? ⟨w1.heap.size, 2, none⟩ = some (.slice A2 s.f2.length c2)) (ds := [9]) #[false, false, false, false, false, false, false, false, false, false] (by kernel_rfl) rfl rfl ⟨z0, z1, z2⟩ (fun hHeld => ?_)
    refine pure_ (i := 0) (N := some 37) (v := ?_) (a' := ?_) #[true, false, false, false, false, false, false, false, false, false] rfl rfl (by kernel_rfl) (fun _ _ _ h => h) (Or.inl ⟨by rfl, ?_⟩) ?_ ?_
    rotate_left
    · intro w'
      go_simp
      with_reducible rfl
    rotate_left
    · simp only [Act.put, List.setIfInBounds_toArray, List.set_cons_zero, List.set_cons_succ, i64_w, i32_w]
      rfl
    refine pure_ (i := 1) (N := some 38) (v := ?_) (a' := ?_) #[true, true, false, false, false, false, false, false, false, false] rfl rfl (by kernel_rfl) (fun _ _ _ h => h) (Or.inl ⟨by rfl, ?_⟩) ?_ ?_
    rotate_left
    · intro w'
      go_simp
      with_reducible rfl
    rotate_left
    · simp only [Act.put, List.setIfInBounds_toArray, List.set_cons_zero, List.set_cons_succ, i64_w, i32_w]
      rfl
    refine pure_ (i := 2) (N := some 39) (v := ?_) (a' := ?_) #[true, true, true, false, false, false, false, false, false, false] rfl rfl (by kernel_rfl) (fun _ _ _ h => h) (Or.inl ⟨by rfl, ?_⟩) ?_ ?_
    rotate_left
    · intro w'
      go_simp
      with_reducible rfl
    rotate_left
    · simp only [Act.put, List.setIfInBounds_toArray, List.set_cons_zero, List.set_cons_succ, i64_w, i32_w]
      rfl
    refine pure_ (i := 4) (N := some 41) (v := ?_) (a' := ?_) #[true, true, true, false, true, false, false, false, false, false] rfl rfl (by kernel_rfl) (fun _ _ _ h => h) (Or.inl ⟨by rfl, ?_⟩) ?_ ?_
    rotate_left
    · intro w'
      go_simp
      with_reducible rfl
    rotate_left
    · simp only [Act.put, List.setIfInBounds_toArray, List.set_cons_zero, List.set_cons_succ, i64_w, i32_w]
      rfl
    refine pure_ (i := 6) (N := some 43) (v := ?_) (a' := ?_) #[true, true, true, false, true, false, true, false, false, false] rfl rfl (by kernel_rfl) (fun _ _ _ h => h) (Or.inl ⟨by rfl, ?_⟩) ?_ ?_
    rotate_left
    · intro w'
      go_simp
      with_reducible rfl
    rotate_left
    · simp only [Act.put, List.setIfInBounds_toArray, List.set_cons_zero, List.set_cons_succ, i64_w, i32_w]
      rfl
    refine take_ (i := 3) (N := some 40) (v := ?_) (a' := ?_) #[true, true, true, true, true, false, true, false, false, false] rfl rfl (by kernel_rfl) (fun _ _ _ h => h) (Or.inl ⟨by rfl, ?_⟩) hHeld ?_ ?_
    rotate_left
    · rintro w' ⟨s0, s1, s2⟩
      go_simp
      with_reducible rfl
    rotate_left
    · simp only [Act.put, List.setIfInBounds_toArray, List.set_cons_zero, List.set_cons_succ, i64_w, i32_w]
      rfl
    refine take_ (i := 5) (N := some 42) (v := ?_) (a' := ?_) #[true, true, true, true, true, true, true, false, false, false] rfl rfl (by kernel_rfl) (fun _ _ _ h => h) (Or.inl ⟨by rfl, ?_⟩) hHeld ?_ ?_
    rotate_left
    · rintro w' ⟨s0, s1, s2⟩
      go_simp
      with_reducible rfl
    rotate_left
    · simp only [Act.put, List.setIfInBounds_toArray, List.set_cons_zero, List.set_cons_succ, i64_w, i32_w]
      rfl
    refine take_ (i := 7) (N := some 44) (v := ?_) (a' := ?_) #[true, true, true, true, true, true, true, true, false, false] rfl rfl (by kernel_rfl) (fun _ _ _ h => h) (Or.inl ⟨by rfl, ?_⟩) hHeld ?_ ?_
    rotate_left
    · rintro w' ⟨s0, s1, s2⟩
      go_simp
      with_reducible rfl
    rotate_left
    · simp only [Act.put, List.setIfInBounds_toArray, List.set_cons_zero, List.set_cons_succ, i64_w, i32_w]
      rfl
    refine pure_ (i := 8) (N := some 45) (v := ?_) (a' := ?_) #[true, true, true, true, true, true, true, true, true, false] rfl rfl (by kernel_rfl) (fun _ _ _ h => h) (Or.inl ⟨by rfl, ?_⟩) ?_ ?_
    rotate_left
    · intro w'
      go_simp
      with_reducible rfl
    rotate_left
    · simp only [Act.put, List.setIfInBounds_toArray, List.set_cons_zero, List.set_cons_succ, i64_w, i32_w]
      rfl
    refine last_ (i := 9) (N := none) #[true, true, true, true, true, true, true, true, true, true] rfl rfl (by kernel_rfl) (by decide) (fun K hK => ?_)
    refine skip_ (w1 := ?_) (by rfl) rfl ?_ ?_
    rotate_left
    · go_simp
      rfl
    refine hK.out _ _ ?_
    clear hK K
    refine done_ (by kernel_rfl) ?_

    gi_wp2
    go_ret
    have hgB3 := (hkW gB hgB2 hBQ (fun e => hDB e.symm)).trans hgBc
    have hV4 := Kd.R_types hV3 hgB3 (by decide)
    obtain ⟨hB4, hg4⟩ := Kd.R_seg (okp := fun k => ((S k ∧ k ≠ D) ∧ k ≠ gQ) ∧ k ≠ gB) (j := 0) (seg := [.slice A2 s.f2.length c2]) hB3 s.f1 hin.1 hin.2 hclE hcellE (show (0 + 1 : Nat) ≤ 1 by decide) (x' := s.f2) ⟨.slice A2 s.f2.length c2, rfl, hV4⟩ (fun k hk => hk)
    have e4 : W3.setCells gB (s.f1.toNat * (Kd.slice 5 (Kd.int .u8)).sz + 0) [.slice A2 s.f2.length c2] = W3.setCell ⟨gB, s.f1.toNat, none⟩ (.slice A2 s.f2.length c2) := by
      show W3.setCell ⟨gB, s.f1.toNat * 1 + 0, none⟩ _ = _
      rw [Nat.mul_one, Nat.add_zero]
    rw [e4] at hB4 hg4
    have hQ4 := Kd.R_far (Kd.R_types hQ3 hgB3 (by decide)) (p := ⟨gB, s.f1.toNat, none⟩) (fun j hj => hj.2) (.slice A2 s.f2.length c2)
    have hsz4 := hg4.size
    have hfar4 : ∀ j, j ≠ gB → (W3.setCell ⟨gB, s.f1.toNat, none⟩ (.slice A2 s.f2.length c2)).heap[j]? = W3.heap[j]? := fun j hj => Below.heap_setCell W3 ⟨gB, s.f1.toNat, none⟩ _ j hj
    have hf4 : Fits (bl.set s.f1.toNat s.f2) (q.eraseIdx k) last := ⟨by rw [List.length_set]; exact hf.some, by rw [List.length_set]; exact hf.most, fun x hx => by
        rcases List.mem_or_eq_of_mem_set hx with hx | rfl
        · exact hf.each x hx
        · rw [← hsk]; exact hf.sent _ (List.getElem_mem _), hf3.queue, hf3.sent, fun x hx => by rw [List.length_set]; exact hf3.in_ x hx, hf.low, hf.high⟩
    generalize W3.setCell ⟨gB, s.f1.toNat, none⟩ (.slice A2 s.f2.length c2) = W4 at *
    have hI : IsDk W4 base D m S (bl.set s.f1.toNat s.f2) (q.eraseIdx k) mo last :=
      ⟨hf4, ⟨_, _, (hfar4 D hDB).trans hD3, Kd.R_mono hB4 (fun j hj => hj.1.1), Kd.R_mono hQ4 (fun j hj => hj.1.1)⟩, (hfar4 m hmB).trans hm3, hmm, hSD, hSm, fun j hj => ⟨(hlow j hj).1, by have := (hlow j hj).2; omega⟩⟩
    have hbd : Below W4.heap.size W4 W4.drew := below_drew (Below.refl _ _)
    refine ⟨rfl, hI.below hbd, (hK3.trans (Kept.of_grown (S := S) hg4 (fun j hj => by injection hj with hj; exact hj ▸ hSB)) (fun j hj => .inl hj)).trans (Kept.of_below (S := S) hbd) (fun j hj => .inl hj)⟩
end Go.Proofs.Ytbopccjcehnfnaa.Dk
