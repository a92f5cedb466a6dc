/- Written by a program of this session. The reference's disk: Complete. -/
import Derived.Test.YtbopccjcehnfnaaXc
namespace Go.Proofs.Ytbopccjcehnfnaa.Dk
open Go Go.RowKit Go.Shelf Go.Proofs Go.Maps Go.Proofs.Ytbopccjcehnfnaa.Sp Go.Proofs.Ytbopccjcehnfnaa.XFb Go.Proofs.YtbopccjcehnfnaaW.PrintWords Go.Proofs.YtbopccjcehnfnaaW.PrintLast Go.Proofs.YtbopccjcehnfnaaW.PrintMore
set_option linter.unusedVariables false
set_option linter.unusedSimpArgs false
theorem below_base {n m : Nat} (hm : n ≤ m) {W W' : World} (h : Below m W W') : Below n W W' := ⟨h.os, h.tape, h.output, h.size, fun k hk => h.block k (by omega)⟩
theorem grown_below {W W' : World} (h : W.grownBy W' none) : Below W.heap.size W W' := ⟨h.os, h.tape, h.output, h.size, fun k hk => h.block k hk (by simp)⟩
theorem rows_take {α : Type} {R : α → List Value → Prop} {sz : Nat} {w : World} {A : Option Addr} {n : Nat} {ps : List α} (h : ReadsRow R sz w A n ps) (k : Nat) (hk : k ≤ n) : ReadsRow R sz w A k (ps.take k) :=
  ⟨by rw [List.length_take, h.1]; omega, by have := h.2.1; omega, fun h0 => by
    obtain ⟨ad, e, hc⟩ := h.2.2 (by omega)
    refine ⟨ad, e, fun j p hj => hc j p ?_⟩
    rw [List.getElem?_take] at hj
    split at hj
    · exact hj
    · cases hj⟩
theorem rows_drop {α : Type} {R : α → List Value → Prop} {sz : Nat} {w : World} {g : Nat} {n : Nat} {ps : List α} (h : ReadsRow R sz w (some ⟨g, 0, none⟩) n ps) (k : Nat) (hk : k ≤ n) : ReadsRow R sz w (some ⟨g, k * sz, none⟩) (n - k) (ps.drop k) :=
  ⟨by rw [List.length_drop, h.1], by have := h.2.1; omega, fun h0 => by
    obtain ⟨ad, e, hc⟩ := h.2.2 (by omega)
    injection e with e
    subst e
    refine ⟨_, rfl, fun j p hj => ?_⟩
    rw [List.getElem?_drop] at hj
    obtain ⟨c, h1, h2, h3⟩ := hc (k + j) p hj
    refine ⟨c, h1, h2, fun i u hu => ?_⟩
    have h4 := h3 i u hu
    rw [addr0] at h4
    rw [show (⟨g, k * sz, none⟩ : Addr).add (j * sz + i) = ⟨g, (k + j) * sz + i, none⟩ by
      rw [show (k + j) * sz + i = k * sz + (j * sz + i) by rw [Nat.add_mul]; omega]
      generalize j * sz + i = t
      unfold Addr.add
      by_cases hz : t = 0 <;> simp [hz]]
    exact h4⟩
theorem rows_cut {α : Type} {R : α → List Value → Prop} {sz : Nat} {w : World} {g : Nat} {n : Nat} {ps : List α} (h : ReadsRow R sz w (some ⟨g, 0, none⟩) n ps) (k c : Nat) (hk : k ≤ n) (hc : n ≤ c) : ReadsRow R sz w (if c = k then some ⟨g, 0, none⟩ else some ⟨g, k * sz, none⟩) (n - k) (ps.drop k) := by
  have h1 := rows_drop h k hk
  split
  · exact ⟨h1.1, h1.2.1, fun h0 => absurd h0 (by omega)⟩
  · exact h1
theorem IsX.grow {W : World} {base X : Nat} {S : Nat → Prop} {bl : List (List Int)} {q : List S32} {fl : List Int} {last : Int} (h : IsX W base X S bl q fl last) {S' : Nat → Prop} (hs : ∀ k, S k → S' k) (hl : ∀ k, S' k → base ≤ k ∧ k < W.heap.size) : IsX W base X S' bl q fl last := by
  obtain ⟨h1, h0, ⟨vB, vQ, vF, hD, hB, hQ, hF⟩, h2, h4⟩ := h
  exact ⟨h1, h0, ⟨vB, vQ, vF, hD, Kd.R_mono hB hs, Kd.R_mono hQ hs, Kd.R_mono hF hs⟩, hs X h2, hl⟩
/-- The cell of a block in a row of blocks. -/
theorem at_block {W : World} {base : Nat} {S : Nat → Prop} {g n cap : Nat} {bl : List (List Int)} (h : Kd.R (Kd.slice 5 (Kd.int .u8)) 30 W base S (.slice (some ⟨g, 0, none⟩) n cap) bl) (i : Int) (h0 : 0 ≤ i) (h1 : i < n) : ∃ vE, W.cell? ⟨g, i.toNat, none⟩ = some vE ∧ W.frozen? ⟨g, i.toNat, none⟩ = false := by
  obtain ⟨cs, hcl, ⟨vE, rfl, _⟩, hcell, hfro⟩ := Kd.R_elem h ([] : List Int) i h0 h1
  refine ⟨vE, ?_, ?_⟩
  · have h3 := hcell 0 _ rfl
    rwa [show i.toNat * (Kd.slice 5 (Kd.int .u8)).sz + 0 = i.toNat from Nat.mul_one _] at h3
  · have h3 := hfro 0
    rwa [show i.toNat * (Kd.slice 5 (Kd.int .u8)).sz + 0 = i.toNat from Nat.mul_one _] at h3
/-- Behind a block's bytes written into the row of blocks. -/
theorem x_cellB {W : World} {base X : Nat} {S : Nat → Prop} {bl : List (List Int)} {q : List S32} {fl : List Int} {last : Int} (h : IsX W base X S bl q fl last) {vB vQ vF : Value} (hX : W.heap[X]? = some (.cells #[vB, vQ, vF, .int .i64 last] 81 (0, 0))) (hB : Kd.R (Kd.slice 5 (Kd.int .u8)) 30 W base S vB bl) (hQ : Kd.R k32 32 W base S vQ q) (hF : Kd.R (Kd.int .i64) 3 W base S vF fl) (g cap : Nat) (hg : vB = .slice (some ⟨g, 0, none⟩) bl.length cap) (i : Int) (h0 : 0 ≤ i) (h1 : i < bl.length) (A : Option Addr) (c : Nat) (x : List Int) (hx : x.length = 128) {okp : Nat → Prop}
    (hR : Kd.R (Kd.int .u8) 5 W base okp (.slice A x.length c) x) (hok : ∀ k, okp k → S k ∧ k ≠ g) :
    IsX (W.setCell ⟨g, i.toNat, none⟩ (.slice A x.length c)) base X S (bl.set i.toNat x) q fl last := by
  obtain ⟨fits, fails, _, inX, low⟩ := h
  subst hg
  have hne := Kd.R_ne hB hX (by decide)
  have hXg : X ≠ g := fun e => hne (by rw [e]; simp [Value.ownBlock])
  have hQ2 := Kd.R_apart' hQ (Kd.R_typed hB) (by decide)
  have hF2 := Kd.R_apart' hF (Kd.R_typed hB) (by decide)
  obtain ⟨cs, hcl, ⟨vE, rfl, _⟩, hcell, hfro⟩ := Kd.R_elem hB ([] : List Int) i h0 h1
  obtain ⟨hB6, _⟩ := Kd.R_seg (okp := okp) (j := 0) (seg := [.slice A x.length c]) hB i h0 h1 hcl hcell (show (0 + 1 : Nat) ≤ 1 by decide) (x' := x) ⟨_, rfl, hR⟩ (fun k hk => ⟨(hok k hk).1, fun e => (hok k hk).2 (by simpa [Value.ownBlock] using e)⟩)
  have e4 : W.setCells g (i.toNat * (Kd.slice 5 (Kd.int .u8)).sz + 0) [.slice A x.length c] = W.setCell ⟨g, i.toNat, none⟩ (.slice A x.length c) := by
    show W.setCell ⟨g, i.toNat * 1 + 0, none⟩ _ = _
    rw [Nat.mul_one, Nat.add_zero]
  rw [e4] at hB6
  refine ⟨⟨by rw [List.length_set]; exact fits.some, by rw [List.length_set]; exact fits.most, fun y hy => ?_, fits.queue, fits.sent, fun s hs => by rw [List.length_set]; exact fits.in_ s hs, fits.low, fits.high⟩, by rw [List.length_set]; exact fails, ⟨_, vQ, vF, (Below.heap_setCell W ⟨g, i.toNat, none⟩ _ X hXg).trans hX, hB6, ?_, ?_⟩, inX, fun k hk => by have := low k hk; simpa [World.setCell] using this⟩
  · rcases List.mem_or_eq_of_mem_set hy with hy | rfl
    · exact fits.each y hy
    · exact hx
  · exact Kd.R_mono (Kd.R_far hQ2 (p := ⟨g, i.toNat, none⟩) (fun j hj e => hj.2 (by rw [e]; simp [Value.ownBlock])) _) (fun j hj => hj.1)
  · exact Kd.R_mono (Kd.R_far hF2 (p := ⟨g, i.toNat, none⟩) (fun j hj e => hj.2 (by rw [e]; simp [Value.ownBlock])) _) (fun j hj => hj.1)
set_option maxRecDepth 100000 in
set_option maxHeartbeats 8000000 in
theorem x_complete_none {W : World} {base X : Nat} {S : Nat → Prop} {bl : List (List Int)} {q : List S32} {fl : List Int} {last : Int} (h : IsX W base X S bl q fl last) (id : Int) (ok : Bool) (hix0 : ixL (fun x : S32 => x.f0 == id) q 0 < 0) :
    Calls Try.prog 43 #[.pointer (some ⟨X, 0, none⟩), .int .i64 id, .bool ok] W fun e W' => e = .returned (.int .i64 20) ∧ Below W.heap.size W W' := by
  have H := Aside0.mk h
  obtain ⟨ix, hix⟩ : ∃ ix, ixL (fun x : S32 => x.f0 == id) q 0 = ix := ⟨_, rfl⟩
  rw [hix] at hix0
  have t1 : decide (ix < 0) = true := decide_eq_true hix0
  clear h
  refine (callsIn_wide (n := 1)).1 ?_
  refine callsIn_of_wp Try.func43 rfl trivial ?_ rfl
  simp only [Try.ntmps43, List.size_toArray, List.length_cons, List.length_nil, Nat.reduceAdd, Nat.reduceSub, Array.replicate_succ, Array.replicate_zero, List.push_toArray, List.append_toArray, List.nil_append, List.cons_append]
  gi_wp2_with (first
    | (refine ⟨trivial, ?_⟩; gi_at_call 58; refine (callsIn_wide.2 (x_find H.out id)).mono ?_; rintro e w1 ⟨rfl, hb⟩; rw [hix]; have HB1 := Aside0.mk hb; clear hb))
  go_ret
  exact ⟨rfl, HB1.out⟩
set_option maxRecDepth 100000 in
set_option maxHeartbeats 8000000 in
theorem x_complete {W : World} {base X : Nat} {S : Nat → Prop} {bl : List (List Int)} {q : List S32} {fl : List Int} {last : Int} (h : IsX W base X S bl q fl last) (id : Int) (ok : Bool) (i : Nat) (hi : i < q.length) (hix : ixL (fun x : S32 => x.f0 == id) q 0 = (i : Int)) :
    Calls Try.prog 43 #[.pointer (some ⟨X, 0, none⟩), .int .i64 id, .bool ok] W fun e W' => e = .returned (.int .i64 (if ok then 0 else 4)) ∧ IsX W' base X (fun k => S k ∨ (W.heap.size ≤ k ∧ k < W'.heap.size)) (if ok then bl.set q[i].f1.toNat q[i].f2 else bl) (q.eraseIdx i) fl last ∧ Kept S W W' := by
  have H := Aside0.mk h
  obtain ⟨hf, hfl, ⟨vB, vQ, vF, hX, hB, hQ, hF⟩, hiX, hlow⟩ := h
  obtain ⟨gQ, cQ, A2, c2, rfl, hgQl, hSQ, k0, k1, k2, hc2, hR2⟩ := at_sent hQ i hi
  obtain ⟨gB, cB, rfl, hgB1, hgB2, csB, hgBc⟩ := Kd.R_form hB (by have := hf.some; omega)
  have hq64 := hf.queue
  have hXlt := (hlow X hiX).2
  have hbX := (hlow X hiX).1
  have hin := hf.in_ q[i] (List.getElem_mem _)
  have hs128 := hf.sent q[i] (List.getElem_mem _)
  have he1 : q.take i ++ q.drop (i + 1) = q.eraseIdx i := (List.eraseIdx_eq_take_drop_succ q i).symm
  have HE1 := Aside0.mk he1
  generalize q[i] = s at *
  have hcQ := (Kd.R_reads' hQ).2.1
  have c1 : W.cell? ⟨X, 1, none⟩ = some (.slice (some ⟨gQ, 0, none⟩) q.length cQ) := by simp [World.cell?, hX]
  have t1 : decide ((i : Int) < 0) = false := decide_eq_false (by omega)
  have p0 : (0 : Int) ≤ (i : Int) := by omega
  have p1 : (i : Int) < (q.length : Int) := by omega
  have f1 : 0 ≤ (i : Int) + 1 := by omega
  have f2 : (i : Int) + 1 ≤ (q.length : Int) := by omega
  have f3 : i + 1 ≤ q.length := hi
  have f4 : i + 1 ≤ cQ := by omega
  have f5 : i ≤ cQ := by omega
  have ew : wrap64 ((i : Int) + 1) = (i : Int) + 1 := IntWalk.wrap64_in _ (by omega)
  have HX := Aside0.mk hX
  have HBL0 := Aside0.mk hB
  have HQ := Aside0.mk hQ
  have HF := Aside0.mk hF
  have HR2 := Aside0.mk hR2
  have HFIT := Aside0.mk (And.intro hf (And.intro hfl hlow))
  have HSQ := Aside0.mk hSQ
  have HS128 := Aside0.mk hs128
  clear hX hB hQ hF hR2 hf hfl hlow hSQ he1 hs128
  refine (callsIn_wide (n := 1)).1 ?_
  refine callsIn_of_wp Try.func43 rfl trivial ?_ rfl
  simp only [Try.ntmps43, List.size_toArray, List.length_cons, List.length_nil, Nat.reduceAdd, Nat.reduceSub, Array.replicate_succ, Array.replicate_zero, List.push_toArray, List.append_toArray, List.nil_append, List.cons_append]
  gi_wp2_with (first
    | (refine ⟨trivial, ?_⟩; gi_at_call 58; refine (callsIn_wide.2 (x_find H.out id)).mono ?_; rintro e w1 ⟨rfl, hb⟩; rw [hix]; have HB1 := Aside0.mk hb; clear hb; have d1 := (HB1.out.cell (p := ⟨X, 1, none⟩) hXlt).trans c1; have j0 := (HB1.out.cell (p := ⟨gQ, i * 3, none⟩) hgQl).trans k0; have j1 := (HB1.out.cell (p := ⟨gQ, i * 3 + 1, none⟩) hgQl).trans k1; have j2 := (HB1.out.cell (p := ⟨gQ, i * 3 + 2, none⟩) hgQl).trans k2))
  have hbz : Below W.heap.size W (w1.alloc (.cells #[.int .i64 s.f0, .int .i64 s.f1, .slice A2 s.f2.length c2] 32)) := below_step HB1.out (below_alloc (Below.refl w1.heap.size w1) (.cells #[.int .i64 s.f0, .int .i64 s.f1, .slice A2 s.f2.length c2] 32))
  have hz3 := World.alloc_heap_new w1 (.cells #[.int .i64 s.f0, .int .i64 s.f1, .slice A2 s.f2.length c2] 32)
  have hzW := HB1.out.size
  have hz1 : w1.heap.size < (w1.alloc (.cells #[.int .i64 s.f0, .int .i64 s.f1, .slice A2 s.f2.length c2] 32)).heap.size := by simp
  clear d1 j0 j1 j2 c1 k0 k1 k2 HB1
  generalize w1.alloc (.cells #[.int .i64 s.f0, .int .i64 s.f1, .slice A2 s.f2.length c2] 32) = W3 at *
  generalize w1.heap.size = z at *
  have HBZ := Aside0.mk hbz
  have HZ3 := Aside0.mk hz3
  have hs3 := hbz.size
  have hbase3 : base ≤ W3.heap.size := by omega
  have hX3lt : X < W3.heap.size := by omega
  have HX3 := Aside0.mk ((hbz.block X hXlt).trans HX.out)
  have hQ3 := Kd.R_mono (Kd.R_bound (Kd.R_types (Kd.R_below HQ.out hbz) HX3.out (by decide))) (fun k hk => (⟨hk.1, hk.2.2.1⟩ : (S k ∧ k ≠ X) ∧ k < W3.heap.size))
  have hQR : ∀ W1, Below W3.heap.size W3 W1 → ReadsRow ((k32 : Kd S32).M W1 base (fun k => (S k ∧ k ≠ X) ∧ k < W3.heap.size)) (k32 : Kd S32).sz W1 (some ⟨gQ, 0, none⟩) q.length q := fun W1 hb => by
    obtain ⟨A, c, e, _, hr⟩ := (Kd.R_below hQ3 hb).2.reads
    injection e with e1 e2 e3
    subst e1
    exact ReadsRow.imp_ hr (Below.refl _ _) (fun p cs hp => (k32 : Kd S32).M_mono (fun k hk => hk.1) hp)
  have HQR := Aside0.mk hQR
  have rd1 : ∀ W1, Below W3.heap.size W3 W1 → W1.cell? ⟨X, 1, none⟩ = some (.slice (some ⟨gQ, 0, none⟩) q.length cQ) := fun W1 hb => by simp [World.cell?, (hb.block X hX3lt).trans HX3.out]
  clear hQ3 hQR hbz hz3
  refine wpIn_wide.2 ?_
  refine start_ (n := 20) (S := fun w' => w'.cell? ⟨X, 1, none⟩ = some (.slice (some ⟨gQ, 0, none⟩) q.length cQ)) (ds := [19]) #[false, false, false, false, false, false, false, false, false, false, false, false, false, false, false, false, false, false, false, false] (by kernel_rfl) rfl rfl ((rd1 _ (below_drew (Below.refl W3.heap.size W3)))) (fun hHeld => ?_)
  refine pure_ (i := 0) (N := some 21) (v := ?_) (a' := ?_) #[true, false, false, false, false, false, false, false, false, false, false, false, false, false, false, false, false, false, false, false] rfl rfl (by kernel_rfl) (fun _ _ _ h => h) (Or.inl ⟨by rfl, ?_⟩) ?_ ?_
  rotate_left
  · intro w'
    go_simp
    with_reducible rfl
  rotate_left
  · simp only [Act.put, List.setIfInBounds_toArray, List.set_cons_zero, List.set_cons_succ, i64_w, i32_w]
    rfl
  refine pure_ (i := 2) (N := some 23) (v := ?_) (a' := ?_) #[true, false, true, false, false, false, false, false, false, false, false, false, false, false, false, false, false, false, false, false] rfl rfl (by kernel_rfl) (fun _ _ _ h => h) (Or.inl ⟨by rfl, ?_⟩) ?_ ?_
  rotate_left
  · intro w'
    go_simp
    with_reducible rfl
  rotate_left
  · simp only [Act.put, List.setIfInBounds_toArray, List.set_cons_zero, List.set_cons_succ, i64_w, i32_w]
    rfl
  refine pure_ (i := 3) (N := some 24) (v := ?_) (a' := ?_) #[true, false, true, true, false, false, false, false, false, false, false, false, false, false, false, false, false, false, false, false] rfl rfl (by kernel_rfl) (fun _ _ _ h => h) (Or.inl ⟨by rfl, ?_⟩) ?_ ?_
  rotate_left
  · intro w'
    go_simp
    with_reducible rfl
  rotate_left
  · simp only [Act.put, List.setIfInBounds_toArray, List.set_cons_zero, List.set_cons_succ, i64_w, i32_w]
    rfl
  refine pure_ (i := 4) (N := some 25) (v := ?_) (a' := ?_) #[true, false, true, true, true, false, false, false, false, false, false, false, false, false, false, false, false, false, false, false] rfl rfl (by kernel_rfl) (fun _ _ _ h => h) (Or.inl ⟨by rfl, ?_⟩) ?_ ?_
  rotate_left
  · intro w'
    go_simp
    with_reducible rfl
  rotate_left
  · simp only [Act.put, List.setIfInBounds_toArray, List.set_cons_zero, List.set_cons_succ, i64_w, i32_w]
    rfl
  refine pure_ (i := 6) (N := some 27) (v := ?_) (a' := ?_) #[true, false, true, true, true, false, true, false, false, false, false, false, false, false, false, false, false, false, false, false] rfl rfl (by kernel_rfl) (fun _ _ _ h => h) (Or.inl ⟨by rfl, ?_⟩) ?_ ?_
  rotate_left
  · intro w'
    go_simp
    with_reducible rfl
  rotate_left
  · simp only [Act.put, List.setIfInBounds_toArray, List.set_cons_zero, List.set_cons_succ, i64_w, i32_w]
    rfl
  refine pure_ (i := 9) (N := some 30) (v := ?_) (a' := ?_) #[true, false, true, true, true, false, true, false, false, true, false, false, false, false, false, false, false, false, false, false] rfl rfl (by kernel_rfl) (fun _ _ _ h => h) (Or.inl ⟨by rfl, ?_⟩) ?_ ?_
  rotate_left
  · intro w'
    go_simp
    with_reducible rfl
  rotate_left
  · simp only [Act.put, List.setIfInBounds_toArray, List.set_cons_zero, List.set_cons_succ, i64_w, i32_w]
    rfl
  refine pure_ (i := 10) (N := some 31) (v := ?_) (a' := ?_) #[true, false, true, true, true, false, true, false, false, true, true, false, false, false, false, false, false, false, false, false] rfl rfl (by kernel_rfl) (fun _ _ _ h => h) (Or.inl ⟨by rfl, ?_⟩) ?_ ?_
  rotate_left
  · intro w'
    go_simp
    with_reducible rfl
  rotate_left
  · simp only [Act.put, List.setIfInBounds_toArray, List.set_cons_zero, List.set_cons_succ, i64_w, i32_w]
    rfl
  refine pure_ (i := 11) (N := some 32) (v := ?_) (a' := ?_) #[true, false, true, true, true, false, true, false, false, true, true, true, false, false, false, false, false, false, false, false] rfl rfl (by kernel_rfl) (fun _ _ _ h => h) (Or.inl ⟨by rfl, ?_⟩) ?_ ?_
  rotate_left
  · intro w'
    go_simp
    with_reducible rfl
  rotate_left
  · simp only [Act.put, List.setIfInBounds_toArray, List.set_cons_zero, List.set_cons_succ, i64_w, i32_w]
    rfl
  refine pure_ (i := 13) (N := some 34) (v := ?_) (a' := ?_) #[true, false, true, true, true, false, true, false, false, true, true, true, false, true, false, false, false, false, false, false] rfl rfl (by kernel_rfl) (fun _ _ _ h => h) (Or.inl ⟨by rfl, ?_⟩) ?_ ?_
  rotate_left
  · intro w'
    go_simp
    with_reducible rfl
  rotate_left
  · simp only [Act.put, List.setIfInBounds_toArray, List.set_cons_zero, List.set_cons_succ, i64_w, i32_w]
    rfl
  refine pure_ (i := 14) (N := some 35) (v := ?_) (a' := ?_) #[true, false, true, true, true, false, true, false, false, true, true, true, false, true, true, false, false, false, false, false] rfl rfl (by kernel_rfl) (fun _ _ _ h => h) (Or.inl ⟨by rfl, ?_⟩) ?_ ?_
  rotate_left
  · intro w'
    go_simp
    with_reducible rfl
  rotate_left
  · simp only [Act.put, List.setIfInBounds_toArray, List.set_cons_zero, List.set_cons_succ, i64_w, i32_w]
    rfl
  refine take_ (i := 5) (N := some 26) (v := ?_) (a' := ?_) #[true, false, true, true, true, true, true, false, false, true, true, true, false, true, true, false, false, false, false, false] rfl rfl (by kernel_rfl) (fun _ _ _ h => h) (Or.inl ⟨by rfl, ?_⟩) hHeld ?_ ?_
  rotate_left
  · intro w' s0
    go_simp
    with_reducible rfl
  rotate_left
  · simp only [Act.put, List.setIfInBounds_toArray, List.set_cons_zero, List.set_cons_succ, i64_w, i32_w]
    rfl
  refine pure_ (i := 7) (N := some 28) (v := ?_) (a' := ?_) #[true, false, true, true, true, true, true, true, false, true, true, true, false, true, true, false, false, false, false, false] rfl rfl (by kernel_rfl) (fun _ _ _ h => h) (Or.inl ⟨by rfl, ?_⟩) ?_ ?_
  rotate_left
  · intro w'
    go_simp
    with_reducible rfl
  rotate_left
  · simp only [Act.put, List.setIfInBounds_toArray, List.set_cons_zero, List.set_cons_succ, i64_w, i32_w]
    rfl
  refine take_ (i := 12) (N := some 33) (v := ?_) (a' := ?_) #[true, false, true, true, true, true, true, true, false, true, true, true, true, true, true, false, false, false, false, false] rfl rfl (by kernel_rfl) (fun _ _ _ h => h) (Or.inl ⟨by rfl, ?_⟩) hHeld ?_ ?_
  rotate_left
  · intro w' s0
    go_simp
    with_reducible rfl
  rotate_left
  · simp only [Act.put, List.setIfInBounds_toArray, List.set_cons_zero, List.set_cons_succ, i64_w, i32_w]
    rfl
  refine pure_ (i := 15) (N := some 36) (v := ?_) (a' := ?_) #[true, false, true, true, true, true, true, true, false, true, true, true, true, true, true, true, false, false, false, false] rfl rfl (by kernel_rfl) (fun _ _ _ h => h) (Or.inl ⟨by rfl, ?_⟩) ?_ ?_
  rotate_left
  · intro w'
    go_simp
    with_reducible rfl
  rotate_left
  · simp only [Act.put, List.setIfInBounds_toArray, List.set_cons_zero, List.set_cons_succ, i64_w, i32_w]
    rfl
  refine one_ (i := 1) (N := some 22) #[true, true, true, true, true, true, true, true, false, true, true, true, true, true, true, true, false, false, false, false] rfl rfl (by kernel_rfl) (by decide) (fun K hK => ?_)
  clear ew
  refine Kd.R_lit_step k32 (w0 := W3) base 32 (by rfl) (N := 22) rfl (xs := []) (inner := []) (ok := (fun k => k ≠ X ∧ (S k ∨ W3.heap.size ≤ k))) (okp := fun _ => False) ?hr (Reps.none _ _) (fun _ hk => hk.elim) ?fresh (below_drew (Below.refl W3.heap.size W3) |> below_base hbase3) hbase3 (by simp) ?_
  case hr => first | (go_simp; done) | (go_simp; rfl)
  case fresh => exact ⟨by have := hX3lt; show W3.heap.size ≠ X; omega, .inr (Nat.le_refl _)⟩
  intro v22 w4 hr4 hb4 hg4 hn4
  have HR4 := Aside0.mk hr4
  have HB4 := Aside0.mk (below_step (below_drew (Below.refl W3.heap.size W3)) (grown_below hg4))
  have HN4 := Aside0.mk (show ∃ b, v22.ownBlock = some b ∧ W3.heap.size ≤ b from hn4)
  clear hr4 hb4 hg4 hn4
  refine hK.out _ _ ((rd1 _ HB4.out)) (fun hHeld => ?_)
  clear hK K
  refine norm_ (a' := ?_) ?_ ?_
  rotate_left
  · show Act.put _ (some 22) _ = _
    simp only [Act.put, List.setIfInBounds_toArray, List.set_cons_zero, List.set_cons_succ, i64_w, i32_w]
    rfl
  refine one_ (i := 8) (N := some 29) #[true, true, true, true, true, true, true, true, true, true, true, true, true, true, true, true, false, false, false, false] rfl rfl (by kernel_rfl) (by decide) (fun K hK => ?_)
  refine Kd.R_append_rows_step k32 (Rr := (k32 : Kd S32).M w4 base (fun k => (S k ∧ k ≠ X) ∧ k < W3.heap.size)) (w0 := w4) base (by rfl) (.tmp 22) (.tmp 28) 28 32 _ _ rfl Try.underlying28 info32 rfl (by decide) (by decide) v22 ([]) (q.take i) (some ⟨gQ, 0, none⟩) (i) (cQ) (fun k => k ≠ X ∧ (S k ∨ W3.heap.size ≤ k)) (fun k => (S k ∧ k ≠ X) ∧ k < W3.heap.size) rfl ?hx HR4.out ?rows (fun _ _ h => h) ?okp ?fresh (Below.refl _ _ |> below_base ?hb) ?hb ?room ?_
  case hx => rfl
  case rows => exact rows_take (HQR.out _ HB4.out) i (by omega)
  case okp => exact fun k hk => ⟨⟨hk.1.2, .inl hk.1.1⟩, fun e => by obtain ⟨b, hb, hb2⟩ := HN4.out; rw [hb] at e; injection e with e; omega⟩
  case fresh => exact fun k hk => by have := HB4.out.size; exact ⟨by omega, .inr (by omega)⟩
  case hb => have := HB4.out.size; omega
  case room => simp; omega
  intro v29 w5 hr hb hg hn
  have HR5 := Aside0.mk hr
  have HB5 := Aside0.mk (Below.grown HB4.out hg HB4.out.size (fun k hk => by obtain ⟨b, hb, hb2⟩ := HN4.out; rw [hb] at hk; injection hk with hk; omega))
  have HN5 := Aside0.mk (show ∃ b, v29.ownBlock = some b ∧ W3.heap.size ≤ b by rcases hn with h | ⟨b, h, h2⟩; (obtain ⟨b, hb, hb2⟩ := HN4.out; exact ⟨b, h.trans hb, hb2⟩); exact ⟨b, h, by have := HB4.out.size; omega⟩)
  clear hr hb hg hn
  refine hK.out _ _ ((rd1 _ HB5.out)) (fun hHeld => ?_)
  clear hK K
  refine norm_ (a' := ?_) ?_ ?_
  rotate_left
  · show Act.put _ (some 29) _ = _
    simp only [Act.put, List.setIfInBounds_toArray, List.set_cons_zero, List.set_cons_succ, i64_w, i32_w]
    rfl
  refine one_ (i := 16) (N := some 37) #[true, true, true, true, true, true, true, true, true, true, true, true, true, true, true, true, true, false, false, false] rfl rfl (by kernel_rfl) (by decide) (fun K hK => ?_)
  refine Kd.R_append_rows_step k32 (Rr := (k32 : Kd S32).M w5 base (fun k => (S k ∧ k ≠ X) ∧ k < W3.heap.size)) (w0 := w5) base (by rfl) (.tmp 29) (.tmp 36) 28 32 _ _ rfl Try.underlying28 info32 rfl (by decide) (by decide) v29 ([] ++ q.take i) (q.drop (i + 1)) (if cQ = i + 1 then some ⟨gQ, 0, none⟩ else some ⟨gQ, (i + 1) * 3, none⟩) (q.length - (i + 1)) (cQ - (i + 1)) (fun k => k ≠ X ∧ (S k ∨ W3.heap.size ≤ k)) (fun k => (S k ∧ k ≠ X) ∧ k < W3.heap.size) rfl ?hx HR5.out ?rows (fun _ _ h => h) ?okp ?fresh (Below.refl _ _ |> below_base ?hb) ?hb ?room ?_
  case hx => rfl
  case rows => exact rows_cut (HQR.out _ HB5.out) (i + 1) cQ (by omega) (by omega)
  case okp => exact fun k hk => ⟨⟨hk.1.2, .inl hk.1.1⟩, fun e => by obtain ⟨b, hb, hb2⟩ := HN5.out; rw [hb] at e; injection e with e; omega⟩
  case fresh => exact fun k hk => by have := HB5.out.size; exact ⟨by omega, .inr (by omega)⟩
  case hb => have := HB5.out.size; omega
  case room => rw [List.nil_append, List.length_take]; omega
  intro v37 w6 hr hb hg hn
  have HR6 := Aside0.mk hr
  have HB6 := Aside0.mk (Below.grown HB5.out hg HB5.out.size (fun k hk => by obtain ⟨b, hb, hb2⟩ := HN5.out; rw [hb] at hk; injection hk with hk; omega))
  have HN6 := Aside0.mk (show ∃ b, v37.ownBlock = some b ∧ W3.heap.size ≤ b by rcases hn with h | ⟨b, h, h2⟩; (obtain ⟨b, hb, hb2⟩ := HN5.out; exact ⟨b, h.trans hb, hb2⟩); exact ⟨b, h, by have := HB5.out.size; omega⟩)
  clear hr hb hg hn
  have hr6 := HR6.out
  rw [List.nil_append, HE1.out] at hr6
  clear HR6
  obtain ⟨Aq6, cq6, hv6⟩ := Kd.R_slice hr6
  obtain ⟨nq, hnq⟩ : ∃ nq, (q.eraseIdx i).length = nq := ⟨_, rfl⟩
  rw [hnq] at hv6
  clear hnq
  subst hv6
  have HR6 := Aside0.mk hr6
  clear hr6
  have HX6 := Aside0.mk ((HB6.out.block X hX3lt).trans HX3.out)
  have c61 : w6.cell? ⟨X, 1, none⟩ = some (.slice (some ⟨gQ, 0, none⟩) q.length cQ) := (by simp [World.cell?, HX6.out])
  have f61 : w6.frozen? ⟨X, 1, none⟩ = false := (by simp [World.frozen?, HX6.out])
  refine hK.out _ _ ((rd1 _ HB6.out)) (fun hHeld => ?_)
  clear hK K
  refine norm_ (a' := ?_) ?_ ?_
  rotate_left
  · show Act.put _ (some 37) _ = _
    simp only [Act.put, List.setIfInBounds_toArray, List.set_cons_zero, List.set_cons_succ, i64_w, i32_w]
    rfl
  refine pure_ (i := 17) (N := some 38) (v := ?_) (a' := ?_) #[true, true, true, true, true, true, true, true, true, true, true, true, true, true, true, true, true, true, false, false] rfl rfl (by kernel_rfl) (fun _ _ _ h => h) (Or.inl ⟨by rfl, ?_⟩) ?_ ?_
  rotate_left
  · intro w'
    go_simp
    with_reducible rfl
  rotate_left
  · simp only [Act.put, List.setIfInBounds_toArray, List.set_cons_zero, List.set_cons_succ, i64_w, i32_w]
    rfl
  refine pure_ (i := 18) (N := some 39) (v := ?_) (a' := ?_) #[true, true, true, true, true, true, true, true, true, true, true, true, true, true, true, true, true, true, true, false] rfl rfl (by kernel_rfl) (fun _ _ _ h => h) (Or.inl ⟨by rfl, ?_⟩) ?_ ?_
  rotate_left
  · intro w'
    go_simp
    with_reducible rfl
  rotate_left
  · simp only [Act.put, List.setIfInBounds_toArray, List.set_cons_zero, List.set_cons_succ, i64_w, i32_w]
    rfl
  refine last_ (i := 19) (N := none) #[true, true, true, true, true, true, true, true, true, true, true, true, true, true, true, true, true, true, true, true] rfl rfl (by kernel_rfl) (by decide) (fun K hK => ?_)
  refine skip_ (w1 := ?_) (by rfl) rfl ?_ ?_
  rotate_left
  · go_simp
    rfl
  refine hK.out _ _ ?_
  clear hK K
  refine done_ (by kernel_rfl) ?_

  have hs6 := HB6.out.size
  have hB6W := below_step HBZ.out HB6.out
  have hv6 : (w6.setCell ⟨X, 1, none⟩ (.slice Aq6 nq cq6)).heap.size = w6.heap.size := by simp [World.setCell]
  have hQ6 : Kd.R k32 32 w6 base (fun k => S k ∨ (W.heap.size ≤ k ∧ k < w6.heap.size)) (.slice Aq6 nq cq6) (q.eraseIdx i) := Kd.R_mono (Kd.R_bound HR6.out) (fun k hk => (by rcases hk.1.2 with h | h; exact .inl h; exact .inr ⟨by omega, hk.2.2.1⟩ : S k ∨ (W.heap.size ≤ k ∧ k < w6.heap.size)))
  obtain ⟨hf, hfl, hlow⟩ := HFIT.out
  have hi7 := x_putQ HX6.out (Kd.R_mono (Kd.R_below HBL0.out hB6W) (fun k hk => .inl hk)) hQ6 (Kd.R_mono (Kd.R_below HF.out hB6W) (fun k hk => .inl hk)) ⟨hf.some, hf.most, hf.each, by have := List.length_eraseIdx_le q i; omega, fun x hx => hf.sent x (List.mem_of_mem_eraseIdx hx), fun x hx => hf.in_ x (List.mem_of_mem_eraseIdx hx), hf.low, hf.high⟩ hfl (.inl hiX) (fun k hk => by
    rcases hk with hk | hk
    · have := hlow k hk; omega
    · omega)
  have hX7 := Go.Proofs.Ytbopccjcehnfnaa.Nb.set_heap HX6.out (o := 1) (.slice Aq6 nq cq6)
  simp only [List.setIfInBounds_toArray, List.set_cons_zero, List.set_cons_succ] at hX7
  have hz7 : (w6.setCell ⟨X, 1, none⟩ (.slice Aq6 nq cq6)).heap[z]? = _ := (Below.heap_setCell w6 ⟨X, 1, none⟩ _ z (show z ≠ X by omega)).trans ((HB6.out.block z hz1).trans HZ3.out)
  have hk7 : ∀ j, j < W.heap.size → j ≠ X → (w6.setCell ⟨X, 1, none⟩ (.slice Aq6 nq cq6)).heap[j]? = W.heap[j]? := fun j hj hn => (Below.heap_setCell w6 ⟨X, 1, none⟩ _ j hn).trans (hB6W.block j hj)
  have hK7 : Kept S W (w6.setCell ⟨X, 1, none⟩ (.slice Aq6 nq cq6)) := (Kept.of_below hB6W).trans (kept_set w6 ⟨X, 1, none⟩ _ S hiX) (fun j hj => .inl hj)
  clear c61 f61 hQ6 hB6W
  generalize w6.setCell ⟨X, 1, none⟩ (.slice Aq6 nq cq6) = W7 at *
  rw [← hv6] at hi7 hs6
  have hcl0 := Kd.R_step (Kd.R_types HR2.out HX.out (by decide)) (fun j hj hlt => (hk7 j hlt hj.2 : W7.heap[j]? = W.heap[j]?))
  have HI7 := Aside0.mk hi7
  have HK7 := Aside0.mk hK7
  have HX7 := Aside0.mk hX7
  have HZ7 := Aside0.mk hz7
  have hz7l : z < W7.heap.size := by omega
  have HC7 := Aside0.mk hcl0
  have hsW7 : W.heap.size ≤ W7.heap.size := hK7.size
  clear hi7 hK7 hX7 hz7 hk7 hcl0 hv6 rd1 HB6 HR6 HX6 HQR HR4 HR5 HB4 HB5 HN4 HN5 HN6 hf hfl hlow
  generalize (if cQ = i + 1 then some (⟨gQ, 0, none⟩ : Addr) else some ⟨gQ, (i + 1) * 3, none⟩) = Acut at *
  cases ok with
  | false =>
    gi_wp2
    go_ret
    exact ⟨rfl, HI7.out, HK7.out⟩
  | true =>
    gi_wp2
    have hbd7 := below_drew (Below.refl W7.heap.size W7)
    have hX7lt : X < W7.heap.size := by omega
    have kx : ∀ W1, Below W7.drew.heap.size W7.drew W1 → W1.cell? ⟨X, 0, none⟩ = some (.slice (some ⟨gB, 0, none⟩) bl.length cB) := fun W1 hb => by simp [World.cell?, (hb.block X hX7lt).trans (show W7.drew.heap[X]? = _ from HX7.out)]
    have kz1 : ∀ W1, Below W7.drew.heap.size W7.drew W1 → W1.cell? ⟨z, 1, none⟩ = some (.int .i64 s.f1) := fun W1 hb => by simp [World.cell?, (hb.block z hz7l).trans (show W7.drew.heap[z]? = _ from HZ7.out)]
    have kz2 : ∀ W1, Below W7.drew.heap.size W7.drew W1 → W1.cell? ⟨z, 2, none⟩ = some (.slice A2 s.f2.length c2) := fun W1 hb => by simp [World.cell?, (hb.block z hz7l).trans (show W7.drew.heap[z]? = _ from HZ7.out)]
    have HBL := Aside0.mk (Kd.R_below (show Kd.R (Kd.slice 5 (Kd.int .u8)) 30 W7 base (fun k => S k ∨ (W.heap.size ≤ k ∧ k < W7.heap.size)) (.slice (some ⟨gB, 0, none⟩) bl.length cB) bl by
      obtain ⟨_, _, ⟨vB', vQ', vF', hX', hB', _, _⟩, _, _⟩ := HI7.out
      have e := hX'.symm.trans HX7.out
      injection e with e
      injection e with e
      injection e with e
      injection e with e
      rwa [e] at hB') hbd7)
    have HI7d := Aside0.mk (HI7.out.below hbd7)
    have hin0 := hin.1
    have hin1 := hin.2
    have hcl := bollardref02_copied.calls A2 c2 s.f2 s.f2 W7.drew (Kd.C_below (Kd.R_reads' HC7.out).2.2 hbd7) hc2 (copied_f s.f2 (by have := HS128.out; omega))
    clear hbd7
    refine wpIn_wide.2 ?_
    refine start_ (n := 11) (S := fun w' => w'.cell? ⟨X, 0, none⟩ = some (.slice (some ⟨gB, 0, none⟩) bl.length cB) ∧ w'.cell? ⟨z, 1, none⟩ = some (.int .i64 s.f1) ∧ w'.cell? ⟨z, 2, none⟩ = some (.slice A2 s.f2.length c2)) (ds := [10]) #[false, false, false, false, false, false, false, false, false, false, false] (by kernel_rfl) rfl rfl ⟨(kx _ (Below.refl _ _)), (kz1 _ (Below.refl _ _)), (kz2 _ (Below.refl _ _))⟩ (fun hHeld => ?_)
    refine pure_ (i := 0) (N := some 42) (v := ?_) (a' := ?_) #[true, false, false, false, false, false, false, false, false, false, false] rfl rfl (by kernel_rfl) (fun _ _ _ h => h) (Or.inl ⟨by rfl, ?_⟩) ?_ ?_
    rotate_left
    · intro w'
      go_simp
      with_reducible rfl
    rotate_left
    · simp only [Act.put, List.setIfInBounds_toArray, List.set_cons_zero, List.set_cons_succ, i64_w, i32_w]
      rfl
    refine pure_ (i := 1) (N := some 43) (v := ?_) (a' := ?_) #[true, true, false, false, false, false, false, false, false, false, false] rfl rfl (by kernel_rfl) (fun _ _ _ h => h) (Or.inl ⟨by rfl, ?_⟩) ?_ ?_
    rotate_left
    · intro w'
      go_simp
      with_reducible rfl
    rotate_left
    · simp only [Act.put, List.setIfInBounds_toArray, List.set_cons_zero, List.set_cons_succ, i64_w, i32_w]
      rfl
    refine pure_ (i := 2) (N := some 44) (v := ?_) (a' := ?_) #[true, true, true, false, false, false, false, false, false, false, false] rfl rfl (by kernel_rfl) (fun _ _ _ h => h) (Or.inl ⟨by rfl, ?_⟩) ?_ ?_
    rotate_left
    · intro w'
      go_simp
      with_reducible rfl
    rotate_left
    · simp only [Act.put, List.setIfInBounds_toArray, List.set_cons_zero, List.set_cons_succ, i64_w, i32_w]
      rfl
    refine pure_ (i := 4) (N := some 46) (v := ?_) (a' := ?_) #[true, true, true, false, true, false, false, false, false, false, false] rfl rfl (by kernel_rfl) (fun _ _ _ h => h) (Or.inl ⟨by rfl, ?_⟩) ?_ ?_
    rotate_left
    · intro w'
      go_simp
      with_reducible rfl
    rotate_left
    · simp only [Act.put, List.setIfInBounds_toArray, List.set_cons_zero, List.set_cons_succ, i64_w, i32_w]
      rfl
    refine pure_ (i := 6) (N := some 48) (v := ?_) (a' := ?_) #[true, true, true, false, true, false, true, false, false, false, false] rfl rfl (by kernel_rfl) (fun _ _ _ h => h) (Or.inl ⟨by rfl, ?_⟩) ?_ ?_
    rotate_left
    · intro w'
      go_simp
      with_reducible rfl
    rotate_left
    · simp only [Act.put, List.setIfInBounds_toArray, List.set_cons_zero, List.set_cons_succ, i64_w, i32_w]
      rfl
    refine take_ (i := 3) (N := some 45) (v := ?_) (a' := ?_) #[true, true, true, true, true, false, true, false, false, false, false] rfl rfl (by kernel_rfl) (fun _ _ _ h => h) (Or.inl ⟨by rfl, ?_⟩) hHeld ?_ ?_
    rotate_left
    · rintro w' ⟨s0, s1, s2⟩
      go_simp
      with_reducible rfl
    rotate_left
    · simp only [Act.put, List.setIfInBounds_toArray, List.set_cons_zero, List.set_cons_succ, i64_w, i32_w]
      rfl
    refine take_ (i := 5) (N := some 47) (v := ?_) (a' := ?_) #[true, true, true, true, true, true, true, false, false, false, false] rfl rfl (by kernel_rfl) (fun _ _ _ h => h) (Or.inl ⟨by rfl, ?_⟩) hHeld ?_ ?_
    rotate_left
    · rintro w' ⟨s0, s1, s2⟩
      go_simp
      with_reducible rfl
    rotate_left
    · simp only [Act.put, List.setIfInBounds_toArray, List.set_cons_zero, List.set_cons_succ, i64_w, i32_w]
      rfl
    refine take_ (i := 7) (N := some 49) (v := ?_) (a' := ?_) #[true, true, true, true, true, true, true, true, false, false, false] rfl rfl (by kernel_rfl) (fun _ _ _ h => h) (Or.inl ⟨by rfl, ?_⟩) hHeld ?_ ?_
    rotate_left
    · rintro w' ⟨s0, s1, s2⟩
      go_simp
      with_reducible rfl
    rotate_left
    · simp only [Act.put, List.setIfInBounds_toArray, List.set_cons_zero, List.set_cons_succ, i64_w, i32_w]
      rfl
    refine one_ (i := 8) (N := some 50) #[true, true, true, true, true, true, true, true, true, false, false] rfl rfl (by kernel_rfl) (by decide) (fun K hK => ?_)
    refine goes_ Try.func53 (by kernel_rfl) rfl #[.slice A2 s.f2.length c2] (by rfl) rfl rfl (by simp only [List.map_toArray, List.map_cons, List.map_nil]; rfl) ?_
    with_reducible refine (hcl).mono ?_
    rintro e w9 ⟨v9, rfl, hr9, hb9⟩
    refine ⟨_, rfl, ?_⟩
    obtain ⟨A9, c9, rfl⟩ := Kd.R_slice hr9
    have HR9 := Aside0.mk hr9
    have HB9 := Aside0.mk hb9
    have HI9 := Aside0.mk (HI7d.out.below hb9)
    obtain ⟨vE, y0, y1⟩ := at_block (Kd.R_below HBL.out hb9) s.f1 hin0 hin1
    clear hr9 hb9
    refine hK.out _ _ ⟨(kx _ HB9.out), (kz1 _ HB9.out), (kz2 _ HB9.out)⟩ (fun hHeld => ?_)
    clear hK K
    refine norm_ (a' := ?_) ?_ ?_
    rotate_left
    · show Act.put _ (some 50) _ = _
      simp only [Act.put, List.setIfInBounds_toArray, List.set_cons_zero, List.set_cons_succ, i64_w, i32_w]
      rfl
    refine pure_ (i := 9) (N := some 51) (v := ?_) (a' := ?_) #[true, true, true, true, true, true, true, true, true, true, false] rfl rfl (by kernel_rfl) (fun _ _ _ h => h) (Or.inl ⟨by rfl, ?_⟩) ?_ ?_
    rotate_left
    · intro w'
      go_simp
      with_reducible rfl
    rotate_left
    · simp only [Act.put, List.setIfInBounds_toArray, List.set_cons_zero, List.set_cons_succ, i64_w, i32_w]
      rfl
    refine last_ (i := 10) (N := none) #[true, true, true, true, true, true, true, true, true, true, true] rfl rfl (by kernel_rfl) (by decide) (fun K hK => ?_)
    refine skip_ (w1 := ?_) (by rfl) rfl ?_ ?_
    rotate_left
    · go_simp
      rfl
    refine hK.out _ _ ?_
    clear hK K
    refine done_ (by kernel_rfl) ?_

    have hs9 := HB9.out.size
    have hsd : W7.drew.heap.size = W7.heap.size := rfl
    have hS9 : ∀ k, S k → k < W.heap.size := fun k hk => (HFIT.out.2.2 k hk).2
    have hb9 : ∀ k, S k → base ≤ k := fun k hk => (HFIT.out.2.2 k hk).1
    have hi9 := HI9.out.grow (S' := fun k => S k ∨ (W.heap.size ≤ k ∧ k < w9.heap.size)) (fun k hk => by
      rcases hk with hk | hk
      · exact .inl hk
      · exact .inr ⟨hk.1, by omega⟩) (fun k hk => by
      rcases hk with hk | hk
      · have := hS9 k hk; have := hb9 k hk; omega
      · omega)
    have hi9' := hi9
    obtain ⟨_, _, ⟨vB9, vQ9, vF9, hX9, hB9, hQ9, hF9⟩, _, _⟩ := hi9'
    have hvB9 : vB9 = .slice (some ⟨gB, 0, none⟩) bl.length cB := by
      have h1 := kx w9 HB9.out
      simp [World.cell?, hX9] at h1
      exact h1
    have hi10 := x_cellB hi9 hX9 hB9 hQ9 hF9 gB cB hvB9 s.f1 hin0 hin1 A9 c9 s.f2 HS128.out (okp := fun k => W7.heap.size ≤ k ∧ k < w9.heap.size) (Kd.R_mono (Kd.R_bound (Kd.R_lower (Kd.R_mono (Kd.R_bound HR9.out) (fun k hk => (⟨hk.2.1, hk.2.2.1⟩ : W7.heap.size ≤ k ∧ k < w9.heap.size))) (show base ≤ W7.drew.heap.size by omega))) (fun k hk => hk.1)) (fun k hk => ⟨.inr ⟨by omega, hk.2⟩, by omega⟩)
    have hv10 : (w9.setCell ⟨gB, s.f1.toNat, none⟩ (.slice A9 s.f2.length c9)).heap.size = w9.heap.size := by simp [World.setCell]
    have hSB : S gB := by
      obtain ⟨_, _, ⟨vB0, vQ0, vF0, hX0, hB0, _, _⟩, _, _⟩ := H.out
      have h1 := hX0.symm.trans HX.out
      injection h1 with h1
      injection h1 with h1
      injection h1 with h1
      injection h1 with h1
      exact hB0.1 gB (by rw [h1]; simp [Value.ownBlock])
    have hK10 : Kept S W (w9.setCell ⟨gB, s.f1.toNat, none⟩ (.slice A9 s.f2.length c9)) := (HK7.out.trans (Kept.of_below (S := S) (below_step (below_drew (Below.refl W7.heap.size W7)) HB9.out)) (fun j hj => .inl hj)).trans (kept_set w9 ⟨gB, s.f1.toNat, none⟩ _ S hSB) (fun j hj => .inl hj)
    rw [← hv10] at hi10
    have HI10 := Aside0.mk hi10
    have HK10 := Aside0.mk hK10
    clear hi10 hK10 hv10 hi9 hB9 hQ9 hF9
    generalize w9.setCell ⟨gB, s.f1.toNat, none⟩ (.slice A9 s.f2.length c9) = W10 at *
    gi_wp2
    go_ret
    exact ⟨rfl, HI10.out, HK10.out⟩
end Go.Proofs.Ytbopccjcehnfnaa.Dk
