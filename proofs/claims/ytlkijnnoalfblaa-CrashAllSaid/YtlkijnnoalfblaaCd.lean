/- Written by a program of this session. bollardlaw24.both: two disks over an image, with writes in their queues. -/
import Derived.Test.YtlkijnnoalfblaaCb
import Derived.Test.YtlkijnnoalfblaaQd
namespace Go.Proofs.Ytlkijnnoalfblaa.Dk
open Go Go.RowKit Go.Shelf Go.Proofs Go.Maps Go.Proofs.Ytlkijnnoalfblaa.Sp Go.Proofs.Ytlkijnnoalfblaa.XFb Go.Proofs.YtlkijnnoalfblaaW.PrintWords Go.Proofs.YtlkijnnoalfblaaW.PrintLast Go.Proofs.YtlkijnnoalfblaaW.PrintMore
set_option linter.unusedVariables false
set_option linter.unusedSimpArgs false
theorem pimage_l0 (xs : List (List Int)) (hx : ∀ x ∈ xs, x.length ≤ 140737488351232) (hl : xs.length < 5864062014805) (d : Nat) : ∀ (i K : Nat), i + d = xs.length → d < K → bollardplain_Image.l0 K (xs.take i) xs (xs.length : Int) (i : Int) = some xs := by
  induction d with
  | zero =>
    intro i K hi hK
    cases K with
    | zero => omega
    | succ K =>
      unfold bollardplain_Image.l0
      rw [if_neg (by omega), List.take_of_length_le (by omega)]
  | succ d ih =>
    intro i K hi hK
    cases K with
    | zero => omega
    | succ K =>
      have w3 : wrap64 ((i : Int) + 1) = ((i + 1 : Nat) : Int) := by unfold wrap64; omega
      have hil : i < xs.length := by omega
      have hm := hx xs[i] (List.getElem_mem _)
      have e : rd_L1 xs (i : Int) = xs[i] := by simp [rd_L1, List.getD_eq_getElem?_getD, hil]
      have hc : bytes_Clone.f xs[i] = some xs[i] := by unfold bytes_Clone.f; rw [if_pos (by omega)]
      have ht : xs.take i ++ [xs[i]] = xs.take (i + 1) := by rw [List.take_add_one, List.getElem?_eq_getElem hil]; rfl
      unfold bollardplain_Image.l0
      simp only [e, hc, w3, Option.bind_some, ht, ih (i + 1) K (by omega) (by omega), List.length_take]
      rw [if_pos (by omega), if_pos (by omega), if_pos (by omega)]
      try rw [if_pos (by omega)]
theorem pimage_f (xs : List (List Int)) (hx : ∀ x ∈ xs, x.length ≤ 140737488351232) (hl : xs.length < 5864062014805) : bollardplain_Image.f (xs.length + 1) xs = some xs := by
  unfold bollardplain_Image.f
  exact pimage_l0 xs hx hl xs.length 0 _ (by omega) (by omega)
theorem both_of {w w1 w2 : World} {D m X : Nat} {xs : List (List Int)} (h1 : IsDk w1 w.heap.size D m (fun k => w.heap.size ≤ k ∧ k < w1.heap.size) xs [] (.map #[] 0) 0) (hb1 : Below w.heap.size w w1)
    (h2 : IsX w2 w1.heap.size X (fun k => w1.heap.size ≤ k ∧ k < w2.heap.size) xs [] (List.replicate xs.length 0) 0) (hb2 : Below w1.heap.size w1 w2) :
    ∃ Sd Sx, Both w2 w.heap.size D m Sd X Sx xs [] (List.replicate xs.length 0) 0 0 ∧ (∀ k, Sd k ∨ Sx k → w.heap.size ≤ k) := by
  have hm := h1.below hb2
  have hs := hb1.size
  refine ⟨_, fun k => w1.heap.size ≤ k ∧ k < w2.heap.size, ⟨⟨⟨_, hm⟩, ⟨.map [], made_own hm.map 0, AgF.none_ _⟩, by simp⟩, ?_, fun k h3 h4 => ?_, fun c hc => ?_⟩, fun k hk => ?_⟩
  · obtain ⟨f1, f0, ⟨vB, vQ, vF, hD, hB, hQ, hF⟩, f2, f4⟩ := h2
    exact ⟨f1, f0, ⟨vB, vQ, vF, hD, Kd.R_lower hB hs, Kd.R_lower hQ hs, Kd.R_lower hF hs⟩, f2, fun k hk => ⟨by have := (f4 k hk).1; omega, (f4 k hk).2⟩⟩
  · have := h3.2; have := h4.1; omega
  · rw [List.eq_of_mem_replicate hc]; decide
  · rcases hk with hk | hk
    · exact hk.1
    · have := hk.1; omega
abbrev DoC := Int × List Int
def kDoC : Kd DoC := Kd.pair (Kd.int .i64) (Kd.slice 5 (Kd.int .u8))
def zDoC : DoC := (0, [])
theorem at_DoC {w : World} {A : Option Addr} {n : Nat} {xs : List DoC} (h : Kd.C kDoC w A n xs) (i : Nat) (h1 : i < n) : ∃ ad A3 c3, A = some ad ∧ w.cell? (ad.add (i * 2)) = some (.int .i64 (xs.getD i zDoC).1) ∧ w.cell? ⟨(ad.add (i * 2)).block, (ad.add (i * 2)).off + 1, none⟩ = some (.slice A3 (xs.getD i zDoC).2.length c3) ∧ (xs.getD i zDoC).2.length ≤ c3 ∧ (Kd.int .u8).C w A3 (xs.getD i zDoC).2.length (xs.getD i zDoC).2 := by
  obtain ⟨ad, c, e, _, hK, hc0⟩ := Kd.C_get h zDoC (i : Int) (by omega) (by omega)
  rw [Int.toNat_natCast] at hK hc0
  have hc : ∀ j u, c[j]? = some u → w.cell? (ad.add (i * 2 + j)) = some u := hc0
  obtain ⟨_, _, rfl, rfl, ⟨A3, c3, rfl, l3, g3⟩⟩ := hK
  exact ⟨ad, A3, c3, e, hc 0 _ rfl, by rw [← add_field _ _ 1 (by omega)]; exact hc 1 _ rfl, l3, g3⟩
theorem Both.step {W : World} {base D m : Nat} {Sd : Nat → Prop} {X : Nat} {Sx : Nat → Prop} {bl : List (List Int)} {q : List S49} {fl : List Int} {last : Int} {n : Nat} (h : Both W base D m Sd X Sx bl q fl last n) {W3 W4 : World} {Sd' Sx' : Nat → Prop} {bl' : List (List Int)} {q' : List S49} {fl' : List Int} {last' : Int} {n' : Nat} (hd : IsDm W3 base D m Sd' bl' q' fl' last' n') (hs1 : ∀ k, Sd' k → Sd k ∨ W.heap.size ≤ k) (hk1 : Kept Sd W W3)
    (hx : IsX W4 base X Sx' bl' q' fl' last') (hs2 : ∀ k, Sx' k → Sx k ∨ W3.heap.size ≤ k) (hk2 : Kept Sx W3 W4) (hfb : ∀ c ∈ fl', 0 ≤ c ∧ c ≤ 1000) : Both W4 base D m Sd' X Sx' bl' q' fl' last' n' ∧ Kept (fun k => Sd k ∨ Sx k) W W4 := by
  have hxl : ∀ k, Sx k → k < W.heap.size := fun k hk => (h.x.low k hk).2
  have hdl := hd.low
  have hs := hk1.size
  refine ⟨⟨hd.kept hk2 (fun k h1 h2 => ?_), hx, fun k h1 h2 => ?_, hfb⟩, (hk1.mono (fun k _ hk => .inl hk)).trans hk2 (fun k hk => .inl (.inr hk))⟩
  · rcases hs1 k h1 with h3 | h3
    · exact h.dis k h3 h2
    · have := hxl k h2; omega
  · rcases hs2 k h2 with h3 | h3
    · rcases hs1 k h1 with h4 | h4
      · exact h.dis k h4 h3
      · have := hxl k h3; omega
    · have := hdl k h1; omega
theorem wr_nodup {bl : List (List Int)} {q : List S49} {last b : Int} {x : List Int} (h1 : (q.map fun s => s.f0).Nodup) (h2 : ∀ s ∈ q, s.f0 ≤ last) : ((wrQ bl q last b x).map fun s => s.f0).Nodup ∧ (∀ s ∈ wrQ bl q last b x, s.f0 ≤ wrL bl q last b x) ∧ (wrQ bl q last b x).length ≤ q.length + 1 ∧ wrL bl q last b x ≤ last + 1 := by
  unfold wrQ wrL
  by_cases he : wrE bl q b x.length = 0
  · rw [if_pos he, if_pos he]
    refine ⟨?_, fun s hs => ?_, by simp, Int.le_refl _⟩
    · rw [List.map_append, List.nodup_append]
      refine ⟨h1, by simp, fun a ha b hb => ?_⟩
      obtain ⟨s, hs, rfl⟩ := List.mem_map.1 ha
      have := h2 s hs
      simp at hb
      omega
    · rcases List.mem_append.1 hs with hs | hs
      · have := h2 s hs; omega
      · rw [List.mem_singleton.1 hs]; exact Int.le_refl _
  · rw [if_neg he, if_neg he]
    exact ⟨h1, h2, by omega, by omega⟩
attribute [local go_sem] max2_int min2_int max_two min_two max_three min_three max_four min_four
set_option maxRecDepth 100000 in
set_option maxHeartbeats 8000000 in
theorem both_ok (A0 : Option Addr) (c0 : Nat) (xs : List (List Int)) (A : Option Addr) (c : Nat) (l : List DoC) (w : World) (hC0 : Kd.C (Kd.slice 5 (Kd.int .u8)) w A0 xs.length xs) (hc0 : xs.length ≤ c0) (hx0 : ∀ x ∈ xs, x.length ≤ 140737488351232) (hl0 : xs.length < 5864062014805)
    (hC : Kd.C kDoC w A l.length l) (hl : l.length ≤ 1000000000000000) :
    Calls Try.prog 5 #[.slice A0 xs.length c0, .slice A l.length c] w fun e w' => Below w.heap.size w w' ∧ (e = .returned (.tuple #[.pointer none, .pointer none, .bool true]) ∨
      ∃ D X m S q last FL base, e = .returned (.tuple #[.pointer (some ⟨D, 0, none⟩), .pointer (some ⟨X, 0, none⟩), .bool true]) ∧ IsDm w' base D m S xs q FL last 0 ∧ (q.map fun s => s.f0).Nodup ∧ q.length ≤ l.length ∧ w.heap.size ≤ base) := by
  have HC := Aside0.mk hC
  have HC0 := Aside0.mk hC0
  have HX0 := Aside0.mk hx0
  have HIM := Aside0.mk (pimage_f xs hx0 hl0)
  clear hC hC0 hx0
  refine (callsIn_wide (n := 1)).1 ?_
  refine callsIn_of_wp Try.func5 rfl trivial ?_ rfl
  simp only [Try.ntmps5, List.size_toArray, List.length_cons, List.length_nil, Nat.reduceAdd, Nat.reduceSub, Array.replicate_succ, Array.replicate_zero, List.push_toArray, List.append_toArray, List.nil_append, List.cons_append]
  by_cases hr : xs.length < 1 ∨ 2048 < xs.length ∨ ∃ x ∈ xs, x.length ≠ 128
  · have HR := Aside0.mk hr
    have hxo : ∀ W : World, Below w.heap.size w W → Calls Try.prog 20 #[.slice A0 xs.length c0] W (fun e W' => e = .returned (.tuple #[.pointer none, .int .i64 1]) ∧ Below W.heap.size W W') := fun W hb => by
      by_cases hn : xs.length < 1 ∨ 2048 < xs.length
      · refine (x_of_no A0 c0 xs.length W hn).mono ?_
        rintro e W' ⟨rfl, rfl⟩
        exact ⟨rfl, Below.refl _ _⟩
      · refine (x_of A0 c0 xs W (Kd.C_below HC0.out hb) (by omega) (by omega)).mono ?_
        rintro e W' ⟨hb2, ⟨rfl, _⟩ | ⟨_, h3, _⟩⟩
        · exact ⟨rfl, hb2⟩
        · obtain ⟨x, hx, hne⟩ : ∃ x ∈ xs, x.length ≠ 128 := by
            rcases HR.out with h | h | h
            · omega
            · omega
            · exact h
          exact absurd (h3 x hx) hne
    have HXO := Aside0.mk hxo
    clear hr hxo
    gi_wp2_with (first
      | (refine ⟨trivial, ?_⟩; gi_at_call 19; refine (callsIn_wide.2 (bollardplain_Image.calls (xs.length + 1) A0 c0 xs xs _ HC0.out hc0 HIM.out)).mono ?_; rintro e w1 ⟨v1, rfl, hs, hb⟩; obtain ⟨A1, c1, rfl⟩ := Kd.R_slice (Kd.S_R hs); have HG1 := Aside0.mk (Kd.S_R hs); have HB1 := Aside0.mk hb; clear hs hb)
      | (refine ⟨trivial, ?_⟩; gi_at_call 18; refine (callsIn_wide.2 (of_no A1 c1 xs _ (Kd.R_reads' HG1.out).2.2 HR.out)).mono ?_; rintro e w2 ⟨rfl, hb⟩; have HB2 := Aside0.mk (below_step HB1.out hb); clear hb)
      | (refine ⟨trivial, ?_⟩; gi_at_call 20; refine (callsIn_wide.2 (HXO.out _ HB2.out)).mono ?_; rintro e w3 ⟨rfl, hb⟩; have HB3 := Aside0.mk (below_step HB2.out hb); clear hb))
    refine bodyPost_ret (results_tmp3 rfl _ _ _) rfl ?_
    exact ⟨HB3.out, .inl rfl⟩
  · have h1 : 1 ≤ xs.length := by omega
    have h2 : xs.length ≤ 2048 := by omega
    have hall : ∀ x ∈ xs, x.length = 128 := fun x hx => by false_or_by_contra; rename_i hn; exact hr (.inr (.inr ⟨x, hx, hn⟩))
    have HALL := Aside0.mk hall
    have hxo : ∀ W : World, Below w.heap.size w W → Calls Try.prog 20 #[.slice A0 xs.length c0] W (fun e W' => e = .returned (.tuple #[.pointer (some ⟨W.heap.size + 1, 0, none⟩), .int .i64 0]) ∧ IsX W' W.heap.size (W.heap.size + 1) (fun k => W.heap.size ≤ k ∧ k < W'.heap.size) xs [] (List.replicate xs.length 0) 0 ∧ Below W.heap.size W W') := fun W hb => by
      refine (x_of A0 c0 xs W (Kd.C_below HC0.out hb) h1 h2).mono ?_
      rintro e W' ⟨hb2, ⟨_, x, hx, hne⟩ | ⟨rfl, _, hi⟩⟩
      · exact absurd (HALL.out x hx) hne
      · exact ⟨rfl, hi, hb2⟩
    have HXO := Aside0.mk hxo
    clear hr hxo hall
    gi_wp2_with (first
      | (refine ⟨trivial, ?_⟩; gi_at_call 19; refine (callsIn_wide.2 (bollardplain_Image.calls (xs.length + 1) A0 c0 xs xs _ HC0.out hc0 HIM.out)).mono ?_; rintro e w1 ⟨v1, rfl, hs, hb⟩; obtain ⟨A1, c1, rfl⟩ := Kd.R_slice (Kd.S_R hs); have HG1 := Aside0.mk (Kd.S_R hs); have HB1 := Aside0.mk hb; clear hs hb)
      | (refine ⟨trivial, ?_⟩; gi_at_call 18; refine (callsIn_wide.2 (of_dk A1 c1 xs _ (Kd.R_reads' HG1.out).2.2 (Kd.R_reads' HG1.out).2.1 h1 h2 HALL.out)).mono ?_; rintro e w2 ⟨D, m, rfl, hi, hb⟩; have HI2 := Aside0.mk hi; have HB2 := Aside0.mk hb; clear hi hb)
      | (refine ⟨trivial, ?_⟩; gi_at_call 20; refine (callsIn_wide.2 (HXO.out _ (below_step HB1.out HB2.out))).mono ?_; rintro e w3 ⟨rfl, hi, hb⟩; obtain ⟨Sd0, Sx0, hbo, hs0⟩ := both_of HI2.out HB2.out hi hb; have HBo3 := Aside0.mk hbo; have HBW3 := Aside0.mk (below_step (below_step HB1.out HB2.out) hb); clear hi hb hbo hs0 HI2 HG1))
    obtain ⟨FL, hFL⟩ : ∃ FL, List.replicate xs.length (0 : Int) = FL := ⟨_, rfl⟩
    rw [hFL] at HBo3
    obtain ⟨X, hX⟩ : ∃ X, w2.heap.size + 1 = X := ⟨_, rfl⟩
    rw [hX] at HBo3 ⊢
    clear hFL hX
    have hs01 := HB1.out.size
    gi_loopw [41] (fun v41 wr => ∃ (i : Nat) (Sd Sx : Nat → Prop) (q : List S49) (last : Int), v41 = .int .i64 (i : Int) ∧ i ≤ l.length ∧ Aside0 (Both wr w1.heap.size D m Sd X Sx xs q FL last 0) ∧ Aside0 ((q.map fun s => s.f0).Nodup ∧ (∀ s ∈ q, s.f0 ≤ last) ∧ q.length ≤ i ∧ last ≤ (i : Int)) ∧ Aside0 (Below w.heap.size w wr))
      (fun v41 _ => l.length - (intOf v41).toNat)
    case atStart => exact ⟨0, _, _, [], 0, rfl, Nat.zero_le _, HBo3, ⟨List.nodup_nil, (fun s hs => by cases hs), Nat.le_refl _, Int.le_refl _⟩, HBW3⟩
    case round =>
      obtain ⟨i, Sd, Sx, q, last, rfl, hi, HBo, HQ, HBW⟩ := hrel
      by_cases hlt : i < l.length
      · have t1 : decide ((i : Int) < (l.length : Int)) = true := decide_eq_true (by omega)
        obtain ⟨ad, A3, c3, rfl, k0, k1, l3, g3⟩ := at_DoC (Kd.C_below HC.out HBW.out) i hlt
        obtain ⟨⟨B, bs⟩, hel⟩ : ∃ e, l.getD i zDoC = e := ⟨_, rfl⟩
        rw [hel] at k0 k1 l3 g3
        dsimp only at k0 k1 l3 g3
        have G3 := Aside0.mk g3
        clear g3 hel
        have hbx := World.alloc_heap_new wr (.cells #[.int .i64 B, .slice A3 bs.length c3] 58)
        have hbb : Below wr.heap.size wr (wr.alloc (.cells #[.int .i64 B, .slice A3 bs.length c3] 58)) := below_alloc (Below.refl wr.heap.size wr) _
        by_cases h10 : 10 < i
        · have t2 : decide ((10 : Int) < (i : Int)) = true := decide_eq_true (by omega)
          have HBB := Aside0.mk hbb
          clear hbx hbb
          gi_wp2
          refine bodyPost_ret (results_tmp3 rfl _ _ _) rfl ?_
          exact ⟨below_step HBW.out HBB.out, .inr ⟨D, X, m, Sd, q, last, FL, w1.heap.size, rfl, HBo.out.dm.below HBB.out, HQ.out.1, by have := HQ.out.2.2.1; omega, hs01⟩⟩
        · have t2 : decide ((10 : Int) < (i : Int)) = false := decide_eq_false (by omega)
          gi_wp2
          obtain ⟨z, hz⟩ : ∃ z, wr.heap.size = z := ⟨_, rfl⟩
          rw [hz] at hbx ⊢
          clear k0 k1
          generalize wr.alloc (.cells #[.int .i64 B, .slice A3 bs.length c3] 58) = W1 at *
          have hbd := below_drew hbb
          have HBD := Aside0.mk hbd
          have HBX := Aside0.mk (show W1.drew.heap[z]? = _ from hbx)
          have hXlt : z < W1.drew.heap.size := heap_lt HBX.out
          have y1 : W1.drew.cell? ⟨z, 1, none⟩ = some (.slice A3 bs.length c3) := by simp [World.cell?, HBX.out]
          have y0 : ∀ W2, Below W1.drew.heap.size W1.drew W2 → W2.cell? ⟨z, 0, none⟩ = some (.int .i64 B) := fun W2 hb => by simp [World.cell?, (hb.block z hXlt).trans HBX.out]
          obtain ⟨L, hLd⟩ : ∃ L, min bs.length 128 = L := ⟨_, rfl⟩
          have hL1 : L ≤ bs.length := by omega
          have hL2 : L ≤ 128 := by omega
          have hL3 : (bs.take L).length = L := by rw [List.length_take]; omega
          have hmin : (if (128 : Int) < (bs.length : Int) then (128 : Int) else (bs.length : Int)) = (L : Int) := by split <;> omega
          have hLc : L ≤ c3 := by omega
          have hsub : wrap64 (128 - (L : Int)) = ((128 - L : Nat) : Int) := (IntWalk.wrap64_in _ (by omega)).trans (by omega)
          have hcl : Calls Try.prog 21 #[.slice A3 L c3] W1.drew (fun e w' => ∃ v0 : Value, e = .returned v0 ∧ Kd.R (Kd.int .u8) 5 w' W1.drew.heap.size (fun _ => True) v0 (bs.take L) ∧ Below W1.drew.heap.size W1.drew w') := by
            have := slices_Clone_byte_byte.calls A3 c3 (bs.take L) (bs.take L) W1.drew (by rw [hL3]; exact C_pre (Kd.C_below G3.out hbd) L hL1) (by omega) (by unfold slices_Clone_byte_byte.f; rw [if_pos (by omega)])
            rw [hL3] at this
            exact this
          have HZN := Aside0.mk (fun (e : Sd z) => by have := (HBo.out.dm.low z e).2; omega : ¬ Sd z)
          clear hbx hbb hbd hz
          refine wpIn_wide.2 ?_
          refine start_ (n := 15) (S := fun w' => w'.cell? ⟨z, 1, none⟩ = some (.slice A3 bs.length c3)) (ds := [13]) #[false, false, false, false, false, false, false, false, false, false, false, false, false, false, false] (by kernel_rfl) rfl rfl (y1) (fun hHeld => ?_)
          refine pure_ (i := 0) (N := some 48) (v := ?_) (a' := ?_) #[true, false, false, false, false, false, false, false, false, false, false, false, false, false, false] rfl rfl (by kernel_rfl) (fun _ _ _ h => h) (Or.inl ⟨by rfl, ?_⟩) ?_ ?_
          rotate_left
          · intro w'
            go_simp
            with_reducible rfl
          rotate_left
          · simp only [Act.put, List.setIfInBounds_toArray, List.set_cons_zero, List.set_cons_succ, i64_w, i32_w]
            rfl
          refine pure_ (i := 2) (N := some 50) (v := ?_) (a' := ?_) #[true, false, true, false, false, false, false, false, false, false, false, false, false, false, false] rfl rfl (by kernel_rfl) (fun _ _ _ h => h) (Or.inl ⟨by rfl, ?_⟩) ?_ ?_
          rotate_left
          · intro w'
            go_simp
            with_reducible rfl
          rotate_left
          · simp only [Act.put, List.setIfInBounds_toArray, List.set_cons_zero, List.set_cons_succ, i64_w, i32_w]
            rfl
          refine pure_ (i := 8) (N := some 56) (v := ?_) (a' := ?_) #[true, false, true, false, false, false, false, false, true, false, false, false, false, false, false] rfl rfl (by kernel_rfl) (fun _ _ _ h => h) (Or.inl ⟨by rfl, ?_⟩) ?_ ?_
          rotate_left
          · intro w'
            go_simp
            with_reducible rfl
          rotate_left
          · simp only [Act.put, List.setIfInBounds_toArray, List.set_cons_zero, List.set_cons_succ, i64_w, i32_w]
            rfl
          refine take_ (i := 1) (N := some 49) (v := ?_) (a' := ?_) #[true, true, true, false, false, false, false, false, true, false, false, false, false, false, false] rfl rfl (by kernel_rfl) (fun _ _ _ h => h) (Or.inl ⟨by rfl, ?_⟩) hHeld ?_ ?_
          rotate_left
          · intro w' s0
            go_simp
            with_reducible rfl
          rotate_left
          · simp only [Act.put, List.setIfInBounds_toArray, List.set_cons_zero, List.set_cons_succ, i64_w, i32_w]
            rfl
          refine take_ (i := 3) (N := some 51) (v := ?_) (a' := ?_) #[true, true, true, true, false, false, false, false, true, false, false, false, false, false, false] rfl rfl (by kernel_rfl) (fun _ _ _ h => h) (Or.inl ⟨by rfl, ?_⟩) hHeld ?_ ?_
          rotate_left
          · intro w' s0
            go_simp
            with_reducible rfl
          rotate_left
          · simp only [Act.put, List.setIfInBounds_toArray, List.set_cons_zero, List.set_cons_succ, i64_w, i32_w]
            rfl
          refine pure_ (i := 4) (N := some 52) (v := ?_) (a' := ?_) #[true, true, true, true, true, false, false, false, true, false, false, false, false, false, false] rfl rfl (by kernel_rfl) (fun _ _ _ h => h) (Or.inl ⟨by rfl, ?_⟩) ?_ ?_
          rotate_left
          · intro w'
            go_simp
            with_reducible rfl
          rotate_left
          · simp only [Act.put, List.setIfInBounds_toArray, List.set_cons_zero, List.set_cons_succ, i64_w, i32_w]
            rfl
          refine pure_ (i := 5) (N := some 53) (v := ?_) (a' := ?_) #[true, true, true, true, true, true, false, false, true, false, false, false, false, false, false] rfl rfl (by kernel_rfl) (fun _ _ _ h => h) (Or.inl ⟨by rfl, ?_⟩) ?_ ?_
          rotate_left
          · intro w'
            go_simp
            with_reducible rfl
          rotate_left
          · simp only [Act.put, List.setIfInBounds_toArray, List.set_cons_zero, List.set_cons_succ, i64_w, i32_w]
            rfl
          refine pure_ (i := 6) (N := some 54) (v := ?_) (a' := ?_) #[true, true, true, true, true, true, true, false, true, false, false, false, false, false, false] rfl rfl (by kernel_rfl) (fun _ _ _ h => h) (Or.inl ⟨by rfl, ?_⟩) ?_ ?_
          rotate_left
          · intro w'
            go_simp
            with_reducible rfl
          rotate_left
          · simp only [Act.put, List.setIfInBounds_toArray, List.set_cons_zero, List.set_cons_succ, i64_w, i32_w]
            rfl
          refine take_ (i := 9) (N := some 57) (v := ?_) (a' := ?_) #[true, true, true, true, true, true, true, false, true, true, false, false, false, false, false] rfl rfl (by kernel_rfl) (fun _ _ _ h => h) (Or.inl ⟨by rfl, ?_⟩) hHeld ?_ ?_
          rotate_left
          · intro w' s0
            go_simp
            with_reducible rfl
          rotate_left
          · simp only [Act.put, List.setIfInBounds_toArray, List.set_cons_zero, List.set_cons_succ, i64_w, i32_w]
            rfl
          refine pure_ (i := 10) (N := some 58) (v := ?_) (a' := ?_) #[true, true, true, true, true, true, true, false, true, true, true, false, false, false, false] rfl rfl (by kernel_rfl) (fun _ _ _ h => h) (Or.inl ⟨by rfl, ?_⟩) ?_ ?_
          rotate_left
          · intro w'
            go_simp
            with_reducible rfl
          rotate_left
          · simp only [Act.put, List.setIfInBounds_toArray, List.set_cons_zero, List.set_cons_succ, i64_w, i32_w]
            rfl
          refine pure_ (i := 11) (N := some 59) (v := ?_) (a' := ?_) #[true, true, true, true, true, true, true, false, true, true, true, true, false, false, false] rfl rfl (by kernel_rfl) (fun _ _ _ h => h) (Or.inl ⟨by rfl, ?_⟩) ?_ ?_
          rotate_left
          · intro w'
            go_simp
            with_reducible rfl
          rotate_left
          · simp only [Act.put, List.setIfInBounds_toArray, List.set_cons_zero, List.set_cons_succ, i64_w, i32_w]
            rfl
          refine pure_ (i := 12) (N := some 60) (v := ?_) (a' := ?_) #[true, true, true, true, true, true, true, false, true, true, true, true, true, false, false] rfl rfl (by kernel_rfl) (fun _ _ _ h => h) (Or.inl ⟨by rfl, ?_⟩) ?_ ?_
          rotate_left
          · intro w'
            go_simp
            with_reducible rfl
          rotate_left
          · simp only [Act.put, List.setIfInBounds_toArray, List.set_cons_zero, List.set_cons_succ, i64_w, i32_w]
            rfl
          refine one_ (i := 7) (N := some 55) #[true, true, true, true, true, true, true, true, true, true, true, true, true, false, false] rfl rfl (by kernel_rfl) (by decide) (fun K hK => ?_)
          refine goes_ Try.func21 (by kernel_rfl) rfl #[.slice A3 L c3] (by rfl) rfl rfl (by simp only [List.map_toArray, List.map_cons, List.map_nil]; rfl) ?_
          with_reducible refine (hcl).mono ?_
          rintro e w4 ⟨v0, rfl, hr1, hb1⟩
          refine ⟨_, rfl, ?_⟩
          obtain ⟨A5, c5, hv0⟩ := Kd.R_slice hr1
          rw [hL3] at hv0
          subst hv0
          obtain ⟨v5, w5, hrun, hr5, hg5⟩ := Ap.run_append_zeros_own (P := Try.prog) (W := w4) W1.drew.heap.size 47 3 47 5 .u8 1 Try.underlying47 Try.underlying3 Go.Proofs.Ytlkijnnoalfblaa.Nb.infou8 (by omega) _ (bs.take L) (fun _ => True) (fun _ _ => trivial) hr1 (128 - L) hb1.size (by rw [hL3]; omega)
          have H4 := Aside0.mk (show w4.heap[z]? = _ from (hb1.block z hXlt).trans HBX.out)
          have H5 := Aside0.mk (show w5.heap[z]? = _ from (hg5.block z (by have := hb1.size; omega) (fun e => by have := Kd.R_base hr1 _ e.symm; omega)).trans H4.out)
          have HB5 := Aside0.mk (Below.grown hb1 hg5 hb1.size (fun k hk => Kd.R_base hr1 k hk))
          have HR5 := Aside0.mk hr5
          clear hr1 hb1 hg5 hr5
          refine hK.out _ _ ((by simp [World.cell?, H4.out])) (fun hHeld => ?_)
          clear hK K
          refine norm_ (a' := ?_) ?_ ?_
          rotate_left
          · show Act.put _ (some 55) _ = _
            simp only [Act.put, List.setIfInBounds_toArray, List.set_cons_zero, List.set_cons_succ, i64_w, i32_w]
            rfl
          refine last_ (i := 13) (N := some 61) #[true, true, true, true, true, true, true, true, true, true, true, true, true, true, false] rfl rfl (by kernel_rfl) (by decide) (fun K hK => ?_)
          refine Ap.append_step (by rfl) (.tmp 55) (.tmp 60) #[47, 3] rfl (.slice A5 L c5) (.int .i64 ((128 - L : Nat) : Int)) rfl ?hx (by exact hrun) ?_
          case hx => show Value.int .i64 (wrap64 (128 - (L : Int))) = _; rw [hsub]
          clear hrun
          refine hK.out _ _ ?_
          clear hK K
          refine norm_ (a' := ?_) ?_ ?_
          rotate_left
          · show Act.put _ (some 61) _ = _
            simp only [Act.put, List.setIfInBounds_toArray, List.set_cons_zero, List.set_cons_succ, i64_w, i32_w]
            rfl
          refine pure_ (i := 14) (N := some 13) (v := ?_) (a' := ?_) #[true, true, true, true, true, true, true, true, true, true, true, true, true, true, true] rfl rfl (by kernel_rfl) (fun _ _ _ h => h) (Or.inl ⟨by rfl, ?_⟩) ?_ ?_
          rotate_left
          · intro w'
            go_simp
            with_reducible rfl
          rotate_left
          · simp only [Act.put, List.setIfInBounds_toArray, List.set_cons_zero, List.set_cons_succ, i64_w, i32_w]
            rfl
          refine done_ (by kernel_rfl) ?_
          clear hsub hmin
          obtain ⟨A6, c6, hv5⟩ := Kd.R_slice HR5.out
          have hX : (bs.take L ++ List.replicate (128 - L) (0 : Int)).length = 128 := by rw [List.length_append, List.length_replicate, hL3]; omega
          have hR6 := HR5.out
          rw [hX] at hv5
          subst hv5
          generalize bs.take L ++ List.replicate (128 - L) (0 : Int) = x at *
          have HR6 := Aside0.mk hR6
          have HX128 := Aside0.mk hX
          have HB6 := Aside0.mk (below_step HBD.out HB5.out)
          have HBo5 := Aside0.mk (HBo.out.below HB6.out)
          have HW5 := Aside0.mk (below_step HBW.out HB6.out)
          have hs6 := HB5.out.size
          have hsd6 := HBD.out.size
          have hlx : ∀ k, Sd k ∨ Sx k → k < W1.drew.heap.size := fun k hk => by
            rcases hk with hk | hk
            · have := (HBo.out.dm.low k hk).2; omega
            · have := (HBo.out.x.low k hk).2; omega
          have HLX := Aside0.mk hlx
          have h6c : x.length ≤ c6 := by have := (Kd.R_reads' hR6).2.1; omega
          have hlast : last + 1 < 1000000000000000000 := by have := HQ.out.2.2.2; omega
          have HLT := Aside0.mk hlast
          have hRk : ∀ W' S2, (∀ k, S2 k → Sd k ∨ Sx k) → Kept S2 w5 W' → Kd.R (Kd.int .u8) 5 W' W1.drew.heap.size (fun _ => True) (.slice A6 128 c6) x := fun W' S2 h2 hk => Kd.R_mono (Kept.R (Kd.R_bound HR6.out) hk (fun k h1 h3 => by have := HLX.out k (h2 k h3); have := h1.2.1; omega)) (fun _ _ => trivial)
          have HRK := Aside0.mk hRk
          have hdw := dm_write HBo5.out.dm B A6 c6 x h6c (fun W' hk => by have h := (Kd.R_reads' (HRK.out W' Sd (fun k hk => .inl hk) hk)).2.2; exact h) hlast
          rw [hX] at hdw
          have z0 := y0 w5 HB5.out
          clear hR6 hRk hlx hX hlast y0 y1 hs6 hsd6
          gi_wp2_with (first
            | (refine ⟨trivial, ?_⟩; gi_at_call 22; refine (callsIn_wide.2 hdw).mono ?_; rintro e w6 ⟨rfl, ⟨Sd1, hs1, hd⟩, hk1⟩; have HD6 := Aside0.mk hd; have HS1 := Aside0.mk hs1; have HK6 := Aside0.mk hk1; have hz6 := (hk1.same z (by have := HB5.out.size; omega) (fun e => HZN.out e)).trans ((HB5.out.block z hXlt).trans HBX.out); have z06 : w6.cell? ⟨z, 0, none⟩ = some (.int .i64 B) := (by simp [World.cell?, hz6]); have hxw := x_writeS (HBo5.out.x.kept hk1 (fun k h1 h2 => absurd h1 (HBo5.out.dis k h2))) B A6 c6 x h6c (fun W' hk => by have h := (Kd.R_reads' (HRK.out W' (fun k => Sd k ∨ Sx k) (fun k hk => hk) ((hk1.mono (fun k _ hk => .inl hk)).trans hk (fun j hj => .inl (.inr hj))))).2.2; exact h) HLT.out; rw [HX128.out] at hxw; clear hd hs1 hk1 hdw z0 hz6)
            | (refine ⟨trivial, ?_⟩; gi_at_call 23; refine (callsIn_wide.2 hxw).mono ?_; rintro e w7 ⟨rfl, ⟨Sx1, hs2, hx⟩, hk2⟩; obtain ⟨hb7, hk7⟩ := HBo5.out.step HD6.out HS1.out HK6.out hx hs2 hk2 HBo5.out.flb; have HBo7 := Aside0.mk hb7; have HBW7 := Aside0.mk (HW5.out.trans (hk7.below (n := w.heap.size) (fun k hk => by rcases hk with hk | hk; have := (HBo.out.dm.low k hk).1; omega; have := (HBo.out.x.low k hk).1; omega) HW5.out.size)); clear hb7 hk7 hx hs2 hk2 hxw))
          obtain ⟨n1, n2, n3, n4⟩ := wr_nodup (bl := xs) (b := B) (x := x) HQ.out.1 HQ.out.2.1
          exact ⟨⟨i + 1, Sd1, Sx1, _, _, by simp, hlt, HBo7, ⟨n1, n2, by have := HQ.out.2.2.1; omega, by have := HQ.out.2.2.2; omega⟩, HBW7⟩, by simp [intOf]; omega⟩
      · obtain rfl : i = l.length := by omega
        have t1 : decide ((l.length : Int) < (l.length : Int)) = false := decide_eq_false (by omega)
        gi_wp2
        refine bodyPost_ret (results_tmp3 rfl _ _ _) rfl ?_
        exact ⟨HBW.out, .inr ⟨D, X, m, Sd, q, last, FL, w1.heap.size, rfl, HBo.out.dm, HQ.out.1, HQ.out.2.2.1, hs01⟩⟩
end Go.Proofs.Ytlkijnnoalfblaa.Dk
