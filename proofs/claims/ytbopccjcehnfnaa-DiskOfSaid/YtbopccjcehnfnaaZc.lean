/- Written by a program of this session. DiskOf: a disk of an image has its blocks, and goes its own way from a copy of it. -/
import Derived.Test.YtbopccjcehnfnaaYc
import Derived.Test.YtbopccjcehnfnaaZa
import Derived.Test.YtbopccjcehnfnaaZb
import Derived.Test.YtbopccjcehnfnaaOpW
namespace Go.Proofs.Ytbopccjcehnfnaa.Dk
open Go Go.RowKit Go.Shelf Go.Proofs Go.Maps Go.Proofs.Ytbopccjcehnfnaa.Sp Go.Proofs.Ytbopccjcehnfnaa.XFb Go.Proofs.YtbopccjcehnfnaaW.PrintWords Go.Proofs.YtbopccjcehnfnaaW.PrintLast Go.Proofs.YtbopccjcehnfnaaW.PrintMore
set_option linter.unusedVariables false
set_option linter.unusedSimpArgs false
theorem rows_of_R {W : World} {base : Nat} {ok : Nat → Prop} {g n cap : Nat} {xs : List (List Int)} (h : Kd.R (Kd.slice 5 (Kd.int .u8)) 30 W base ok (.slice (some ⟨g, 0, none⟩) n cap) xs) (hx : ∀ x ∈ xs, x.length < 9223372036854775807) :
    ∃ vs : List Value, vs.length = n ∧ (∀ j, j < n → W.cell? ⟨g, j, none⟩ = some (vs.getD j undef)) ∧ ∀ v ∈ vs, SB W v ∧ v.ownBlock ≠ some g ∧ ∀ k, v.ownBlock = some k → base ≤ k ∧ k < W.heap.size := by
  have hn := (Kd.R_reads' h).1
  obtain ⟨vs, hl, hp⟩ := Open.list_of (p := fun i v => W.cell? ⟨g, i, none⟩ = some v ∧ SB W v ∧ v.ownBlock ≠ some g ∧ ∀ k, v.ownBlock = some k → base ≤ k ∧ k < W.heap.size) n (fun i hi => by
    obtain ⟨c, _, ⟨v, hcv, hr⟩, hcell, _⟩ := Kd.R_elem h ([] : List Int) (i : Int) (by omega) (by omega)
    have hm : xs.getD i [] ∈ xs := by rw [List.getD_eq_getElem?_getD, List.getElem?_eq_getElem (by omega)]; exact List.getElem_mem _
    rw [Int.toNat_natCast] at hr hcell
    have hc0 := hcell 0 v (by rw [hcv]; rfl)
    refine ⟨v, ?_, SB.of_R hr (hx _ hm), fun e => (hr.1 g e).2 rfl, fun k hk => ⟨Kd.R_base hr k hk, Kd.R_lt hr k hk⟩⟩
    have e : i * (Kd.slice 5 (Kd.int .u8)).sz + 0 = i := Nat.mul_one i
    rwa [e] at hc0)
  refine ⟨vs, hl, fun j hj => ?_, fun v hv => ?_⟩
  · have := (hp j vs[j] (List.getElem?_eq_getElem (by omega))).1
    rw [List.getD_eq_getElem?_getD, List.getElem?_eq_getElem (by omega)]; exact this
  · obtain ⟨i, hi⟩ := List.getElem?_of_mem hv
    exact (hp i v hi).2
theorem spoil_R {W0 W : World} {base : Nat} {ok : Nat → Prop} {v : Value} {xs : List (List Int)} (h : Kd.R (Kd.slice 5 (Kd.int .u8)) 30 W0 base ok v xs) (hx : ∀ x ∈ xs, x.length < 9223372036854775807) (hl : xs.length < 9223372036854775807) (hb : Below W0.heap.size W0 W) :
    Calls Try.prog 27 #[v] W fun e W' => e = .returned (.tuple #[]) ∧ Spoils W W' (fun k => base ≤ k ∧ k < W0.heap.size) := by
  by_cases h0 : 0 < xs.length
  · obtain ⟨g, cap, rfl, hg1, hg2, cells, hgc⟩ := Kd.R_form h h0
    obtain ⟨vs, hvl, hvc, hvs⟩ := rows_of_R h hx
    refine (spoil_image W (some ⟨g, 0, none⟩) xs.length cap vs hvl hl (fun _ => ⟨_, rfl, fun j hj => ?_, fun v hv => (hvs v hv).2.1⟩) (fun v hv => (hvs v hv).1.below hb)).mono (fun e W' ⟨h1, h2⟩ => ⟨h1, h2.mono (fun k ⟨v, hv, hk⟩ => (hvs v hv).2.2 k hk)⟩)
    rw [← hvc j hj]
    have e : (⟨g, 0, none⟩ : Addr).add j = ⟨g, j, none⟩ := by unfold Addr.add; by_cases hj0 : j = 0 <;> simp [hj0]
    rw [e]
    exact World.cell?_of_block (hb.block g hg2)
  · obtain rfl : xs = [] := List.eq_nil_of_length_eq_zero (by omega)
    obtain ⟨A, c, rfl⟩ := Kd.R_slice h
    refine (spoil_image W A 0 c [] rfl (by decide) (fun h => absurd h (by omega)) (fun v hv => by cases hv)).mono (fun e W' ⟨h1, h2⟩ => ⟨h1, h2.mono (fun k ⟨v, hv, _⟩ => by cases hv)⟩)
theorem opensW_Do : Open.OpensW Try.prog kDo (fun x : DoT => (Lit.int .i64 x.1).wf = true ∧ (Lit.int .i64 x.2.1).wf = true ∧ (Lit.int .i64 x.2.2.1).wf = true ∧ ((∀ y ∈ x.2.2.2.1, (Lit.int .u8 y).wf = true) ∧ x.2.2.2.1.length * 1 ≤ 140737488351232) ∧ (∀ y ∈ x.2.2.2.2, (Lit.int .i64 y).wf = true) ∧ x.2.2.2.2.length * 8 ≤ 140737488351232) 59 :=
  Open.opensW_struct Try.underlying59 (by kernel_rfl)
    (Open.fieldsW_cons rfl (by kernel_rfl) (Open.opensW_of (Open.opens_int Try.underlying3))
      (Open.fieldsW_cons rfl (by kernel_rfl) (Open.opensW_of (Open.opens_int Try.underlying3))
        (Open.fieldsW_cons rfl (by kernel_rfl) (Open.opensW_of (Open.opens_int Try.underlying3))
          (Open.fieldsW_cons rfl (by kernel_rfl) (Open.opensW_slice (B := 1) Try.underlying30 (by kernel_rfl) (by kernel_rfl) (Open.opensW_of (Open.opens_int Try.underlying5)))
            (Open.fieldsW_one rfl (by kernel_rfl) (Open.opensW_slice (B := 8) Try.underlying40 (by kernel_rfl) (by kernel_rfl) (Open.opensW_of (Open.opens_int Try.underlying3)))) (by decide)) (by decide)) (by decide)) (by decide))
theorem pimage_l0 (xs : List (List Int)) (hx : ∀ x ∈ xs, x.length ≤ 140737488351232) (hl : xs.length < 5864062014805) (d : Nat) : ∀ (i K : Nat), i + d = xs.length → d < K → bollardplain_Image.l0 K (xs.take i) xs (xs.length : Int) (i : Int) = some xs := by
  induction d with
  | zero =>
    intro i K hi hK
    cases K with
    | zero => omega
    | succ K =>
      unfold bollardplain_Image.l0
      rw [if_neg (by omega), List.take_of_length_le (by omega)]
  | succ d ih =>
    intro i K hi hK
    cases K with
    | zero => omega
    | succ K =>
      have w3 : wrap64 ((i : Int) + 1) = ((i + 1 : Nat) : Int) := by unfold wrap64; omega
      have hil : i < xs.length := by omega
      have hm := hx xs[i] (List.getElem_mem _)
      have e : rd_L1 xs (i : Int) = xs[i] := by simp [rd_L1, List.getD_eq_getElem?_getD, hil]
      have hc : bytes_Clone.f xs[i] = some xs[i] := by unfold bytes_Clone.f; rw [if_pos (by omega)]
      have ht : xs.take i ++ [xs[i]] = xs.take (i + 1) := by rw [List.take_add_one, List.getElem?_eq_getElem hil]; rfl
      unfold bollardplain_Image.l0
      simp only [e, hc, w3, Option.bind_some, ht, ih (i + 1) K (by omega) (by omega), List.length_take]
      rw [if_pos (by omega), if_pos (by omega), if_pos (by omega)]
      try rw [if_pos (by omega)]
theorem pimage_f (xs : List (List Int)) (hx : ∀ x ∈ xs, x.length ≤ 140737488351232) (hl : xs.length < 5864062014805) : bollardplain_Image.f (xs.length + 1) xs = some xs := by
  unfold bollardplain_Image.f
  exact pimage_l0 xs hx hl xs.length 0 _ (by omega) (by omega)
theorem both_of {w w1 w2 : World} {D m X : Nat} {xs : List (List Int)} (h1 : IsDk w1 w.heap.size D m (fun k => w.heap.size ≤ k ∧ k < w1.heap.size) xs [] (.map #[] 0) 0) (hb1 : Below w.heap.size w w1)
    (h2 : IsX w2 w1.heap.size X (fun k => w1.heap.size ≤ k ∧ k < w2.heap.size) xs [] (List.replicate xs.length 0) 0) (hb2 : Below w1.heap.size w1 w2) :
    ∃ Sd Sx, Both w2 w.heap.size D m Sd X Sx xs [] (List.replicate xs.length 0) 0 0 ∧ (∀ k, Sd k ∨ Sx k → w.heap.size ≤ k) := by
  have hm := h1.below hb2
  have hs := hb1.size
  refine ⟨_, fun k => w1.heap.size ≤ k ∧ k < w2.heap.size, ⟨⟨⟨_, hm⟩, ⟨.map [], made_own hm.map 0, AgF.none_ _⟩, by simp⟩, ?_, fun k h3 h4 => ?_, fun c hc => ?_⟩, fun k hk => ?_⟩
  · obtain ⟨f1, f0, ⟨vB, vQ, vF, hD, hB, hQ, hF⟩, f2, f4⟩ := h2
    exact ⟨f1, f0, ⟨vB, vQ, vF, hD, Kd.R_lower hB hs, Kd.R_lower hQ hs, Kd.R_lower hF hs⟩, f2, fun k hk => ⟨by have := (f4 k hk).1; omega, (f4 k hk).2⟩⟩
  · have := h3.2; have := h4.1; omega
  · rw [List.eq_of_mem_replicate hc]; decide
  · rcases hk with hk | hk
    · exact hk.1
    · have := hk.1; omega
theorem both_copy {w3 w4 w5 : World} {base D m X D2 m2 Y : Nat} {Sd Sx : Nat → Prop} {bl : List (List Int)} {q : List S32} {fl : List Int} {last : Int} {n : Nat} (h : Both w3 base D m Sd X Sx bl q fl last n) (hd : IsDm w4 w3.heap.size D2 m2 (fun k => w3.heap.size ≤ k ∧ k < w4.heap.size) bl q fl last n)
    (hx : IsX w5 w4.heap.size Y (fun k => w4.heap.size ≤ k ∧ k < w5.heap.size) bl q fl last) (hb4 : Below w3.heap.size w3 w4) (hb5 : Below w4.heap.size w4 w5) :
    ∃ Sc Sy, Both w5 w3.heap.size D2 m2 Sc Y Sy bl q fl last n ∧ (∀ k, Sc k → w3.heap.size ≤ k ∧ k < w5.heap.size) ∧ (∀ k, Sy k → w3.heap.size ≤ k ∧ k < w5.heap.size) := by
  have hs := hb4.size
  have hs5 := hb5.size
  refine ⟨_, fun k => w4.heap.size ≤ k ∧ k < w5.heap.size, ⟨hd.below hb5, ?_, fun k h3 h4 => ?_, h.flb⟩, fun k hk => ?_, fun k hk => ?_⟩
  · obtain ⟨f1, f0, ⟨vB, vQ, vF, hD, hB, hQ, hF⟩, f2, f4⟩ := hx
    exact ⟨f1, f0, ⟨vB, vQ, vF, hD, Kd.R_lower hB hs, Kd.R_lower hQ hs, Kd.R_lower hF hs⟩, f2, fun k hk => ⟨by have := (f4 k hk).1; omega, (f4 k hk).2⟩⟩
  · have := h3.2; have := h4.1; omega
  · exact ⟨hk.1, by have := hk.2; omega⟩
  · exact ⟨by have := hk.1; omega, hk.2⟩
set_option maxRecDepth 100000 in
set_option maxHeartbeats 8000000 in
theorem DiskOf_walk (A0 : Option Addr) (c0 : Nat) (xs : List (List Int)) (A : Option Addr) (c : Nat) (l : List DoT) (w : World) (hC0 : Kd.C (Kd.slice 5 (Kd.int .u8)) w A0 xs.length xs) (hc0 : xs.length ≤ c0) (hx0 : ∀ x ∈ xs, x.length ≤ 140737488351232) (hl0 : xs.length < 5864062014805)
    (hC : Kd.C kDo w A l.length l) (hl : l.length ≤ 1000000000000000) (hF : ∀ x ∈ l, (fun x : DoT => (Lit.int .i64 x.1).wf = true ∧ (Lit.int .i64 x.2.1).wf = true ∧ (Lit.int .i64 x.2.2.1).wf = true ∧ ((∀ y ∈ x.2.2.2.1, (Lit.int .u8 y).wf = true) ∧ x.2.2.2.1.length * 1 ≤ 140737488351232) ∧ (∀ y ∈ x.2.2.2.2, (Lit.int .i64 y).wf = true) ∧ x.2.2.2.2.length * 8 ≤ 140737488351232) x) :
    Calls Try.prog 7 #[.slice A0 xs.length c0, .slice A l.length c] w fun e w' => e = .returned (.bool true) ∧ Below w.heap.size w w' := by
  have HC := Aside0.mk hC
  have HC0 := Aside0.mk hC0
  have HF := Aside0.mk hF
  have HX0 := Aside0.mk hx0
  have HIM := Aside0.mk (pimage_f xs hx0 hl0)
  have HML := Aside0.mk (show xs.length < 9223372036854775807 by omega)
  clear hC hF hC0 hx0
  refine (callsIn_wide (n := 1)).1 ?_
  refine callsIn_of_wp Try.func7 rfl trivial ?_ rfl
  simp only [Try.ntmps7, List.size_toArray, List.length_cons, List.length_nil, Nat.reduceAdd, Nat.reduceSub, Array.replicate_succ, Array.replicate_zero, List.push_toArray, List.append_toArray, List.nil_append, List.cons_append]
  by_cases hr : xs.length < 1 ∨ 2048 < xs.length ∨ ∃ x ∈ xs, x.length ≠ 128
  · have HR := Aside0.mk hr
    have hxo : ∀ W : World, Below w.heap.size w W → Calls Try.prog 26 #[.slice A0 xs.length c0] W (fun e W' => e = .returned (.tuple #[.pointer none, .int .i64 1]) ∧ Below W.heap.size W W') := fun W hb => by
      by_cases hn : xs.length < 1 ∨ 2048 < xs.length
      · refine (x_of_no A0 c0 xs.length W hn).mono ?_
        rintro e W' ⟨rfl, rfl⟩
        exact ⟨rfl, Below.refl _ _⟩
      · refine (x_of A0 c0 xs W (Kd.C_below HC0.out hb) (by omega) (by omega)).mono ?_
        rintro e W' ⟨hb2, ⟨rfl, _⟩ | ⟨_, h3, _⟩⟩
        · exact ⟨rfl, hb2⟩
        · obtain ⟨x, hx, hne⟩ : ∃ x ∈ xs, x.length ≠ 128 := by
            rcases HR.out with h | h | h
            · omega
            · omega
            · exact h
          exact absurd (h3 x hx) hne
    have HXO := Aside0.mk hxo
    clear hr hxo
    gi_wp2_with (first
      | (refine ⟨trivial, ?_⟩; gi_at_call 24; refine (callsIn_wide.2 (bollardplain_Image.calls (xs.length + 1) A0 c0 xs xs _ HC0.out hc0 HIM.out)).mono ?_; rintro e w1 ⟨v1, rfl, hs, hb⟩; obtain ⟨A1, c1, rfl⟩ := Kd.R_slice (Kd.S_R hs); have HG1 := Aside0.mk (Kd.S_R hs); have HB1 := Aside0.mk hb; clear hs hb)
      | (refine ⟨trivial, ?_⟩; gi_at_call 25; refine (callsIn_wide.2 (of_no A1 c1 xs _ (Kd.R_reads' HG1.out).2.2 HR.out)).mono ?_; rintro e w2 ⟨rfl, hb⟩; have HG2 := Aside0.mk (Kd.R_below HG1.out hb); have HB2 := Aside0.mk (below_step HB1.out hb); clear hb)
      | (refine ⟨trivial, ?_⟩; gi_at_call 26; refine (callsIn_wide.2 (HXO.out _ HB2.out)).mono ?_; rintro e w3 ⟨rfl, hb⟩; have HG3 := Aside0.mk (Kd.R_below HG2.out hb); have HB3 := Aside0.mk (below_step HB2.out hb); clear hb)
      | (refine ⟨trivial, ?_⟩; gi_at_call 12; refine (callsIn_wide.2 (same_image _ A1 A0 c1 c0 xs (Kd.R_reads' HG3.out).2.2 (Kd.C_below HC0.out HB3.out) HML.out)).mono ?_; rintro e w4 ⟨rfl, hb⟩; have HB4 := Aside0.mk (below_step HB3.out hb); clear hb))
    go_ret
    exact ⟨rfl, HB4.out⟩
  · have h1 : 1 ≤ xs.length := by omega
    have h2 : xs.length ≤ 2048 := by omega
    have hall : ∀ x ∈ xs, x.length = 128 := fun x hx => by false_or_by_contra; rename_i hn; exact hr (.inr (.inr ⟨x, hx, hn⟩))
    have HALL := Aside0.mk hall
    have hxo : ∀ W : World, Below w.heap.size w W → Calls Try.prog 26 #[.slice A0 xs.length c0] W (fun e W' => e = .returned (.tuple #[.pointer (some ⟨W.heap.size + 1, 0, none⟩), .int .i64 0]) ∧ IsX W' W.heap.size (W.heap.size + 1) (fun k => W.heap.size ≤ k ∧ k < W'.heap.size) xs [] (List.replicate xs.length 0) 0 ∧ Below W.heap.size W W') := fun W hb => by
      refine (x_of A0 c0 xs W (Kd.C_below HC0.out hb) h1 h2).mono ?_
      rintro e W' ⟨hb2, ⟨_, x, hx, hne⟩ | ⟨rfl, _, hi⟩⟩
      · exact absurd (HALL.out x hx) hne
      · exact ⟨rfl, hi, hb2⟩
    have HXO := Aside0.mk hxo
    clear hr hxo hall
    gi_wp2_with (first
      | (refine ⟨trivial, ?_⟩; gi_at_call 24; refine (callsIn_wide.2 (bollardplain_Image.calls (xs.length + 1) A0 c0 xs xs _ HC0.out hc0 HIM.out)).mono ?_; rintro e w1 ⟨v1, rfl, hs, hb⟩; obtain ⟨A1, c1, rfl⟩ := Kd.R_slice (Kd.S_R hs); have HG1 := Aside0.mk (Kd.S_R hs); have HB1 := Aside0.mk hb; clear hs hb)
      | (refine ⟨trivial, ?_⟩; gi_at_call 25; refine (callsIn_wide.2 (of_dk A1 c1 xs _ (Kd.R_reads' HG1.out).2.2 (Kd.R_reads' HG1.out).2.1 h1 h2 HALL.out)).mono ?_; rintro e w2 ⟨D, m, rfl, hi, hb⟩; have HI2 := Aside0.mk hi; have HB2 := Aside0.mk hb; clear hi hb)
      | (refine ⟨trivial, ?_⟩; gi_at_call 26; refine (callsIn_wide.2 (HXO.out _ (below_step HB1.out HB2.out))).mono ?_; rintro e w3 ⟨rfl, hi, hb⟩; obtain ⟨Sd0, Sx0, hbo, hs0⟩ := both_of HI2.out HB2.out hi hb; have HBo3 := Aside0.mk hbo; have HS0 := Aside0.mk hs0; have HB3 := Aside0.mk (below_step HB2.out hb); clear hi hb hbo hs0 HI2)
      | (refine ⟨trivial, ?_⟩; gi_at_call 12; refine (callsIn_wide.2 (same_image _ A1 A0 c1 c0 xs (Kd.R_reads' (Kd.R_below HG1.out HB3.out)).2.2 (Kd.C_below HC0.out (below_step HB1.out HB3.out)) HML.out)).mono ?_; rintro e w4 ⟨rfl, hb⟩; have HB4 := Aside0.mk (below_step HB3.out hb); have HBo4 := Aside0.mk (HBo3.out.below hb); clear hb)
      | (refine ⟨trivial, ?_⟩; gi_at_call 27; refine (callsIn_wide.2 (spoil_R HG1.out (fun x hx => by have := HALL.out x hx; omega) HML.out HB4.out)).mono ?_; rintro e w5 ⟨rfl, hs⟩; have HBo5 := Aside0.mk (HBo4.out.kept (kept_spoils hs) (fun k h1 h2 => by have := HS0.out k (.inl h1); have := h2.2; omega) (fun k h1 h2 => by have := HS0.out k (.inr h1); have := h2.2; omega)); have HBW5 := Aside0.mk ((below_step HB1.out HB4.out).trans (hs.below (n := w.heap.size) (fun k hk => hk.1))); have HS1 := Aside0.mk HB1.out.size; clear hs))
    obtain ⟨FL, hFL⟩ : ∃ FL, List.replicate xs.length (0 : Int) = FL := ⟨_, rfl⟩
    rw [hFL] at HBo5
    obtain ⟨X, hX⟩ : ∃ X, w2.heap.size + 1 = X := ⟨_, rfl⟩
    rw [hX] at HBo5 ⊢
    clear hFL hX HG1 HBo4 HBo3
    gi_loopw [48] (fun v48 wr => ∃ (i : Nat) (Sd Sx : Nat → Prop) (bl : List (List Int)) (q : List S32) (fl : List Int) (last : Int), v48 = .int .i64 (i : Int) ∧ i ≤ l.length ∧ Aside0 (Both wr w1.heap.size D m Sd X Sx bl q fl last i) ∧ Aside0 (last ≤ (i : Int)) ∧ Aside0 (Below w.heap.size w wr)) (fun v48 _ => l.length - (intOf v48).toNat)
    case atStart => exact ⟨0, _, _, _, _, _, _, rfl, Nat.zero_le _, HBo5, ⟨Int.le_refl _⟩, HBW5⟩
    case round =>
      obtain ⟨i, Sd, Sx, bl, q, fl, last, rfl, hi, HBo, HLA, HBW⟩ := hrel
      by_cases hlt : i < l.length
      · have t1 : decide ((i : Int) < (l.length : Int)) = true := decide_eq_true (by omega)
        obtain ⟨ad, A3, c3, A4, c4, rfl, k0, k1, k2, k3, k4, l3, g3, l4, g4⟩ := at_Do HC.out i hlt
        have hmem : l.getD i zDo ∈ l := by rw [List.getD_eq_getElem?_getD, List.getElem?_eq_getElem hlt]; exact List.getElem_mem _
        have hf1 := HF.out _ hmem
        obtain ⟨⟨op, B, N, bs, ids⟩, hel⟩ : ∃ e, l.getD i zDo = e := ⟨_, rfl⟩
        rw [hel] at k0 k1 k2 k3 k4 l3 g3 l4 g4 hf1
        dsimp only at k0 k1 k2 k3 k4 l3 g3 l4 g4 hf1
        have G3 := Aside0.mk g3
        have G4 := Aside0.mk g4
        have HF1 := Aside0.mk hf1
        have j0 := (HBW.out.cell (World.block_lt_of_cell? w _ k0)).trans k0
        have j1 := (HBW.out.cell (World.block_lt_of_cell? w _ k1)).trans k1
        have j2 := (HBW.out.cell (World.block_lt_of_cell? w _ k2)).trans k2
        have j3 := (HBW.out.cell (World.block_lt_of_cell? w _ k3)).trans k3
        have j4 := (HBW.out.cell (World.block_lt_of_cell? w _ k4)).trans k4
        clear g3 g4 hel hmem hf1 k0 k1 k2 k3 k4
        have hbx := below_alloc (Below.refl wr.heap.size wr) (.cells #[.int .i64 op, .int .i64 B, .int .i64 N, .slice A3 bs.length c3, .slice A4 ids.length c4] 59)
        have hlow : ∀ k, Sd k ∨ Sx k → w1.heap.size ≤ k ∧ k < wr.heap.size := fun k hk => by
          rcases hk with hk | hk
          · exact HBo.out.dm.low k hk
          · exact HBo.out.x.low k hk
        have HBo3 := Aside0.mk (HBo.out.below hbx)
        have HMX := Aside0.mk (show i + 1 < maxLen by simp only [maxLen]; omega)
        have HLS := Aside0.mk (show last + 1 < 1000000000000000000 by have := HLA.out; omega)
        have hw1 := HS1.out
        have hbw3 := below_step HBW.out hbx
        have hz3 := World.alloc_heap_new wr (.cells #[.int .i64 op, .int .i64 B, .int .i64 N, .slice A3 bs.length c3, .slice A4 ids.length c4] 59)
        have hzl : wr.heap.size < (wr.alloc (.cells #[.int .i64 op, .int .i64 B, .int .i64 N, .slice A3 bs.length c3, .slice A4 ids.length c4] 59)).heap.size := by simp
        gi_wp2
        clear j0 j1 j2 j3 j4 hbx
        generalize wr.alloc (.cells #[.int .i64 op, .int .i64 B, .int .i64 N, .slice A3 bs.length c3, .slice A4 ids.length c4] 59) = w3 at *
        generalize wr.heap.size = zb at *
        have HZ3 := Aside0.mk hz3
        have HLO := Aside0.mk hlow
        have hsw3 := hbw3.size
        have HBK := Aside0.mk (fun (w6 : World) (hb : Below w3.heap.size w3 w6) (W' : World) (hk : Kept (fun k => Sd k ∨ Sx k) w6 W') => ((below_step hbw3 hb).trans (hk.below (n := w.heap.size) (fun k h => by have := (HLO.out k h).1; omega) (by have := hb.size; omega)) : Below w.heap.size w W'))
        have HBL := Aside0.mk (fun (w6 : World) (hb : Below w3.heap.size w3 w6) (w8 : World) (hk8 : Kept (fun k => Sd k ∨ Sx k) w6 w8) (S2 : Nat → Prop) (h2 : ∀ k, S2 k → w3.heap.size ≤ k) (W' : World) (hk : Kept S2 w8 W') => ((HBK.out w6 hb w8 hk8).trans (hk.below (n := w.heap.size) (fun k h => by have := h2 k h; omega) (by have := hb.size; have := hk8.size; omega)) : Below w.heap.size w W'))
        clear hz3 hlow hbw3
        gi_wp2_with (first
          | (refine ⟨trivial, ?_⟩; gi_at_call 15; refine (callsIn_wide.2 (dm_copy HBo3.out.dm (by simp only [maxLen]; omega))).mono ?_; rintro e w4 ⟨D2, m2, rfl, hc, hb⟩; have HC4 := Aside0.mk hc; have HB4 := Aside0.mk hb; clear hc hb)
          | (refine ⟨trivial, ?_⟩; gi_at_call 28; refine (callsIn_wide.2 (x_copy (HBo3.out.x.below HB4.out))).mono ?_; rintro e w5 ⟨Y, rfl, hc, hb⟩; obtain ⟨Sc, Sy, hbc, hscl, hsyl⟩ := both_copy HBo3.out HC4.out hc HB4.out hb; have HBc5 := Aside0.mk hbc; have HB5 := Aside0.mk (below_step HB4.out hb); have HSC := Aside0.mk (fun k (hk : Sc k ∨ Sy k) => (by rcases hk with hk | hk; exact hscl k hk; exact hsyl k hk : w3.heap.size ≤ k ∧ k < w5.heap.size)); clear hbc hscl hsyl hc hb HC4)
          | (refine ⟨trivial, ?_⟩; gi_at_call 23; refine (callsIn_wide.2 (same_ok HBc5.out)).mono ?_; rintro e w6 ⟨rfl, hb⟩; have HBc6 := Aside0.mk (HBc5.out.below hb); have HB6 := Aside0.mk (below_step HB5.out hb); have HBo6 := Aside0.mk (HBo3.out.below HB6.out); have HZ6 := Aside0.mk ((HB6.out.block zb hzl).trans HZ3.out); have HS56 := Aside0.mk hb.size; have hdo1 := does_ok HBo6.out op B N A3 c3 bs A4 c4 ids HF1.out.2.1 HF1.out.2.2.1 (fun W' hk => Kd.C_below G3.out (HBK.out w6 HB6.out W' hk)) l3 (by have := HF1.out.2.2.2.1.2; omega) (fun W' hk => Kd.C_below G4.out (HBK.out w6 HB6.out W' hk)) l4 HF1.out.2.2.2.2.2 HLS.out HMX.out; have y0 : w6.cell? ⟨zb, 0, none⟩ = some (.int .i64 op) := (by simp [World.cell?, HZ6.out]); have y1 : w6.cell? ⟨zb, 1, none⟩ = some (.int .i64 B) := (by simp [World.cell?, HZ6.out]); have y2 : w6.cell? ⟨zb, 2, none⟩ = some (.int .i64 N) := (by simp [World.cell?, HZ6.out]); have y3 : w6.cell? ⟨zb, 3, none⟩ = some (.slice A3 bs.length c3) := (by simp [World.cell?, HZ6.out]); have y4 : w6.cell? ⟨zb, 4, none⟩ = some (.slice A4 ids.length c4) := (by simp [World.cell?, HZ6.out]); clear hb HBc5 HB5)
          | (refine ⟨trivial, ?_⟩; gi_at_call 22; refine (callsIn_wide.2 hdo1).mono ?_; rintro e w7 ⟨rfl, Sd1, Sx1, bl1, q1, fl1, last1, hb7, hla, hk7, hsd, hsx⟩; have HBo7 := Aside0.mk hb7; have HLA7 := Aside0.mk hla; have HK7 := Aside0.mk hk7; have HSD7 := Aside0.mk (fun k (hk : Sd1 k ∨ Sx1 k) => (by rcases hk with hk | hk; exact (hsd k hk).imp (fun h => (.inl h : Sd k ∨ Sx k)) (fun h => h); exact (hsx k hk).imp (fun h => (.inr h : Sd k ∨ Sx k)) (fun h => h) : (Sd k ∨ Sx k) ∨ w6.heap.size ≤ k)); have HBc7 := Aside0.mk (HBc6.out.kept hk7 (fun k h1 h2 => by have := HSC.out k (.inl h1); have := HLO.out k h2; omega) (fun k h1 h2 => by have := HSC.out k (.inr h1); have := HLO.out k h2; omega)); have HZ7 := Aside0.mk ((hk7.same zb (by have := HB6.out.size; omega) (fun e => by have := HLO.out zb e; omega)).trans HZ6.out); clear hb7 hla hk7 hsd hsx hdo1 y0 y1 y2 y3 y4)
          | (refine ⟨trivial, ?_⟩; gi_at_call 23; refine (callsIn_wide.2 (same_ok HBo7.out)).mono ?_; rintro e w8 ⟨rfl, hb⟩; have HBo8 := Aside0.mk (HBo7.out.below hb); have HBc8 := Aside0.mk (HBc7.out.below hb); have HZ8 := Aside0.mk ((hb.block zb (heap_lt HZ7.out)).trans HZ7.out); have HK8 := Aside0.mk (HK7.out.trans (Kept.of_below (S := fun k => Sd k ∨ Sx k) hb) (fun j hj => .inl hj)); have hdo2 := does_ok HBc8.out op B N A3 c3 bs A4 c4 ids HF1.out.2.1 HF1.out.2.2.1 (fun W' hk => Kd.C_below G3.out (HBL.out w6 HB6.out w8 HK8.out _ (fun k hk => (HSC.out k hk).1) W' hk)) l3 (by have := HF1.out.2.2.2.1.2; omega) (fun W' hk => Kd.C_below G4.out (HBL.out w6 HB6.out w8 HK8.out _ (fun k hk => (HSC.out k hk).1) W' hk)) l4 HF1.out.2.2.2.2.2 HLS.out HMX.out; have z0 : w8.cell? ⟨zb, 0, none⟩ = some (.int .i64 op) := (by simp [World.cell?, HZ8.out]); have z1 : w8.cell? ⟨zb, 1, none⟩ = some (.int .i64 B) := (by simp [World.cell?, HZ8.out]); have z2 : w8.cell? ⟨zb, 2, none⟩ = some (.int .i64 N) := (by simp [World.cell?, HZ8.out]); have z3 : w8.cell? ⟨zb, 3, none⟩ = some (.slice A3 bs.length c3) := (by simp [World.cell?, HZ8.out]); have z4 : w8.cell? ⟨zb, 4, none⟩ = some (.slice A4 ids.length c4) := (by simp [World.cell?, HZ8.out]); clear hb HBo7 HBc7)
          | (refine ⟨trivial, ?_⟩; gi_at_call 22; refine (callsIn_wide.2 hdo2).mono ?_; rintro e w9 ⟨rfl, Sc1, Sy1, bl2, q2, fl2, last2, hb9, hla, hk9, hsd, hsx⟩; have HBc9 := Aside0.mk hb9; have HBo9 := Aside0.mk (HBo8.out.kept hk9 (fun k h1 h2 => by have := HSC.out k h2; have := HS56.out; rcases HSD7.out k (.inl h1) with h3 | h3; have := HLO.out k h3; omega; omega) (fun k h1 h2 => by have := HSC.out k h2; have := HS56.out; rcases HSD7.out k (.inr h1) with h3 | h3; have := HLO.out k h3; omega; omega)); have HBW9 := Aside0.mk (HBL.out w6 HB6.out w8 HK8.out _ (fun k hk => (HSC.out k hk).1) w9 hk9); clear hb9 hla hk9 hsd hsx hdo2 z0 z1 z2 z3 z4)
          | (refine ⟨trivial, ?_⟩; gi_at_call 23; refine (callsIn_wide.2 (same_ok HBc9.out)).mono ?_; rintro e w10 ⟨rfl, hb⟩; have HBo10 := Aside0.mk (HBo9.out.below hb); have HBW10 := Aside0.mk (below_step HBW9.out hb); clear hb))
        exact ⟨⟨i + 1, Sd1, Sx1, bl1, q1, fl1, last1, by simp, hlt, HBo10, ⟨by have := HLA.out; have := HLA7.out; omega⟩, HBW10⟩, by simp [intOf]; omega⟩
      · have t1 : decide ((i : Int) < (l.length : Int)) = false := decide_eq_false (by omega)
        gi_wp2_with (first
          | (refine ⟨trivial, ?_⟩; gi_at_call 23; refine (callsIn_wide.2 (same_ok HBo.out)).mono ?_; rintro e w5 ⟨rfl, hb⟩; have HBX5 := Aside0.mk (below_step HBW.out hb); clear hb))
        go_ret
        exact ⟨rfl, HBX5.out⟩
theorem DiskOf_row (A0 : Option Addr) (c0 : Nat) (xs : List (List Int)) (A : Option Addr) (c : Nat) (l : List DoT) (w : World) (hC0 : Kd.C (Kd.slice 5 (Kd.int .u8)) w A0 xs.length xs) (hc0 : xs.length ≤ c0) (hF0 : ∀ x ∈ xs, (fun x : List Int => (∀ y ∈ x, (Lit.int .u8 y).wf = true) ∧ x.length * 1 ≤ 140737488351232) x) (hY0 : xs.length * 24 ≤ 140737488351232)
    (hC : Kd.C kDo w A l.length l) (_ : l.length ≤ c) (hF : ∀ x ∈ l, (fun x : DoT => (Lit.int .i64 x.1).wf = true ∧ (Lit.int .i64 x.2.1).wf = true ∧ (Lit.int .i64 x.2.2.1).wf = true ∧ ((∀ y ∈ x.2.2.2.1, (Lit.int .u8 y).wf = true) ∧ x.2.2.2.1.length * 1 ≤ 140737488351232) ∧ (∀ y ∈ x.2.2.2.2, (Lit.int .i64 y).wf = true) ∧ x.2.2.2.2.length * 8 ≤ 140737488351232) x) (hl : l.length * 72 ≤ 140737488351232) :
    Calls Try.prog 7 #[.slice A0 xs.length c0, .slice A l.length c] w fun e w' => e = .returned (.bool true) ∧ Below w.heap.size w w' := DiskOf_walk A0 c0 xs A c l w hC0 hc0 (fun x hx => by have := (hF0 x hx).2; omega) (by omega) hC (by omega) hF
end Go.Proofs.Ytbopccjcehnfnaa.Dk
