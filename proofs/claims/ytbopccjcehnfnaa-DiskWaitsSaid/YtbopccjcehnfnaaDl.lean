/- Written by a program of this session. DiskLast: a block has what its last write that was done had, or noughts. -/
import Derived.Test.YtbopccjcehnfnaaDs
import Derived.Test.YtbopccjcehnfnaaOpen
namespace Go.Proofs.Ytbopccjcehnfnaa.Dk
open Go Go.RowKit Go.Shelf Go.Proofs Go.Proofs.Ytbopccjcehnfnaa.Sp Go.Proofs.Ytbopccjcehnfnaa.Ap Go.Proofs.Ytbopccjcehnfnaa.XFb Go.Proofs.YtbopccjcehnfnaaW.PrintWords Go.Proofs.YtbopccjcehnfnaaW.PrintLast Go.Proofs.YtbopccjcehnfnaaW.PrintMore
set_option linter.unusedVariables false
set_option linter.unusedSimpArgs false
theorem at_bool {w : World} {A : Option Addr} {n : Nat} {xs : List Bool} (h : Kd.C Kd.bool w A n xs) (i : Nat) (h1 : i < n) : ∃ ad, A = some ad ∧ w.cell? (ad.add i) = some (.bool (xs.getD i false)) := by
  obtain ⟨ad, c, e, _, hK, hc0⟩ := Kd.C_get h false (i : Int) (by omega) (by omega)
  rw [Int.toNat_natCast] at hK hc0
  have hc : ∀ j u, c[j]? = some u → w.cell? (ad.add (i * 1 + j)) = some u := hc0
  have hK' : c = [.bool (xs.getD i false)] := hK
  subst hK'
  exact ⟨ad, e, by have := hc 0 _ rfl; rwa [Nat.mul_one, Nat.add_zero] at this⟩
set_option maxRecDepth 100000 in
set_option maxHeartbeats 8000000 in
theorem DiskLast_walk (n : Int) (A : Option Addr) (c : Nat) (l : List DoT) (A1 : Option Addr) (c1 : Nat) (wh : List Bool) (w : World) (hn : (Lit.int .i64 n).wf = true) (hC : Kd.C kDo w A l.length l) (hl : l.length ≤ 1000000000000000) (hC1 : Kd.C Kd.bool w A1 wh.length wh) (hl1 : wh.length ≤ 1000000000000000000) :
    Calls Try.prog 3 #[.int .i64 n, .slice A l.length c, .slice A1 wh.length c1] w fun e w' => e = .returned (.bool true) ∧ Below w.heap.size w w' := by
  have HC := Aside0.mk hC
  have HC1 := Aside0.mk hC1
  clear hC hC1
  refine (callsIn_wide (n := 1)).1 ?_
  refine callsIn_of_wp Try.func3 rfl trivial ?_ rfl
  simp only [Try.ntmps3, List.size_toArray, List.length_cons, List.length_nil, Nat.reduceAdd, Nat.reduceSub, Array.replicate_succ, Array.replicate_zero, List.push_toArray, List.append_toArray, List.nil_append, List.cons_append]
  gi_wp2_with (first
    | (refine ⟨trivial, ?_⟩; gi_at_call 8; refine (callsIn_wide.2 (script_ok _ n hn A c l HC.out hl)).mono ?_; rintro e w1 ⟨D, m, S, q, last, rfl, hi, hnd, _, hb⟩; generalize List.replicate (1 + (n % 8).toNat) (List.replicate 128 (0 : Int)) = BL at hi; have HI := Aside0.mk hi; have HND := Aside0.mk hnd; have HB1 := Aside0.mk hb; clear hi hnd hb)
    | (refine ⟨trivial, ?_⟩; gi_at_call 9; refine (callsIn_wide.2 (image_ok HI.out)).mono ?_; rintro e w2 ⟨v2, rfl, hs, hb⟩; obtain ⟨gW, cW, rfl, hgW1, hgW2, csW, hgWc⟩ := Kd.R_form (Kd.S_R hs) (by have := HI.out.fits.some; omega); have HWN0 := Aside0.mk (Kd.S_R hs); have HI2 := Aside0.mk (HI.out.below hb); have HB2 := Aside0.mk hb; clear hs hb)
    | (refine ⟨trivial, ?_⟩; gi_at_call 10; refine (callsIn_wide.2 (queue_ok HI2.out)).mono ?_; rintro e w3 ⟨v3, rfl, hs, hb⟩; obtain ⟨AQ, cQ, rfl⟩ := Kd.R_slice (Kd.S_R hs); have HQC := Aside0.mk (Kd.S_R hs); have HI3 := Aside0.mk (HI2.out.below hb); have HB3 := Aside0.mk hb; clear hs hb))
  have HSlt := Aside0.mk (fun k (hk : S k) => ((HI.out.low k hk).2 : k < w1.heap.size))
  have HSge := Aside0.mk (fun k (hk : S k) => ((HI.out.low k hk).1 : w.heap.size ≤ k))
  have HW3 := Aside0.mk (below_step (below_step HB1.out HB2.out) HB3.out)
  have HWN3 := Aside0.mk (Kd.R_below HWN0.out HB3.out)
  have hq64 := HI.out.fits.queue
  have hs12 := HB2.out.size
  have hs01 := HB1.out.size
  have hs23 := HB3.out.size
  clear HI2
  gi_loopw [22] (fun v22 w' => ∃ (i : Nat) (bl : List (List Int)), v22 = .int .i64 (i : Int) ∧ i ≤ q.length ∧ Aside0 (IsDk w' w.heap.size D m S bl (q.drop i) (.map #[] 0) last) ∧ Aside0 (Kd.R (Kd.slice 5 (Kd.int .u8)) 30 w' w1.heap.size (fun _ => True) (.slice (some ⟨gW, 0, none⟩) BL.length cW) bl) ∧ Aside0 (Kept (fun k => S k ∨ k = gW) w3 w'))
    (fun v22 _ => q.length - (intOf v22).toNat)
  case atStart => exact ⟨0, BL, rfl, Nat.zero_le _, HI3, HWN3, ⟨Kept.refl _ _⟩⟩
  case round =>
    obtain ⟨i, bl, rfl, hi, HJ, HWN, HK⟩ := hrel
    have hbw : Below w.heap.size w wr := HW3.out.trans (HK.out.below (fun k hk => by rcases hk with hk | hk; exact HSge.out k hk; omega) (by omega))
    have HBW := Aside0.mk hbw
    have HBLn := Aside0.mk (Kd.R_reads' HWN.out).1
    by_cases hlt : i < q.length
    · have t1 : decide ((i : Int) < (q.length : Int)) = true := decide_eq_true (by omega)
      obtain ⟨gQ, cQ', hf, _⟩ := Kd.R_form HQC.out (by omega)
      injection hf with hA _ hc
      subst hA
      subst hc
      have HQr := Aside0.mk (Kept.R (Kd.R_bound HQC.out) HK.out (fun k h1 h2 => by have := h1.2.1; rcases h2 with h2 | h2; have := HSlt.out k h2; omega; omega))
      obtain ⟨s, hsk⟩ : ∃ s, q[i] = s := ⟨_, rfl⟩
      have hqd : q.drop i = s :: q.drop (i + 1) := by rw [← hsk]; exact List.drop_eq_getElem_cons hlt
      obtain ⟨cs, hcl, hM, hcell, _⟩ := Kd.R_elem HQr.out z32 (i : Int) (by omega) (by omega)
      rw [Int.toNat_natCast, show q.getD i z32 = s by rw [← hsk]; simp [List.getD_eq_getElem?_getD, hlt]] at hM
      obtain ⟨v2, rfl, hv2⟩ := k32_openM hM
      obtain ⟨A2, c2, rfl⟩ := Kd.R_slice hv2
      have k0 := hcell 0 _ rfl
      have k1 := hcell 1 _ rfl
      have k2 := hcell 2 _ rfl
      rw [Int.toNat_natCast, show (k32 : Kd S32).sz = 3 from rfl, Nat.add_zero] at k0
      rw [Int.toNat_natCast, show (k32 : Kd S32).sz = 3 from rfl] at k1 k2
      have HV := Aside0.mk hv2
      have hin0 := HJ.out.fits.in_ s (by rw [hqd]; exact List.mem_cons_self)
      have hin : 0 ≤ s.f1 ∧ s.f1 < (bl.length : Int) := hin0
      have hin2 : s.f1 < (BL.length : Int) := by have := HBLn.out; omega
      have p1 : 0 ≤ s.f1 := hin.1
      have p2 : s.f1 < (BL.length : Int) := hin2
      have hk0 : 0 < (q.drop i).length := by rw [hqd]; simp
      have h00 : (q.drop i)[0]'hk0 = s := by simp only [hqd, List.getElem_cons_zero]
      have he0 : (q.drop i).eraseIdx 0 = q.drop (i + 1) := by rw [hqd]; rfl
      have hix : ixL (fun x : S32 => x.f0 == s.f0) (q.drop i) 0 = ((0 : Nat) : Int) := by rw [hqd]; show (if (s.f0 == s.f0) = true then (0 : Int) else _) = _; rw [if_pos (beq_self_eq_true _)]; rfl
      clear hM hcell hcl hv2 hbw hin0
      obtain ⟨ok, hok⟩ : ∃ ok, wh.getD i false = ok := ⟨_, rfl⟩
      have HJ1 := Aside0.mk (HJ.out.below (below_alloc (Below.refl wr.heap.size wr) (.cells #[.int .i64 s.f0, .int .i64 s.f1, .slice A2 s.f2.length c2] 32)))
      by_cases hw : i < wh.length
      · have t2 : decide ((i : Int) < (wh.length : Int)) = true := decide_eq_true (by omega)
        obtain ⟨ad2, rfl, kb⟩ := at_bool (Kd.C_below HC1.out HBW.out) i hw
        rw [hok] at kb
        have kb2 := Go.Lib.cell?_alloc_some (.cells #[.int .i64 s.f0, .int .i64 s.f1, .slice A2 s.f2.length c2] 32) kb
        clear hok kb
        cases ok with
        | true =>
          gi_wp2_with (first
            | (refine ⟨trivial, ?_⟩; gi_at_call 11; refine (callsIn_wide.2 (complete_some HJ1.out s.f0 _ 0 hk0 hix)).mono ?_; rintro e w5 ⟨rfl, hi5, hk5⟩; simp only [h00, he0, if_true, if_false, Bool.false_eq_true] at hi5; have HI5 := Aside0.mk hi5; have HK5 := Aside0.mk hk5; have bx := (hk5.same wr.heap.size (by simp) (fun e => by have := (HJ.out.low _ e).2; omega)).trans (World.alloc_heap_new _ _); have b1 : w5.cell? ⟨wr.heap.size, 1, none⟩ = some (.int .i64 s.f1) := (by simp only [World.cell?, bx]; rfl); have b2 : w5.cell? ⟨wr.heap.size, 2, none⟩ = some (.slice A2 s.f2.length c2) := (by simp only [World.cell?, bx]; rfl); have HW5 := Aside0.mk (Kept.R (Kd.R_bound (Kd.R_alloc HWN.out (.cells #[.int .i64 s.f0, .int .i64 s.f1, .slice A2 s.f2.length c2] 32))) hk5 (fun k h1 h2 => by have := HSlt.out k h2; have := h1.2.1; omega)); have HV5 := Aside0.mk (Kept.R (Kd.R_bound (Kd.R_alloc HV.out (.cells #[.int .i64 s.f0, .int .i64 s.f1, .slice A2 s.f2.length c2] 32))) hk5 (fun k h1 h2 => by have := HSlt.out k h2; have := h1.2.1; omega)); obtain ⟨csE, hclE, ⟨vE, hcE, hvE⟩, hcellE, hfroE⟩ := Kd.R_elem HW5.out ([] : List Int) s.f1 hin.1 hin2; subst hcE; have y0 : w5.cell? ⟨gW, s.f1.toNat, none⟩ = some vE := (by have h := hcellE 0 vE rfl; rw [show s.f1.toNat * (Kd.slice 5 (Kd.int .u8)).sz + 0 = s.f1.toNat from Nat.mul_one _] at h; exact h); have y1 : w5.frozen? ⟨gW, s.f1.toNat, none⟩ = false := (by have h := hfroE 0; rw [show s.f1.toNat * (Kd.slice 5 (Kd.int .u8)).sz + 0 = s.f1.toNat from Nat.mul_one _] at h; exact h); have HCE := Aside0.mk (And.intro hclE hcellE); clear hi5 hk5 bx hfroE hvE hclE hcellE))
          go_roundw
          case rel =>
            obtain ⟨hclE, hcellE⟩ := HCE.out
            have hV5 : Kd.R (Kd.int .u8) 5 w5 w1.heap.size (fun k => w2.heap.size ≤ k) (.slice A2 s.f2.length c2) s.f2 := Kd.R_lower (Kd.R_mono HV5.out (fun k hk => hk.2.1)) hs12
            obtain ⟨hB6, hg6⟩ := Kd.R_seg (okp := fun k => w2.heap.size ≤ k) (j := 0) (seg := [.slice A2 s.f2.length c2]) (Kd.R_mono HW5.out (fun _ _ => trivial) : Kd.R (Kd.slice 5 (Kd.int .u8)) 30 w5 w1.heap.size (fun _ => True) (.slice (some ⟨gW, 0, none⟩) BL.length cW) bl) s.f1 hin.1 hin2 hclE hcellE (show (0 + 1 : Nat) ≤ 1 by decide) (x' := s.f2) ⟨_, rfl, hV5⟩ (fun k hk => ⟨trivial, fun e => by omega⟩)
            have e4 : w5.setCells gW (s.f1.toNat * (Kd.slice 5 (Kd.int .u8)).sz + 0) [.slice A2 s.f2.length c2] = w5.setCell ⟨gW, s.f1.toNat, none⟩ (.slice A2 s.f2.length c2) := by
              show w5.setCell ⟨gW, s.f1.toNat * 1 + 0, none⟩ _ = _
              rw [Nat.mul_one, Nat.add_zero]
            rw [e4] at hB6 hg6
            exact ⟨i + 1, bl.set s.f1.toNat s.f2, rfl, hlt, ⟨HI5.out.kept (S2 := fun k => k = gW) (Kept.of_grown hg6 (fun k hk => by injection hk with hk; exact hk.symm)) (fun k hk e => by have := HSlt.out k hk; omega)⟩, ⟨hB6⟩, ⟨((HK.out.trans (Kept.of_below (S := fun k => S k ∨ k = gW) (below_alloc (Below.refl wr.heap.size wr) (.cells #[.int .i64 s.f0, .int .i64 s.f1, .slice A2 s.f2.length c2] 32))) (fun j hj => .inl hj)).trans HK5.out (fun j hj => .inl (.inl hj))).trans (Kept.of_grown (S := fun k => S k ∨ k = gW) hg6 (fun k hk => by injection hk with hk; exact .inr hk.symm)) (fun j hj => .inl hj)⟩⟩
          case measure =>
            show q.length - ((i : Int) + 1).toNat < q.length - ((i : Int)).toNat
            omega
        | false =>
          gi_wp2_with (first
            | (refine ⟨trivial, ?_⟩; gi_at_call 11; refine (callsIn_wide.2 (complete_some HJ1.out s.f0 _ 0 hk0 hix)).mono ?_; rintro e w5 ⟨rfl, hi5, hk5⟩; simp only [h00, he0, if_true, if_false, Bool.false_eq_true] at hi5; have HI5 := Aside0.mk hi5; have HK5 := Aside0.mk hk5; have bx := (hk5.same wr.heap.size (by simp) (fun e => by have := (HJ.out.low _ e).2; omega)).trans (World.alloc_heap_new _ _); have b1 : w5.cell? ⟨wr.heap.size, 1, none⟩ = some (.int .i64 s.f1) := (by simp only [World.cell?, bx]; rfl); have b2 : w5.cell? ⟨wr.heap.size, 2, none⟩ = some (.slice A2 s.f2.length c2) := (by simp only [World.cell?, bx]; rfl); have HW5 := Aside0.mk (Kept.R (Kd.R_bound (Kd.R_alloc HWN.out (.cells #[.int .i64 s.f0, .int .i64 s.f1, .slice A2 s.f2.length c2] 32))) hk5 (fun k h1 h2 => by have := HSlt.out k h2; have := h1.2.1; omega)); have HV5 := Aside0.mk (Kept.R (Kd.R_bound (Kd.R_alloc HV.out (.cells #[.int .i64 s.f0, .int .i64 s.f1, .slice A2 s.f2.length c2] 32))) hk5 (fun k h1 h2 => by have := HSlt.out k h2; have := h1.2.1; omega)); obtain ⟨csE, hclE, ⟨vE, hcE, hvE⟩, hcellE, hfroE⟩ := Kd.R_elem HW5.out ([] : List Int) s.f1 hin.1 hin2; subst hcE; have y0 : w5.cell? ⟨gW, s.f1.toNat, none⟩ = some vE := (by have h := hcellE 0 vE rfl; rw [show s.f1.toNat * (Kd.slice 5 (Kd.int .u8)).sz + 0 = s.f1.toNat from Nat.mul_one _] at h; exact h); have y1 : w5.frozen? ⟨gW, s.f1.toNat, none⟩ = false := (by have h := hfroE 0; rw [show s.f1.toNat * (Kd.slice 5 (Kd.int .u8)).sz + 0 = s.f1.toNat from Nat.mul_one _] at h; exact h); have HCE := Aside0.mk (And.intro hclE hcellE); clear hi5 hk5 bx hfroE hvE hclE hcellE))
          go_roundw
          case rel => exact ⟨i + 1, bl, rfl, hlt, HI5, ⟨Kd.R_mono HW5.out (fun _ _ => trivial)⟩, ⟨((HK.out.trans (Kept.of_below (S := fun k => S k ∨ k = gW) (below_alloc (Below.refl wr.heap.size wr) (.cells #[.int .i64 s.f0, .int .i64 s.f1, .slice A2 s.f2.length c2] 32))) (fun j hj => .inl hj)).trans HK5.out (fun j hj => .inl (.inl hj)))⟩⟩
          case measure =>
            show q.length - ((i : Int) + 1).toNat < q.length - ((i : Int)).toNat
            omega
      · have t2 : decide ((i : Int) < (wh.length : Int)) = false := decide_eq_false (by omega)
        obtain rfl : ok = false := by rw [← hok]; simp [List.getD_eq_getElem?_getD, hw]
        gi_wp2_with (first
          | (refine ⟨trivial, ?_⟩; gi_at_call 11; refine (callsIn_wide.2 (complete_some HJ1.out s.f0 _ 0 hk0 hix)).mono ?_; rintro e w5 ⟨rfl, hi5, hk5⟩; simp only [h00, he0, if_true, if_false, Bool.false_eq_true] at hi5; have HI5 := Aside0.mk hi5; have HK5 := Aside0.mk hk5; have bx := (hk5.same wr.heap.size (by simp) (fun e => by have := (HJ.out.low _ e).2; omega)).trans (World.alloc_heap_new _ _); have b1 : w5.cell? ⟨wr.heap.size, 1, none⟩ = some (.int .i64 s.f1) := (by simp only [World.cell?, bx]; rfl); have b2 : w5.cell? ⟨wr.heap.size, 2, none⟩ = some (.slice A2 s.f2.length c2) := (by simp only [World.cell?, bx]; rfl); have HW5 := Aside0.mk (Kept.R (Kd.R_bound (Kd.R_alloc HWN.out (.cells #[.int .i64 s.f0, .int .i64 s.f1, .slice A2 s.f2.length c2] 32))) hk5 (fun k h1 h2 => by have := HSlt.out k h2; have := h1.2.1; omega)); have HV5 := Aside0.mk (Kept.R (Kd.R_bound (Kd.R_alloc HV.out (.cells #[.int .i64 s.f0, .int .i64 s.f1, .slice A2 s.f2.length c2] 32))) hk5 (fun k h1 h2 => by have := HSlt.out k h2; have := h1.2.1; omega)); obtain ⟨csE, hclE, ⟨vE, hcE, hvE⟩, hcellE, hfroE⟩ := Kd.R_elem HW5.out ([] : List Int) s.f1 hin.1 hin2; subst hcE; have y0 : w5.cell? ⟨gW, s.f1.toNat, none⟩ = some vE := (by have h := hcellE 0 vE rfl; rw [show s.f1.toNat * (Kd.slice 5 (Kd.int .u8)).sz + 0 = s.f1.toNat from Nat.mul_one _] at h; exact h); have y1 : w5.frozen? ⟨gW, s.f1.toNat, none⟩ = false := (by have h := hfroE 0; rw [show s.f1.toNat * (Kd.slice 5 (Kd.int .u8)).sz + 0 = s.f1.toNat from Nat.mul_one _] at h; exact h); have HCE := Aside0.mk (And.intro hclE hcellE); clear hi5 hk5 bx hfroE hvE hclE hcellE))
        go_roundw
        case rel => exact ⟨i + 1, bl, rfl, hlt, HI5, ⟨Kd.R_mono HW5.out (fun _ _ => trivial)⟩, ⟨((HK.out.trans (Kept.of_below (S := fun k => S k ∨ k = gW) (below_alloc (Below.refl wr.heap.size wr) (.cells #[.int .i64 s.f0, .int .i64 s.f1, .slice A2 s.f2.length c2] 32))) (fun j hj => .inl hj)).trans HK5.out (fun j hj => .inl (.inl hj)))⟩⟩
        case measure =>
          show q.length - ((i : Int) + 1).toNat < q.length - ((i : Int)).toNat
          omega
    · have t1 : decide ((i : Int) < (q.length : Int)) = false := decide_eq_false (by omega)
      have hbl := HBLn.out
      have t5 : ((bl.length : Int) == (bl.length : Int)) = true := by simp
      have hbm := HJ.out.fits.most
      gi_wp2_with (first
        | (refine ⟨trivial, ?_⟩; gi_at_call 9; refine (callsIn_wide.2 (image_ok HJ.out)).mono ?_; rintro e w7 ⟨v7, rfl, hs, hb⟩; obtain ⟨A7, c7, rfl⟩ := Kd.R_slice (Kd.S_R hs); have HR7 := Aside0.mk (Kd.S_R hs); have HJ7 := Aside0.mk (HJ.out.below hb); have HWN7 := Aside0.mk (Kd.R_below HWN.out hb); have HW7 := Aside0.mk (below_step HBW.out hb); clear hs hb)
        | (refine ⟨trivial, ?_⟩; gi_at_call 12; refine (callsIn_wide.2 (same_image _ A7 (some ⟨gW, 0, none⟩) c7 cW bl (Kd.R_reads' HR7.out).2.2 ((Kd.R_reads' HWN7.out).1 ▸ (Kd.R_reads' HWN7.out).2.2) (by omega))).mono ?_; rintro e w8 ⟨rfl, hb⟩; have HJ8 := Aside0.mk (HJ7.out.below hb); have HW8 := Aside0.mk (below_step HW7.out hb); clear hb)
        | (refine ⟨trivial, ?_⟩; gi_at_call 13; refine (callsIn_wide.2 (blocks_ok HJ8.out)).mono ?_; rintro e w9 ⟨rfl, hw⟩; rw [hw]; clear hw; have HW9 := HW8))
      go_ret
      exact ⟨rfl, HW9.out⟩
end Go.Proofs.Ytbopccjcehnfnaa.Dk
