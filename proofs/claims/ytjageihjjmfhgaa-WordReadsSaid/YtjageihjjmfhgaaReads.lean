/- WordReads: for every row of bytes and every row of calls, a reader over a copy of the bytes tells what the reference's reader tells, call by call, with the same error and as much left; a later change of what it was made of does not matter. Conditions: none beyond those of the row. -/
import Derived.Test.YtjageihjjmfhgaaRref
import Derived.Deep.LoopGhost
namespace Go.Proofs.Ytjageihjjmfhgaa.Rd
open Go.RowKit Go.Proofs.Ytjageihjjmfhgaa.XRd Go.Proofs.Ytjageihjjmfhgaa.XRr Go.Proofs.YtjageihjjmfhgaaW.PrintWords Go.Proofs.YtjageihjjmfhgaaW.PrintLast
set_option linter.unusedVariables false
set_option linter.unusedSimpArgs false

/-- What has grown but for one row of the call's own. -/
structure Turned (w w' : World) (row : Option Nat) : Prop where
  keep : ∀ i, i < w.heap.size → some i ≠ row → w'.heap[i]? = w.heap[i]?
  size : w.heap.size ≤ w'.heap.size
theorem Turned.step {w w1 w2 : World} {row : Option Nat} (h : Turned w w1 row) (g : w1.grownBy w2 row) : Turned w w2 row :=
  ⟨fun i hi hr => (g.block i (Nat.lt_of_lt_of_le hi h.size) hr).trans (h.keep i hi hr), Nat.le_trans h.size g.size⟩
theorem Turned.below {w w1 w2 : World} {row : Option Nat} (h : Turned w w1 row) (g : Below w1.heap.size w1 w2) : Turned w w2 row :=
  ⟨fun i hi hr => (g.block i (Nat.lt_of_lt_of_le hi h.size)).trans (h.keep i hi hr), Nat.le_trans h.size g.size⟩

theorem add_succ_ (ad : Addr) (k : Nat) : ad.add (k + 1) = ⟨(ad.add k).block, (ad.add k).off + 1, none⟩ := by
  by_cases h0 : k = 0
  · subst h0
    simp [Addr.add]
  · unfold Addr.add
    rw [if_neg h0, if_neg (by omega), Nat.add_assoc]

theorem C_cells {w W : World} {A : Option Addr} {n : Nat} {xs : List Int} (h : Kd.C (Kd.int .u8) w A n xs) (hb : ∀ ad, A = some ad → W.heap[ad.block]? = w.heap[ad.block]?) : Kd.C (Kd.int .u8) W A n xs := by
  have hr := Kd.reads_of_C (d := (0 : Int)) (enc := Value.int .u8) (h1 := fun _ => rfl) h
  refine Kd.C_of_reads (d := (0 : Int)) (enc := Value.int .u8) (h1 := fun _ => rfl) ⟨hr.1, hr.2.1, fun hn => ?_⟩
  obtain ⟨ad, rfl, hc⟩ := hr.2.2 hn
  refine ⟨ad, rfl, fun j hj => ?_⟩
  have := hb ad rfl
  rw [← hc j hj]
  have e : (ad.add j).block = ad.block := by unfold Addr.add; split <;> rfl
  simp [World.cell?, e, this]

/-- A world's first blocks. -/
def trunc (W : World) (g : Nat) : World := { W with heap := W.heap.extract 0 g }
theorem trunc_size (W : World) (g : Nat) (h : g ≤ W.heap.size) : (trunc W g).heap.size = g := by simp [trunc]; omega
theorem trunc_block (W : World) (g i : Nat) (hi : i < g) (h : g ≤ W.heap.size) : (trunc W g).heap[i]? = W.heap[i]? := by
  simp [trunc, Array.getElem?_extract]
  omega
theorem trunc_below (W : World) (g : Nat) (h : g ≤ W.heap.size) : Below g (trunc W g) W := ⟨rfl, rfl, rfl, by rw [trunc_size W g h]; exact h, fun i hi => (trunc_block W g i hi h).symm⟩
theorem trunc_of {w W : World} {g : Nat} (h : Below w.heap.size w W) (hg : w.heap.size ≤ g) (hs : g ≤ W.heap.size) : Below w.heap.size w (trunc W g) :=
  ⟨h.os, h.tape, h.output, by rw [trunc_size W g hs]; exact hg, fun i hi => (trunc_block W g i (Nat.lt_of_lt_of_le hi hg) hs).trans (h.block i hi)⟩
/-- A reader, whatever else has changed, so long as its bytes stand and lie ahead of it. -/
theorem IsRd.rebase {W : World} {g c : Nat} {A : Option Addr} {l : List Int} {p e : Int} (hb : W.heap[g]? = some (.cells #[.slice A l.length c, .int .i64 p, .int .i64 e, .bool true] 38 (0, 0))) (hc : l.length ≤ c) (hC : Kd.C (Kd.int .u8) W A l.length l) (hA : ∀ ad, A = some ad → ad.block < g) :
    IsRd (trunc W g) W g l p e := by
  have hg := Nat.le_of_lt (blk_lt hb)
  exact ⟨⟨A, c, hb, hc, C_cells hC (fun ad e => trunc_block W g _ (hA ad e) hg)⟩, by rw [trunc_size W g hg]; exact Nat.le_refl _, by rw [trunc_size W g hg]; exact trunc_below W g hg⟩

set_option maxHeartbeats 8000000 in
/-- The law WordReads, walked. -/
theorem WordReads_walk (A0 : Option Addr) (c0 : Nat) (l : List Int) (A1 : Option Addr) (c1 : Nat) (ks : List (Int × Int)) (w : World)
    (hC0 : Kd.C (Kd.int .u8) w A0 l.length l) (hc0 : l.length ≤ c0) (hl : l.length ≤ 140737488351232) (hF0 : ∀ x ∈ l, (Lit.int .u8 x).wf = true)
    (hC1 : Kd.C (Kd.pair (Kd.int .i64) (Kd.int .i64)) w A1 ks.length ks) (hc1 : ks.length ≤ c1) (hF1 : ∀ x ∈ ks, (Lit.int .i64 x.1).wf = true ∧ (Lit.int .i64 x.2).wf = true) :
    Calls Try.prog 8 #[.slice A0 l.length c0, .slice A1 ks.length c1] w fun e w' => e = .returned (.bool true) ∧ Below w.heap.size w w' := by
  have HC0 := Lib.hid hC0
  have HC1 := Lib.hid hC1
  have HF0 := Lib.hid hF0
  have HF1 := Lib.hid hF1
  have Hc0 := Lib.hid hc0
  have Hc1 := Lib.hid hc1
  have HL := Lib.hid hl
  have hcl : bytes_Clone.f l = some l := by unfold bytes_Clone.f; rw [if_pos (by omega)]
  have HCL := Lib.hid hcl
  clear hC0 hc0 hl hF0 hC1 hc1 hF1 hcl
  go_enter Try.func8, Try.ntmps8
  go_wp2_with (first
    | (go_at_call 13; refine (bytes_Clone.calls A0 c0 l l w HC0.out Hc0.out HCL.out).mono ?_; rintro e w1 ⟨gv, rfl, hR1, hB1⟩; obtain ⟨Ag, cg, rfl, hcg, hCg⟩ := Kd.R_reads hR1; have HR1 := Lib.hid hR1; have HB1 := Lib.hid hB1; have HCG := Lib.hid hCg; clear hR1 hB1 hcg hCg)
    | (go_at_call 26; refine (Over_call Ag cg l w1 HCG.out (by have := HL.out; omega)).mono ?_; rintro e w2 ⟨W2, g, rfl, hI, hb1, hs1, hlt, Af, cf, hblk, hcf, hCf, hfar⟩; have HI := Lib.hid hI; have HB2 := Lib.hid hb1; have HS2 := Lib.hid hs1; have HLT := Lib.hid hlt; have HBLK := Lib.hid hblk; have Hcf := Lib.hid hcf; have HCF := Lib.hid hCf; have HFAR := Lib.hid hfar; clear hI hb1 hs1 hlt hblk hcf hCf hfar))
  obtain ⟨V, hV⟩ : ∃ V, V = w2.alloc (.cells #[.slice A0 l.length c0, .int .i64 0] 50) := ⟨_, rfl⟩
  obtain ⟨h, hh⟩ : ∃ h, h = w2.heap.size := ⟨_, rfl⟩
  rw [← hV, ← hh]
  have bW2 : Below w.heap.size w W2 := below_then HB1.out HB1.out.size HB2.out
  have sW2 : w.heap.size ≤ W2.heap.size := Nat.le_trans HB1.out.size HS2.out
  have b2V : Below W2.heap.size W2 V := by rw [hV]; exact below_alloc HI.out.2.2 _
  have b1V : Below w1.heap.size w1 V := below_then HB2.out HS2.out b2V
  have bV : Below w.heap.size w V := below_then bW2 sW2 b2V
  have h2 : w2.heap.size < V.heap.size := by rw [hV, World.size_alloc]; omega
  have HRF := Lib.hid (show IsRf w V h l 0 from ⟨⟨A0, c0, by rw [hV, heap_alloc, if_pos hh], Hc0.out, HC0.out⟩, by rw [hh]; exact Nat.le_trans sW2 HI.out.2.2.size, bV⟩)
  have HGH := Lib.hid (show g < h by rw [hh]; exact HLT.out)
  have HGW := Lib.hid (show w1.heap.size ≤ g from Nat.le_trans HS2.out HI.out.2.1)
  have HBG := Lib.hid (show V.heap[g]? = some (.cells #[.slice Af l.length cf, .int .i64 0, .int .i64 0, .bool true] 38 (0, 0)) by rw [hV, heap_alloc, if_neg (by have := HLT.out; omega)]; exact HBLK.out)
  have HB1s := Lib.hid HB1.out.size
  have HCV := Lib.hid (Kd.C_below HCF.out b2V)
  have HRV := Lib.hid (Kd.R_below HR1.out b1V)
  have HBV := Lib.hid bV
  have HSV := Lib.hid (show w1.heap.size ≤ V.heap.size from b1V.size)
  have HOW := Lib.hid (show ∀ k, (Value.slice Ag l.length cg).ownBlock = some k → k < w1.heap.size by
    obtain ⟨inner, ho⟩ := Kd.R_own HR1.out
    exact own_lt ho)
  clear hV bW2 sW2 b2V b1V bV HBLK HCF HI HB2 HS2 HLT HR1 HCG HB1 hh h2
  go_loopg [20] l.length (fun kq v20 w' => ∃ (i : Nat) (xs : List Int), v20 = .int .i64 i ∧ Aside0 (i + kq = l.length) ∧ Aside0 (xs.length = l.length) ∧ Aside0 (Kd.R (Kd.int .u8) 5 w' w.heap.size (fun _ => True) (.slice Ag l.length cg) xs) ∧ Aside0 (Turned V w' (Value.slice Ag l.length cg).ownBlock) ∧ Aside0 (Below w.heap.size w w'))
  case atStart => exact ⟨0, l, rfl, ⟨by omega⟩, ⟨rfl⟩, ⟨HRV.out⟩, ⟨⟨fun _ _ _ => rfl, Nat.le_refl _⟩⟩, ⟨HBV.out⟩⟩
  case round =>
    obtain ⟨i, xs, rfl, hk, hxl, hR, hT, hB⟩ := hrel
    by_cases hi : i < l.length
    · have hib : decide (i < l.length) = true := decide_eq_true hi
      have hi0 : decide ((0 : Int) ≤ (i : Int)) = true := decide_eq_true (by omega)
      have hxl' := hxl.out
      obtain ⟨ad, e1, hx⟩ := Kd.at_int (Kd.R_reads' hR.out).2.2 (i : Int) (by omega) (by omega)
      obtain ⟨gg, cgg, e2, gb, gl, cl, HG⟩ := Kd.R_form hR.out (by omega)
      injection e2 with e3 e4 e5
      subst e3
      cases e1
      obtain ⟨hc, hf⟩ := Kd.R_celln 0 hR.out (i : Int) (by omega) (by omega)
      have GB := Lib.hid gb
      have HI2 := Lib.hid hi
      simp only [Int.toNat_natCast] at hc hf
      clear e4 e5 gl HG gb hxl' hx hi
      go_wp2
      go_roundg (l.length - (i + 1))
      case measure => have := hk.out; have := HI2.out; omega
      case rel =>
        obtain ⟨hR2, hG2⟩ := Kd.R_putg hR.out (i : Int) (Go.bits .xor .u8 (rdOf 0 xs (i : Int)) 255)
        simp only [Int.toNat_natCast] at hR2 hG2
        have hs : wrap64 ((i : Int) + 1) = ((i + 1 : Nat) : Int) := by unfold wrap64; have := HI2.out; have := HL.out; omega
        refine ⟨i + 1, _, congrArg _ hs, ⟨by have := HI2.out; omega⟩, ⟨by rw [List.length_set]; exact hxl.out⟩, ⟨hR2⟩, ⟨hT.out.step hG2⟩, ⟨?_⟩⟩
        exact below_set hB.out GB.out
    · have hib : decide (i < l.length) = false := decide_eq_false hi
      have hTg : wr.heap[g]? = some (.cells #[.slice Af l.length cf, .int .i64 0, .int .i64 0, .bool true] 38 (0, 0)) := by
        rw [hT.out.keep g (blk_lt HBG.out) (fun e => by have := HOW.out g e.symm; have := HGW.out; omega)]
        exact HBG.out
      have hCF : Kd.C (Kd.int .u8) wr Af l.length l := C_cells HCV.out (fun ad e => hT.out.keep ad.block (Nat.lt_trans (HFAR.out ad e).2 (blk_lt HBG.out)) (fun e2 => by have := HOW.out _ e2.symm; have := (HFAR.out ad e).1; omega))
      have HRD := Lib.hid (IsRd.rebase hTg Hcf.out hCF (fun ad e => (HFAR.out ad e).2))
      have hgs : (trunc wr g).heap.size = g := trunc_size wr g (Nat.le_of_lt (blk_lt hTg))
      have hrf : IsRf w wr h l 0 := by
        obtain ⟨⟨A, c, q1, q2, q3⟩, q4, q5⟩ := HRF.out
        exact ⟨⟨A, c, (hT.out.keep h (blk_lt q1) (fun e => by have := HOW.out h e.symm; have := HGW.out; have := HGH.out; omega)).trans q1, q2, q3⟩, q4, hB.out⟩
      have HRF2 := Lib.hid hrf
      have hwg : w.heap.size ≤ g := Nat.le_trans HB1s.out HGW.out
      have HBW0 := Lib.hid (trunc_of hB.out hwg (Nat.le_of_lt (blk_lt hTg)))
      have HGS := Lib.hid hgs
      obtain ⟨w0', hw0'⟩ : ∃ u, u = trunc wr g := ⟨_, rfl⟩
      rw [← hw0'] at HRD HGS HBW0
      have HWG := Lib.hid (show w.heap.size ≤ w0'.heap.size by rw [HGS.out]; exact hwg)
      clear hwg HB1s
      clear hTg hCF hgs hrf hw0' hi hR hT hxl hk HRF HRV HCV HBG HOW HSV HBV HFAR Hcf HC0 HCL
      go_wp2
      go_loopg [32] ks.length (fun kq v32 w' => ∃ (j : Nat) (p e : Int), v32 = .int .i64 j ∧ Aside0 (j + kq = ks.length) ∧ Aside0 (0 ≤ p ∧ p ≤ l.length) ∧ Aside0 (IsRd w0' w' g l p e) ∧ Aside0 (IsRf w w' h (l.drop p.toNat) e))
      case atStart => exact ⟨0, 0, 0, rfl, ⟨by omega⟩, ⟨by omega⟩, ⟨HRD.out⟩, ⟨HRF2.out⟩⟩
      case round =>
        clear HRD HRF2 hB
        obtain ⟨j, p, e, rfl, hk, hp, hRD, hRF⟩ := hrel
        by_cases hj : j < ks.length
        · have hjb : decide (j < ks.length) = true := decide_eq_true hj
          obtain ⟨ad, cs, e1, hcs, ⟨k0, k1, e2, hk0, hk1⟩, hcell⟩ := HC1.out.get_ (0, 0) (j : Int) (by omega) (by omega)
          have hk0' : k0 = [.int .i64 (ks.getD (j : Int).toNat (0, 0)).1] := hk0
          have hk1' : k1 = [.int .i64 (ks.getD (j : Int).toNat (0, 0)).2] := hk1
          subst hk0' hk1' e2 e1
          have hm : ks.getD j (0, 0) ∈ ks := by rw [List.getD_eq_getElem?_getD, List.getElem?_eq_getElem hj]; exact List.getElem_mem hj
          obtain ⟨hw1, hw2⟩ := HF1.out _ hm
          have hs : (Kd.pair (Kd.int .i64) (Kd.int .i64)).sz = 2 := rfl
          rw [hs] at hcell
          have q0 := pw_cell_below hRF.out.2.2 (hcell 0 _ rfl)
          have q1 := pw_cell_below hRF.out.2.2 (hcell 1 _ rfl)
          simp only [Int.toNat_natCast, Nat.add_zero] at q0 q1
          rw [add_succ_ ad (j * 2)] at q1
          generalize ks.getD j (0, 0) = kk at *
          obtain ⟨op, n⟩ := kk
          simp only at q0 q1 hw1 hw2
          have HJ := Lib.hid hj
          have HW1 := Lib.hid hw1
          have HW2 := Lib.hid hw2
          clear hs hcs hk0 hk1 hcell hm hj hw1 hw2
          have hblk : (wr.alloc (.cells #[.int .i64 op, .int .i64 n] 52)).heap[wr.heap.size]? = some (.cells #[.int .i64 op, .int .i64 n] 52 (0, 0)) := by rw [heap_alloc, if_pos rfl]
          have z0 := (blk_cell hblk 0).trans rfl
          have z1 : (wr.alloc (.cells #[.int .i64 op, .int .i64 n] 52)).cell? ⟨wr.heap.size, 1, none⟩ = some (.int .i64 n) := (blk_cell hblk 1).trans rfl
          clear hblk
          have HGR := Lib.hid (show wr.heap.size ≠ g from fun e => by have := hRD.out.lt; omega)
          have HHR := Lib.hid (show wr.heap.size ≠ h from fun e => by have := hRF.out.lt; omega)
          have hmod : (IntKind.u64.wrap op).tmod 3 = 0 ∨ (IntKind.u64.wrap op).tmod 3 = 1 ∨ (IntKind.u64.wrap op).tmod 3 = 2 := by
            have h0 := wrap_u64_nonneg op
            have h1 := Int.tmod_nonneg 3 h0
            have h2 := Int.tmod_lt_of_pos (IntKind.u64.wrap op) (show (0 : Int) < 3 by decide)
            omega
          have hw0 : wrap64 0 = 0 := by unfold wrap64; omega
          have hw1 : wrap64 1 = 1 := by unfold wrap64; omega
          have hw2 : wrap64 2 = 2 := by unfold wrap64; omega
          have HZ1 := Lib.hid z1
          rcases hmod with hm | hm | hm
          · go_wp2_with (fail)
            go_region_held3 (fun X => X.cell? ⟨wr.heap.size, 1, none⟩ = some (.int .i64 n)) (go_keep) (first | (go_at_call 22; refine (Take_spec w0' g l p e n _ (hRD.out.below (by repeat (first | exact Below.refl _ _ | apply below_alloc | apply pw_below_drewN | apply below_drew1))) HL.out HF0.out hp.out.1 hp.out.2 HW2.out).mono ?_; rintro q W1 ⟨rfl, hI1, hK1⟩; have z2 := KeepBut.cell_ hK1 (b := wr.heap.size) (o := 1) (v := .int .i64 n) (by first | (simp; done) | (simpa using HZ1.out)) HGR.out (by simp); have HF1_ := Lib.hid (IsRf.keep (hRF.out.below (by repeat (first | exact Below.refl _ _ | apply below_alloc | apply pw_below_drewN | apply below_drew1))) hK1 (Nat.ne_of_gt HGH.out) (below_then HBW0.out HWG.out hI1.2.2)); have HI1 := Lib.hid hI1; have HZ2 := Lib.hid z2; clear hI1 hK1) | (go_at_call 27; refine (TakeR_spec w h l p e n _ (HF1_.out.below (by repeat (first | exact Below.refl _ _ | apply below_alloc | apply pw_below_drewN | apply below_drew1))) HL.out HF0.out hp.out.1 hp.out.2 HW2.out).mono ?_; rintro q W2 ⟨rfl, hF2, hO2⟩; have z3 := KeepBut.cell_ hO2.keep (b := wr.heap.size) (o := 1) (v := .int .i64 n) (by first | (simp; done) | (simpa using HZ2.out)) HHR.out (by simp); have HI2 := Lib.hid (hO2.rd (HI1.out.below (by repeat (first | exact Below.refl _ _ | apply below_alloc | apply pw_below_drewN | apply below_drew1))) (Nat.ne_of_lt HGH.out) (by rw [HGS.out]; exact Nat.le_of_lt HGH.out)); have HF2 := Lib.hid hF2; clear hF2 hO2))
            obtain ⟨p2, hp2⟩ : ∃ p2, p2 = nxP p n (takE l p e n) := ⟨_, rfl⟩
            obtain ⟨e2, he2⟩ : ∃ e2, e2 = takE l p e n := ⟨_, rfl⟩
            have hpb : 0 ≤ p2 ∧ p2 ≤ l.length := by rw [hp2]; exact nxP_tak hp.out.1 hp.out.2
            have HPB := Lib.hid hpb
            rw [← hp2, ← he2] at HI2 HF2
            obtain ⟨d, hd⟩ : ∃ d, d = l.drop p2.toNat := ⟨_, rfl⟩
            have hdl : (d.length : Int) = l.length - p2 := by rw [hd, List.length_drop]; omega
            rw [← hd] at HF2
            have HD := Lib.hid hd
            obtain ⟨Ar, cr, ⟨y0, y1⟩, _, _⟩ := HF2.out.cells
            clear hp2 he2 hpb hd hm z0 z1 q0 q1
            (try clear z2)
            (try clear z3)
            go_wp2_with (fail)
            go_region_held3 (fun X => X.cell? ⟨h, 0, none⟩ = some (.slice Ar d.length cr) ∧ X.cell? ⟨h, 1, none⟩ = some (.int .i64 e2)) (go_keep) (first | (go_at_call 24; refine (Left_call w0' g l p2 e2 _ (HI2.out.below (by repeat (first | exact Below.refl _ _ | apply below_alloc | apply pw_below_drewN | apply below_drew1))) HPB.out.1 HPB.out.2 (by have := HL.out; omega)).mono ?_; rintro q W3 ⟨rfl, m3, rfl⟩) | (go_at_call 25; refine (Err_call w0' g l p2 e2 _ (HI2.out.below (by repeat (first | exact Below.refl _ _ | apply below_alloc | apply pw_below_drewN | apply below_drew1)))).mono ?_; rintro q W4 ⟨rfl, m4, rfl⟩))
            go_wp2_with (fail)
            go_roundg (ks.length - (j + 1))
            case measure => have := hk.out; have := HJ.out; omega
            case rel =>
              have hs : wrap64 ((j : Int) + 1) = ((j + 1 : Nat) : Int) := by unfold wrap64; have := HJ.out; have := HC1.out.2.1; omega
              exact ⟨j + 1, p2, e2, congrArg _ hs, ⟨by have := HJ.out; omega⟩, ⟨HPB.out⟩, ⟨HI2.out.below (by repeat (first | exact Below.refl _ _ | apply below_alloc | apply pw_below_drewN | apply below_drew1))⟩, ⟨by rw [← HD.out]; exact HF2.out.below (by repeat (first | exact Below.refl _ _ | apply below_alloc | apply pw_below_drewN | apply below_drew1))⟩⟩
          · go_wp2_with (fail)
            go_region_held3 (fun X => X.cell? ⟨wr.heap.size, 1, none⟩ = some (.int .i64 n)) (go_keep) (first | (go_at_call 23; refine (Text_spec w0' g l p e n _ (hRD.out.below (by repeat (first | exact Below.refl _ _ | apply below_alloc | apply pw_below_drewN | apply below_drew1))) HL.out hp.out.1 hp.out.2).mono ?_; rintro q W1 ⟨rfl, hI1, hK1⟩; have z2 := KeepBut.cell_ hK1 (b := wr.heap.size) (o := 1) (v := .int .i64 n) (by first | (simp; done) | (simpa using HZ1.out)) HGR.out (by simp); have HF1_ := Lib.hid (IsRf.keep (hRF.out.below (by repeat (first | exact Below.refl _ _ | apply below_alloc | apply pw_below_drewN | apply below_drew1))) hK1 (Nat.ne_of_gt HGH.out) (below_then HBW0.out HWG.out hI1.2.2)); have HI1 := Lib.hid hI1; have HZ2 := Lib.hid z2; clear hI1 hK1) | (go_at_call 28; refine (TextR_spec w h l p e n _ (HF1_.out.below (by repeat (first | exact Below.refl _ _ | apply below_alloc | apply pw_below_drewN | apply below_drew1))) hp.out.1 hp.out.2).mono ?_; rintro q W2 ⟨rfl, hF2, hO2⟩; have z3 := KeepBut.cell_ hO2.keep (b := wr.heap.size) (o := 1) (v := .int .i64 n) (by first | (simp; done) | (simpa using HZ2.out)) HHR.out (by simp); have HI2 := Lib.hid (hO2.rd (HI1.out.below (by repeat (first | exact Below.refl _ _ | apply below_alloc | apply pw_below_drewN | apply below_drew1))) (Nat.ne_of_lt HGH.out) (by rw [HGS.out]; exact Nat.le_of_lt HGH.out)); have HF2 := Lib.hid hF2; clear hF2 hO2))
            obtain ⟨p2, hp2⟩ : ∃ p2, p2 = nxP p n (texE l p e n) := ⟨_, rfl⟩
            obtain ⟨e2, he2⟩ : ∃ e2, e2 = texE l p e n := ⟨_, rfl⟩
            have hpb : 0 ≤ p2 ∧ p2 ≤ l.length := by rw [hp2]; exact nxP_tex hp.out.1 hp.out.2
            have HPB := Lib.hid hpb
            rw [← hp2, ← he2] at HI2 HF2
            obtain ⟨d, hd⟩ : ∃ d, d = l.drop p2.toNat := ⟨_, rfl⟩
            have hdl : (d.length : Int) = l.length - p2 := by rw [hd, List.length_drop]; omega
            rw [← hd] at HF2
            have HD := Lib.hid hd
            obtain ⟨Ar, cr, ⟨y0, y1⟩, _, _⟩ := HF2.out.cells
            clear hp2 he2 hpb hd hm z0 z1 q0 q1
            (try clear z2)
            (try clear z3)
            go_wp2_with (fail)
            go_region_held3 (fun X => X.cell? ⟨h, 0, none⟩ = some (.slice Ar d.length cr) ∧ X.cell? ⟨h, 1, none⟩ = some (.int .i64 e2)) (go_keep) (first | (go_at_call 24; refine (Left_call w0' g l p2 e2 _ (HI2.out.below (by repeat (first | exact Below.refl _ _ | apply below_alloc | apply pw_below_drewN | apply below_drew1))) HPB.out.1 HPB.out.2 (by have := HL.out; omega)).mono ?_; rintro q W3 ⟨rfl, m3, rfl⟩) | (go_at_call 25; refine (Err_call w0' g l p2 e2 _ (HI2.out.below (by repeat (first | exact Below.refl _ _ | apply below_alloc | apply pw_below_drewN | apply below_drew1)))).mono ?_; rintro q W4 ⟨rfl, m4, rfl⟩))
            go_wp2_with (fail)
            go_roundg (ks.length - (j + 1))
            case measure => have := hk.out; have := HJ.out; omega
            case rel =>
              have hs : wrap64 ((j : Int) + 1) = ((j + 1 : Nat) : Int) := by unfold wrap64; have := HJ.out; have := HC1.out.2.1; omega
              exact ⟨j + 1, p2, e2, congrArg _ hs, ⟨by have := HJ.out; omega⟩, ⟨HPB.out⟩, ⟨HI2.out.below (by repeat (first | exact Below.refl _ _ | apply below_alloc | apply pw_below_drewN | apply below_drew1))⟩, ⟨by rw [← HD.out]; exact HF2.out.below (by repeat (first | exact Below.refl _ _ | apply below_alloc | apply pw_below_drewN | apply below_drew1))⟩⟩
          · go_wp2_with (first | (go_at_call 21; refine (Skip_spec w0' g l p e n _ (hRD.out.below (by repeat (first | exact Below.refl _ _ | apply below_alloc | apply pw_below_drewN | apply below_drew1))) HL.out hp.out.1 hp.out.2).mono ?_; rintro q W1 ⟨rfl, hI1, hK1⟩; have z2 := KeepBut.cell_ hK1 (b := wr.heap.size) (o := 1) (v := .int .i64 n) (by first | (simp; done) | (simpa using HZ1.out)) HGR.out (by simp); have HF1_ := Lib.hid (IsRf.keep (hRF.out.below (by repeat (first | exact Below.refl _ _ | apply below_alloc | apply pw_below_drewN | apply below_drew1))) hK1 (Nat.ne_of_gt HGH.out) (below_then HBW0.out HWG.out hI1.2.2)); have HI1 := Lib.hid hI1; have HZ2 := Lib.hid z2; clear hI1 hK1) | (go_at_call 29; refine (SkipR_spec w h l p e n _ (HF1_.out.below (by repeat (first | exact Below.refl _ _ | apply below_alloc | apply pw_below_drewN | apply below_drew1))) hp.out.1 hp.out.2).mono ?_; rintro q W2 ⟨rfl, hF2, hO2⟩; have z3 := KeepBut.cell_ hO2.keep (b := wr.heap.size) (o := 1) (v := .int .i64 n) (by first | (simp; done) | (simpa using HZ2.out)) HHR.out (by simp); have HI2 := Lib.hid (hO2.rd (HI1.out.below (by repeat (first | exact Below.refl _ _ | apply below_alloc | apply pw_below_drewN | apply below_drew1))) (Nat.ne_of_lt HGH.out) (by rw [HGS.out]; exact Nat.le_of_lt HGH.out)); have HF2 := Lib.hid hF2; clear hF2 hO2))
            obtain ⟨p2, hp2⟩ : ∃ p2, p2 = nxP p n (texE l p e n) := ⟨_, rfl⟩
            obtain ⟨e2, he2⟩ : ∃ e2, e2 = texE l p e n := ⟨_, rfl⟩
            have hpb : 0 ≤ p2 ∧ p2 ≤ l.length := by rw [hp2]; exact nxP_tex hp.out.1 hp.out.2
            have HPB := Lib.hid hpb
            rw [← hp2, ← he2] at HI2 HF2
            obtain ⟨d, hd⟩ : ∃ d, d = l.drop p2.toNat := ⟨_, rfl⟩
            have hdl : (d.length : Int) = l.length - p2 := by rw [hd, List.length_drop]; omega
            rw [← hd] at HF2
            have HD := Lib.hid hd
            obtain ⟨Ar, cr, ⟨y0, y1⟩, _, _⟩ := HF2.out.cells
            clear hp2 he2 hpb hd hm z0 z1 q0 q1
            (try clear z2)
            (try clear z3)
            go_wp2_with (fail)
            go_region_held3 (fun X => X.cell? ⟨h, 0, none⟩ = some (.slice Ar d.length cr) ∧ X.cell? ⟨h, 1, none⟩ = some (.int .i64 e2)) (go_keep) (first | (go_at_call 24; refine (Left_call w0' g l p2 e2 _ (HI2.out.below (by repeat (first | exact Below.refl _ _ | apply below_alloc | apply pw_below_drewN | apply below_drew1))) HPB.out.1 HPB.out.2 (by have := HL.out; omega)).mono ?_; rintro q W3 ⟨rfl, m3, rfl⟩) | (go_at_call 25; refine (Err_call w0' g l p2 e2 _ (HI2.out.below (by repeat (first | exact Below.refl _ _ | apply below_alloc | apply pw_below_drewN | apply below_drew1)))).mono ?_; rintro q W4 ⟨rfl, m4, rfl⟩))
            go_wp2_with (fail)
            go_roundg (ks.length - (j + 1))
            case measure => have := hk.out; have := HJ.out; omega
            case rel =>
              have hs : wrap64 ((j : Int) + 1) = ((j + 1 : Nat) : Int) := by unfold wrap64; have := HJ.out; have := HC1.out.2.1; omega
              exact ⟨j + 1, p2, e2, congrArg _ hs, ⟨by have := HJ.out; omega⟩, ⟨HPB.out⟩, ⟨HI2.out.below (by repeat (first | exact Below.refl _ _ | apply below_alloc | apply pw_below_drewN | apply below_drew1))⟩, ⟨by rw [← HD.out]; exact HF2.out.below (by repeat (first | exact Below.refl _ _ | apply below_alloc | apply pw_below_drewN | apply below_drew1))⟩⟩
        · have hjb : decide (j < ks.length) = false := decide_eq_false hj
          clear hj
          have hE : ∀ W : World, (binOp .neq 36 (.pointer (some ⟨g, 0, none⟩)) (.pointer none)).run Try.prog W = .ok (.bool true) W := fun W => by rfl
          obtain ⟨d, hd⟩ : ∃ d, d = l.drop p.toNat := ⟨_, rfl⟩
          have hdl : (d.length : Int) = l.length - p := by have := hp.out; rw [hd, List.length_drop]; omega
          rw [← hd] at hRF
          obtain ⟨Ar, cr, ⟨y0, y1⟩, _, _⟩ := hRF.out.cells
          clear hd
          go_wp2
          go_region_held3 (fun X => X.cell? ⟨h, 0, none⟩ = some (.slice Ar d.length cr)) (go_keep) (first | (go_at_call 24; refine (Left_call w0' g l p e _ (hRD.out.below (by repeat (first | exact Below.refl _ _ | apply below_alloc | apply pw_below_drewN | apply below_drew1))) hp.out.1 hp.out.2 (by have := HL.out; omega)).mono ?_; rintro q W3 ⟨rfl, m3, rfl⟩) | fail)
          go_wp2
          go_ret
          exact ⟨rfl, hRF.out.2.2 |> fun q => below_step q (by repeat (first | exact Below.refl _ _ | apply below_alloc | apply pw_below_drewN | apply below_drew1))⟩
end Go.Proofs.Ytjageihjjmfhgaa.Rd
