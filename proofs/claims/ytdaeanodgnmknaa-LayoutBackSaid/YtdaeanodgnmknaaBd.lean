/- A group's header of bytes: the program's walk. -/
import Derived.Test.YtdaeanodgnmknaaBh
namespace Go.Proofs.Ytdaeanodgnmknaa.Gw
open Go.RowKit Go.Proofs.Ytdaeanodgnmknaa.Rd Go.Proofs.Ytdaeanodgnmknaa.XLayoutBack Go.Proofs.YtdaeanodgnmknaaW.PrintWords Go.Proofs.YtdaeanodgnmknaaW.PrintLast Go.Proofs.YtdaeanodgnmknaaW.PrintMore
set_option linter.unusedVariables false
set_option linter.unusedSimpArgs false
def zG : Array Value := grp 0 (List.replicate 8 0) (List.replicate 32 0)
theorem zero_built (W : World) : (Instr.build 25 #[]).run Try.prog W = .ok (.agg zG) W := run_build W _ #[] zG (by kernel_rfl)
theorem grp_build (n : Int) {is bs : List Int} (h1 : is.length = 8) (h2 : bs.length = 32) (W : World) : (Instr.build 25 #[(0, .int .i64 n), (1, .agg (arrV is)), (2, .agg (arrV bs))]).run Try.prog W = .ok (.agg (grp n is bs)) W := run_build W _ _ _ (grp_built n h1 h2)
theorem grp_buildw {n : Int} {is bs : List Int} (h0 : 0 ≤ n) (h : n ≤ 255) (h1 : is.length = 8) (h2 : bs.length = 32) (W : World) : (Instr.build 25 #[(0, .int .i64 (wrap64 n)), (1, .agg (arrV is)), (2, .agg (arrV bs))]).run Try.prog W = .ok (.agg (grp n is bs)) W := by
  rw [show wrap64 n = n from w_small n (by omega) (by omega)]
  exact grp_build n h1 h2 W
theorem grp_sizes (n m : Int) {is bs js cs : List Int} (h1 : is.length = 8) (h2 : bs.length = 32) (h3 : js.length = 8) (h4 : cs.length = 32) : (grp n is bs).size = (grp m js cs).size := by rw [grp_size, grp_size, h1, h2, h3, h4]
/-- A cut of bytes: where it lies. -/
theorem cut_run {ad : Addr} {n c : Nat} (lo hi : Nat) (h1 : lo ≤ hi) (h2 : hi ≤ n) (h3 : n ≤ c) (h4 : lo < c) (h0 : 0 < lo) (W : World) :
    (Instr.slice 26 (.slice (some ad) n c) (some (.int .i64 (lo : Int))) (some (.int .i64 (hi : Int))) none).run Try.prog W = .ok (.slice (some ⟨ad.block, ad.off + lo, none⟩) (hi - lo) (c - lo)) W := by
  have hu : Try.prog.underlying 26 = some (.slice (Try.prog.elem 26)) := by kernel_rfl
  have hs : (sizeOf (Try.prog.elem 26)).run Try.prog W = .ok 1 W := by kernel_rfl
  rw [run_slice_lh W _ (some ad) n c hu .i64 .i64 (lo : Int) (hi : Int) (by omega) (by omega) (by omega), hs]
  simp only [Result.andThen_ok, sliced, Int.toNat_natCast]
  rw [if_neg (by omega), Option.map_some]
  unfold Addr.add
  rw [if_neg (by omega), Nat.mul_one]
theorem cut_cells {W : World} {ad : Addr} {l : List Int} (h : ∀ j, j < l.length → W.cell? (ad.add j) = some (.int .u8 (l.getD j 0))) (lo hi : Nat) (h0 : 0 < lo) (h2 : hi ≤ l.length) :
    ∀ j v, (((l.take hi).drop lo).map (Value.int .u8))[j]? = some v → W.cell? ((⟨ad.block, ad.off + lo, none⟩ : Addr).add j) = some v := by
  intro j v hj
  rw [List.getElem?_map, Option.map_eq_some_iff] at hj
  obtain ⟨y, hy, rfl⟩ := hj
  rw [List.getElem?_drop] at hy
  have hlt : lo + j < hi := by
    have := (List.getElem?_eq_some_iff.1 hy).1
    rw [List.length_take] at this
    omega
  rw [List.getElem?_take_of_lt hlt] at hy
  have := h (lo + j) (by omega)
  rw [List.getD_eq_getElem?_getD, hy] at this
  rw [Addr.add_mid, ← show ad.add (lo + j) = ⟨ad.block, ad.off + lo + j, none⟩ by unfold Addr.add; rw [if_neg (by omega), Nat.add_assoc]]
  exact this
theorem dg_held {W : World} {ad : Addr} {l is bs : List Int} {tn : Int} (hC : Kd.C (Kd.int .u8) W (some ad) l.length l) (hl : l.length = 128) (ht : tn = rd l 2) (hi : is = (l.take 12).drop 4) (hb : bs = (l.take 44).drop 12) :
    W.cell? ⟨ad.block, ad.off + 2, none⟩ = some (.int .u8 tn) ∧ (Instr.loadAt 22 (.pointer (some ⟨ad.block, ad.off + 4, none⟩))).run Try.prog W = .ok (.agg (arrV is)) W ∧ (Instr.loadAt 23 (.pointer (some ⟨ad.block, ad.off + 12, none⟩))).run Try.prog W = .ok (.agg (arrV bs)) W := by
  obtain ⟨r1, r2, r3⟩ := Kd.reads_of_C (d := (0 : Int)) hC
  obtain ⟨ad', he, hcell⟩ := r3 (by omega)
  obtain rfl := Option.some.inj he
  refine ⟨?_, ?_, ?_⟩
  · rw [ht]; exact hcell 2 (by omega)
  · rw [hi]
    refine loadrow_run _ _ _ _ (cut_cells (fun j hj => hcell j hj) 4 12 (by omega) (by omega)) Try.underlying22 rfl ?_
    rw [List.length_map, List.length_drop, List.length_take, hl]; kernel_rfl
  · rw [hb]
    refine loadrow_run _ _ _ _ (cut_cells (fun j hj => hcell j hj) 12 44 (by omega) (by omega)) Try.underlying23 rfl ?_
    rw [List.length_map, List.length_drop, List.length_take, hl]; kernel_rfl
def decG (l : List Int) : (Int × List Int × List Int) × Int :=
  if (l.length : Int) = 128 then (if (strOfNums (l.take 2)).toList = ([104, 100] : List UInt8) then
    (if (encG (rd l 2) ((l.take 12).drop 4) ((l.take 44).drop 12)).2 = 0 then
      (if (strOfNums (encG (rd l 2) ((l.take 12).drop 4) ((l.take 44).drop 12)).1).toList = (strOfNums l).toList then ((rd l 2, (l.take 12).drop 4, (l.take 44).drop 12), 0) else ((0, List.replicate 8 0, List.replicate 32 0), 6))
    else ((0, List.replicate 8 0, List.replicate 32 0), 6)) else ((0, List.replicate 8 0, List.replicate 32 0), 31)) else ((0, List.replicate 8 0, List.replicate 32 0), 6)
theorem rd_bd {l : List Int} (h : ∀ x ∈ l, 0 ≤ x ∧ x ≤ 255) (i : Int) : 0 ≤ rd l i ∧ rd l i ≤ 255 := rd_u8 (u8_wf h) i
set_option maxHeartbeats 8000000 in
set_option maxRecDepth 100000 in
theorem DecodeGroup_call (A0 : Option Addr) (c0 : Nat) (l0 : List Int) (w : World) (hr0 : Kd.C (Kd.int .u8) w A0 l0.length l0) (hc0 : l0.length ≤ c0) (hwf : ∀ x ∈ l0, 0 ≤ x ∧ x ≤ 255) :
    Calls Try.prog 13 #[.slice A0 l0.length c0] w fun e w' => e = .returned (.tuple #[.agg (grp (decG l0).1.1 (decG l0).1.2.1 (decG l0).1.2.2), .int .i64 (decG l0).2]) ∧ Below w.heap.size w w' := by
  have hu25 := Try.underlying25
  have hzb := zero_built
  have HR0 := Aside0.mk hr0
  have HC0 := Aside0.mk hc0
  have HB := Aside0.mk (Below.refl w.heap.size w)
  unfold decG
  clear hr0 hc0
  by_cases hlen : (l0.length : Int) = 128
  · rw [if_pos hlen]
    have hb0 : ((l0.length : Int) == 128) = true := beq_iff_eq.mpr hlen
    have hb1 : ((l0.length : Int) != 128) = false := bne_eq_false_iff_eq.mpr hlen
    have HLEN := Aside0.mk (show l0.length = 128 by omega)
    have h4b : decide (2 ≤ (l0.length : Int)) = true := decide_eq_true (by omega)
    clear hlen
    by_cases hm : (strOfNums (l0.take 2)).toList = ([104, 100] : List UInt8)
    · rw [if_pos hm]
      have hmb0 : ((strOfNums (l0.take 2)).toList == ([104, 100] : List UInt8)) = true := beq_iff_eq.mpr hm
      have hmb1 : ((strOfNums (l0.take 2)).toList != ([104, 100] : List UInt8)) = false := bne_eq_false_iff_eq.mpr hm
      clear hm
      obtain ⟨tn, ht⟩ : ∃ x, x = rd l0 2 := ⟨_, rfl⟩
      obtain ⟨is, his⟩ : ∃ x, x = (l0.take 12).drop 4 := ⟨_, rfl⟩
      obtain ⟨bs, hbs⟩ : ∃ x, x = (l0.take 44).drop 12 := ⟨_, rfl⟩
      obtain ⟨⟨x1, x2⟩, hx⟩ : ∃ x, x = encG tn is bs := ⟨_, rfl⟩
      rw [← ht, ← his, ← hbs, ← hx]
      have L8 := Aside0.mk (show is.length = 8 by rw [his, List.length_drop, List.length_take, HLEN.out]; rfl)
      have L32 := Aside0.mk (show bs.length = 32 by rw [hbs, List.length_drop, List.length_take, HLEN.out]; rfl)
      obtain ⟨r1, r2, r3⟩ := Kd.reads_of_C (d := (0 : Int)) HR0.out
      obtain ⟨ad, rfl, hcell⟩ := r3 (by have := HLEN.out; omega)
      have HCE := Aside0.mk hcell
      have hwx : 0 ≤ tn ∧ tn ≤ 255 := by rw [ht]; exact rd_bd hwf 2
      obtain ⟨ht0, ht1⟩ := hwx
      have HX := Aside0.mk hx.symm
      have HIS := Aside0.mk his
      have HBS := Aside0.mk hbs
      have HTN := Aside0.mk ht
      have hk1 := cut_run (ad := ad) (n := l0.length) (c := c0) 4 12 (by omega) (by have := HLEN.out; omega) HC0.out (by have := HLEN.out; have := HC0.out; omega) (by omega)
      have hk2 := cut_run (ad := ad) (n := l0.length) (c := c0) 12 44 (by omega) (by have := HLEN.out; omega) HC0.out (by have := HLEN.out; have := HC0.out; omega) (by omega)
      have hk3 := fun (W : World) => run_arrayAt (P := Try.prog) W 22 5 8 (some ⟨ad.block, ad.off + 4, none⟩) 8 (c0 - 4) (by kernel_rfl) (by omega)
      have hk4 := fun (W : World) => run_arrayAt (P := Try.prog) W 23 5 32 (some ⟨ad.block, ad.off + 12, none⟩) 32 (c0 - 12) (by kernel_rfl) (by omega)
      have hk5 := grp_buildw ht0 ht1 L8.out L32.out
      have HK := Aside0.mk (And.intro hk1 (And.intro hk2 (And.intro hk3 (And.intro hk4 hk5))))
      have hz1 : (2 : Int) < (l0.length : Int) := by have := HLEN.out; omega
      have hz2 : (12 : Int) ≤ (c0 : Int) := by have := HLEN.out; have := HC0.out; omega
      have hz3 : (44 : Int) ≤ (c0 : Int) := by have := HLEN.out; have := HC0.out; omega
      have hz4 : ¬ c0 = 4 := by have := HLEN.out; have := HC0.out; omega
      have hz5 : ¬ c0 = 12 := by have := HLEN.out; have := HC0.out; omega
      clear hx his hbs ht r1 r2 r3 hcell hwf hk1 hk2 hk3 hk4 hk5
      by_cases hq2 : x2 = 0
      · rw [if_pos hq2]
        have hqb : (x2 == 0) = true := beq_iff_eq.mpr hq2
        have hqc : (x2 != 0) = false := bne_eq_false_iff_eq.mpr hq2
        clear hq2
        by_cases hs : (strOfNums x1).toList = (strOfNums l0).toList
        · rw [if_pos hs]
          have HS := Aside0.mk (show layout_same.f x1 l0 = some true by unfold layout_same.f; rw [hs]; simp)
          clear hs
          go_enter Try.func13, Try.ntmps13
          go_wp2_with (first
            | ((with_reducible refine gate_dst (N := 2) rfl ?_); refine box_event ?hg (N := 2) ?hd (cs := zG) (t := 25) ?hr ?_; (case hd => rfl); (case hg => rfl); (case hr => first | (go_simp; done) | (go_simp; rfl) | (kernel_rfl)); intro gb hg w1 hbox hb; have n0_ := Aside0.mk (below_step (w2 := w1) (by repeat (first | (with_reducible first | exact HB.out | apply below_alloc | apply pw_below_drewN | apply below_drew1) | exact HB.out)) hb); have BKb := Aside0.mk hbox; have GE := Aside0.mk (show w.heap.size ≤ gb by rw [hg]; exact Nat.le_refl _); clear HB; have HB := n0_; clear n0_ hb hbox hg; obtain ⟨ii, hii, _, hsz, _⟩ := info_parts infou8; obtain ⟨hcut, hA, hC⟩ := print_take_of (P := Try.prog) (Value.int .u8) 0 26 5 .i64 Try.underlying26 hii hsz (some ad) c0 l0 2 (by omega) (of_decide_eq_true h4b) HC0.out; have HR4 := Aside0.mk (Kd.C_of_reads (h1 := fun _ => rfl) (hA _ (Kd.reads_of_C HR0.out))); clear hA hC hii hsz; have hcv := Kd.C_string (P := Try.prog) (A := (some ad)) (c := c0) Try.underlying26 Try.underlying5 Try.underlying9 (Kd.C_below HR4.out HB.out); have hcvs := hcv; simp only [Int.reduceToNat, List.length_take] at hcvs;  obtain ⟨hk1, hk2, hk3, hk4, hk5⟩ := HK.out))
          refine start_ (n := 15) (S := fun w' => w'.cell? ⟨ad.block, ad.off + 2, none⟩ = some (.int .u8 tn) ∧ (Instr.loadAt 22 (.pointer (some ⟨ad.block, ad.off + 4, none⟩))).run Try.prog w' = .ok (.agg (arrV is)) w' ∧ (Instr.loadAt 23 (.pointer (some ⟨ad.block, ad.off + 12, none⟩))).run Try.prog w' = .ok (.agg (arrV bs)) w') (ds := [14]) #[false, false, false, false, false, false, false, false, false, false, false, false, false, false, false] (by kernel_rfl) rfl rfl ⟨(dg_held (Kd.C_below HR0.out (below_drew1 HB.out)) HLEN.out HTN.out HIS.out HBS.out).1, (dg_held (Kd.C_below HR0.out (below_drew1 HB.out)) HLEN.out HTN.out HIS.out HBS.out).2.1, (dg_held (Kd.C_below HR0.out (below_drew1 HB.out)) HLEN.out HTN.out HIS.out HBS.out).2.2⟩ (fun hHeld => ?_)
          refine pure_ (i := 0) (N := some 18) (v := ?_) (a' := ?_) #[true, false, false, false, false, false, false, false, false, false, false, false, false, false, false] rfl rfl (by kernel_rfl) (fun _ _ _ h => h) (Or.inl ⟨by rfl, ?_⟩) ?_ ?_
          rotate_left
          · intro w'
            go_simp
            with_reducible rfl
          rotate_left
          · simp only [Act.put, List.setIfInBounds_toArray, List.set_cons_zero, List.set_cons_succ, i64_w, i32_w]
            rfl
          refine pure_ (i := 1) (N := some 19) (v := ?_) (a' := ?_) #[true, true, false, false, false, false, false, false, false, false, false, false, false, false, false] rfl rfl (by kernel_rfl) (fun _ _ _ h => h) (Or.inl ⟨by rfl, ?_⟩) ?_ ?_
          rotate_left
          · intro w'
            go_simp
            with_reducible rfl
          rotate_left
          · simp only [Act.put, List.setIfInBounds_toArray, List.set_cons_zero, List.set_cons_succ, i64_w, i32_w]
            rfl
          refine pure_ (i := 4) (N := some 22) (v := ?_) (a' := ?_) #[true, true, false, false, true, false, false, false, false, false, false, false, false, false, false] rfl rfl (by kernel_rfl) (fun _ _ _ h => h) (Or.inl ⟨by rfl, ?_⟩) ?_ ?_
          rotate_left
          · intro w'
            go_simp
            with_reducible rfl
          rotate_left
          · simp only [Act.put, List.setIfInBounds_toArray, List.set_cons_zero, List.set_cons_succ, i64_w, i32_w]
            rfl
          refine pure_ (i := 5) (N := some 23) (v := ?_) (a' := ?_) #[true, true, false, false, true, true, false, false, false, false, false, false, false, false, false] rfl rfl (by kernel_rfl) (fun _ _ _ h => h) (Or.inl ⟨by rfl, ?_⟩) ?_ ?_
          rotate_left
          · intro w'
            go_simp
            with_reducible rfl
          rotate_left
          · simp only [Act.put, List.setIfInBounds_toArray, List.set_cons_zero, List.set_cons_succ, i64_w, i32_w]
            rfl
          refine pure_ (i := 6) (N := some 24) (v := ?_) (a' := ?_) #[true, true, false, false, true, true, true, false, false, false, false, false, false, false, false] rfl rfl (by kernel_rfl) (fun _ _ _ h => h) (Or.inl ⟨by rfl, ?_⟩) ?_ ?_
          rotate_left
          · intro w'
            go_simp
            with_reducible rfl
          rotate_left
          · simp only [Act.put, List.setIfInBounds_toArray, List.set_cons_zero, List.set_cons_succ, i64_w, i32_w]
            rfl
          refine pure_ (i := 8) (N := some 26) (v := ?_) (a' := ?_) #[true, true, false, false, true, true, true, false, true, false, false, false, false, false, false] rfl rfl (by kernel_rfl) (fun _ _ _ h => h) (Or.inl ⟨by rfl, ?_⟩) ?_ ?_
          rotate_left
          · intro w'
            go_simp
            with_reducible rfl
          rotate_left
          · simp only [Act.put, List.setIfInBounds_toArray, List.set_cons_zero, List.set_cons_succ, i64_w, i32_w]
            rfl
          refine pure_ (i := 9) (N := some 27) (v := ?_) (a' := ?_) #[true, true, false, false, true, true, true, false, true, true, false, false, false, false, false] rfl rfl (by kernel_rfl) (fun _ _ _ h => h) (Or.inl ⟨by rfl, ?_⟩) ?_ ?_
          rotate_left
          · intro w'
            go_simp
            with_reducible rfl
          rotate_left
          · simp only [Act.put, List.setIfInBounds_toArray, List.set_cons_zero, List.set_cons_succ, i64_w, i32_w]
            rfl
          refine pure_ (i := 10) (N := some 28) (v := ?_) (a' := ?_) #[true, true, false, false, true, true, true, false, true, true, true, false, false, false, false] rfl rfl (by kernel_rfl) (fun _ _ _ h => h) (Or.inl ⟨by rfl, ?_⟩) ?_ ?_
          rotate_left
          · intro w'
            go_simp
            with_reducible rfl
          rotate_left
          · simp only [Act.put, List.setIfInBounds_toArray, List.set_cons_zero, List.set_cons_succ, i64_w, i32_w]
            rfl
          refine take_ (i := 2) (N := some 20) (v := ?_) (a' := ?_) #[true, true, true, false, true, true, true, false, true, true, true, false, false, false, false] rfl rfl (by kernel_rfl) (fun _ _ _ h => h) (Or.inl ⟨by rfl, ?_⟩) hHeld ?_ ?_
          rotate_left
          · rintro w' ⟨s0, s1, s2⟩
            go_simp
            with_reducible rfl
          rotate_left
          · simp only [Act.put, List.setIfInBounds_toArray, List.set_cons_zero, List.set_cons_succ, i64_w, i32_w]
            rfl
          refine pure_ (i := 3) (N := some 21) (v := ?_) (a' := ?_) #[true, true, true, true, true, true, true, false, true, true, true, false, false, false, false] rfl rfl (by kernel_rfl) (fun _ _ _ h => h) (Or.inl ⟨by rfl, ?_⟩) ?_ ?_
          rotate_left
          · intro w'
            go_simp
            with_reducible rfl
          rotate_left
          · simp only [Act.put, List.setIfInBounds_toArray, List.set_cons_zero, List.set_cons_succ, i64_w, i32_w]
            rfl
          refine take_ (i := 7) (N := some 25) (v := ?_) (a' := ?_) #[true, true, true, true, true, true, true, true, true, true, true, false, false, false, false] rfl rfl (by kernel_rfl) (fun _ _ _ h => h) (Or.inl ⟨by rfl, ?_⟩) hHeld ?_ ?_
          rotate_left
          · rintro w' ⟨s0, s1, s2⟩
            refine Eq.trans (load_yield rfl rfl s1) ?_
            with_reducible rfl
          rotate_left
          · simp only [Act.put, List.setIfInBounds_toArray, List.set_cons_zero, List.set_cons_succ, i64_w, i32_w]
            rfl
          refine take_ (i := 11) (N := some 29) (v := ?_) (a' := ?_) #[true, true, true, true, true, true, true, true, true, true, true, true, false, false, false] rfl rfl (by kernel_rfl) (fun _ _ _ h => h) (Or.inl ⟨by rfl, ?_⟩) hHeld ?_ ?_
          rotate_left
          · rintro w' ⟨s0, s1, s2⟩
            refine Eq.trans (load_yield rfl rfl s2) ?_
            with_reducible rfl
          rotate_left
          · simp only [Act.put, List.setIfInBounds_toArray, List.set_cons_zero, List.set_cons_succ, i64_w, i32_w]
            rfl
          refine pure_ (i := 12) (N := some 30) (v := ?_) (a' := ?_) #[true, true, true, true, true, true, true, true, true, true, true, true, true, false, false] rfl rfl (by kernel_rfl) (fun _ _ _ h => h) (Or.inl ⟨by rfl, ?_⟩) ?_ ?_
          rotate_left
          · intro w'
            refine Eq.trans (build_yield rfl (hk5 _) (by simp only [List.map_toArray, List.map_cons, List.map_nil]; rfl)) ?_
            with_reducible rfl
          rotate_left
          · simp only [Act.put, List.setIfInBounds_toArray, List.set_cons_zero, List.set_cons_succ, i64_w, i32_w]
            rfl
          refine one_ (i := 13) (N := some 4) #[true, true, true, true, true, true, true, true, true, true, true, true, true, true, false] rfl rfl (by kernel_rfl) (by decide) (fun K hK => ?_)
          refine box_step (by rfl) rfl (cs := zG) (t := 25) ?hr ?_
          case hr => first | (go_simp; done) | (go_simp; rfl) | (kernel_rfl)
          intro ge hg w2 hbox hb
          have GG := Aside0.mk (show gb < ge by rw [hg]; exact blk_lt BKb.out)
          have n0_ := Aside0.mk (below_step (w2 := w2) (by repeat (first | (with_reducible first | exact HB.out | apply below_alloc | apply pw_below_drewN | apply below_drew1) | exact HB.out)) hb)
          have n1_ := Aside0.mk (blk_below (w1 := w2) (g := gb) (o := .cells zG 25 (0, 0)) (by (with_reducible repeat (first | refine blk_drewN ?_ _ | refine blk_drew ?_ | refine blk_alloc ?_ _)); exact BKb.out) hb)
          have BKe := Aside0.mk hbox
          clear HB BKb
          have HB := n0_
          have BKb := n1_
          clear n0_ n1_ hb hbox hg
          refine hK.out _ _ ⟨(dg_held (Kd.C_below HR0.out HB.out) HLEN.out HTN.out HIS.out HBS.out).1, (dg_held (Kd.C_below HR0.out HB.out) HLEN.out HTN.out HIS.out HBS.out).2.1, (dg_held (Kd.C_below HR0.out HB.out) HLEN.out HTN.out HIS.out HBS.out).2.2⟩ (fun hHeld => ?_)
          clear hK K
          refine norm_ (a' := ?_) ?_ ?_
          rotate_left
          · show Act.put _ (some 4) _ = _
            simp only [Act.put, List.setIfInBounds_toArray, List.set_cons_zero, List.set_cons_succ, i64_w, i32_w]
            rfl
          refine last_ (i := 14) (N := none) #[true, true, true, true, true, true, true, true, true, true, true, true, true, true, true] rfl rfl (by kernel_rfl) (by decide) (fun K hK => ?_)
          refine store_step (by rfl) rfl 25 (.tmp 4) (.tmp 30) rfl ge zG (grp tn is bs) 25 (by rfl) (by rfl) (by (with_reducible repeat (first | refine blk_drewN ?_ _ | refine blk_drew ?_ | refine blk_alloc ?_ _)); exact BKe.out) (grp_sizes _ _ (by rfl) (by rfl) L8.out L32.out) (grp_info tn L8.out L32.out) (grp_one _ _ _) ?_
          intro w3 hb1 hb2 hb3
          have n0_ := Aside0.mk (hb3 w.heap.size w (Nat.le_trans GE.out (Nat.le_of_lt GG.out)) (by repeat (first | (with_reducible first | exact HB.out | apply below_alloc | apply pw_below_drewN | apply below_drew1) | exact HB.out)))
          have n1_ := Aside0.mk ((hb2 gb (Nat.ne_of_lt GG.out)).trans (show _ = some (.cells zG 25 (0, 0)) by (with_reducible repeat (first | refine blk_drewN ?_ _ | refine blk_drew ?_ | refine blk_alloc ?_ _)); exact BKb.out))
          clear HB BKb BKe
          have HB := n0_
          have BKb := n1_
          have BKe := Aside0.mk hb1
          clear n0_ n1_ hb1 hb2 hb3
          refine hK.out _ _ ?_
          clear hK K
          refine done_ (by kernel_rfl) ?_
          clear hcv hcvs hHeld
          go_wp2_with (first
            | ((with_reducible refine gate_dst (N := 32) rfl ?_); refine load_event rfl 25 (.tmp 4) rfl ge (grp tn is bs) 25 _ rfl BKe.out hu25 rfl (grp_info tn L8.out L32.out) ?_)
            | (go_at_call 10; refine (EncodeGroup_call tn is bs _ L8.out L32.out).mono ?_; rintro e w4 ⟨v0, he, hr, hb⟩; rw [HX.out] at he hr; subst he; have HR7 := Aside0.mk hr; have n0_ := Aside0.mk (below_step (w2 := w4) (by repeat (first | (with_reducible first | exact HB.out | apply below_alloc | apply pw_below_drewN | apply below_drew1) | exact HB.out)) hb); have n1_ := Aside0.mk (blk_below (w1 := w4) (g := gb) (o := .cells zG 25 (0, 0)) (by (with_reducible repeat (first | refine blk_drewN ?_ _ | refine blk_drew ?_ | refine blk_alloc ?_ _)); exact BKb.out) hb); have n2_ := Aside0.mk (blk_below (w1 := w4) (g := ge) (o := .cells (grp tn is bs) 25 (0, 0)) (by (with_reducible repeat (first | refine blk_drewN ?_ _ | refine blk_drew ?_ | refine blk_alloc ?_ _)); exact BKe.out) hb); clear HB BKb BKe; have HB := n0_; have BKb := n1_; have BKe := n2_; clear n0_ n1_ n2_ hr hb; obtain ⟨A7, c7, e7⟩ := Kd.R_slice HR7.out; subst e7)
            | (go_at_call 38; refine (layout_same.calls A7 c7 x1 (some ad) c0 l0 true _ (by repeat (first | exact (Kd.R_reads' HR7.out).2.2 | refine Kd.C_drewN ?_ _ | refine Kd.C_drew ?_)) (Kd.R_reads' HR7.out).2.1 (by repeat (first | exact Kd.C_below HR0.out HB.out | refine Kd.C_drewN ?_ _ | refine Kd.C_drew ?_)) HC0.out HS.out).mono ?_; rintro e w12 ⟨rfl, m9, rfl⟩)
            | ((with_reducible refine gate_dst (N := 45) rfl ?_); refine load_event rfl 25 (.tmp 4) rfl ge (grp tn is bs) 25 _ rfl (by (with_reducible repeat (first | refine blk_drewN ?_ _ | refine blk_drew ?_ | refine blk_alloc ?_ _)); exact BKe.out) hu25 rfl (grp_info tn L8.out L32.out) ?_)
            | (refine store_event rfl 25 (.tmp 2) (.tmp 45) rfl gb zG (grp tn is bs) 25 rfl rfl (by (with_reducible repeat (first | refine blk_drewN ?_ _ | refine blk_drew ?_ | refine blk_alloc ?_ _)); exact BKb.out) (grp_sizes _ _ (by rfl) (by rfl) L8.out L32.out) (grp_info tn L8.out L32.out) (grp_one _ _ _) ?_; intro w9 hb1 hb2 hb3; have n0_ := Aside0.mk (hb3 w.heap.size w GE.out (by repeat (first | (with_reducible first | exact HB.out | apply below_alloc | apply pw_below_drewN | apply below_drew1) | exact HB.out))); have BKz := Aside0.mk hb1; clear HB; have HB := n0_; clear n0_ hb1 hb2 hb3))
          refine bodyPost_ret (results_ct rfl _ _ gb 25 (grp tn is bs) (0, 0) _ rfl (by (with_reducible repeat (first | refine blk_drewN ?_ _ | refine blk_drew ?_ | refine blk_alloc ?_ _)); exact BKz.out) hu25 rfl (grp_info tn L8.out L32.out)) rfl ?_
          exact ⟨rfl, by repeat (first | exact HB.out | apply pw_below_drewN | apply below_drew1)⟩
        · rw [if_neg hs]
          have HS := Aside0.mk (show layout_same.f x1 l0 = some false by unfold layout_same.f; rw [beq_eq_false_iff_ne.mpr hs])
          clear hs
          go_enter Try.func13, Try.ntmps13
          go_wp2_with (first
            | ((with_reducible refine gate_dst (N := 2) rfl ?_); refine box_event ?hg (N := 2) ?hd (cs := zG) (t := 25) ?hr ?_; (case hd => rfl); (case hg => rfl); (case hr => first | (go_simp; done) | (go_simp; rfl) | (kernel_rfl)); intro gb hg w1 hbox hb; have n0_ := Aside0.mk (below_step (w2 := w1) (by repeat (first | (with_reducible first | exact HB.out | apply below_alloc | apply pw_below_drewN | apply below_drew1) | exact HB.out)) hb); have BKb := Aside0.mk hbox; have GE := Aside0.mk (show w.heap.size ≤ gb by rw [hg]; exact Nat.le_refl _); clear HB; have HB := n0_; clear n0_ hb hbox hg; obtain ⟨ii, hii, _, hsz, _⟩ := info_parts infou8; obtain ⟨hcut, hA, hC⟩ := print_take_of (P := Try.prog) (Value.int .u8) 0 26 5 .i64 Try.underlying26 hii hsz (some ad) c0 l0 2 (by omega) (of_decide_eq_true h4b) HC0.out; have HR4 := Aside0.mk (Kd.C_of_reads (h1 := fun _ => rfl) (hA _ (Kd.reads_of_C HR0.out))); clear hA hC hii hsz; have hcv := Kd.C_string (P := Try.prog) (A := (some ad)) (c := c0) Try.underlying26 Try.underlying5 Try.underlying9 (Kd.C_below HR4.out HB.out); have hcvs := hcv; simp only [Int.reduceToNat, List.length_take] at hcvs;  obtain ⟨hk1, hk2, hk3, hk4, hk5⟩ := HK.out))
          refine start_ (n := 15) (S := fun w' => w'.cell? ⟨ad.block, ad.off + 2, none⟩ = some (.int .u8 tn) ∧ (Instr.loadAt 22 (.pointer (some ⟨ad.block, ad.off + 4, none⟩))).run Try.prog w' = .ok (.agg (arrV is)) w' ∧ (Instr.loadAt 23 (.pointer (some ⟨ad.block, ad.off + 12, none⟩))).run Try.prog w' = .ok (.agg (arrV bs)) w') (ds := [14]) #[false, false, false, false, false, false, false, false, false, false, false, false, false, false, false] (by kernel_rfl) rfl rfl ⟨(dg_held (Kd.C_below HR0.out (below_drew1 HB.out)) HLEN.out HTN.out HIS.out HBS.out).1, (dg_held (Kd.C_below HR0.out (below_drew1 HB.out)) HLEN.out HTN.out HIS.out HBS.out).2.1, (dg_held (Kd.C_below HR0.out (below_drew1 HB.out)) HLEN.out HTN.out HIS.out HBS.out).2.2⟩ (fun hHeld => ?_)
          refine pure_ (i := 0) (N := some 18) (v := ?_) (a' := ?_) #[true, false, false, false, false, false, false, false, false, false, false, false, false, false, false] rfl rfl (by kernel_rfl) (fun _ _ _ h => h) (Or.inl ⟨by rfl, ?_⟩) ?_ ?_
          rotate_left
          · intro w'
            go_simp
            with_reducible rfl
          rotate_left
          · simp only [Act.put, List.setIfInBounds_toArray, List.set_cons_zero, List.set_cons_succ, i64_w, i32_w]
            rfl
          refine pure_ (i := 1) (N := some 19) (v := ?_) (a' := ?_) #[true, true, false, false, false, false, false, false, false, false, false, false, false, false, false] rfl rfl (by kernel_rfl) (fun _ _ _ h => h) (Or.inl ⟨by rfl, ?_⟩) ?_ ?_
          rotate_left
          · intro w'
            go_simp
            with_reducible rfl
          rotate_left
          · simp only [Act.put, List.setIfInBounds_toArray, List.set_cons_zero, List.set_cons_succ, i64_w, i32_w]
            rfl
          refine pure_ (i := 4) (N := some 22) (v := ?_) (a' := ?_) #[true, true, false, false, true, false, false, false, false, false, false, false, false, false, false] rfl rfl (by kernel_rfl) (fun _ _ _ h => h) (Or.inl ⟨by rfl, ?_⟩) ?_ ?_
          rotate_left
          · intro w'
            go_simp
            with_reducible rfl
          rotate_left
          · simp only [Act.put, List.setIfInBounds_toArray, List.set_cons_zero, List.set_cons_succ, i64_w, i32_w]
            rfl
          refine pure_ (i := 5) (N := some 23) (v := ?_) (a' := ?_) #[true, true, false, false, true, true, false, false, false, false, false, false, false, false, false] rfl rfl (by kernel_rfl) (fun _ _ _ h => h) (Or.inl ⟨by rfl, ?_⟩) ?_ ?_
          rotate_left
          · intro w'
            go_simp
            with_reducible rfl
          rotate_left
          · simp only [Act.put, List.setIfInBounds_toArray, List.set_cons_zero, List.set_cons_succ, i64_w, i32_w]
            rfl
          refine pure_ (i := 6) (N := some 24) (v := ?_) (a' := ?_) #[true, true, false, false, true, true, true, false, false, false, false, false, false, false, false] rfl rfl (by kernel_rfl) (fun _ _ _ h => h) (Or.inl ⟨by rfl, ?_⟩) ?_ ?_
          rotate_left
          · intro w'
            go_simp
            with_reducible rfl
          rotate_left
          · simp only [Act.put, List.setIfInBounds_toArray, List.set_cons_zero, List.set_cons_succ, i64_w, i32_w]
            rfl
          refine pure_ (i := 8) (N := some 26) (v := ?_) (a' := ?_) #[true, true, false, false, true, true, true, false, true, false, false, false, false, false, false] rfl rfl (by kernel_rfl) (fun _ _ _ h => h) (Or.inl ⟨by rfl, ?_⟩) ?_ ?_
          rotate_left
          · intro w'
            go_simp
            with_reducible rfl
          rotate_left
          · simp only [Act.put, List.setIfInBounds_toArray, List.set_cons_zero, List.set_cons_succ, i64_w, i32_w]
            rfl
          refine pure_ (i := 9) (N := some 27) (v := ?_) (a' := ?_) #[true, true, false, false, true, true, true, false, true, true, false, false, false, false, false] rfl rfl (by kernel_rfl) (fun _ _ _ h => h) (Or.inl ⟨by rfl, ?_⟩) ?_ ?_
          rotate_left
          · intro w'
            go_simp
            with_reducible rfl
          rotate_left
          · simp only [Act.put, List.setIfInBounds_toArray, List.set_cons_zero, List.set_cons_succ, i64_w, i32_w]
            rfl
          refine pure_ (i := 10) (N := some 28) (v := ?_) (a' := ?_) #[true, true, false, false, true, true, true, false, true, true, true, false, false, false, false] rfl rfl (by kernel_rfl) (fun _ _ _ h => h) (Or.inl ⟨by rfl, ?_⟩) ?_ ?_
          rotate_left
          · intro w'
            go_simp
            with_reducible rfl
          rotate_left
          · simp only [Act.put, List.setIfInBounds_toArray, List.set_cons_zero, List.set_cons_succ, i64_w, i32_w]
            rfl
          refine take_ (i := 2) (N := some 20) (v := ?_) (a' := ?_) #[true, true, true, false, true, true, true, false, true, true, true, false, false, false, false] rfl rfl (by kernel_rfl) (fun _ _ _ h => h) (Or.inl ⟨by rfl, ?_⟩) hHeld ?_ ?_
          rotate_left
          · rintro w' ⟨s0, s1, s2⟩
            go_simp
            with_reducible rfl
          rotate_left
          · simp only [Act.put, List.setIfInBounds_toArray, List.set_cons_zero, List.set_cons_succ, i64_w, i32_w]
            rfl
          refine pure_ (i := 3) (N := some 21) (v := ?_) (a' := ?_) #[true, true, true, true, true, true, true, false, true, true, true, false, false, false, false] rfl rfl (by kernel_rfl) (fun _ _ _ h => h) (Or.inl ⟨by rfl, ?_⟩) ?_ ?_
          rotate_left
          · intro w'
            go_simp
            with_reducible rfl
          rotate_left
          · simp only [Act.put, List.setIfInBounds_toArray, List.set_cons_zero, List.set_cons_succ, i64_w, i32_w]
            rfl
          refine take_ (i := 7) (N := some 25) (v := ?_) (a' := ?_) #[true, true, true, true, true, true, true, true, true, true, true, false, false, false, false] rfl rfl (by kernel_rfl) (fun _ _ _ h => h) (Or.inl ⟨by rfl, ?_⟩) hHeld ?_ ?_
          rotate_left
          · rintro w' ⟨s0, s1, s2⟩
            refine Eq.trans (load_yield rfl rfl s1) ?_
            with_reducible rfl
          rotate_left
          · simp only [Act.put, List.setIfInBounds_toArray, List.set_cons_zero, List.set_cons_succ, i64_w, i32_w]
            rfl
          refine take_ (i := 11) (N := some 29) (v := ?_) (a' := ?_) #[true, true, true, true, true, true, true, true, true, true, true, true, false, false, false] rfl rfl (by kernel_rfl) (fun _ _ _ h => h) (Or.inl ⟨by rfl, ?_⟩) hHeld ?_ ?_
          rotate_left
          · rintro w' ⟨s0, s1, s2⟩
            refine Eq.trans (load_yield rfl rfl s2) ?_
            with_reducible rfl
          rotate_left
          · simp only [Act.put, List.setIfInBounds_toArray, List.set_cons_zero, List.set_cons_succ, i64_w, i32_w]
            rfl
          refine pure_ (i := 12) (N := some 30) (v := ?_) (a' := ?_) #[true, true, true, true, true, true, true, true, true, true, true, true, true, false, false] rfl rfl (by kernel_rfl) (fun _ _ _ h => h) (Or.inl ⟨by rfl, ?_⟩) ?_ ?_
          rotate_left
          · intro w'
            refine Eq.trans (build_yield rfl (hk5 _) (by simp only [List.map_toArray, List.map_cons, List.map_nil]; rfl)) ?_
            with_reducible rfl
          rotate_left
          · simp only [Act.put, List.setIfInBounds_toArray, List.set_cons_zero, List.set_cons_succ, i64_w, i32_w]
            rfl
          refine one_ (i := 13) (N := some 4) #[true, true, true, true, true, true, true, true, true, true, true, true, true, true, false] rfl rfl (by kernel_rfl) (by decide) (fun K hK => ?_)
          refine box_step (by rfl) rfl (cs := zG) (t := 25) ?hr ?_
          case hr => first | (go_simp; done) | (go_simp; rfl) | (kernel_rfl)
          intro ge hg w2 hbox hb
          have GG := Aside0.mk (show gb < ge by rw [hg]; exact blk_lt BKb.out)
          have n0_ := Aside0.mk (below_step (w2 := w2) (by repeat (first | (with_reducible first | exact HB.out | apply below_alloc | apply pw_below_drewN | apply below_drew1) | exact HB.out)) hb)
          have n1_ := Aside0.mk (blk_below (w1 := w2) (g := gb) (o := .cells zG 25 (0, 0)) (by (with_reducible repeat (first | refine blk_drewN ?_ _ | refine blk_drew ?_ | refine blk_alloc ?_ _)); exact BKb.out) hb)
          have BKe := Aside0.mk hbox
          clear HB BKb
          have HB := n0_
          have BKb := n1_
          clear n0_ n1_ hb hbox hg
          refine hK.out _ _ ⟨(dg_held (Kd.C_below HR0.out HB.out) HLEN.out HTN.out HIS.out HBS.out).1, (dg_held (Kd.C_below HR0.out HB.out) HLEN.out HTN.out HIS.out HBS.out).2.1, (dg_held (Kd.C_below HR0.out HB.out) HLEN.out HTN.out HIS.out HBS.out).2.2⟩ (fun hHeld => ?_)
          clear hK K
          refine norm_ (a' := ?_) ?_ ?_
          rotate_left
          · show Act.put _ (some 4) _ = _
            simp only [Act.put, List.setIfInBounds_toArray, List.set_cons_zero, List.set_cons_succ, i64_w, i32_w]
            rfl
          refine last_ (i := 14) (N := none) #[true, true, true, true, true, true, true, true, true, true, true, true, true, true, true] rfl rfl (by kernel_rfl) (by decide) (fun K hK => ?_)
          refine store_step (by rfl) rfl 25 (.tmp 4) (.tmp 30) rfl ge zG (grp tn is bs) 25 (by rfl) (by rfl) (by (with_reducible repeat (first | refine blk_drewN ?_ _ | refine blk_drew ?_ | refine blk_alloc ?_ _)); exact BKe.out) (grp_sizes _ _ (by rfl) (by rfl) L8.out L32.out) (grp_info tn L8.out L32.out) (grp_one _ _ _) ?_
          intro w3 hb1 hb2 hb3
          have n0_ := Aside0.mk (hb3 w.heap.size w (Nat.le_trans GE.out (Nat.le_of_lt GG.out)) (by repeat (first | (with_reducible first | exact HB.out | apply below_alloc | apply pw_below_drewN | apply below_drew1) | exact HB.out)))
          have n1_ := Aside0.mk ((hb2 gb (Nat.ne_of_lt GG.out)).trans (show _ = some (.cells zG 25 (0, 0)) by (with_reducible repeat (first | refine blk_drewN ?_ _ | refine blk_drew ?_ | refine blk_alloc ?_ _)); exact BKb.out))
          clear HB BKb BKe
          have HB := n0_
          have BKb := n1_
          have BKe := Aside0.mk hb1
          clear n0_ n1_ hb1 hb2 hb3
          refine hK.out _ _ ?_
          clear hK K
          refine done_ (by kernel_rfl) ?_
          clear hcv hcvs hHeld
          go_wp2_with (first
            | ((with_reducible refine gate_dst (N := 32) rfl ?_); refine load_event rfl 25 (.tmp 4) rfl ge (grp tn is bs) 25 _ rfl BKe.out hu25 rfl (grp_info tn L8.out L32.out) ?_)
            | (go_at_call 10; refine (EncodeGroup_call tn is bs _ L8.out L32.out).mono ?_; rintro e w4 ⟨v0, he, hr, hb⟩; rw [HX.out] at he hr; subst he; have HR7 := Aside0.mk hr; have n0_ := Aside0.mk (below_step (w2 := w4) (by repeat (first | (with_reducible first | exact HB.out | apply below_alloc | apply pw_below_drewN | apply below_drew1) | exact HB.out)) hb); have n1_ := Aside0.mk (blk_below (w1 := w4) (g := gb) (o := .cells zG 25 (0, 0)) (by (with_reducible repeat (first | refine blk_drewN ?_ _ | refine blk_drew ?_ | refine blk_alloc ?_ _)); exact BKb.out) hb); have n2_ := Aside0.mk (blk_below (w1 := w4) (g := ge) (o := .cells (grp tn is bs) 25 (0, 0)) (by (with_reducible repeat (first | refine blk_drewN ?_ _ | refine blk_drew ?_ | refine blk_alloc ?_ _)); exact BKe.out) hb); clear HB BKb BKe; have HB := n0_; have BKb := n1_; have BKe := n2_; clear n0_ n1_ n2_ hr hb; obtain ⟨A7, c7, e7⟩ := Kd.R_slice HR7.out; subst e7)
            | (go_at_call 38; refine (layout_same.calls A7 c7 x1 (some ad) c0 l0 false _ (by repeat (first | exact (Kd.R_reads' HR7.out).2.2 | refine Kd.C_drewN ?_ _ | refine Kd.C_drew ?_)) (Kd.R_reads' HR7.out).2.1 (by repeat (first | exact Kd.C_below HR0.out HB.out | refine Kd.C_drewN ?_ _ | refine Kd.C_drew ?_)) HC0.out HS.out).mono ?_; rintro e w12 ⟨rfl, m9, rfl⟩)
            | (refine store_event rfl 25 (.tmp 2) (.tmp 44) rfl gb zG (zG) 25 rfl rfl (by (with_reducible repeat (first | refine blk_drewN ?_ _ | refine blk_drew ?_ | refine blk_alloc ?_ _)); exact BKb.out) (rfl) (grp_info 0 (by rfl) (by rfl)) (grp_one _ _ _) ?_; intro w9 hb1 hb2 hb3; have n0_ := Aside0.mk (hb3 w.heap.size w GE.out (by repeat (first | (with_reducible first | exact HB.out | apply below_alloc | apply pw_below_drewN | apply below_drew1) | exact HB.out))); have BKz := Aside0.mk hb1; clear HB; have HB := n0_; clear n0_ hb1 hb2 hb3))
          refine bodyPost_ret (results_ct rfl _ _ gb 25 (zG) (0, 0) _ rfl (by (with_reducible repeat (first | refine blk_drewN ?_ _ | refine blk_drew ?_ | refine blk_alloc ?_ _)); exact BKz.out) hu25 rfl (grp_info 0 (by rfl) (by rfl))) rfl ?_
          exact ⟨rfl, by repeat (first | exact HB.out | apply pw_below_drewN | apply below_drew1)⟩
      · rw [if_neg hq2]
        have hqb : (x2 == 0) = false := beq_eq_false_iff_ne.mpr hq2
        have hqc : (x2 != 0) = true := bne_iff_ne.mpr hq2
        clear hq2
        go_enter Try.func13, Try.ntmps13
        go_wp2_with (first
          | ((with_reducible refine gate_dst (N := 2) rfl ?_); refine box_event ?hg (N := 2) ?hd (cs := zG) (t := 25) ?hr ?_; (case hd => rfl); (case hg => rfl); (case hr => first | (go_simp; done) | (go_simp; rfl) | (kernel_rfl)); intro gb hg w1 hbox hb; have n0_ := Aside0.mk (below_step (w2 := w1) (by repeat (first | (with_reducible first | exact HB.out | apply below_alloc | apply pw_below_drewN | apply below_drew1) | exact HB.out)) hb); have BKb := Aside0.mk hbox; have GE := Aside0.mk (show w.heap.size ≤ gb by rw [hg]; exact Nat.le_refl _); clear HB; have HB := n0_; clear n0_ hb hbox hg; obtain ⟨ii, hii, _, hsz, _⟩ := info_parts infou8; obtain ⟨hcut, hA, hC⟩ := print_take_of (P := Try.prog) (Value.int .u8) 0 26 5 .i64 Try.underlying26 hii hsz (some ad) c0 l0 2 (by omega) (of_decide_eq_true h4b) HC0.out; have HR4 := Aside0.mk (Kd.C_of_reads (h1 := fun _ => rfl) (hA _ (Kd.reads_of_C HR0.out))); clear hA hC hii hsz; have hcv := Kd.C_string (P := Try.prog) (A := (some ad)) (c := c0) Try.underlying26 Try.underlying5 Try.underlying9 (Kd.C_below HR4.out HB.out); have hcvs := hcv; simp only [Int.reduceToNat, List.length_take] at hcvs;  obtain ⟨hk1, hk2, hk3, hk4, hk5⟩ := HK.out))
        refine start_ (n := 15) (S := fun w' => w'.cell? ⟨ad.block, ad.off + 2, none⟩ = some (.int .u8 tn) ∧ (Instr.loadAt 22 (.pointer (some ⟨ad.block, ad.off + 4, none⟩))).run Try.prog w' = .ok (.agg (arrV is)) w' ∧ (Instr.loadAt 23 (.pointer (some ⟨ad.block, ad.off + 12, none⟩))).run Try.prog w' = .ok (.agg (arrV bs)) w') (ds := [14]) #[false, false, false, false, false, false, false, false, false, false, false, false, false, false, false] (by kernel_rfl) rfl rfl ⟨(dg_held (Kd.C_below HR0.out (below_drew1 HB.out)) HLEN.out HTN.out HIS.out HBS.out).1, (dg_held (Kd.C_below HR0.out (below_drew1 HB.out)) HLEN.out HTN.out HIS.out HBS.out).2.1, (dg_held (Kd.C_below HR0.out (below_drew1 HB.out)) HLEN.out HTN.out HIS.out HBS.out).2.2⟩ (fun hHeld => ?_)
        refine pure_ (i := 0) (N := some 18) (v := ?_) (a' := ?_) #[true, false, false, false, false, false, false, false, false, false, false, false, false, false, false] rfl rfl (by kernel_rfl) (fun _ _ _ h => h) (Or.inl ⟨by rfl, ?_⟩) ?_ ?_
        rotate_left
        · intro w'
          go_simp
          with_reducible rfl
        rotate_left
        · simp only [Act.put, List.setIfInBounds_toArray, List.set_cons_zero, List.set_cons_succ, i64_w, i32_w]
          rfl
        refine pure_ (i := 1) (N := some 19) (v := ?_) (a' := ?_) #[true, true, false, false, false, false, false, false, false, false, false, false, false, false, false] rfl rfl (by kernel_rfl) (fun _ _ _ h => h) (Or.inl ⟨by rfl, ?_⟩) ?_ ?_
        rotate_left
        · intro w'
          go_simp
          with_reducible rfl
        rotate_left
        · simp only [Act.put, List.setIfInBounds_toArray, List.set_cons_zero, List.set_cons_succ, i64_w, i32_w]
          rfl
        refine pure_ (i := 4) (N := some 22) (v := ?_) (a' := ?_) #[true, true, false, false, true, false, false, false, false, false, false, false, false, false, false] rfl rfl (by kernel_rfl) (fun _ _ _ h => h) (Or.inl ⟨by rfl, ?_⟩) ?_ ?_
        rotate_left
        · intro w'
          go_simp
          with_reducible rfl
        rotate_left
        · simp only [Act.put, List.setIfInBounds_toArray, List.set_cons_zero, List.set_cons_succ, i64_w, i32_w]
          rfl
        refine pure_ (i := 5) (N := some 23) (v := ?_) (a' := ?_) #[true, true, false, false, true, true, false, false, false, false, false, false, false, false, false] rfl rfl (by kernel_rfl) (fun _ _ _ h => h) (Or.inl ⟨by rfl, ?_⟩) ?_ ?_
        rotate_left
        · intro w'
          go_simp
          with_reducible rfl
        rotate_left
        · simp only [Act.put, List.setIfInBounds_toArray, List.set_cons_zero, List.set_cons_succ, i64_w, i32_w]
          rfl
        refine pure_ (i := 6) (N := some 24) (v := ?_) (a' := ?_) #[true, true, false, false, true, true, true, false, false, false, false, false, false, false, false] rfl rfl (by kernel_rfl) (fun _ _ _ h => h) (Or.inl ⟨by rfl, ?_⟩) ?_ ?_
        rotate_left
        · intro w'
          go_simp
          with_reducible rfl
        rotate_left
        · simp only [Act.put, List.setIfInBounds_toArray, List.set_cons_zero, List.set_cons_succ, i64_w, i32_w]
          rfl
        refine pure_ (i := 8) (N := some 26) (v := ?_) (a' := ?_) #[true, true, false, false, true, true, true, false, true, false, false, false, false, false, false] rfl rfl (by kernel_rfl) (fun _ _ _ h => h) (Or.inl ⟨by rfl, ?_⟩) ?_ ?_
        rotate_left
        · intro w'
          go_simp
          with_reducible rfl
        rotate_left
        · simp only [Act.put, List.setIfInBounds_toArray, List.set_cons_zero, List.set_cons_succ, i64_w, i32_w]
          rfl
        refine pure_ (i := 9) (N := some 27) (v := ?_) (a' := ?_) #[true, true, false, false, true, true, true, false, true, true, false, false, false, false, false] rfl rfl (by kernel_rfl) (fun _ _ _ h => h) (Or.inl ⟨by rfl, ?_⟩) ?_ ?_
        rotate_left
        · intro w'
          go_simp
          with_reducible rfl
        rotate_left
        · simp only [Act.put, List.setIfInBounds_toArray, List.set_cons_zero, List.set_cons_succ, i64_w, i32_w]
          rfl
        refine pure_ (i := 10) (N := some 28) (v := ?_) (a' := ?_) #[true, true, false, false, true, true, true, false, true, true, true, false, false, false, false] rfl rfl (by kernel_rfl) (fun _ _ _ h => h) (Or.inl ⟨by rfl, ?_⟩) ?_ ?_
        rotate_left
        · intro w'
          go_simp
          with_reducible rfl
        rotate_left
        · simp only [Act.put, List.setIfInBounds_toArray, List.set_cons_zero, List.set_cons_succ, i64_w, i32_w]
          rfl
        refine take_ (i := 2) (N := some 20) (v := ?_) (a' := ?_) #[true, true, true, false, true, true, true, false, true, true, true, false, false, false, false] rfl rfl (by kernel_rfl) (fun _ _ _ h => h) (Or.inl ⟨by rfl, ?_⟩) hHeld ?_ ?_
        rotate_left
        · rintro w' ⟨s0, s1, s2⟩
          go_simp
          with_reducible rfl
        rotate_left
        · simp only [Act.put, List.setIfInBounds_toArray, List.set_cons_zero, List.set_cons_succ, i64_w, i32_w]
          rfl
        refine pure_ (i := 3) (N := some 21) (v := ?_) (a' := ?_) #[true, true, true, true, true, true, true, false, true, true, true, false, false, false, false] rfl rfl (by kernel_rfl) (fun _ _ _ h => h) (Or.inl ⟨by rfl, ?_⟩) ?_ ?_
        rotate_left
        · intro w'
          go_simp
          with_reducible rfl
        rotate_left
        · simp only [Act.put, List.setIfInBounds_toArray, List.set_cons_zero, List.set_cons_succ, i64_w, i32_w]
          rfl
        refine take_ (i := 7) (N := some 25) (v := ?_) (a' := ?_) #[true, true, true, true, true, true, true, true, true, true, true, false, false, false, false] rfl rfl (by kernel_rfl) (fun _ _ _ h => h) (Or.inl ⟨by rfl, ?_⟩) hHeld ?_ ?_
        rotate_left
        · rintro w' ⟨s0, s1, s2⟩
          refine Eq.trans (load_yield rfl rfl s1) ?_
          with_reducible rfl
        rotate_left
        · simp only [Act.put, List.setIfInBounds_toArray, List.set_cons_zero, List.set_cons_succ, i64_w, i32_w]
          rfl
        refine take_ (i := 11) (N := some 29) (v := ?_) (a' := ?_) #[true, true, true, true, true, true, true, true, true, true, true, true, false, false, false] rfl rfl (by kernel_rfl) (fun _ _ _ h => h) (Or.inl ⟨by rfl, ?_⟩) hHeld ?_ ?_
        rotate_left
        · rintro w' ⟨s0, s1, s2⟩
          refine Eq.trans (load_yield rfl rfl s2) ?_
          with_reducible rfl
        rotate_left
        · simp only [Act.put, List.setIfInBounds_toArray, List.set_cons_zero, List.set_cons_succ, i64_w, i32_w]
          rfl
        refine pure_ (i := 12) (N := some 30) (v := ?_) (a' := ?_) #[true, true, true, true, true, true, true, true, true, true, true, true, true, false, false] rfl rfl (by kernel_rfl) (fun _ _ _ h => h) (Or.inl ⟨by rfl, ?_⟩) ?_ ?_
        rotate_left
        · intro w'
          refine Eq.trans (build_yield rfl (hk5 _) (by simp only [List.map_toArray, List.map_cons, List.map_nil]; rfl)) ?_
          with_reducible rfl
        rotate_left
        · simp only [Act.put, List.setIfInBounds_toArray, List.set_cons_zero, List.set_cons_succ, i64_w, i32_w]
          rfl
        refine one_ (i := 13) (N := some 4) #[true, true, true, true, true, true, true, true, true, true, true, true, true, true, false] rfl rfl (by kernel_rfl) (by decide) (fun K hK => ?_)
        refine box_step (by rfl) rfl (cs := zG) (t := 25) ?hr ?_
        case hr => first | (go_simp; done) | (go_simp; rfl) | (kernel_rfl)
        intro ge hg w2 hbox hb
        have GG := Aside0.mk (show gb < ge by rw [hg]; exact blk_lt BKb.out)
        have n0_ := Aside0.mk (below_step (w2 := w2) (by repeat (first | (with_reducible first | exact HB.out | apply below_alloc | apply pw_below_drewN | apply below_drew1) | exact HB.out)) hb)
        have n1_ := Aside0.mk (blk_below (w1 := w2) (g := gb) (o := .cells zG 25 (0, 0)) (by (with_reducible repeat (first | refine blk_drewN ?_ _ | refine blk_drew ?_ | refine blk_alloc ?_ _)); exact BKb.out) hb)
        have BKe := Aside0.mk hbox
        clear HB BKb
        have HB := n0_
        have BKb := n1_
        clear n0_ n1_ hb hbox hg
        refine hK.out _ _ ⟨(dg_held (Kd.C_below HR0.out HB.out) HLEN.out HTN.out HIS.out HBS.out).1, (dg_held (Kd.C_below HR0.out HB.out) HLEN.out HTN.out HIS.out HBS.out).2.1, (dg_held (Kd.C_below HR0.out HB.out) HLEN.out HTN.out HIS.out HBS.out).2.2⟩ (fun hHeld => ?_)
        clear hK K
        refine norm_ (a' := ?_) ?_ ?_
        rotate_left
        · show Act.put _ (some 4) _ = _
          simp only [Act.put, List.setIfInBounds_toArray, List.set_cons_zero, List.set_cons_succ, i64_w, i32_w]
          rfl
        refine last_ (i := 14) (N := none) #[true, true, true, true, true, true, true, true, true, true, true, true, true, true, true] rfl rfl (by kernel_rfl) (by decide) (fun K hK => ?_)
        refine store_step (by rfl) rfl 25 (.tmp 4) (.tmp 30) rfl ge zG (grp tn is bs) 25 (by rfl) (by rfl) (by (with_reducible repeat (first | refine blk_drewN ?_ _ | refine blk_drew ?_ | refine blk_alloc ?_ _)); exact BKe.out) (grp_sizes _ _ (by rfl) (by rfl) L8.out L32.out) (grp_info tn L8.out L32.out) (grp_one _ _ _) ?_
        intro w3 hb1 hb2 hb3
        have n0_ := Aside0.mk (hb3 w.heap.size w (Nat.le_trans GE.out (Nat.le_of_lt GG.out)) (by repeat (first | (with_reducible first | exact HB.out | apply below_alloc | apply pw_below_drewN | apply below_drew1) | exact HB.out)))
        have n1_ := Aside0.mk ((hb2 gb (Nat.ne_of_lt GG.out)).trans (show _ = some (.cells zG 25 (0, 0)) by (with_reducible repeat (first | refine blk_drewN ?_ _ | refine blk_drew ?_ | refine blk_alloc ?_ _)); exact BKb.out))
        clear HB BKb BKe
        have HB := n0_
        have BKb := n1_
        have BKe := Aside0.mk hb1
        clear n0_ n1_ hb1 hb2 hb3
        refine hK.out _ _ ?_
        clear hK K
        refine done_ (by kernel_rfl) ?_
        clear hcv hcvs hHeld
        go_wp2_with (first
          | ((with_reducible refine gate_dst (N := 32) rfl ?_); refine load_event rfl 25 (.tmp 4) rfl ge (grp tn is bs) 25 _ rfl BKe.out hu25 rfl (grp_info tn L8.out L32.out) ?_)
          | (go_at_call 10; refine (EncodeGroup_call tn is bs _ L8.out L32.out).mono ?_; rintro e w4 ⟨v0, he, hr, hb⟩; rw [HX.out] at he hr; subst he; have HR7 := Aside0.mk hr; have n0_ := Aside0.mk (below_step (w2 := w4) (by repeat (first | (with_reducible first | exact HB.out | apply below_alloc | apply pw_below_drewN | apply below_drew1) | exact HB.out)) hb); have n1_ := Aside0.mk (blk_below (w1 := w4) (g := gb) (o := .cells zG 25 (0, 0)) (by (with_reducible repeat (first | refine blk_drewN ?_ _ | refine blk_drew ?_ | refine blk_alloc ?_ _)); exact BKb.out) hb); have n2_ := Aside0.mk (blk_below (w1 := w4) (g := ge) (o := .cells (grp tn is bs) 25 (0, 0)) (by (with_reducible repeat (first | refine blk_drewN ?_ _ | refine blk_drew ?_ | refine blk_alloc ?_ _)); exact BKe.out) hb); clear HB BKb BKe; have HB := n0_; have BKb := n1_; have BKe := n2_; clear n0_ n1_ n2_ hr hb; obtain ⟨A7, c7, e7⟩ := Kd.R_slice HR7.out; subst e7)
          | (refine store_event rfl 25 (.tmp 2) (.tmp 44) rfl gb zG (zG) 25 rfl rfl (by (with_reducible repeat (first | refine blk_drewN ?_ _ | refine blk_drew ?_ | refine blk_alloc ?_ _)); exact BKb.out) (rfl) (grp_info 0 (by rfl) (by rfl)) (grp_one _ _ _) ?_; intro w9 hb1 hb2 hb3; have n0_ := Aside0.mk (hb3 w.heap.size w GE.out (by repeat (first | (with_reducible first | exact HB.out | apply below_alloc | apply pw_below_drewN | apply below_drew1) | exact HB.out))); have BKz := Aside0.mk hb1; clear HB; have HB := n0_; clear n0_ hb1 hb2 hb3))
        refine bodyPost_ret (results_ct rfl _ _ gb 25 (zG) (0, 0) _ rfl (by (with_reducible repeat (first | refine blk_drewN ?_ _ | refine blk_drew ?_ | refine blk_alloc ?_ _)); exact BKz.out) hu25 rfl (grp_info 0 (by rfl) (by rfl))) rfl ?_
        exact ⟨rfl, by repeat (first | exact HB.out | apply pw_below_drewN | apply below_drew1)⟩
    · rw [if_neg hm]
      have hmb0 : ((strOfNums (l0.take 2)).toList == ([104, 100] : List UInt8)) = false := beq_eq_false_iff_ne.mpr hm
      have hmb1 : ((strOfNums (l0.take 2)).toList != ([104, 100] : List UInt8)) = true := bne_iff_ne.mpr hm
      clear hm
      go_enter Try.func13, Try.ntmps13
      go_wp2_with (first
        | ((with_reducible refine gate_dst (N := 2) rfl ?_); refine box_event ?hg (N := 2) ?hd (cs := zG) (t := 25) ?hr ?_; (case hd => rfl); (case hg => rfl); (case hr => first | (go_simp; done) | (go_simp; rfl) | (kernel_rfl)); intro gb hg w1 hbox hb; have n0_ := Aside0.mk (below_step (w2 := w1) (by repeat (first | (with_reducible first | exact HB.out | apply below_alloc | apply pw_below_drewN | apply below_drew1) | exact HB.out)) hb); have BKb := Aside0.mk hbox; have GE := Aside0.mk (show w.heap.size ≤ gb by rw [hg]; exact Nat.le_refl _); clear HB; have HB := n0_; clear n0_ hb hbox hg; obtain ⟨ii, hii, _, hsz, _⟩ := info_parts infou8; obtain ⟨hcut, hA, hC⟩ := print_take_of (P := Try.prog) (Value.int .u8) 0 26 5 .i64 Try.underlying26 hii hsz A0 c0 l0 2 (by omega) (of_decide_eq_true h4b) HC0.out; have HR4 := Aside0.mk (Kd.C_of_reads (h1 := fun _ => rfl) (hA _ (Kd.reads_of_C HR0.out))); clear hA hC hii hsz; have hcv := Kd.C_string (P := Try.prog) (A := A0) (c := c0) Try.underlying26 Try.underlying5 Try.underlying9 (Kd.C_below HR4.out HB.out); have hcvs := hcv; simp only [Int.reduceToNat, List.length_take] at hcvs)
        | (refine store_event rfl 25 (.tmp 2) (.tmp 17) rfl gb zG (zG) 25 rfl rfl (by (with_reducible repeat (first | refine blk_drewN ?_ _ | refine blk_drew ?_ | refine blk_alloc ?_ _)); exact BKb.out) (rfl) (grp_info 0 (by rfl) (by rfl)) (grp_one _ _ _) ?_; intro w9 hb1 hb2 hb3; have n0_ := Aside0.mk (hb3 w.heap.size w GE.out (by repeat (first | (with_reducible first | exact HB.out | apply below_alloc | apply pw_below_drewN | apply below_drew1) | exact HB.out))); have BKz := Aside0.mk hb1; clear HB; have HB := n0_; clear n0_ hb1 hb2 hb3))
      refine bodyPost_ret (results_ct rfl _ _ gb 25 (zG) (0, 0) _ rfl (by (with_reducible repeat (first | refine blk_drewN ?_ _ | refine blk_drew ?_ | refine blk_alloc ?_ _)); exact BKz.out) hu25 rfl (grp_info 0 (by rfl) (by rfl))) rfl ?_
      exact ⟨rfl, by repeat (first | exact HB.out | apply pw_below_drewN | apply below_drew1)⟩
  · rw [if_neg hlen]
    have hb0 : ((l0.length : Int) == 128) = false := beq_eq_false_iff_ne.mpr hlen
    have hb1 : ((l0.length : Int) != 128) = true := bne_iff_ne.mpr hlen
    clear hlen
    go_enter Try.func13, Try.ntmps13
    go_wp2_with (first
      | ((with_reducible refine gate_dst (N := 2) rfl ?_); refine box_event ?hg (N := 2) ?hd (cs := zG) (t := 25) ?hr ?_; (case hd => rfl); (case hg => rfl); (case hr => first | (go_simp; done) | (go_simp; rfl) | (kernel_rfl)); intro gb hg w1 hbox hb; have n0_ := Aside0.mk (below_step (w2 := w1) (by repeat (first | (with_reducible first | exact HB.out | apply below_alloc | apply pw_below_drewN | apply below_drew1) | exact HB.out)) hb); have BKb := Aside0.mk hbox; have GE := Aside0.mk (show w.heap.size ≤ gb by rw [hg]; exact Nat.le_refl _); clear HB; have HB := n0_; clear n0_ hb hbox hg)
      | (refine store_event rfl 25 (.tmp 2) (.tmp 11) rfl gb zG (zG) 25 rfl rfl (by (with_reducible repeat (first | refine blk_drewN ?_ _ | refine blk_drew ?_ | refine blk_alloc ?_ _)); exact BKb.out) (rfl) (grp_info 0 (by rfl) (by rfl)) (grp_one _ _ _) ?_; intro w9 hb1 hb2 hb3; have n0_ := Aside0.mk (hb3 w.heap.size w GE.out (by repeat (first | (with_reducible first | exact HB.out | apply below_alloc | apply pw_below_drewN | apply below_drew1) | exact HB.out))); have BKz := Aside0.mk hb1; clear HB; have HB := n0_; clear n0_ hb1 hb2 hb3))
    refine bodyPost_ret (results_ct rfl _ _ gb 25 (zG) (0, 0) _ rfl (by (with_reducible repeat (first | refine blk_drewN ?_ _ | refine blk_drew ?_ | refine blk_alloc ?_ _)); exact BKz.out) hu25 rfl (grp_info 0 (by rfl) (by rfl))) rfl ?_
    exact ⟨rfl, by repeat (first | exact HB.out | apply pw_below_drewN | apply below_drew1)⟩
end Go.Proofs.Ytdaeanodgnmknaa.Gw
