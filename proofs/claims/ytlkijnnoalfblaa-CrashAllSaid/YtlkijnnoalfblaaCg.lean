/- Written by a program of this session. CrashAll: the images of all sets: the first is the image, the last that of all writes, and each crash's is among them. -/
import Derived.Test.YtlkijnnoalfblaaCl
namespace Go.Proofs.Ytlkijnnoalfblaa.Dk
open Go Go.RowKit Go.Shelf Go.Proofs Go.Maps Go.Proofs.Ytlkijnnoalfblaa.Sp Go.Proofs.Ytlkijnnoalfblaa.XFb Go.Proofs.YtlkijnnoalfblaaW.PrintWords Go.Proofs.YtlkijnnoalfblaaW.PrintLast Go.Proofs.YtlkijnnoalfblaaW.PrintMore
set_option linter.unusedVariables false
set_option linter.unusedSimpArgs false
theorem ends_imgs (bl : List (List Int)) (q : List S49) (hn : (q.map fun s => s.f0).Nodup) (P : Nat) (hP : 2 ^ q.length = P) (w : World) (A : Option Addr) (h : Kd.C (Kd.slice 47 (Kd.slice 5 (Kd.int .u8))) w A (imgsL (fun s => s.foldl (crB q) bl) (q.map fun s => s.f0) P).length (imgsL (fun s => s.foldl (crB q) bl) (q.map fun s => s.f0) P)) :
    ∃ ad Af cf Al cl, A = some ad ∧ w.cell? ad = some (.slice Af bl.length cf) ∧ bl.length ≤ cf ∧ Kd.C (Kd.slice 5 (Kd.int .u8)) w Af bl.length bl ∧ w.cell? (ad.add (P - 1)) = some (.slice Al (q.foldl (fun (b : List (List Int)) (s : S49) => b.set s.f1.toNat s.f2) bl).length cl) ∧ (q.foldl (fun (b : List (List Int)) (s : S49) => b.set s.f1.toNat s.f2) bl).length ≤ cl ∧ Kd.C (Kd.slice 5 (Kd.int .u8)) w Al (q.foldl (fun (b : List (List Int)) (s : S49) => b.set s.f1.toNat s.f2) bl).length (q.foldl (fun (b : List (List Int)) (s : S49) => b.set s.f1.toNat s.f2) bl) := by
  have hp : 0 < P := by rw [← hP]; exact Nat.pow_pos (by decide)
  obtain ⟨ad, Af, cf, hA, k0, l0, g0⟩ := at_imgs h 0 (by rw [imgsL_len]; exact hp)
  obtain ⟨ad2, Al, cl, hA2, k1, l1, g1⟩ := at_imgs h (P - 1) (by rw [imgsL_len]; omega)
  subst hA
  injection hA2 with hA2
  subst hA2
  have e2 : ((P - 1 : Nat) : Int) = 2 ^ (q.map fun s => s.f0).length - 1 := by
    rw [List.length_map]
    have : ((2 : Int) ^ q.length) = (P : Int) := by rw [← hP]; simp
    rw [this]; omega
  rw [imgsL_get _ _ P 0 hp, show (((0 : Nat) : Int)) = 0 from rfl, keep_none] at k0 l0 g0
  rw [imgsL_get _ _ P (P - 1) (by omega), e2, keep_all, crB_fold q hn q (fun s hs => hs) bl] at k1 l1 g1
  exact ⟨ad, Af, cf, Al, cl, rfl, k0, l0, g0, k1, l1, g1⟩
theorem fold_len (q : List S49) : ∀ (ids : List Int) (bl : List (List Int)), (ids.foldl (crB q) bl).length = bl.length
  | [], _ => rfl
  | i :: r, bl => by rw [List.foldl_cons, fold_len q r]; unfold crB; rw [List.length_set]
theorem imgs_len {q : List S49} {bl : List (List Int)} {I : List Int} {P : Nat} {x : List (List Int)} (h : x ∈ imgsL (fun s => s.foldl (crB q) bl) I P) : x.length = bl.length := by
  unfold imgsL at h
  obtain ⟨j, _, rfl⟩ := List.mem_map.1 h
  exact fold_len q _ _
attribute [local go_sem] max2_int min2_int max_two min_two max_three min_three max_four min_four
set_option maxRecDepth 100000 in
set_option maxHeartbeats 8000000 in
theorem CrashAll_walk (A0 : Option Addr) (c0 : Nat) (xs : List (List Int)) (A : Option Addr) (c : Nat) (l : List DoC) (mask : Int) (w : World) (hC0 : Kd.C (Kd.slice 5 (Kd.int .u8)) w A0 xs.length xs) (hc0 : xs.length ≤ c0) (hx0 : ∀ x ∈ xs, x.length ≤ 140737488351232) (hl0 : xs.length < 5864062014805)
    (hC : Kd.C kDoC w A l.length l) (hc : l.length ≤ c) (hl : l.length ≤ 1000000000000000) (hm : 0 ≤ mask ∧ mask < 18446744073709551616) :
    Calls Try.prog 4 #[.slice A0 xs.length c0, .slice A l.length c, .int .u64 mask] w fun e w' => e = .returned (.bool true) ∧ Below w.heap.size w w' := by
  obtain ⟨n6, hn6⟩ : ∃ n6, min l.length 5 = n6 := ⟨_, rfl⟩
  have hle6 : n6 ≤ 5 := by omega
  have hlel : n6 ≤ l.length := by omega
  have hlec : n6 ≤ c := by omega
  have hmin : (if (5 : Int) < (l.length : Int) then (5 : Int) else (l.length : Int)) = (n6 : Int) := by split <;> omega
  have hl6 : (l.take n6).length = n6 := by rw [List.length_take]; omega
  have hbo := both_ok A0 c0 xs A c (l.take n6) w hC0 hc0 hx0 hl0 (by rw [hl6]; exact C_pre hC n6 hlel) (by omega)
  rw [hl6] at hbo
  have HBO := Aside0.mk hbo
  have HC0 := Aside0.mk hC0
  clear hC0 hC hx0 hl6 hbo hn6
  refine (callsIn_wide (n := 1)).1 ?_
  refine callsIn_of_wp Try.func4 rfl trivial ?_ rfl
  simp only [Try.ntmps4, List.size_toArray, List.length_cons, List.length_nil, Nat.reduceAdd, Nat.reduceSub, Array.replicate_succ, Array.replicate_zero, List.push_toArray, List.append_toArray, List.nil_append, List.cons_append]
  gi_wp2
  refine ⟨trivial, ?_⟩
  gi_at_call 5
  refine (callsIn_wide.2 HBO.out).mono ?_
  rintro e w1 ⟨hb, rfl | ⟨D, X, m, S, q, last, FL, base, rfl, hd, hnd, hql, hbase⟩⟩
  · have HB := Aside0.mk hb
    clear hb
    gi_wp2
    go_ret
    exact ⟨rfl, HB.out⟩
  · have HB1 := Aside0.mk hb
    have HDM := Aside0.mk hd
    obtain ⟨⟨mo, hdk⟩, _, _⟩ := hd
    have HDK := Aside0.mk hdk
    have HND := Aside0.mk hnd
    have hbm := hdk.fits.most
    have hq5 : q.length ≤ 5 := by omega
    have hp64 : (2 : Nat) ^ q.length ≤ 32 := Nat.le_trans (Nat.pow_le_pow_right (by decide) hq5) (by decide)
    obtain ⟨P, hP⟩ : ∃ P : Nat, 2 ^ q.length = P := ⟨_, rfl⟩
    rw [hP] at hp64
    have hp1 : 0 < P := by rw [← hP]; exact Nat.pow_pos (by decide)
    have HEND := Aside0.mk (ends_imgs xs q hnd P hP)
    have HIMG := Aside0.mk (fun (W : World) (hb : Below w1.heap.size w1 W) => (by have h := images_ok (HDM.out.below hb) (by decide) hnd 4096 (by decide) (by omega); rw [cnt_all (by omega), hP] at h; exact h : Calls Try.prog 10 #[.pointer (some ⟨D, 0, none⟩), .int .i64 4096] W fun e W' => ∃ v, e = .returned v ∧ Kd.R (Kd.slice 47 (Kd.slice 5 (Kd.int .u8))) 22 W' W.heap.size (fun _ => True) v (imgsL (fun s => s.foldl (crB q) xs) (q.map fun s => s.f0) P) ∧ Below W.heap.size W W'))
    have HIN := Aside0.mk (imgs_in (fun s => s.foldl (crB q) xs) (q.map fun s => s.f0) P (by rw [List.length_map]; exact hP) mask)
    have HLM := Aside0.mk (imgsL_len (fun s => s.foldl (crB q) xs) (q.map fun s => s.f0) P)
    have hpw : wrap64 ((2 : Int) ^ q.length) = (P : Int) := by
      have e2 : ((2 : Int) ^ q.length) = (P : Int) := by rw [← hP]; simp
      rw [e2, IntWalk.wrap64_in _ (by clear hP e2; omega)]
    have hpn : ((P : Int) != (P : Int)) = false := by simp
    clear hb hdk hnd hql HBO hP hmin
    gi_wp2_with (first
      | (refine ⟨trivial, ?_⟩; gi_at_call 7; refine (callsIn_wide.2 (queue_ok HDK.out)).mono ?_; rintro e w2 ⟨v2, rfl, hs, hb⟩; obtain ⟨AQ0, cQ0, rfl⟩ := Kd.R_slice (Kd.S_R hs); have HB2 := Aside0.mk hb; clear hs hb)
      | (refine ⟨trivial, ?_⟩; gi_at_call 10; refine (callsIn_wide.2 (HIMG.out w2 HB2.out)).mono ?_; rintro e w3 ⟨v3, rfl, hr, hb⟩; obtain ⟨AM, cM, hv3⟩ := Kd.R_slice hr; rw [HLM.out] at hv3; subst hv3; have HM3 := Aside0.mk hr; have HB3 := Aside0.mk (below_step HB2.out hb); obtain ⟨ad, Af, cf, Al, cl, hA, kf, lf, gf, kl, ll, gl⟩ := HEND.out w3 AM (Kd.R_reads' hr).2.2; subst hA; have hcM : P ≤ cM := (Kd.R_reads' hr).2.1; have HSI := Aside0.mk ((same_any w3 Af A0 cf c0 xs xs gf (Kd.C_below HC0.out (below_step HB1.out (below_step HB2.out hb))) lf hc0 (by omega) (by omega)).mono (fun e w' h => (by obtain ⟨b, he, ht, hb⟩ := h; rw [ht rfl] at he; exact ⟨he, hb⟩ : e = .returned (.bool true) ∧ Below w3.heap.size w3 w'))); have KL3 := Aside0.mk kl; have GL3 := Aside0.mk gl; clear hr hb gf kl gl)
      | (refine ⟨trivial, ?_⟩; gi_at_call 11; refine (callsIn_wide.2 (HSI.out)).mono ?_; rintro e w4 ⟨rfl, hb⟩; have HB4 := Aside0.mk (below_step HB3.out hb); have HB34 := Aside0.mk hb; clear hb HSI)
      | (refine ⟨trivial, ?_⟩; gi_at_call 12; refine (callsIn_wide.2 (dm_copy (HDM.out.below HB4.out) (by decide))).mono ?_; rintro e w5 ⟨D2, m2, rfl, hc, hb⟩; have hax := below_alloc (Below.refl w5.heap.size w5) (.cells #[.pointer (some ⟨D2, 0, none⟩)] 24); have HX5 := Aside0.mk (World.alloc_heap_new w5 (.cells #[.pointer (some ⟨D2, 0, none⟩)] 24)); have HC5 := Aside0.mk (hc.below hax); have HLO := Aside0.mk hc.low; have HB5 := Aside0.mk (below_step HB4.out (below_step hb hax)); have HB35 := Aside0.mk (below_step HB34.out (below_step hb hax)); have cX5 : (w5.alloc (.cells #[.pointer (some ⟨D2, 0, none⟩)] 24)).cell? ⟨w5.heap.size, 0, none⟩ = some (.pointer (some ⟨D2, 0, none⟩)) := (by have h := World.alloc_heap_new w5 (.cells #[.pointer (some ⟨D2, 0, none⟩)] 24); simp only [World.cell?, h]; rfl); clear hc hb hax)
      )
    refine wpIn_wide.2 ?_
    have hbd := below_drew (Below.refl (w5.alloc (.cells #[.pointer (some ⟨D2, 0, none⟩)] 24)).heap.size (w5.alloc (.cells #[.pointer (some ⟨D2, 0, none⟩)] 24)))
    have HDB := Aside0.mk hbd
    have cX6 : (w5.alloc (.cells #[.pointer (some ⟨D2, 0, none⟩)] 24)).drew.cell? ⟨w5.heap.size, 0, none⟩ = some (.pointer (some ⟨D2, 0, none⟩)) := (hbd.cell (World.block_lt_of_cell? _ _ cX5)).trans cX5
    have hof := of_ok (HDK.out.below (below_step HB5.out hbd)) mask hm
    have HC6 := Aside0.mk (HC5.out.below hbd)
    have HB6 := Aside0.mk (below_step HB5.out hbd)
    have hxlt : w5.heap.size < (w5.alloc (.cells #[.pointer (some ⟨D2, 0, none⟩)] 24)).drew.heap.size := World.block_lt_of_cell? _ _ cX6
    clear hbd
    refine start_ (n := 6) (S := fun w' => w'.cell? ⟨w5.heap.size, 0, none⟩ = some (.pointer (some ⟨D2, 0, none⟩))) (ds := [4]) #[false, false, false, false, false, false] (by kernel_rfl) rfl rfl (cX6) (fun hHeld => ?_)
    refine pure_ (i := 1) (N := some 55) (v := ?_) (a' := ?_) #[false, true, false, false, false, false] rfl rfl (by kernel_rfl) (fun _ _ _ h => h) (Or.inl ⟨by rfl, ?_⟩) ?_ ?_
    rotate_left
    · intro w'
      go_simp
      with_reducible rfl
    rotate_left
    · simp only [Act.put, List.setIfInBounds_toArray, List.set_cons_zero, List.set_cons_succ, i64_w, i32_w]
      rfl
    refine pure_ (i := 2) (N := some 56) (v := ?_) (a' := ?_) #[false, true, true, false, false, false] rfl rfl (by kernel_rfl) (fun _ _ _ h => h) (Or.inl ⟨by rfl, ?_⟩) ?_ ?_
    rotate_left
    · intro w'
      go_simp
      with_reducible rfl
    rotate_left
    · simp only [Act.put, List.setIfInBounds_toArray, List.set_cons_zero, List.set_cons_succ, i64_w, i32_w]
      rfl
    refine take_ (i := 0) (N := some 54) (v := ?_) (a' := ?_) #[true, true, true, false, false, false] rfl rfl (by kernel_rfl) (fun _ _ _ h => h) (Or.inl ⟨by rfl, ?_⟩) hHeld ?_ ?_
    rotate_left
    · intro w' s0
      go_simp
      with_reducible rfl
    rotate_left
    · simp only [Act.put, List.setIfInBounds_toArray, List.set_cons_zero, List.set_cons_succ, i64_w, i32_w]
      rfl
    refine one_ (i := 3) (N := some 57) #[true, true, true, true, false, false] rfl rfl (by kernel_rfl) (by decide) (fun K hK => ?_)
    refine goes_ Try.func9 (by kernel_rfl) rfl #[.pointer (some ⟨D, 0, none⟩), .int .u64 mask] (by rfl) rfl rfl (by simp only [List.map_toArray, List.map_cons, List.map_nil]; rfl) ?_
    with_reducible refine (hof).mono ?_
    rintro e w7 ⟨v7, rfl, hr, hb⟩
    refine ⟨_, rfl, ?_⟩
    obtain ⟨A7, c7, rfl⟩ := Kd.R_slice hr
    have HR7 := Aside0.mk hr
    have HM7 := Aside0.mk (below_step (below_step HB35.out HDB.out) hb)
    have HB7 := Aside0.mk (below_step HB6.out hb)
    have HC7 := Aside0.mk (HC6.out.below hb)
    have cX7 : w7.cell? ⟨w5.heap.size, 0, none⟩ = some (.pointer (some ⟨D2, 0, none⟩)) := (hb.cell (World.block_lt_of_cell? _ _ cX6)).trans cX6
    have hcr := dm_crash HC7.out A7 c7 _ (fun W' hk => (Kd.R_reads' (Kept.R (Kd.R_bound hr) hk (fun k h1 h2 => by have h3 := h1.2.1; have h4 := (HC6.out.low k h2).2; omega))).2.2) (by have := keepL_len (bitP mask) (q.map fun s => s.f0) 0; rw [List.length_map] at this; omega)
    clear hr hb
    refine hK.out _ _ (cX7) (fun hHeld => ?_)
    clear hK K
    refine norm_ (a' := ?_) ?_ ?_
    rotate_left
    · show Act.put _ (some 57) _ = _
      simp only [Act.put, List.setIfInBounds_toArray, List.set_cons_zero, List.set_cons_succ, i64_w, i32_w]
      rfl
    refine last_ (i := 4) (N := some 58) #[true, true, true, true, true, false] rfl rfl (by kernel_rfl) (by decide) (fun K hK => ?_)
    refine goes_ Try.func13 (by kernel_rfl) rfl #[.pointer (some ⟨D2, 0, none⟩), .slice A7 (keepL (bitP mask) (q.map fun s => s.f0) 0).length c7] (by rfl) rfl rfl (by simp only [List.map_toArray, List.map_cons, List.map_nil]; rfl) ?_
    with_reducible refine (hcr).mono ?_
    rintro e w8 ⟨rfl, ⟨S8, hs8, hd8⟩, hk8⟩
    refine ⟨_, rfl, ?_⟩
    refine hK.out _ _ ?_
    clear hK K
    refine norm_ (a' := ?_) ?_ ?_
    rotate_left
    · show Act.put _ (some 58) _ = _
      simp only [Act.put, List.setIfInBounds_toArray, List.set_cons_zero, List.set_cons_succ, i64_w, i32_w]
      rfl
    refine pure_ (i := 5) (N := some 59) (v := ?_) (a' := ?_) #[true, true, true, true, true, true] rfl rfl (by kernel_rfl) (fun _ _ _ h => h) (Or.inl ⟨by rfl, ?_⟩) ?_ ?_
    rotate_left
    · intro w'
      go_simp
      with_reducible rfl
    rotate_left
    · simp only [Act.put, List.setIfInBounds_toArray, List.set_cons_zero, List.set_cons_succ, i64_w, i32_w]
      rfl
    refine done_ (by kernel_rfl) ?_
    clear hpw hpn
    have hE : crE q (keepL (bitP mask) (q.map fun s => s.f0) 0) = 0 := by
      unfold crE
      rw [if_pos (List.all_eq_true.2 (fun i hi => decide_eq_true (ixL_of_mem (keepL_sub _ _ _ i hi))))]
    rw [hE]
    unfold crBs crQ at hd8
    rw [if_pos hE, if_pos hE] at hd8
    have hs34 := HB34.out.size
    have hlow2 : ∀ k, w4.heap.size ≤ k ∧ k < w5.heap.size → w4.heap.size ≤ k ∧ k < w5.heap.size := fun k hk => hk
    have hb8 : Below w1.heap.size w1 w8 := HB7.out.trans (hk8.below (n := w1.heap.size) (fun k hk => by have := HB4.out.size; have := hk.1; omega) HB7.out.size)
    have HB8 := Aside0.mk hb8
    have cX8 : w8.cell? ⟨w5.heap.size, 0, none⟩ = some (.pointer (some ⟨D2, 0, none⟩)) := by
      have hz := hk8.same w5.heap.size (World.block_lt_of_cell? _ _ cX7) (fun e => by have := e.2; omega)
      have h7 := cX7
      simp only [World.cell?, hz] at h7 ⊢
      exact h7
    have HB38 := Aside0.mk (HM7.out.trans (hk8.below (n := w3.heap.size) (fun k hk => by have := hk.1; omega) HM7.out.size))
    have HDM8 := Aside0.mk ((HDM.out.below HB7.out).kept hk8 (fun k h1 h2 => by have h3 := (HDM.out.low k h1).2; have h4 := h2.1; have h5 := HB4.out.size; omega))
    obtain ⟨⟨mo8, hdk8⟩, _, _⟩ := hd8
    have hct := containsAll hdk8 w5.heap.size cX8 (some ad) cM _ (Kd.C_below (Kd.R_reads' HM3.out).2.2 HB38.out) (by rw [HLM.out]; exact hcM) (by rw [HLM.out]; exact Nat.le_trans hp64 (by decide)) (fun x hx => by rw [imgs_len hx]; exact Nat.le_trans hbm (by decide)) HIN.out
    rw [HLM.out] at hct
    have HCT := Aside0.mk hct
    clear hct hdk8 hs8 hk8 hb8 hlow2 hs34 cX8 cX7 cX6 cX5 hE hxlt hof hcr
    gi_wp2_with (first
      | (refine ⟨trivial, ?_⟩; gi_at_call 14; refine (callsIn_wide.2 (HCT.out)).mono ?_; rintro e w9 ⟨rfl, hb⟩; have HB9 := Aside0.mk (below_step HB8.out hb); have HB39 := Aside0.mk (below_step HB38.out hb); have HDM9 := Aside0.mk (HDM8.out.below hb); clear hb HCT)
      | (refine ⟨trivial, ?_⟩; gi_at_call 12; refine (callsIn_wide.2 (dm_copy HDM9.out (by decide))).mono ?_; rintro e w10 ⟨D3, m3, rfl, hc, hb⟩; have HC10 := Aside0.mk hc; have HB10 := Aside0.mk (below_step HB9.out hb); have HB310 := Aside0.mk (below_step HB39.out hb); have HDM10 := Aside0.mk (HDM9.out.below hb); have HL10 := Aside0.mk hb.size; have HDK10 := Aside0.mk (Classical.choose_spec HDM10.out.dk); clear hc hb)
      | (refine ⟨trivial, ?_⟩; gi_at_call 7; refine (callsIn_wide.2 (queue_ok HDK10.out)).mono ?_; rintro e w11 ⟨v11, rfl, hs, hb⟩; obtain ⟨AQ, cQ, rfl⟩ := Kd.R_slice (Kd.S_R hs); have HQC := Aside0.mk (Kd.S_R hs); have HB11 := Aside0.mk (below_step HB10.out hb); have HB311 := Aside0.mk (below_step HB310.out hb); have HC11 := Aside0.mk (HC10.out.below hb); have HL11 := Aside0.mk hb.size; clear hs hb))
    obtain ⟨⟨mo3, hdk3⟩, _, _⟩ := HC11.out
    have HC11b := Aside0.mk hdk3
    have hq64 := hdk3.fits.queue
    have HLO3 := Aside0.mk (HC10.out.low)
    clear hdk3
    gi_loopw [69] (fun v69 wx => ∃ i : Nat, v69 = .int .i64 (i : Int) ∧ i ≤ q.length ∧ Aside0 (IsDk wx w9.heap.size D3 m3 (fun k => w9.heap.size ≤ k ∧ k < w10.heap.size) ((q.take i).foldl (fun (b : List (List Int)) (s : S49) => b.set s.f1.toNat s.f2) xs) (q.drop i) mo3 last) ∧ Aside0 (Kept (fun k => w9.heap.size ≤ k ∧ k < w10.heap.size) w11 wx)) (fun v69 _ => q.length - (intOf v69).toNat)
    case atStart => exact ⟨0, rfl, Nat.zero_le _, HC11b, ⟨Kept.refl _ _⟩⟩
    case round =>
      rename World => wz
      obtain ⟨i, rfl, hi, HJ, HK⟩ := hrel
      by_cases hlt : i < q.length
      · have t4 : decide ((i : Int) < (q.length : Int)) = true := decide_eq_true (by omega)
        have HQr := Aside0.mk (Kept.R (Kd.R_bound HQC.out) HK.out (fun k h1 h2 => by have := h1.2.1; have := h2.2; omega))
        obtain ⟨ad4, A2, c2, hA, k0, k1, k2, _, _⟩ := at_T49 (Kd.R_reads' HQr.out).2.2 (i : Int) (by omega) (by omega)
        subst hA
        rw [rd32_get q i hlt] at k0 k1 k2
        simp only [Int.toNat_natCast] at k0 k1 k2
        obtain ⟨s, hsk⟩ : ∃ s, q[i] = s := ⟨_, rfl⟩
        rw [hsk] at k0 k1 k2
        have hqd : q.drop i = s :: q.drop (i + 1) := by rw [← hsk]; exact List.drop_eq_getElem_cons hlt
        have htk : q.take (i + 1) = q.take i ++ [s] := by rw [List.take_add_one, List.getElem?_eq_getElem hlt, hsk]; rfl
        have hk0 : 0 < (q.drop i).length := by rw [hqd]; simp
        have h00 : (q.drop i)[0]'hk0 = s := by simp only [hqd, List.getElem_cons_zero]
        have he0 : (q.drop i).eraseIdx 0 = q.drop (i + 1) := by rw [hqd]; rfl
        have hix : ixL (fun x : S49 => x.f0 == s.f0) (q.drop i) 0 = ((0 : Nat) : Int) := by rw [hqd]; show (if (s.f0 == s.f0) = true then (0 : Int) else _) = _; rw [if_pos (beq_self_eq_true _)]; rfl
        have b0 : (wz.alloc (.cells #[.int .i64 s.f0, .int .i64 s.f1, .slice A2 s.f2.length c2] 49)).cell? ⟨wz.heap.size, 0, none⟩ = some (.int .i64 s.f0) := by have h := World.alloc_heap_new wz (.cells #[.int .i64 s.f0, .int .i64 s.f1, .slice A2 s.f2.length c2] 49); simp only [World.cell?, h]; rfl
        have hco := complete_some (HJ.out.below (below_alloc (Below.refl _ _) (.cells #[.int .i64 s.f0, .int .i64 s.f1, .slice A2 s.f2.length c2] 49))) s.f0 true 0 hk0 hix
        simp only [h00, he0, if_true] at hco
        have HTK := Aside0.mk htk
        have HCO := Aside0.mk hco
        clear hqd htk hk0 h00 he0 hix hsk hco
        gi_wp2_with (first
          | (refine ⟨trivial, ?_⟩; gi_at_call 17; refine (callsIn_wide.2 (HCO.out)).mono ?_; rintro e w13 ⟨rfl, hi7, hk7⟩; have HI7 := Aside0.mk hi7; have HK7 := Aside0.mk hk7; clear hi7 hk7))
        exact ⟨⟨i + 1, by simp, hlt, ⟨by rw [HTK.out, List.foldl_append]; exact HI7.out⟩, ⟨(HK.out.trans (Kept.of_below (below_alloc (Below.refl _ _) (.cells #[.int .i64 s.f0, .int .i64 s.f1, .slice A2 s.f2.length c2] 49))) (fun j hj => .inl hj)).trans HK7.out (fun j hj => .inl hj)⟩⟩, by simp [intOf]; omega⟩
      · obtain rfl : i = q.length := by omega
        have t4 : decide ((q.length : Int) < (q.length : Int)) = false := decide_eq_false (by omega)
        have hj := HJ.out
        rw [List.take_length] at hj
        have HJ2 := Aside0.mk hj
        have hfm := hj.fits.most
        have h3z := HB311.out.trans (HK.out.below (n := w3.heap.size) (fun k hk => by have h1 := HB39.out.size; have h2 := hk.1; omega) HB311.out.size)
        have HBz := Aside0.mk (below_step HB1.out (HB11.out.trans (HK.out.below (n := w1.heap.size) (fun k hk => by have h1 := HB9.out.size; have h2 := hk.1; omega) HB11.out.size)))
        skip
        gi_wp2
        refine wpIn_wide.2 ?_
        have hbd := below_drew (Below.refl wz.heap.size wz)
        have hBd := below_step HBz.out hbd
        have HBd := Aside0.mk hBd
        have kl : wz.drew.cell? (ad.add (P - 1)) = some (.slice Al (q.foldl (fun (b : List (List Int)) (s : S49) => b.set s.f1.toNat s.f2) xs).length cl) := ((below_step h3z hbd).cell (World.block_lt_of_cell? w3 _ KL3.out)).trans KL3.out
        have HGL := Aside0.mk (Kd.C_below GL3.out (below_step h3z hbd))
        have ep : wrap64 ((P : Int) - 1) = ((P - 1 : Nat) : Int) := (IntWalk.wrap64_in _ (by omega)).trans (by omega)
        have hpp : P - 1 < P := by omega
        have him := image_ok (HJ2.out.below hbd)
        clear hj h3z hbd hBd
        refine start_ (n := 10) (S := fun w' => w'.cell? (ad.add (P - 1)) = some (.slice Al (q.foldl (fun (b : List (List Int)) (s : S49) => b.set s.f1.toNat s.f2) xs).length cl)) (ds := [8]) #[false, false, false, false, false, false, false, false, false, false] (by kernel_rfl) rfl rfl (kl) (fun hHeld => ?_)
        refine pure_ (i := 0) (N := some 78) (v := ?_) (a' := ?_) #[true, false, false, false, false, false, false, false, false, false] rfl rfl (by kernel_rfl) (fun _ _ _ h => h) (Or.inl ⟨by rfl, ?_⟩) ?_ ?_
        rotate_left
        · intro w'
          go_simp
          with_reducible rfl
        rotate_left
        · simp only [Act.put, List.setIfInBounds_toArray, List.set_cons_zero, List.set_cons_succ, i64_w, i32_w]
          rfl
        refine pure_ (i := 1) (N := some 79) (v := ?_) (a' := ?_) #[true, true, false, false, false, false, false, false, false, false] rfl rfl (by kernel_rfl) (fun _ _ _ h => h) (Or.inl ⟨by rfl, ?_⟩) ?_ ?_
        rotate_left
        · intro w'
          go_simp
          with_reducible rfl
        rotate_left
        · simp only [Act.put, List.setIfInBounds_toArray, List.set_cons_zero, List.set_cons_succ, i64_w, i32_w]
          rfl
        refine pure_ (i := 2) (N := some 80) (v := ?_) (a' := ?_) #[true, true, true, false, false, false, false, false, false, false] rfl rfl (by kernel_rfl) (fun _ _ _ h => h) (Or.inl ⟨by rfl, ?_⟩) ?_ ?_
        rotate_left
        · intro w'
          go_simp
          with_reducible rfl
        rotate_left
        · simp only [Act.put, List.setIfInBounds_toArray, List.set_cons_zero, List.set_cons_succ, i64_w, i32_w]
          rfl
        refine pure_ (i := 3) (N := some 81) (v := ?_) (a' := ?_) #[true, true, true, true, false, false, false, false, false, false] rfl rfl (by kernel_rfl) (fun _ _ _ h => h) (Or.inl ⟨by rfl, ?_⟩) ?_ ?_
        rotate_left
        · intro w'
          go_simp
          with_reducible rfl
        rotate_left
        · simp only [Act.put, List.setIfInBounds_toArray, List.set_cons_zero, List.set_cons_succ, i64_w, i32_w]
          rfl
        refine pure_ (i := 4) (N := some 82) (v := ?_) (a' := ?_) #[true, true, true, true, true, false, false, false, false, false] rfl rfl (by kernel_rfl) (fun _ _ _ h => h) (Or.inl ⟨by rfl, ?_⟩) ?_ ?_
        rotate_left
        · intro w'
          go_simp
          with_reducible rfl
        rotate_left
        · simp only [Act.put, List.setIfInBounds_toArray, List.set_cons_zero, List.set_cons_succ, i64_w, i32_w]
          rfl
        refine pure_ (i := 6) (N := some 84) (v := ?_) (a' := ?_) #[true, true, true, true, true, false, true, false, false, false] rfl rfl (by kernel_rfl) (fun _ _ _ h => h) (Or.inl ⟨by rfl, ?_⟩) ?_ ?_
        rotate_left
        · intro w'
          go_simp
          with_reducible rfl
        rotate_left
        · simp only [Act.put, List.setIfInBounds_toArray, List.set_cons_zero, List.set_cons_succ, i64_w, i32_w]
          rfl
        refine take_ (i := 5) (N := some 83) (v := ?_) (a' := ?_) #[true, true, true, true, true, true, true, false, false, false] rfl rfl (by kernel_rfl) (fun _ _ _ h => h) (Or.inl ⟨by rfl, ?_⟩) hHeld ?_ ?_
        rotate_left
        · intro w' s0
          go_simp
          with_reducible rfl
        rotate_left
        · simp only [Act.put, List.setIfInBounds_toArray, List.set_cons_zero, List.set_cons_succ, i64_w, i32_w]
          rfl
        refine one_ (i := 7) (N := some 85) #[true, true, true, true, true, true, true, true, false, false] rfl rfl (by kernel_rfl) (by decide) (fun K hK => ?_)
        refine goes_ Try.func16 (by kernel_rfl) rfl #[.pointer (some ⟨D3, 0, none⟩)] (by rfl) rfl rfl (by simp only [List.map_toArray, List.map_cons, List.map_nil]; rfl) ?_
        with_reducible refine (him).mono ?_
        rintro e w14 ⟨v14, rfl, hs, hb⟩
        refine ⟨_, rfl, ?_⟩
        obtain ⟨A14, c14, rfl⟩ := Kd.R_slice (Kd.S_R hs)
        have HB14 := Aside0.mk (below_step HBd.out hb)
        have kl14 := (hb.cell (World.block_lt_of_cell? _ _ kl)).trans kl
        have hsj := (same_any w14 Al A14 cl c14 _ _ (Kd.C_below HGL.out hb) (Kd.R_reads' (Kd.S_R hs)).2.2 ll (Kd.R_reads' (Kd.S_R hs)).2.1 (Nat.lt_of_le_of_lt hfm (by decide)) (Nat.lt_of_le_of_lt hfm (by decide))).mono (fun e w' h => (by obtain ⟨b, he, ht, hb⟩ := h; rw [ht rfl] at he; exact ⟨he, hb⟩ : e = .returned (.bool true) ∧ Below w14.heap.size w14 w'))
        clear hs hb
        refine hK.out _ _ (kl14) (fun hHeld => ?_)
        clear hK K
        refine norm_ (a' := ?_) ?_ ?_
        rotate_left
        · show Act.put _ (some 85) _ = _
          simp only [Act.put, List.setIfInBounds_toArray, List.set_cons_zero, List.set_cons_succ, i64_w, i32_w]
          rfl
        refine last_ (i := 8) (N := some 86) #[true, true, true, true, true, true, true, true, true, false] rfl rfl (by kernel_rfl) (by decide) (fun K hK => ?_)
        refine goes_ Try.func11 (by kernel_rfl) rfl #[.slice Al (q.foldl (fun (b : List (List Int)) (s : S49) => b.set s.f1.toNat s.f2) xs).length cl, .slice A14 (q.foldl (fun (b : List (List Int)) (s : S49) => b.set s.f1.toNat s.f2) xs).length c14] (by rfl) rfl rfl (by simp only [List.map_toArray, List.map_cons, List.map_nil]; rfl) ?_
        with_reducible refine (hsj).mono ?_
        rintro e w15 ⟨rfl, hb⟩
        refine ⟨_, rfl, ?_⟩
        have HB15 := Aside0.mk (below_step HB14.out hb)
        clear hb
        refine hK.out _ _ ?_
        clear hK K
        refine norm_ (a' := ?_) ?_ ?_
        rotate_left
        · show Act.put _ (some 86) _ = _
          simp only [Act.put, List.setIfInBounds_toArray, List.set_cons_zero, List.set_cons_succ, i64_w, i32_w]
          rfl
        refine pure_ (i := 9) (N := some 6) (v := ?_) (a' := ?_) #[true, true, true, true, true, true, true, true, true, true] rfl rfl (by kernel_rfl) (fun _ _ _ h => h) (Or.inl ⟨by rfl, ?_⟩) ?_ ?_
        rotate_left
        · intro w'
          go_simp
          with_reducible rfl
        rotate_left
        · simp only [Act.put, List.setIfInBounds_toArray, List.set_cons_zero, List.set_cons_succ, i64_w, i32_w]
          rfl
        refine done_ (by kernel_rfl) ?_
        gi_wp2
        go_ret
        exact ⟨rfl, HB15.out⟩
theorem CrashAll_row (A0 : Option Addr) (c0 : Nat) (xs : List (List Int)) (A : Option Addr) (c : Nat) (l : List DoC) (mask : Int) (w : World) (hC0 : Kd.C (Kd.slice 5 (Kd.int .u8)) w A0 xs.length xs) (hc0 : xs.length ≤ c0) (hF0 : ∀ x ∈ xs, (fun x : List Int => (∀ y ∈ x, (Lit.int .u8 y).wf = true) ∧ x.length * 1 ≤ 140737488351232) x) (hY0 : xs.length * 24 ≤ 140737488351232)
    (hC : Kd.C kDoC w A l.length l) (hc : l.length ≤ c) (_ : ∀ x ∈ l, (fun x : DoC => (Lit.int .i64 x.1).wf = true ∧ (∀ y ∈ x.2, (Lit.int .u8 y).wf = true) ∧ x.2.length * 1 ≤ 140737488351232) x) (hl : l.length * 32 ≤ 140737488351232) (hm : (Lit.int .u64 mask).wf = true) :
    Calls Try.prog 4 #[.slice A0 xs.length c0, .slice A l.length c, .int .u64 mask] w fun e w' => e = .returned (.bool true) ∧ Below w.heap.size w w' := CrashAll_walk A0 c0 xs A c l mask w hC0 hc0 (fun x hx => by have := (hF0 x hx).2; omega) (by omega) hC hc (by omega) (by simp [Lit.wf, IntKind.min, IntKind.max, IntKind.bits, IntKind.signed] at hm; omega)
end Go.Proofs.Ytlkijnnoalfblaa.Dk
