/- Written by a program of this session. bollardlaw07.made: a set of some patches. -/
import Derived.BigQuiet
import Derived.Deep.QuietTactic
import Derived.Test.YtijgfcpffjjlfaaQg
namespace Go.Proofs.Ytijgfcpffjjlfaa.Pq
open Go Go.RowKit Go.Shelf Go.Proofs Go.Maps Go.Sort Go.Proofs.Ytijgfcpffjjlfaa.XFb Go.Proofs.YtijgfcpffjjlfaaW.PrintWords Go.Proofs.YtijgfcpffjjlfaaW.PrintLast Go.Proofs.YtijgfcpffjjlfaaW.PrintMore
set_option linter.unusedVariables false
set_option linter.unusedSimpArgs false
abbrev DoT := Int × Int × Int × List Int × List Int
def kDo : Kd DoT := Kd.pair (Kd.int .i64) (Kd.pair (Kd.int .i64) (Kd.pair (Kd.int .i64) (Kd.pair (Kd.slice 5 (Kd.int .u8)) (Kd.slice 3 (Kd.int .i64)))))
def zDo : DoT := (0, 0, 0, [], [])
theorem at_Do {w : World} {A : Option Addr} {n : Nat} {xs : List DoT} (h : Kd.C kDo w A n xs) (i : Nat) (h1 : i < n) : ∃ ad A3 c3 A4 c4, A = some ad ∧ w.cell? (ad.add (i * 5)) = some (.int .i64 (xs.getD i zDo).1) ∧ w.cell? ⟨(ad.add (i * 5)).block, (ad.add (i * 5)).off + 1, none⟩ = some (.int .i64 (xs.getD i zDo).2.1) ∧
    w.cell? ⟨(ad.add (i * 5)).block, (ad.add (i * 5)).off + 2, none⟩ = some (.int .i64 (xs.getD i zDo).2.2.1) ∧ w.cell? ⟨(ad.add (i * 5)).block, (ad.add (i * 5)).off + 3, none⟩ = some (.slice A3 (xs.getD i zDo).2.2.2.1.length c3) ∧ w.cell? ⟨(ad.add (i * 5)).block, (ad.add (i * 5)).off + 4, none⟩ = some (.slice A4 (xs.getD i zDo).2.2.2.2.length c4) ∧
    (xs.getD i zDo).2.2.2.1.length ≤ c3 ∧ (Kd.int .u8).C w A3 (xs.getD i zDo).2.2.2.1.length (xs.getD i zDo).2.2.2.1 ∧ (xs.getD i zDo).2.2.2.2.length ≤ c4 ∧ (Kd.int .i64).C w A4 (xs.getD i zDo).2.2.2.2.length (xs.getD i zDo).2.2.2.2 := by
  obtain ⟨ad, c, e, _, hK, hc0⟩ := Kd.C_get h zDo (i : Int) (by omega) (by omega)
  rw [Int.toNat_natCast] at hK hc0
  have hc : ∀ j u, c[j]? = some u → w.cell? (ad.add (i * 5 + j)) = some u := hc0
  obtain ⟨_, _, rfl, rfl, ⟨_, _, rfl, rfl, ⟨_, _, rfl, rfl, ⟨_, _, rfl, ⟨A3, c3, rfl, l3, g3⟩, ⟨A4, c4, rfl, l4, g4⟩⟩⟩⟩⟩ := hK
  exact ⟨ad, A3, c3, A4, c4, e, hc 0 _ rfl, by rw [← add_field _ _ 1 (by omega)]; exact hc 1 _ rfl, by rw [← add_field _ _ 2 (by omega)]; exact hc 2 _ rfl, by rw [← add_field _ _ 3 (by omega)]; exact hc 3 _ rfl, by rw [← add_field _ _ 4 (by omega)]; exact hc 4 _ rfl, l3, g3, l4, g4⟩
theorem C_pre {α : Type} {d : Kd α} {W : World} {A : Option Addr} {n : Nat} {xs : List α} (h : Kd.C d W A n xs) (k : Nat) (hk : k ≤ xs.length) : Kd.C d W A k (xs.take k) :=
  ⟨by rw [List.length_take]; omega, by have h1 := h.1; have h2 := h.2.1; omega, fun h0 => by
    obtain ⟨ad, e, hc⟩ := h.2.2 (by have h1 := h.1; omega)
    refine ⟨ad, e, fun j p hj => hc j p ?_⟩
    rw [List.getElem?_take] at hj
    split at hj
    · exact hj
    · cases hj⟩
theorem u64_w (n : Int) : IntKind.u64.wrap n = n % 18446744073709551616 := by
  first | rfl | simp [IntKind.wrap]
/-- A number out of those there are. -/
def nm (last n : Int) : Int := 1 + (n % 18446744073709551616) % last
def ndOf (last : Int) (is : List Int) : List Int := if 0 < last then is.map (nm last) else []
def byOf (bs : List Int) : List Int := if (bs.take 128).length = 0 then [1] else bs.take 128
def bkOf (b : Int) : Int := (b % 18446744073709551616) % 5
def ofOf (o : Int) (k : Int) : Int := (o % 18446744073709551616) % (129 - k)
def stepL (s : List Pt × Int) (x : DoT) : List Pt × Int :=
  (addL s.1 s.2 (bkOf x.2.1) (ofOf x.2.2.1 (byOf x.2.2.2.1).length) (byOf x.2.2.2.1) (ndOf s.2 x.2.2.2.2), addN s.2 (bkOf x.2.1) (ofOf x.2.2.1 (byOf x.2.2.2.1).length) (byOf x.2.2.2.1) (ndOf s.2 x.2.2.2.2))
def madeS (xs : List DoT) : List Pt × Int := (xs.take 41).foldl stepL ([], 0)
theorem nm_in {last : Int} (h : 0 < last) (n : Int) : 1 ≤ nm last n ∧ nm last n ≤ last := by
  have h1 := Int.emod_nonneg (n % 18446744073709551616) (by omega : last ≠ 0)
  have h2 := Int.emod_lt_of_pos (n % 18446744073709551616) h
  unfold nm
  omega
theorem byOf_len (bs : List Int) : 1 ≤ (byOf bs).length ∧ (byOf bs).length ≤ 128 := by
  unfold byOf
  split
  · simp
  · rw [List.length_take] at *
    omega
theorem step_ok (last : Int) (h0 : 0 ≤ last) (x : DoT) : addE last (bkOf x.2.1) (ofOf x.2.2.1 (byOf x.2.2.2.1).length) (byOf x.2.2.2.1) (ndOf last x.2.2.2.2) = 0 := by
  have h1 := byOf_len x.2.2.2.1
  have h2 : 0 ≤ bkOf x.2.1 := by unfold bkOf; omega
  have h3 : 0 ≤ ofOf x.2.2.1 (byOf x.2.2.2.1).length ∧ ofOf x.2.2.1 (byOf x.2.2.2.1).length < 129 - (byOf x.2.2.2.1).length := by
    unfold ofOf
    exact ⟨Int.emod_nonneg _ (by omega), Int.emod_lt_of_pos _ (by omega)⟩
  unfold addE
  rw [if_neg (fun hh => hh ⟨h2, h3.1, by omega, by omega, by omega⟩), if_neg]
  rw [Bool.not_eq_true, List.any_eq_false]
  intro i hi
  unfold ndOf at hi
  split at hi
  · rename_i hp
    obtain ⟨n, _, rfl⟩ := List.mem_map.1 hi
    have := nm_in hp n
    unfold known
    simp
    omega
  · cases hi
theorem made_last (xs : List DoT) : ∀ (s : List Pt × Int), 0 ≤ s.2 → (xs.foldl stepL s).2 = s.2 + xs.length := by
  induction xs with
  | nil => intro s _; simp
  | cons x r ih =>
    intro s h
    have h1 : (stepL s x).2 = s.2 + 1 := by
      unfold stepL addN
      rw [if_pos (step_ok s.2 h x)]
    rw [List.foldl_cons, ih (stepL s x) (by omega), h1]
    simp only [List.length_cons]
    omega
theorem nm_w (last n : Int) (h : 0 < last) (hm : last ≤ 1000000) : wrap64 (1 + wrap64 ((IntKind.u64.wrap n).tmod last)) = nm last n := by
  have h1 := nm_in h n
  rw [u64_w, Int.tmod_eq_emod_of_nonneg (by omega)]
  unfold nm at *
  generalize n % 18446744073709551616 % last = z at *
  unfold wrap64
  omega
theorem bk_w (b : Int) : wrap64 ((IntKind.u64.wrap b).tmod 5) = bkOf b := by
  rw [u64_w, Int.tmod_eq_emod_of_nonneg (by omega)]
  unfold bkOf wrap64
  omega
theorem of_w (o : Int) (k : Nat) (h1 : 1 ≤ k) (h2 : k ≤ 128) : wrap64 ((IntKind.u64.wrap o).tmod (IntKind.u64.wrap (wrap64 (129 - (k : Int))))) = ofOf o k := by
  have e1 : IntKind.u64.wrap (wrap64 (129 - (k : Int))) = 129 - k := by rw [u64_w]; unfold wrap64; omega
  have h3 := Int.emod_nonneg (o % 18446744073709551616) (by omega : (129 - (k : Int)) ≠ 0)
  have h4 := Int.emod_lt_of_pos (o % 18446744073709551616) (by omega : 0 < 129 - (k : Int))
  rw [e1, u64_w, Int.tmod_eq_emod_of_nonneg (by omega)]
  unfold ofOf
  generalize o % 18446744073709551616 % (129 - (k : Int)) = z at *
  unfold wrap64
  omega
/-- A set that was made. -/
def MadeIs (W : World) (e : Ending) (W' : World) (l : List DoT) : Prop := ∃ g m d S, e = .returned (.pointer (some ⟨g, 0, none⟩)) ∧ IsSet W' W.heap.size g m d S (madeS l).1 (madeS l).2 41 ∧ Below W.heap.size W W'
set_option maxRecDepth 100000 in
set_option maxHeartbeats 8000000 in
theorem made_ok (A : Option Addr) (c : Nat) (l : List DoT) (W : World) (hC : Kd.C kDo W A l.length l) (hl : l.length ≤ 1000000000000000) (hx : ∀ x ∈ l, x.2.2.2.1.length < 140737488355328 ∧ x.2.2.2.2.length ≤ 17592186043904) :
    Calls Try.prog 10 #[.slice A l.length c] W fun e W' => MadeIs W e W' l := by
  have HC := Aside0.mk hC
  have HX := Aside0.mk hx
  clear hC hx
  refine (callsIn_wide (n := 1)).1 ?_
  refine callsIn_of_wp Try.func10 rfl trivial ?_ rfl
  simp only [Try.ntmps10, List.size_toArray, List.length_cons, List.length_nil, Nat.reduceAdd, Nat.reduceSub, Array.replicate_succ, Array.replicate_zero, List.push_toArray, List.append_toArray, List.nil_append, List.cons_append]
  gi_wp2_with (first
    | (refine ⟨trivial, ?_⟩; gi_at_call 27; refine (callsIn_wide.2 (New_ok W)).mono ?_; rintro e W1 ⟨rfl, hs, hb⟩; have HS1 := Aside0.mk hs; have HB1 := Aside0.mk hb; clear hs hb))
  obtain ⟨g, hg⟩ : ∃ g, W.heap.size + 2 = g := ⟨_, rfl⟩
  obtain ⟨m, hm⟩ : ∃ m, W.heap.size + 1 = m := ⟨_, rfl⟩
  obtain ⟨d, hd⟩ : ∃ d, W.heap.size = d := ⟨_, rfl⟩
  have HS1' : Aside0 (IsSet W1 W.heap.size g m d (fun _ => False) [] 0 0) := ⟨by rw [← hg, ← hm, ← hd]; exact HS1.out⟩
  rw [hg]
  clear HS1 hg hm hd
  gi_loopw [13] (fun v13 wr => ∃ (i : Nat) (S : Nat → Prop), v13 = .int .i64 (i : Int) ∧ i ≤ l.length ∧ i ≤ 41 ∧ Aside0 (IsSet wr W.heap.size g m d S (madeS (l.take i)).1 (madeS (l.take i)).2 i) ∧ Aside0 (Below W.heap.size W wr)) (fun v13 _ => l.length - (intOf v13).toNat)
  case atStart => exact ⟨0, _, rfl, Nat.zero_le _, Nat.zero_le _, HS1', HB1⟩
  case round =>
    obtain ⟨i, S, rfl, hi, hi41, HS, HW⟩ := hrel
    by_cases hlt : i < l.length
    · have t1 : decide ((i : Int) < (l.length : Int)) = true := decide_eq_true (by omega)
      obtain ⟨ad, A3, c3, A4, c4, hA, k0, k1, k2, k3, k4, l3, g3, l4, g4⟩ := at_Do (Kd.C_below HC.out HW.out) i hlt
      subst hA
      have hel : l.getD i zDo = l[i] := by simp [List.getD_eq_getElem?_getD, hlt]
      have hxx := HX.out l[i] (List.getElem_mem hlt)
      rw [hel] at k0 k1 k2 k3 k4 l3 g3 l4 g4
      by_cases h40 : 40 < i
      · have t2 : decide ((40 : Int) < (i : Int)) = true := decide_eq_true (by omega)
        have he : (madeS (l.take i)) = madeS l := by
          unfold madeS
          rw [List.take_take, Nat.min_eq_left (by omega)]
        have HS2 := Aside0.mk (show IsSet wr W.heap.size g m d S (madeS l).1 (madeS l).2 41 by rw [← he]; exact HS.out.monon (by omega))
        generalize l[i] = x at *
        obtain ⟨op, bk, of_, bs, is⟩ := x
        have HB2 := Aside0.mk (below_alloc (Below.refl wr.heap.size wr) (.cells #[.int .i64 op, .int .i64 bk, .int .i64 of_, .slice A3 bs.length c3, .slice A4 is.length c4] 29))
        clear hel he g3 g4
        gi_wp2
        go_ret
        exact ⟨g, m, d, S, rfl, HS2.out.below HB2.out, below_step HW.out HB2.out HW.out.size⟩
      · have t2 : decide ((40 : Int) < (i : Int)) = false := decide_eq_false (by omega)
        have hst : madeS (l.take (i + 1)) = stepL (madeS (l.take i)) l[i] := by
          unfold madeS
          rw [List.take_take, Nat.min_eq_right (by omega), List.take_take, Nat.min_eq_right (by omega), List.take_add_one, List.getElem?_eq_getElem hlt, List.foldl_append]
          rfl
        have hla : (madeS (l.take i)).2 = (i : Int) := by
          unfold madeS
          rw [made_last _ _ (Int.le_refl _), List.take_take, List.length_take]
          simp; omega
        have hBX := World.alloc_heap_new wr (.cells #[.int .i64 l[i].1, .int .i64 l[i].2.1, .int .i64 l[i].2.2.1, .slice A3 l[i].2.2.2.1.length c3, .slice A4 l[i].2.2.2.2.length c4] 29)
        have hbb : Below wr.heap.size wr (wr.alloc (.cells #[.int .i64 l[i].1, .int .i64 l[i].2.1, .int .i64 l[i].2.2.1, .slice A3 l[i].2.2.2.1.length c3, .slice A4 l[i].2.2.2.2.length c4] 29)) := below_alloc (Below.refl wr.heap.size wr) _
        generalize l[i] = x at *
        obtain ⟨op, bk, of_, bs, is⟩ := x
        generalize hsl : madeS (l.take i) = s at *
        obtain ⟨L, last⟩ := s
        dsimp only at hla
        subst hla
        have HSO := Aside0.mk (step_ok (i : Int) (by omega) (op, bk, of_, bs, is))
        dsimp only at *
        have HS0 := Aside0.mk (show IsSet wr W.heap.size g m d S L (i : Int) i from HS.out)
        obtain ⟨W2, hW2⟩ : ∃ W2, wr.alloc (.cells #[.int .i64 op, .int .i64 bk, .int .i64 of_, .slice A3 bs.length c3, .slice A4 is.length c4] 29) = W2 := ⟨_, rfl⟩
        rw [hW2] at hBX hbb
        obtain ⟨kb, hkb⟩ : ∃ kb, wr.heap.size = kb := ⟨_, rfl⟩
        rw [hkb] at hBX
        have HS2 := Aside0.mk (HS0.out.below hbb)
        have HW2 := Aside0.mk (below_step HW.out hbb HW.out.size)
        have HBX2 := Aside0.mk hBX
        have y1 := cell_of (i := 1) hBX rfl
        have y2 := cell_of (i := 2) hBX rfl
        have y3 := cell_of (i := 3) hBX rfl
        have y4 := cell_of (i := 4) hBX rfl
        have hkb2 : kb < W2.heap.size := (Array.getElem?_eq_some_iff.1 hBX).1
        have G3 := Aside0.mk (Kd.C_below g3 hbb)
        have G4 := Aside0.mk (Kd.C_below g4 hbb)
        have HST := Aside0.mk hst
        have hbsl := hxx.1
        have hisl := hxx.2
        clear hBX hbb g3 g4 hst hel hsl HS hxx HS0
        gi_wp2
        gi_loopw [6, 23] (fun v6 v23 wq => ∃ j : Nat, v23 = .int .i64 (j : Int) ∧ j ≤ is.length ∧ Aside0 (RI wq W2.heap.size (fun _ => True) v6 (ndOf (i : Int) (is.take j))) ∧ Aside0 (Below W2.heap.size W2 wq)) (fun _ v23 _ => is.length - (intOf v23).toNat)
        case atStart => exact ⟨0, rfl, Nat.zero_le _, ⟨by unfold ndOf; rw [List.take_zero]; split <;> exact Kd.R_nil _ _ _ _ _⟩, ⟨Below.refl _ _⟩⟩
        case round =>
          obtain ⟨j, rfl, hj, HR, HQ⟩ := hrel
          rename World => wq
          have HSQ := Aside0.mk (HS2.out.below HQ.out)
          by_cases hlj : j < is.length
          · have t3 : decide ((j : Int) < (is.length : Int)) = true := decide_eq_true (by omega)
            obtain ⟨ad4, hA4, x0⟩ := at_n (Kd.C_below G4.out HQ.out) j hlj
            subst hA4
            have hg4 : is.getD j 0 = is[j] := by simp [List.getD_eq_getElem?_getD, hlj]
            rw [hg4] at x0
            have htk : is.take (j + 1) = is.take j ++ [is[j]] := by rw [List.take_add_one, List.getElem?_eq_getElem hlj]; rfl
            have HTK := Aside0.mk htk
            generalize is[j] = z at *
            have hndl : (ndOf (i : Int) (is.take j)).length ≤ j := by
              unfold ndOf
              split
              · rw [List.length_map, List.length_take]; omega
              · simp
            by_cases hl0 : 0 < (i : Int)
            · have t4 : decide ((0 : Int) < (i : Int)) = true := decide_eq_true hl0
              have hnm := nm_w (i : Int) z hl0 (by omega)
              have hnz : (IntKind.u64.wrap (i : Int) == 0) = false := by rw [u64_w, beq_eq_false_iff_ne]; omega
              have HND : Aside0 (ndOf (i : Int) (is.take (j + 1)) = ndOf (i : Int) (is.take j) ++ [nm (i : Int) z]) := ⟨by unfold ndOf; rw [if_pos hl0, if_pos hl0, HTK.out, List.map_append]; rfl⟩
              generalize ndOf (i : Int) (is.take j) = ND at *
              obtain ⟨v6, w6, hrun, hr6, hg6, ho6⟩ := Ap.run_append_one (P := Try.prog) (Kd.int .i64) (W := wq) W2.heap.size 27 27 3 (.int .i64 0) 8 Try.underlying27 cinfo rfl (by decide) (by decide) u6 ND (nm (i : Int) z) [.int .i64 (nm (i : Int) z)] (fun _ => True) (fun _ => False) rfl (fun k hk => hk.elim) (fun _ _ => trivial) HR.out HQ.out.size (by omega)
              have HR6 := Aside0.mk hr6
              have HQ6 := Aside0.mk (Below.grown HQ.out hg6 HQ.out.size (fun k hk => Kd.R_base HR.out k hk))
              clear hr6 hg6 ho6 htk hg4 hndl
              gi_wp2_with (first
                | (refine ⟨trivial, ?_⟩; gi_at_call 11; refine (callsIn_wide.2 (last_ok HSQ.out)).mono ?_; rintro e w1 ⟨rfl, hw⟩; rw [hw]; clear hw)
                | (gi_at_builtin; refine Ap.wpListIn_append_run _ rfl _ _ _ rfl _ _ rfl rfl _ _ hrun ?_))
              exact ⟨⟨j + 1, by simp, hlj, ⟨by rw [HND.out]; exact HR6.out⟩, HQ6⟩, by simp [intOf]; omega⟩
            · have t4 : decide ((0 : Int) < (i : Int)) = false := decide_eq_false hl0
              have HND : Aside0 (ndOf (i : Int) (is.take (j + 1)) = ndOf (i : Int) (is.take j)) := ⟨by unfold ndOf; rw [if_neg hl0, if_neg hl0]⟩
              clear htk hg4 hndl
              gi_wp2_with (first
                | (refine ⟨trivial, ?_⟩; gi_at_call 11; refine (callsIn_wide.2 (last_ok HSQ.out)).mono ?_; rintro e w1 ⟨rfl, hw⟩; rw [hw]; clear hw))
              exact ⟨⟨j + 1, by simp, hlj, ⟨by rw [HND.out]; exact HR.out⟩, HQ⟩, by simp [intOf]; omega⟩
          · obtain rfl : j = is.length := by omega
            have t3 : decide ((is.length : Int) < (is.length : Int)) = false := decide_eq_false (by omega)
            have hr := HR.out
            rw [List.take_length] at hr
            have hndl : (ndOf (i : Int) is).length ≤ is.length := by
              unfold ndOf
              split
              · rw [List.length_map]; omega
              · simp
            have hndw : ∀ y ∈ ndOf (i : Int) is, (Lit.int .i64 y).wf = true := fun y hy => by
              unfold ndOf at hy
              split at hy
              · rename_i hp
                obtain ⟨z, _, rfl⟩ := List.mem_map.1 hy
                have := nm_in hp z
                exact WalkArith.wf_i64 (by omega)
              · cases hy
            have HNW := Aside0.mk hndw
            obtain ⟨AN, cN, hv⟩ := Kd.R_slice hr
            subst hv
            have HN := Aside0.mk hr
            have hkw := HQ.out.size
            have HBQ := Aside0.mk ((HQ.out.block kb hkb2).trans HBX2.out)
            have z1 := cell_of (i := 1) HBQ.out rfl
            have z2 := cell_of (i := 2) HBQ.out rfl
            have z3 := cell_of (i := 3) HBQ.out rfl
            obtain ⟨k, hk⟩ : ∃ k : Nat, min bs.length 128 = k := ⟨_, rfl⟩
            have hmin : min (bs.length : Int) 128 = (k : Int) := by omega
            clear hr hndw y1 y2 y3 y4 HR
            by_cases hz : k = 0
            · have t5 : ((k : Int) == 0) = true := by rw [hz]; rfl
              have hby : byOf bs = [1] := by unfold byOf; rw [if_pos (by rw [List.length_take]; omega)]
              have HBY := Aside0.mk hby
              clear hby
              have hbq : Below wq.heap.size wq (wq.alloc (.cells #[.int .u8 1] 5)).drew := (below_alloc (Below.refl _ _) (.cells #[.int .u8 1] 5)).trans ⟨rfl, rfl, rfl, Nat.le_refl _, fun _ _ => rfl⟩
              have hlr : Kd.C (Kd.int .u8) (wq.alloc (.cells #[.int .u8 1] 5)).drew (some ⟨wq.heap.size, 0, none⟩) 1 [1] := Kd.C_below (lit_row wq .u8 5 1) ⟨rfl, rfl, rfl, Nat.le_refl _, fun _ _ => rfl⟩
              have HSZ := Aside0.mk (HSQ.out.below hbq)
              obtain ⟨P, hadd, hPP⟩ : ∃ P : World → Prop, Calls Try.prog 12 #[.pointer (some ⟨g, 0, none⟩), .int .i64 (bkOf bk), .int .i64 (ofOf of_ 1), .slice (some ⟨wq.heap.size, 0, none⟩) 1 1, .slice AN (ndOf (i : Int) is).length cN] (wq.alloc (.cells #[.int .u8 1] 5)).drew (fun e W' => ∃ r1 r2, e = .returned (.tuple #[.int .i64 r1, .int .i64 r2]) ∧ P W') ∧ ∀ W', P W' → (∃ S', IsSet W' W.heap.size g m d S' (addL L (i : Int) (bkOf bk) (ofOf of_ 1) [1] (ndOf (i : Int) is)) (addN (i : Int) (bkOf bk) (ofOf of_ 1) [1] (ndOf (i : Int) is)) (i + 1) ∧ (∀ k, S' k → S k ∨ (wq.alloc (.cells #[.int .u8 1] 5)).drew.heap.size ≤ k) ∧ Kept (fun k => k = g ∨ k = m) (wq.alloc (.cells #[.int .u8 1] 5)).drew W') :=
                ⟨fun W' => _, (add_ok HSZ.out (by omega) (bkOf bk) (ofOf of_ 1) (WalkArith.wf_i64 (by unfold bkOf; omega)) (some ⟨wq.heap.size, 0, none⟩) 1 [1] hlr (Nat.le_refl 1) (by simp) AN cN (ndOf (i : Int) is) (Kd.R_below HN.out hbq) HNW.out (by omega) (by omega) (by have h1 := HW2.out.size; have h2 := hbq.size; omega)).mono (fun e W' h => ⟨_, _, h.1, h.2⟩), fun W' h => h⟩
              have e2 : wrap64 ((IntKind.u64.wrap of_).tmod (IntKind.u64.wrap (wrap64 (128)))) = ofOf of_ 1 := of_w of_ 1 (by omega) (by omega)
              have hnz : ¬ (IntKind.u64.wrap (wrap64 (128)) = 0) := by rw [u64_w]; unfold wrap64; omega
              rw [← bk_w, ← e2] at hadd
              have HADD := Aside0.mk hadd
              have HPP := Aside0.mk hPP
              have q1 : (wq.alloc (.cells #[.int .u8 1] 5)).drew.cell? ⟨kb, 1, none⟩ = some (.int .i64 bk) := cell_of (i := 1) ((hbq.block kb (by omega)).trans HBQ.out) rfl
              have q2 : (wq.alloc (.cells #[.int .u8 1] 5)).drew.cell? ⟨kb, 2, none⟩ = some (.int .i64 of_) := cell_of (i := 2) ((hbq.block kb (by omega)).trans HBQ.out) rfl
              have HBZ := Aside0.mk hbq
              clear hadd hPP hlr hbq e2
              gi_wp2
              refine wpIn_wide.2 ?_
              refine start_ (n := 18) (S := fun w' => w'.cell? ⟨kb, 1, none⟩ = some (.int .i64 bk) ∧ w'.cell? ⟨kb, 2, none⟩ = some (.int .i64 of_)) (ds := [17]) #[false, false, false, false, false, false, false, false, false, false, false, false, false, false, false, false, false, false] (by kernel_rfl) rfl rfl ⟨q1, q2⟩ (fun hHeld => ?_)
              refine pure_ (i := 0) (N := some 53) (v := ?_) (a' := ?_) #[true, false, false, false, false, false, false, false, false, false, false, false, false, false, false, false, false, false] rfl rfl (by kernel_rfl) (fun _ _ _ h => h) (Or.inl ⟨by rfl, ?_⟩) ?_ ?_
              rotate_left
              · intro w'
                go_simp
                with_reducible rfl
              rotate_left
              · simp only [Act.put, List.setIfInBounds_toArray, List.set_cons_zero, List.set_cons_succ, i64_w, i32_w]
                rfl
              refine pure_ (i := 1) (N := some 54) (v := ?_) (a' := ?_) #[true, true, false, false, false, false, false, false, false, false, false, false, false, false, false, false, false, false] rfl rfl (by kernel_rfl) (fun _ _ _ h => h) (Or.inl ⟨by rfl, ?_⟩) ?_ ?_
              rotate_left
              · intro w'
                go_simp
                with_reducible rfl
              rotate_left
              · simp only [Act.put, List.setIfInBounds_toArray, List.set_cons_zero, List.set_cons_succ, i64_w, i32_w]
                rfl
              refine pure_ (i := 6) (N := some 59) (v := ?_) (a' := ?_) #[true, true, false, false, false, false, true, false, false, false, false, false, false, false, false, false, false, false] rfl rfl (by kernel_rfl) (fun _ _ _ h => h) (Or.inl ⟨by rfl, ?_⟩) ?_ ?_
              rotate_left
              · intro w'
                go_simp
                with_reducible rfl
              rotate_left
              · simp only [Act.put, List.setIfInBounds_toArray, List.set_cons_zero, List.set_cons_succ, i64_w, i32_w]
                rfl
              refine pure_ (i := 9) (N := some 62) (v := ?_) (a' := ?_) #[true, true, false, false, false, false, true, false, false, true, false, false, false, false, false, false, false, false] rfl rfl (by kernel_rfl) (fun _ _ _ h => h) (Or.inl ⟨by rfl, ?_⟩) ?_ ?_
              rotate_left
              · intro w'
                go_simp
                with_reducible rfl
              rotate_left
              · simp only [Act.put, List.setIfInBounds_toArray, List.set_cons_zero, List.set_cons_succ, i64_w, i32_w]
                rfl
              refine pure_ (i := 10) (N := some 63) (v := ?_) (a' := ?_) #[true, true, false, false, false, false, true, false, false, true, true, false, false, false, false, false, false, false] rfl rfl (by kernel_rfl) (fun _ _ _ h => h) (Or.inl ⟨by rfl, ?_⟩) ?_ ?_
              rotate_left
              · intro w'
                go_simp
                with_reducible rfl
              rotate_left
              · simp only [Act.put, List.setIfInBounds_toArray, List.set_cons_zero, List.set_cons_succ, i64_w, i32_w]
                rfl
              refine pure_ (i := 11) (N := some 64) (v := ?_) (a' := ?_) #[true, true, false, false, false, false, true, false, false, true, true, true, false, false, false, false, false, false] rfl rfl (by kernel_rfl) (fun _ _ _ h => h) (Or.inl ⟨by rfl, ?_⟩) ?_ ?_
              rotate_left
              · intro w'
                go_simp
                with_reducible rfl
              rotate_left
              · simp only [Act.put, List.setIfInBounds_toArray, List.set_cons_zero, List.set_cons_succ, i64_w, i32_w]
                rfl
              refine pure_ (i := 12) (N := some 65) (v := ?_) (a' := ?_) #[true, true, false, false, false, false, true, false, false, true, true, true, true, false, false, false, false, false] rfl rfl (by kernel_rfl) (fun _ _ _ h => h) (Or.inl ⟨by rfl, ?_⟩) ?_ ?_
              rotate_left
              · intro w'
                go_simp
                with_reducible rfl
              rotate_left
              · simp only [Act.put, List.setIfInBounds_toArray, List.set_cons_zero, List.set_cons_succ, i64_w, i32_w]
                rfl
              refine pure_ (i := 15) (N := some 68) (v := ?_) (a' := ?_) #[true, true, false, false, false, false, true, false, false, true, true, true, true, false, false, true, false, false] rfl rfl (by kernel_rfl) (fun _ _ _ h => h) (Or.inl ⟨by rfl, ?_⟩) ?_ ?_
              rotate_left
              · intro w'
                go_simp
                with_reducible rfl
              rotate_left
              · simp only [Act.put, List.setIfInBounds_toArray, List.set_cons_zero, List.set_cons_succ, i64_w, i32_w]
                rfl
              refine pure_ (i := 16) (N := some 69) (v := ?_) (a' := ?_) #[true, true, false, false, false, false, true, false, false, true, true, true, true, false, false, true, true, false] rfl rfl (by kernel_rfl) (fun _ _ _ h => h) (Or.inl ⟨by rfl, ?_⟩) ?_ ?_
              rotate_left
              · intro w'
                go_simp
                with_reducible rfl
              rotate_left
              · simp only [Act.put, List.setIfInBounds_toArray, List.set_cons_zero, List.set_cons_succ, i64_w, i32_w]
                rfl
              refine take_ (i := 2) (N := some 55) (v := ?_) (a' := ?_) #[true, true, true, false, false, false, true, false, false, true, true, true, true, false, false, true, true, false] rfl rfl (by kernel_rfl) (fun _ _ _ h => h) (Or.inl ⟨by rfl, ?_⟩) hHeld ?_ ?_
              rotate_left
              · rintro w' ⟨s0, s1⟩
                go_simp
                with_reducible rfl
              rotate_left
              · simp only [Act.put, List.setIfInBounds_toArray, List.set_cons_zero, List.set_cons_succ, i64_w, i32_w]
                rfl
              refine pure_ (i := 3) (N := some 56) (v := ?_) (a' := ?_) #[true, true, true, true, false, false, true, false, false, true, true, true, true, false, false, true, true, false] rfl rfl (by kernel_rfl) (fun _ _ _ h => h) (Or.inl ⟨by rfl, ?_⟩) ?_ ?_
              rotate_left
              · intro w'
                go_simp
                with_reducible rfl
              rotate_left
              · simp only [Act.put, List.setIfInBounds_toArray, List.set_cons_zero, List.set_cons_succ, i64_w, i32_w]
                rfl
              refine pure_ (i := 4) (N := some 57) (v := ?_) (a' := ?_) #[true, true, true, true, true, false, true, false, false, true, true, true, true, false, false, true, true, false] rfl rfl (by kernel_rfl) (fun _ _ _ h => h) (Or.inl ⟨by rfl, ?_⟩) ?_ ?_
              rotate_left
              · intro w'
                go_simp
                with_reducible rfl
              rotate_left
              · simp only [Act.put, List.setIfInBounds_toArray, List.set_cons_zero, List.set_cons_succ, i64_w, i32_w]
                rfl
              refine pure_ (i := 5) (N := some 58) (v := ?_) (a' := ?_) #[true, true, true, true, true, true, true, false, false, true, true, true, true, false, false, true, true, false] rfl rfl (by kernel_rfl) (fun _ _ _ h => h) (Or.inl ⟨by rfl, ?_⟩) ?_ ?_
              rotate_left
              · intro w'
                go_simp
                with_reducible rfl
              rotate_left
              · simp only [Act.put, List.setIfInBounds_toArray, List.set_cons_zero, List.set_cons_succ, i64_w, i32_w]
                rfl
              refine take_ (i := 7) (N := some 60) (v := ?_) (a' := ?_) #[true, true, true, true, true, true, true, true, false, true, true, true, true, false, false, true, true, false] rfl rfl (by kernel_rfl) (fun _ _ _ h => h) (Or.inl ⟨by rfl, ?_⟩) hHeld ?_ ?_
              rotate_left
              · rintro w' ⟨s0, s1⟩
                go_simp
                with_reducible rfl
              rotate_left
              · simp only [Act.put, List.setIfInBounds_toArray, List.set_cons_zero, List.set_cons_succ, i64_w, i32_w]
                rfl
              refine pure_ (i := 8) (N := some 61) (v := ?_) (a' := ?_) #[true, true, true, true, true, true, true, true, true, true, true, true, true, false, false, true, true, false] rfl rfl (by kernel_rfl) (fun _ _ _ h => h) (Or.inl ⟨by rfl, ?_⟩) ?_ ?_
              rotate_left
              · intro w'
                go_simp
                with_reducible rfl
              rotate_left
              · simp only [Act.put, List.setIfInBounds_toArray, List.set_cons_zero, List.set_cons_succ, i64_w, i32_w]
                rfl
              refine pure_ (i := 13) (N := some 66) (v := ?_) (a' := ?_) #[true, true, true, true, true, true, true, true, true, true, true, true, true, true, false, true, true, false] rfl rfl (by kernel_rfl) (fun _ _ _ h => h) (Or.inl ⟨by rfl, ?_⟩) ?_ ?_
              rotate_left
              · intro w'
                go_simp
                with_reducible rfl
              rotate_left
              · simp only [Act.put, List.setIfInBounds_toArray, List.set_cons_zero, List.set_cons_succ, i64_w, i32_w]
                rfl
              refine pure_ (i := 14) (N := some 67) (v := ?_) (a' := ?_) #[true, true, true, true, true, true, true, true, true, true, true, true, true, true, true, true, true, false] rfl rfl (by kernel_rfl) (fun _ _ _ h => h) (Or.inl ⟨by rfl, ?_⟩) ?_ ?_
              rotate_left
              · intro w'
                go_simp
                with_reducible rfl
              rotate_left
              · simp only [Act.put, List.setIfInBounds_toArray, List.set_cons_zero, List.set_cons_succ, i64_w, i32_w]
                rfl
              refine last_ (i := 17) (N := some 70) #[true, true, true, true, true, true, true, true, true, true, true, true, true, true, true, true, true, true] rfl rfl (by kernel_rfl) (by decide) (fun K hK => ?_)
              refine goes_ Try.func12 (by kernel_rfl) rfl #[.pointer (some ⟨g, 0, none⟩), .int .i64 (wrap64 ((IntKind.u64.wrap bk).tmod 5)), .int .i64 (wrap64 ((IntKind.u64.wrap of_).tmod (IntKind.u64.wrap (wrap64 (128))))), .slice (some ⟨wq.heap.size, 0, none⟩) 1 1, .slice AN (ndOf (i : Int) is).length cN] (by rfl) rfl rfl (by simp only [List.map_toArray, List.map_cons, List.map_nil]; rfl) ?_
              with_reducible refine (HADD.out).mono ?_
              rintro e w5 ⟨r1, r2, rfl, hp5⟩
              refine ⟨_, rfl, ?_⟩
              obtain ⟨S5, hs5, hS5, hk5⟩ := HPP.out _ hp5
              have HS5 := Aside0.mk hs5
              have HK5 := Aside0.mk hk5
              have HSS5 := Aside0.mk hS5
              clear hs5 hk5 hS5 hp5
              refine hK.out _ _ ?_
              clear hK K
              refine norm_ (a' := ?_) ?_ ?_
              rotate_left
              · show Act.put _ (some 70) _ = _
                simp only [Act.put, List.setIfInBounds_toArray, List.set_cons_zero, List.set_cons_succ, i64_w, i32_w]
                rfl
              refine done_ (by kernel_rfl) ?_

              gi_wp2
              have hk5s := HK5.out.size
              have hbg := HSQ.out.bg
              have hbm := HSQ.out.bm
              have hbw : Below W.heap.size W (wq.alloc (.cells #[.int .u8 1] 5)).drew := below_step (below_step HW2.out HQ.out HW2.out.size) HBZ.out (by have h1 := HW2.out.size; omega)
              exact ⟨⟨i + 1, S5, by simp, hlt, by omega, ⟨by
                rw [HST.out]
                show IsSet w5 W.heap.size g m d S5 (addL L (i : Int) (bkOf bk) (ofOf of_ ((byOf bs).length : Int)) (byOf bs) (ndOf (i : Int) is)) (addN (i : Int) (bkOf bk) (ofOf of_ ((byOf bs).length : Int)) (byOf bs) (ndOf (i : Int) is)) (i + 1)
                rw [HBY.out]
                exact HS5.out⟩, ⟨hbw.trans (HK5.out.below (fun k hk => by rcases hk with hk | hk <;> omega) hbw.size)⟩⟩, by simp [intOf]; omega⟩
            · have t5 : ((k : Int) == 0) = false := by rw [beq_eq_false_iff_ne]; omega
              have htk : bs.take 128 = bs.take k := by
                rcases Nat.le_total bs.length 128 with h | h
                · rw [List.take_of_length_le h, List.take_of_length_le (by omega)]
                · rw [show k = 128 by omega]
              obtain ⟨bl, hbl⟩ : ∃ bl, bs.take k = bl := ⟨_, rfl⟩
              have hlen : bl.length = k := by rw [← hbl, List.length_take]; omega
              have hby : byOf bs = bl := by unfold byOf; rw [htk, hbl, if_neg (by omega)]
              have HBY := Aside0.mk hby
              have hbq : Below wq.heap.size wq wq.drew := ⟨rfl, rfl, rfl, Nat.le_refl _, fun _ _ => rfl⟩
              have hlr : Kd.C (Kd.int .u8) wq.drew A3 bl.length bl := by
                have h1 := C_pre (Kd.C_below (Kd.C_below G3.out HQ.out) hbq) k (by omega)
                rw [hbl] at h1
                rw [hlen]
                exact h1
              have HSZ := Aside0.mk (HSQ.out.below hbq)
              obtain ⟨P, hadd, hPP⟩ : ∃ P : World → Prop, Calls Try.prog 12 #[.pointer (some ⟨g, 0, none⟩), .int .i64 (bkOf bk), .int .i64 (ofOf of_ (bl.length : Int)), .slice A3 bl.length c3, .slice AN (ndOf (i : Int) is).length cN] wq.drew (fun e W' => ∃ r1 r2, e = .returned (.tuple #[.int .i64 r1, .int .i64 r2]) ∧ P W') ∧ ∀ W', P W' → (∃ S', IsSet W' W.heap.size g m d S' (addL L (i : Int) (bkOf bk) (ofOf of_ (bl.length : Int)) bl (ndOf (i : Int) is)) (addN (i : Int) (bkOf bk) (ofOf of_ (bl.length : Int)) bl (ndOf (i : Int) is)) (i + 1) ∧ (∀ k, S' k → S k ∨ wq.drew.heap.size ≤ k) ∧ Kept (fun k => k = g ∨ k = m) wq.drew W') :=
                ⟨fun W' => _, (add_ok HSZ.out (by omega) (bkOf bk) (ofOf of_ (bl.length : Int)) (WalkArith.wf_i64 (by unfold bkOf; omega)) A3 c3 bl hlr (by omega) (by omega) AN cN (ndOf (i : Int) is) (Kd.R_below HN.out hbq) HNW.out (by omega) (by omega) (by have h1 := HW2.out.size; have h2 := hbq.size; omega)).mono (fun e W' h => ⟨_, _, h.1, h.2⟩), fun W' h => h⟩
              have e2 : wrap64 ((IntKind.u64.wrap of_).tmod (IntKind.u64.wrap (wrap64 (129 - (bl.length : Int))))) = ofOf of_ (bl.length : Int) := of_w of_ bl.length (by omega) (by omega)
              have hnz : ¬ (IntKind.u64.wrap (wrap64 (129 - (bl.length : Int))) = 0) := by rw [u64_w]; unfold wrap64; omega
              rw [← bk_w, ← e2, hlen] at hadd
              rw [hlen] at hnz
              have HADD := Aside0.mk hadd
              have HPP := Aside0.mk hPP
              have q1 : wq.drew.cell? ⟨kb, 1, none⟩ = some (.int .i64 bk) := cell_of (i := 1) ((hbq.block kb (by omega)).trans HBQ.out) rfl
              have q2 : wq.drew.cell? ⟨kb, 2, none⟩ = some (.int .i64 of_) := cell_of (i := 2) ((hbq.block kb (by omega)).trans HBQ.out) rfl
              have HBZ := Aside0.mk hbq
              clear hadd hPP hlr hbq e2 hby htk hlen hbl
              gi_wp2
              refine wpIn_wide.2 ?_
              refine start_ (n := 18) (S := fun w' => w'.cell? ⟨kb, 1, none⟩ = some (.int .i64 bk) ∧ w'.cell? ⟨kb, 2, none⟩ = some (.int .i64 of_)) (ds := [17]) #[false, false, false, false, false, false, false, false, false, false, false, false, false, false, false, false, false, false] (by kernel_rfl) rfl rfl ⟨q1, q2⟩ (fun hHeld => ?_)
              refine pure_ (i := 0) (N := some 53) (v := ?_) (a' := ?_) #[true, false, false, false, false, false, false, false, false, false, false, false, false, false, false, false, false, false] rfl rfl (by kernel_rfl) (fun _ _ _ h => h) (Or.inl ⟨by rfl, ?_⟩) ?_ ?_
              rotate_left
              · intro w'
                go_simp
                with_reducible rfl
              rotate_left
              · simp only [Act.put, List.setIfInBounds_toArray, List.set_cons_zero, List.set_cons_succ, i64_w, i32_w]
                rfl
              refine pure_ (i := 1) (N := some 54) (v := ?_) (a' := ?_) #[true, true, false, false, false, false, false, false, false, false, false, false, false, false, false, false, false, false] rfl rfl (by kernel_rfl) (fun _ _ _ h => h) (Or.inl ⟨by rfl, ?_⟩) ?_ ?_
              rotate_left
              · intro w'
                go_simp
                with_reducible rfl
              rotate_left
              · simp only [Act.put, List.setIfInBounds_toArray, List.set_cons_zero, List.set_cons_succ, i64_w, i32_w]
                rfl
              refine pure_ (i := 6) (N := some 59) (v := ?_) (a' := ?_) #[true, true, false, false, false, false, true, false, false, false, false, false, false, false, false, false, false, false] rfl rfl (by kernel_rfl) (fun _ _ _ h => h) (Or.inl ⟨by rfl, ?_⟩) ?_ ?_
              rotate_left
              · intro w'
                go_simp
                with_reducible rfl
              rotate_left
              · simp only [Act.put, List.setIfInBounds_toArray, List.set_cons_zero, List.set_cons_succ, i64_w, i32_w]
                rfl
              refine pure_ (i := 9) (N := some 62) (v := ?_) (a' := ?_) #[true, true, false, false, false, false, true, false, false, true, false, false, false, false, false, false, false, false] rfl rfl (by kernel_rfl) (fun _ _ _ h => h) (Or.inl ⟨by rfl, ?_⟩) ?_ ?_
              rotate_left
              · intro w'
                go_simp
                with_reducible rfl
              rotate_left
              · simp only [Act.put, List.setIfInBounds_toArray, List.set_cons_zero, List.set_cons_succ, i64_w, i32_w]
                rfl
              refine pure_ (i := 10) (N := some 63) (v := ?_) (a' := ?_) #[true, true, false, false, false, false, true, false, false, true, true, false, false, false, false, false, false, false] rfl rfl (by kernel_rfl) (fun _ _ _ h => h) (Or.inl ⟨by rfl, ?_⟩) ?_ ?_
              rotate_left
              · intro w'
                go_simp
                with_reducible rfl
              rotate_left
              · simp only [Act.put, List.setIfInBounds_toArray, List.set_cons_zero, List.set_cons_succ, i64_w, i32_w]
                rfl
              refine pure_ (i := 11) (N := some 64) (v := ?_) (a' := ?_) #[true, true, false, false, false, false, true, false, false, true, true, true, false, false, false, false, false, false] rfl rfl (by kernel_rfl) (fun _ _ _ h => h) (Or.inl ⟨by rfl, ?_⟩) ?_ ?_
              rotate_left
              · intro w'
                go_simp
                with_reducible rfl
              rotate_left
              · simp only [Act.put, List.setIfInBounds_toArray, List.set_cons_zero, List.set_cons_succ, i64_w, i32_w]
                rfl
              refine pure_ (i := 12) (N := some 65) (v := ?_) (a' := ?_) #[true, true, false, false, false, false, true, false, false, true, true, true, true, false, false, false, false, false] rfl rfl (by kernel_rfl) (fun _ _ _ h => h) (Or.inl ⟨by rfl, ?_⟩) ?_ ?_
              rotate_left
              · intro w'
                go_simp
                with_reducible rfl
              rotate_left
              · simp only [Act.put, List.setIfInBounds_toArray, List.set_cons_zero, List.set_cons_succ, i64_w, i32_w]
                rfl
              refine pure_ (i := 15) (N := some 68) (v := ?_) (a' := ?_) #[true, true, false, false, false, false, true, false, false, true, true, true, true, false, false, true, false, false] rfl rfl (by kernel_rfl) (fun _ _ _ h => h) (Or.inl ⟨by rfl, ?_⟩) ?_ ?_
              rotate_left
              · intro w'
                go_simp
                with_reducible rfl
              rotate_left
              · simp only [Act.put, List.setIfInBounds_toArray, List.set_cons_zero, List.set_cons_succ, i64_w, i32_w]
                rfl
              refine pure_ (i := 16) (N := some 69) (v := ?_) (a' := ?_) #[true, true, false, false, false, false, true, false, false, true, true, true, true, false, false, true, true, false] rfl rfl (by kernel_rfl) (fun _ _ _ h => h) (Or.inl ⟨by rfl, ?_⟩) ?_ ?_
              rotate_left
              · intro w'
                go_simp
                with_reducible rfl
              rotate_left
              · simp only [Act.put, List.setIfInBounds_toArray, List.set_cons_zero, List.set_cons_succ, i64_w, i32_w]
                rfl
              refine take_ (i := 2) (N := some 55) (v := ?_) (a' := ?_) #[true, true, true, false, false, false, true, false, false, true, true, true, true, false, false, true, true, false] rfl rfl (by kernel_rfl) (fun _ _ _ h => h) (Or.inl ⟨by rfl, ?_⟩) hHeld ?_ ?_
              rotate_left
              · rintro w' ⟨s0, s1⟩
                go_simp
                with_reducible rfl
              rotate_left
              · simp only [Act.put, List.setIfInBounds_toArray, List.set_cons_zero, List.set_cons_succ, i64_w, i32_w]
                rfl
              refine pure_ (i := 3) (N := some 56) (v := ?_) (a' := ?_) #[true, true, true, true, false, false, true, false, false, true, true, true, true, false, false, true, true, false] rfl rfl (by kernel_rfl) (fun _ _ _ h => h) (Or.inl ⟨by rfl, ?_⟩) ?_ ?_
              rotate_left
              · intro w'
                go_simp
                with_reducible rfl
              rotate_left
              · simp only [Act.put, List.setIfInBounds_toArray, List.set_cons_zero, List.set_cons_succ, i64_w, i32_w]
                rfl
              refine pure_ (i := 4) (N := some 57) (v := ?_) (a' := ?_) #[true, true, true, true, true, false, true, false, false, true, true, true, true, false, false, true, true, false] rfl rfl (by kernel_rfl) (fun _ _ _ h => h) (Or.inl ⟨by rfl, ?_⟩) ?_ ?_
              rotate_left
              · intro w'
                go_simp
                with_reducible rfl
              rotate_left
              · simp only [Act.put, List.setIfInBounds_toArray, List.set_cons_zero, List.set_cons_succ, i64_w, i32_w]
                rfl
              refine pure_ (i := 5) (N := some 58) (v := ?_) (a' := ?_) #[true, true, true, true, true, true, true, false, false, true, true, true, true, false, false, true, true, false] rfl rfl (by kernel_rfl) (fun _ _ _ h => h) (Or.inl ⟨by rfl, ?_⟩) ?_ ?_
              rotate_left
              · intro w'
                go_simp
                with_reducible rfl
              rotate_left
              · simp only [Act.put, List.setIfInBounds_toArray, List.set_cons_zero, List.set_cons_succ, i64_w, i32_w]
                rfl
              refine take_ (i := 7) (N := some 60) (v := ?_) (a' := ?_) #[true, true, true, true, true, true, true, true, false, true, true, true, true, false, false, true, true, false] rfl rfl (by kernel_rfl) (fun _ _ _ h => h) (Or.inl ⟨by rfl, ?_⟩) hHeld ?_ ?_
              rotate_left
              · rintro w' ⟨s0, s1⟩
                go_simp
                with_reducible rfl
              rotate_left
              · simp only [Act.put, List.setIfInBounds_toArray, List.set_cons_zero, List.set_cons_succ, i64_w, i32_w]
                rfl
              refine pure_ (i := 8) (N := some 61) (v := ?_) (a' := ?_) #[true, true, true, true, true, true, true, true, true, true, true, true, true, false, false, true, true, false] rfl rfl (by kernel_rfl) (fun _ _ _ h => h) (Or.inl ⟨by rfl, ?_⟩) ?_ ?_
              rotate_left
              · intro w'
                go_simp
                with_reducible rfl
              rotate_left
              · simp only [Act.put, List.setIfInBounds_toArray, List.set_cons_zero, List.set_cons_succ, i64_w, i32_w]
                rfl
              refine pure_ (i := 13) (N := some 66) (v := ?_) (a' := ?_) #[true, true, true, true, true, true, true, true, true, true, true, true, true, true, false, true, true, false] rfl rfl (by kernel_rfl) (fun _ _ _ h => h) (Or.inl ⟨by rfl, ?_⟩) ?_ ?_
              rotate_left
              · intro w'
                go_simp
                with_reducible rfl
              rotate_left
              · simp only [Act.put, List.setIfInBounds_toArray, List.set_cons_zero, List.set_cons_succ, i64_w, i32_w]
                rfl
              refine pure_ (i := 14) (N := some 67) (v := ?_) (a' := ?_) #[true, true, true, true, true, true, true, true, true, true, true, true, true, true, true, true, true, false] rfl rfl (by kernel_rfl) (fun _ _ _ h => h) (Or.inl ⟨by rfl, ?_⟩) ?_ ?_
              rotate_left
              · intro w'
                go_simp
                with_reducible rfl
              rotate_left
              · simp only [Act.put, List.setIfInBounds_toArray, List.set_cons_zero, List.set_cons_succ, i64_w, i32_w]
                rfl
              refine last_ (i := 17) (N := some 70) #[true, true, true, true, true, true, true, true, true, true, true, true, true, true, true, true, true, true] rfl rfl (by kernel_rfl) (by decide) (fun K hK => ?_)
              refine goes_ Try.func12 (by kernel_rfl) rfl #[.pointer (some ⟨g, 0, none⟩), .int .i64 (wrap64 ((IntKind.u64.wrap bk).tmod 5)), .int .i64 (wrap64 ((IntKind.u64.wrap of_).tmod (IntKind.u64.wrap (wrap64 (129 - (k : Int)))))), .slice A3 k c3, .slice AN (ndOf (i : Int) is).length cN] (by rfl) rfl rfl (by simp only [List.map_toArray, List.map_cons, List.map_nil]; rfl) ?_
              with_reducible refine (HADD.out).mono ?_
              rintro e w5 ⟨r1, r2, rfl, hp5⟩
              refine ⟨_, rfl, ?_⟩
              obtain ⟨S5, hs5, hS5, hk5⟩ := HPP.out _ hp5
              have HS5 := Aside0.mk hs5
              have HK5 := Aside0.mk hk5
              have HSS5 := Aside0.mk hS5
              clear hs5 hk5 hS5 hp5
              refine hK.out _ _ ?_
              clear hK K
              refine norm_ (a' := ?_) ?_ ?_
              rotate_left
              · show Act.put _ (some 70) _ = _
                simp only [Act.put, List.setIfInBounds_toArray, List.set_cons_zero, List.set_cons_succ, i64_w, i32_w]
                rfl
              refine done_ (by kernel_rfl) ?_

              gi_wp2
              have hk5s := HK5.out.size
              have hbg := HSQ.out.bg
              have hbm := HSQ.out.bm
              have hbw : Below W.heap.size W wq.drew := below_step (below_step HW2.out HQ.out HW2.out.size) HBZ.out (by have h1 := HW2.out.size; omega)
              exact ⟨⟨i + 1, S5, by simp, hlt, by omega, ⟨by
                rw [HST.out]
                show IsSet w5 W.heap.size g m d S5 (addL L (i : Int) (bkOf bk) (ofOf of_ ((byOf bs).length : Int)) (byOf bs) (ndOf (i : Int) is)) (addN (i : Int) (bkOf bk) (ofOf of_ ((byOf bs).length : Int)) (byOf bs) (ndOf (i : Int) is)) (i + 1)
                rw [HBY.out]
                exact HS5.out⟩, ⟨hbw.trans (HK5.out.below (fun k hk => by rcases hk with hk | hk <;> omega) hbw.size)⟩⟩, by simp [intOf]; omega⟩
    · obtain rfl : i = l.length := by omega
      have t1 : decide ((l.length : Int) < (l.length : Int)) = false := decide_eq_false (by omega)
      have HS2 := Aside0.mk (show IsSet wr W.heap.size g m d S (madeS l).1 (madeS l).2 41 by have := HS.out.monon hi41; rwa [List.take_length] at this)
      gi_wp2
      go_ret
      exact ⟨g, m, d, S, rfl, HS2.out, HW.out⟩
end Go.Proofs.Ytijgfcpffjjlfaa.Pq
