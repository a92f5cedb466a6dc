/- Written by a program of this session. (*Set).Add. -/
import Derived.Test.YtijgfcpffjjlfaaQz
namespace Go.Proofs.Ytijgfcpffjjlfaa.Pq
open Go Go.RowKit Go.Shelf Go.Proofs Go.Maps Go.Sort Go.Proofs.Ytijgfcpffjjlfaa.XFb Go.Proofs.YtijgfcpffjjlfaaW.PrintWords Go.Proofs.YtijgfcpffjjlfaaW.PrintLast Go.Proofs.YtijgfcpffjjlfaaW.PrintMore
set_option linter.unusedVariables false
set_option linter.unusedSimpArgs false
/-- Inside Add: the box of s and all that lay. -/
def AS (w : World) (g : Nat) (W : World) : Prop := W.heap[w.heap.size]? = some (.cells #[.pointer (some ⟨g, 0, none⟩)] 23 (0, 0)) ∧ Below w.heap.size w W
theorem AS.below {w W W' : World} {g : Nat} (h : AS w g W) (hb : Below W.heap.size W W') : AS w g W' :=
  ⟨(hb.block _ (Array.getElem?_eq_some_iff.1 h.1).1).trans h.1, h.2.trans (hb.mono h.2.size)⟩
theorem AS.alloc {w W : World} {g : Nat} (h : AS w g W) (o : Obj) : AS w g (W.alloc o) := h.below (below_alloc (Below.refl _ _) o)
theorem AS.set {w W : World} {g b i : Nat} (h : AS w g W) (hb : w.heap.size < b) (v : Value) : AS w g (W.setCell ⟨b, i, none⟩ v) :=
  ⟨(Below.heap_setCell _ _ _ _ (by simp; omega)).trans h.1, h.2.setCell (p := ⟨b, i, none⟩) (by simp; omega) v⟩
theorem AS.grown {w W W' : World} {g : Nat} {row : Option Nat} (h : AS w g W) (hg : W.grownBy W' row) (hr : ∀ k, row = some k → w.heap.size < k) : AS w g W' :=
  ⟨(hg.block _ (Array.getElem?_eq_some_iff.1 h.1).1 (fun e => by have := hr _ e.symm; omega)).trans h.1, Below.grown h.2 hg h.2.size (fun k hk => by have := hr k hk; omega)⟩
theorem AS.lay {w W : World} {g : Nat} (h : AS w g W) : Below w.heap.size w W := h.2
theorem AS.mk_ (w : World) (g : Nat) : AS w g (w.alloc (.cells #[.pointer (some ⟨g, 0, none⟩)] 23)) := ⟨World.alloc_heap_new w _, below_alloc (Below.refl _ _) _⟩
theorem AS.box {w W : World} {g : Nat} (h : AS w g W) : W.cell? ⟨w.heap.size, 0, none⟩ = some (.pointer (some ⟨g, 0, none⟩)) := cell_of h.1 rfl
theorem AS.cell {w W : World} {g i : Nat} {cs : Array Value} {v : Value} (h : AS w g W) (hg : w.heap[g]? = some (.cells cs 55 (0, 0))) (hv : cs[i]? = some v) : W.cell? ⟨g, i, none⟩ = some v :=
  cell_of ((h.2.block g (Array.getElem?_eq_some_iff.1 hg).1).trans hg) hv
theorem fits_f (blk off : Int) (by_ : List Int) : patch_fits.f blk off by_ = some (decide (fitsP blk off by_)) := by
  have e : fitsP blk off by_ ↔ 0 ≤ blk ∧ 0 ≤ off ∧ 0 < by_.length ∧ off ≤ 128 ∧ (by_.length : Int) ≤ 128 - off := Iff.rfl
  have hf : ∀ (h : ¬ fitsP blk off by_), some false = some (decide (fitsP blk off by_)) := fun h => by rw [decide_eq_false h]
  unfold patch_fits.f
  by_cases h1 : blk ≥ 0
  · rw [if_pos h1]
    by_cases h2 : off ≥ 0
    · rw [if_pos h2]
      by_cases h3 : (by_.length : Int) > 0
      · rw [if_pos h3]
        by_cases h4 : off ≤ 128
        · have hw : wrap64 (128 - off) = 128 - off := by unfold wrap64; omega
          rw [if_pos h4, hw]
          by_cases h5 : (by_.length : Int) ≤ 128 - off
          · rw [decide_eq_true h5, decide_eq_true (e.2 ⟨h1, h2, by omega, h4, h5⟩)]
          · rw [decide_eq_false h5]; exact hf (fun hh => h5 (e.1 hh).2.2.2.2)
        · rw [if_neg h4]; exact hf (fun hh => h4 (e.1 hh).2.2.2.1)
      · rw [if_neg h3]; exact hf (fun hh => h3 (by have := (e.1 hh).2.2.1; omega))
    · rw [if_neg h2]; exact hf (fun hh => h2 (e.1 hh).2.1)
  · rw [if_neg h1]; exact hf (fun hh => h1 (e.1 hh).1)
theorem overlap_f (i : Int) (p q : Pt) (h1 : 0 ≤ p.off ∧ p.off + p.by_.length ≤ 128) (h2 : 0 ≤ q.off ∧ q.off + q.by_.length ≤ 128) : patch_overlap.f i p.blk p.off p.by_ p.nd q.id q.blk q.off q.by_ q.nd = some (ovl p q) := by
  unfold patch_overlap.f ovl
  have w1 : wrap64 (q.off + (q.by_.length : Int)) = q.off + q.by_.length := by unfold wrap64; omega
  have w2 : wrap64 (p.off + (p.by_.length : Int)) = p.off + p.by_.length := by unfold wrap64; omega
  rw [w1, w2]
  by_cases h3 : p.blk = q.blk
  · by_cases h4 : p.off < q.off + q.by_.length
    · rw [if_pos h3, if_pos h4, decide_eq_true h3, decide_eq_true h4]; rfl
    · rw [if_pos h3, if_neg h4, decide_eq_true h3, decide_eq_false h4]; rfl
  · rw [if_neg h3, decide_eq_false h3]; rfl
set_option maxRecDepth 100000 in
set_option maxHeartbeats 8000000 in
theorem add1_ok {W : World} {base g m d : Nat} {S : Nat → Prop} {l : List Pt} {last : Int} {n : Nat} (h : IsSet W base g m d S l last n) (x : Int) (B1 : Nat) (c1 : W.cell? ⟨B1, 0, none⟩ = some (.pointer (some ⟨g, 0, none⟩))) :
    FnGives Try.prog 42 #[.pointer (some ⟨B1, 0, none⟩)] #[.int .i64 x] (.bool (!known last x)) W := by
  show Calls Try.prog 42 #[.int .i64 x, .pointer (some ⟨B1, 0, none⟩)] W _
  have H := Aside0.mk h
  clear h
  refine (callsIn_wide (n := 1)).1 ?_
  refine callsIn_of_wp Try.func42 rfl trivial ?_ rfl
  simp only [Try.ntmps42, List.size_toArray, List.length_cons, List.length_nil, Nat.reduceAdd, Nat.reduceSub, Array.replicate_succ, Array.replicate_zero, List.push_toArray, List.append_toArray, List.nil_append, List.cons_append]
  gi_wp2_with (first
    | (refine ⟨trivial, ?_⟩; gi_at_call 43; refine (callsIn_wide.2 (known_ok H.out x)).mono ?_; rintro e w1 ⟨rfl, hw⟩; rw [hw]; clear hw))
  go_ret
  exact ⟨rfl, 0, rfl⟩
theorem RB_own {W : World} {base : Nat} {S : Nat → Prop} {v : Value} {xs : List Int} (h : RB W base S v xs) : RB W base (fun k => v.ownBlock = some k) v xs := Kd.R_of_own (Kd.own_of_R h) (fun _ hk => hk)
theorem RI_own {W : World} {base : Nat} {S : Nat → Prop} {v : Value} {xs : List Int} (h : RI W base S v xs) : RI W base (fun k => v.ownBlock = some k) v xs := Kd.R_of_own (Kd.own_of_R h) (fun _ hk => hk)
/-- What stands behind a patch's coming. -/
theorem IsSet.added {W : World} {base g m d : Nat} {S : Nat → Prop} {l : List Pt} {last : Int} {n : Nat} (h : IsSet W base g m d S l last n) (blk off : Int) (by_ nd : List Int) (he : addE last blk off by_ nd = 0) (hwb : (Lit.int .i64 blk).wf = true) (hl : last + 1 ≤ 1000000000) {W9 W10 : World} (hb : base ≤ W.heap.size)
    (vB vN : Value) (hvB : ∃ A k, vB = .slice A by_.length k) (hvN : ∃ A k, vN = .slice A (newP l last blk off by_ nd).nd.length k)
    (hrB : RB W9 W.heap.size (fun _ => True) vB by_) (hrN : RI W9 W.heap.size (fun _ => True) vN (newP l last blk off by_ nd).nd) (hk : Kept (fun k => k = g) W W9)
    (hg : W9.heap[g]? = some (.cells #[.int .i64 (last + 1), .map (some d), .map (some m), .bool true] 55 (0, 0)))
    {D : DataW Value} (hD : (∀ i : Int, Maps.has D (.int .i64 i) = decide (i ∈ ids l)) ∧ ∀ p ∈ l, ∃ v, (∀ zd, D.atKey (.int .i64 p.id) zd = .held v) ∧ PatV W base S p v) (hm : mapM W10 m (n + 1) (D.put (.int .i64 (last + 1)) (.held (.agg #[.int .i64 (last + 1), .int .i64 blk, .int .i64 off, vB, vN])))) (hDm : Maps.IsMap D) (hgr : W9.grownBy W10 (some m)) :
    ∃ S', IsSet W10 base g m d S' (addL l last blk off by_ nd) (addN last blk off by_ nd) (n + 1) ∧ (∀ k, S' k → S k ∨ W.heap.size ≤ k) ∧ Kept (fun k => k = g ∨ k = m) W W10 := by
  obtain ⟨A1, k1, rfl⟩ := hvB
  obtain ⟨A2, k2, rfl⟩ := hvN
  have hgm := h.gm
  have hlg := h.ltg
  have hlm := h.ltm
  have hld := h.ltd
  have hs9 := hk.size
  have hs10 := hgr.size
  have hne := h.ne
  have hgtm : ∀ k, W.heap.size ≤ k → k ≠ g ∧ k ≠ m ∧ k ≠ d := fun k hk => ⟨by omega, by omega, by omega⟩
  have hk10 : Kept (fun k => k = g ∨ k = m) W W10 := (hk.mono (fun k _ e => .inl e)).trans (Kept.of_grown (S := fun k => k = m) hgr (fun k e => by cases e; rfl)) (fun k e => .inl (.inr e))
  have hbB := Kd.R_base hrB
  have hbN := Kd.R_base hrN
  have hR10B : RB W10 W.heap.size (fun k => Value.ownBlock (.slice A1 by_.length k1) = some k) (.slice A1 by_.length k1) by_ := Kd.R_grown (RB_own hrB) hgr (fun k hk e => by cases e; have := hbB m hk; omega)
  have hR10N : RI W10 W.heap.size (fun k => Value.ownBlock (.slice A2 (newP l last blk off by_ nd).nd.length k2) = some k) (.slice A2 (newP l last blk off by_ nd).nd.length k2) (newP l last blk off by_ nd).nd := Kd.R_grown (RI_own hrN) hgr (fun k hk e => by cases e; have := hbN m hk; omega)
  have hltB : ∀ k, Value.ownBlock (.slice A1 by_.length k1) = some k → k < W10.heap.size := fun k hk => by obtain ⟨_, ho⟩ := Kd.R_own hR10B; exact own_lt ho k hk
  have hltN : ∀ k, Value.ownBlock (.slice A2 (newP l last blk off by_ nd).nd.length k2) = some k → k < W10.heap.size := fun k hk => by obtain ⟨_, ho⟩ := Kd.R_own hR10N; exact own_lt ho k hk
  have hlast := h.fits.high
  have hp1 : ∀ p ∈ l, p.id ≠ last + 1 := fun p hp => by have := hlast p hp; omega
  have hid : ids (l ++ [newP l last blk off by_ nd]) = ids l ++ [last + 1] := by unfold ids; rw [List.map_append]; rfl
  refine ⟨fun k => S k ∨ Value.ownBlock (.slice A1 by_.length k1) = some k ∨ Value.ownBlock (.slice A2 (newP l last blk off by_ nd).nd.length k2) = some k, ?_, fun k hk => ?_, hk10⟩
  · unfold addL addN
    rw [if_pos he, if_pos he]
    refine ⟨h.fits.add he hwb hl, ?_, ⟨_, hm, fun i => ?_, fun p hp => ?_⟩, ?_, hne, fun k hk => ?_, h.bg, h.bm, h.bd, fun k hk => ?_⟩
    · exact (hgr.block g (by omega) (fun e => by injection e with e; exact hgm.1 e)).trans hg
    · rw [hid]
      by_cases e : i = last + 1
      · subst e
        rw [Maps.has_put_same hDm (show WideAt.IsKeyLit (Lit.int .i64 (last + 1)) from trivial)]
        simp
      · rw [Maps.has_put_other (by intro hh; injection hh with _ hh; exact e hh), hD.1 i]
        simp [e]
    · rcases List.mem_append.1 hp with hp | hp
      · obtain ⟨v, hv, hpv⟩ := hD.2 p hp
        refine ⟨v, fun zd => ?_, (hpv.kept hk10 (fun k hs e => ?_)).mono (fun k hs => .inl hs)⟩
        · rw [Maps.atKey_put_other (by intro hh; injection hh with _ hh; exact hp1 p hp hh)]
          exact hv zd
        · have := h.off k hs
          rcases e with e | e
          · exact this.1 e
          · exact this.2.1 e
      · rw [List.mem_singleton.1 hp]
        refine ⟨_, fun zd => Maps.atKey_put_same hDm (show WideAt.IsKeyLit (Lit.int .i64 (last + 1)) from trivial) _ _, A1, k1, A2, k2, rfl, ?_, ?_⟩
        · exact Kd.R_mono (Kd.R_lower hR10B hb) (fun k hk => .inr (.inl hk))
        · exact Kd.R_mono (Kd.R_lower hR10N hb) (fun k hk => .inr (.inr hk))
    · obtain ⟨D2, h6, h7⟩ := h.dn
      refine ⟨D2, (own_at h6 (hk10.same d hld (fun e => by rcases e with e | e; exact hgm.2 e.symm; exact hne e.symm))).mono (Nat.le_succ n), fun i => ?_⟩
      rw [h7 i, hid]
      congr 1
      rw [List.mem_append, List.mem_singleton]
      have h0 := h.fits.last0
      apply propext
      constructor
      · rintro ⟨h1, h2, h3⟩
        exact ⟨h1, by omega, fun hh => by rcases hh with hh | hh; exact h3 hh; omega⟩
      · rintro ⟨h1, h2, h3⟩
        have : i ≠ last + 1 := fun e => h3 (.inr e)
        exact ⟨h1, by omega, fun hh => h3 (.inl hh)⟩
    · rcases hk with hk | hk | hk
      · exact ⟨(h.low k hk).1, by have := (h.low k hk).2; omega⟩
      · exact ⟨by have := hbB k hk; omega, hltB k hk⟩
      · exact ⟨by have := hbN k hk; omega, hltN k hk⟩
    · rcases hk with hk | hk | hk
      · exact h.off k hk
      · exact hgtm k (hbB k hk)
      · exact hgtm k (hbN k hk)
  · rcases hk with hk | hk | hk
    · exact .inl hk
    · exact .inr (hbB k hk)
    · exact .inr (hbN k hk)
end Go.Proofs.Ytijgfcpffjjlfaa.Pq
