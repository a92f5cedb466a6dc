/- word.Reader: Text, Skip, Left, Err and Over. -/
import Derived.Test.YtnbkbmhiajfbpaaRdb
namespace Go.Proofs.Ytnbkbmhiajfbpaa.Rd
open Go.RowKit Go.Proofs.Ytnbkbmhiajfbpaa.XRd Go.Proofs.YtnbkbmhiajfbpaaW.PrintWords Go.Proofs.YtnbkbmhiajfbpaaW.PrintLast
set_option linter.unusedVariables false
set_option linter.unusedSimpArgs false
theorem below_set_ {n : Nat} {w W : World} (h : Below n w W) {b o : Nat} (hb : n ≤ b) (u : Value) : Below n w (W.setCell ⟨b, o, none⟩ u) := h.setCell (p := ⟨b, o, none⟩) hb _

/-- What Text has its reader do: a number that can't be. -/
theorem text_arg (b0 b1 b2 g : Nat) (n : Int) (w : World) (h0 : w.cell? ⟨b0, 0, none⟩ = some (.pointer (some ⟨g, 0, none⟩))) (h1 : w.cell? ⟨b1, 0, none⟩ = some (.int .i64 n)) (hn : n < 0) :
    Calls Try.prog 56 #[.pointer (some ⟨b0, 0, none⟩), .pointer (some ⟨b1, 0, none⟩), .pointer (some ⟨b2, 0, none⟩)] w fun e w' => e = .panicked [{ v := .iface 28 (.int .i64 1), recovered := false }] ∧ w' = w := by
  have HN := Lib.hid (next_arg g n true w (.inl hn))
  go_enter Try.func56, Try.ntmps56
  go_wp2_with (first | (go_at_call 55; refine HN.out.mono ?_; rintro e w' ⟨rfl, rfl⟩))
  exact ⟨rfl, rfl, rfl⟩

theorem text_past (w0 : World) (b0 b1 b2 g : Nat) (l : List Int) (p e n : Int) (w : World) (h0 : w.cell? ⟨b0, 0, none⟩ = some (.pointer (some ⟨g, 0, none⟩))) (h1 : w.cell? ⟨b1, 0, none⟩ = some (.int .i64 n)) (hI : IsRd w0 w g l p e) (hn : 0 ≤ n) (hp : 0 ≤ p) (hl : l.length ≤ 140737488355328) (hp2 : p ≤ l.length) (h : (l.length : Int) - p < n) :
    Calls Try.prog 56 #[.pointer (some ⟨b0, 0, none⟩), .pointer (some ⟨b1, 0, none⟩), .pointer (some ⟨b2, 0, none⟩)] w fun e w' => e = .panicked [{ v := .iface 28 (.int .i64 10), recovered := false }] ∧ ∃ m, w' = w.drewN m := by
  have HN := Lib.hid (next_past w0 g l p e n w hI hn hp hl hp2 h)
  clear hI
  go_enter Try.func56, Try.ntmps56
  go_wp2_with (first | (go_at_call 55; refine HN.out.mono ?_; rintro e w' ⟨rfl, m, rfl⟩))
  exact ⟨rfl, rfl, m, rfl⟩

theorem text_ok (w0 : World) (b0 b1 b2 g : Nat) (l : List Int) (p n : Int) (v2 : Value) (w : World) (h0 : w.cell? ⟨b0, 0, none⟩ = some (.pointer (some ⟨g, 0, none⟩))) (h1 : w.cell? ⟨b1, 0, none⟩ = some (.int .i64 n)) (h2 : w.cell? ⟨b2, 0, none⟩ = some v2) (hz : w.frozen? ⟨b2, 0, none⟩ = false) (hI : IsRd w0 w g l p 0)
    (hb2 : b2 ≠ g) (hw2 : w0.heap.size ≤ b2) (hn : 0 ≤ n) (hp : 0 ≤ p) (hl : l.length ≤ 140737488355328) (h : p + n ≤ l.length) :
    Calls Try.prog 56 #[.pointer (some ⟨b0, 0, none⟩), .pointer (some ⟨b1, 0, none⟩), .pointer (some ⟨b2, 0, none⟩)] w fun e w' => e = .returned (.tuple #[]) ∧ IsRd w0 w' g l (p + n) 0 ∧ w'.cell? ⟨b2, 0, none⟩ = some (.string (strOfNums ((l.take (p + n).toNat).drop p.toNat))) ∧ KeepBut w w' g (some b2) := by
  have hln : ((l.take (p + n).toNat).drop p.toNat).length = (p + n).toNat - p.toNat := by simp; omega
  have HN := Lib.hid (next_ok w0 g l p 0 n w hI hn hp hl h)
  clear hI
  go_enter Try.func56, Try.ntmps56
  go_wp2_with (first | (go_at_call 55; refine HN.out.mono ?_; rintro e w1 ⟨A, c, rfl, hA, hC, hI1, hK⟩; have q2 := KeepBut.cell_ hK (b := b2) (o := 0) (v := v2) h2 hb2 (by simp); have q3 := KeepBut.free_ hK (b := b2) (o := 0) (v := v2) h2 hz hb2 (by simp); have hcv := Kd.C_string (P := Try.prog) (c := c) Try.underlying22 Try.underlying5 Try.underlying9 (Kd.C_below hC hI1.2.2); rw [hln] at hcv; have HI1 := Lib.hid hI1; have HK := Lib.hid hK; clear hC hI1 hK hA))
  go_end0
  exact ⟨rfl, HI1.out.far hb2 hw2 _, World.cell?_setCell_same' _ _ _ (by simp [q2]), HK.out.1 |> fun hs => ⟨by simpa [World.setCell] using hs, fun i hi hg hr => (Below.heap_setCell w1 ⟨b2, 0, none⟩ _ i (fun e => hr (by rw [e]))).trans (HK.out.2 i hi hg (by simp))⟩⟩

/-- The world in which Take has its reader do its reading: three boxes, and the reader's own. -/
abbrev textW (w : World) (g : Nat) (n : Int) : World := (((w.alloc (.cells #[.pointer (some ⟨g, 0, none⟩)] 61)).alloc (.cells #[.int .i64 n] 3)).alloc (.cells #[(.string (⟨#[]⟩ : ByteArray))] 9))

theorem textW_size (w : World) (g : Nat) (n : Int) : (textW w g n).heap.size = w.heap.size + 1 + 1 + 1 := by
  simp only [textW, World.size_alloc]

theorem textW_heap (w : World) (g : Nat) (n : Int) (o : Obj) :
    ((textW w g n).alloc o).heap[w.heap.size]? = some (.cells #[.pointer (some ⟨g, 0, none⟩)] 61) ∧ ((textW w g n).alloc o).heap[w.heap.size + 1]? = some (.cells #[.int .i64 n] 3) ∧ ((textW w g n).alloc o).heap[w.heap.size + 1 + 1]? = some (.cells #[(.string (⟨#[]⟩ : ByteArray))] 9) ∧ ((textW w g n).alloc o).heap[w.heap.size + 1 + 1 + 1]? = some o := by
  simp only [textW, heap_alloc, World.size_alloc]
  refine ⟨?_, ?_, ?_, ?_⟩
  · rw [if_neg (by omega), if_neg (by omega), if_neg (by omega), if_pos trivial]
  · rw [if_neg (by omega), if_neg (by omega), if_pos trivial]
  · rw [if_neg (by omega), if_pos trivial]
  · rw [if_pos trivial]

theorem textW_cells (w : World) (g : Nat) (n : Int) (o : Obj) :
    ((textW w g n).alloc o).cell? ⟨w.heap.size, 0, none⟩ = some (.pointer (some ⟨g, 0, none⟩)) ∧ ((textW w g n).alloc o).cell? ⟨w.heap.size + 1, 0, none⟩ = some (.int .i64 n) ∧ ((textW w g n).alloc o).cell? ⟨w.heap.size + 1 + 1, 0, none⟩ = some (.string (⟨#[]⟩ : ByteArray)) ∧ ((textW w g n).alloc o).frozen? ⟨w.heap.size + 1 + 1, 0, none⟩ = false := by
  obtain ⟨e0, e1, e2, _⟩ := textW_heap w g n o
  exact ⟨(blk_cell e0 0).trans rfl, (blk_cell e1 0).trans rfl, (blk_cell e2 0).trans rfl, blk_frozen e2 0⟩

theorem textW_below (w : World) (g : Nat) (n : Int) : Below w.heap.size w (textW w g n) := below_alloc (below_alloc (below_alloc (Below.refl _ _) _) _) _

set_option maxHeartbeats 4000000 in
/-- Take, where the reader has an error already: nothing. -/
theorem Text_stop (w0 : World) (g : Nat) (l : List Int) (p e n : Int) (w : World) (hI : IsRd w0 w g l p e) (he : e ≠ 0) :
    Calls Try.prog 40 #[.pointer (some ⟨g, 0, none⟩), .int .i64 n] w fun r w' => r = .returned (.string (⟨#[]⟩ : ByteArray)) ∧ IsRd w0 w' g l p e ∧ KeepBut w w' g none := by
  have hmf : ∀ (fn : Fn) (first cap : Array Value) (w : World), (Instr.makeFunc fn first cap).run Try.prog w = .ok (.func fn first cap) w := fun _ _ _ _ => rfl
  have hB := textW_below w g n
  have HD := Lib.hid (do_stop w0 g l p e 56 #[.pointer (some ⟨w.heap.size, 0, none⟩), .pointer (some ⟨w.heap.size + 1, 0, none⟩), .pointer (some ⟨w.heap.size + 1 + 1, 0, none⟩)] (textW w g n) (hI.below hB) he)
  have HI := Lib.hid hI
  have HB := Lib.hid hB
  have HC := Lib.hid (textW_cells w g n (.cells #[.pointer (some ⟨g, 0, none⟩)] 61))
  clear hI hB
  go_enter Try.func40, Try.ntmps40
  go_wp2_with (first | (go_at_call 52; refine HD.out.mono ?_; rintro r w' ⟨rfl, rfl⟩))
  go_ret
  exact ⟨rfl, HI.out.below (below_alloc HB.out _), KeepBut.of_below (below_alloc HB.out _) g none⟩

/-- What Take's world holds, so that the reading can be done. -/
theorem text_call (w0 : World) (g : Nat) (l : List Int) (p e n : Int) (r : ByteArray) (w : World) (hI : IsRd w0 w g l p 0) (R : Ending → World → Prop) (p' : Int)
    (hc : Calls Try.prog 56 #[.pointer (some ⟨w.heap.size, 0, none⟩), .pointer (some ⟨w.heap.size + 1, 0, none⟩), .pointer (some ⟨w.heap.size + 1 + 1, 0, none⟩)] ((textW w g n).alloc (.cells #[.pointer (some ⟨g, 0, none⟩)] 61)) R)
    (hR : ∀ q W', R q W' → (∃ v, q = .returned v ∧ IsRd w0 W' g l p' e ∧ W'.cell? ⟨w.heap.size + 1 + 1, 0, none⟩ = some (.string r) ∧ KeepBut w W' g none) ∨
      (q = .panicked [{ v := .iface 28 (.int .i64 e), recovered := false }] ∧ p' = p ∧ r = ⟨#[]⟩ ∧ ∃ m, W' = ((textW w g n).alloc (.cells #[.pointer (some ⟨g, 0, none⟩)] 61)).drewN m)) :
    Calls Try.prog 40 #[.pointer (some ⟨g, 0, none⟩), .int .i64 n] w fun q w' => q = .returned (.string r) ∧ IsRd w0 w' g l p' e ∧ KeepBut w w' g none := by
  have hmf : ∀ (fn : Fn) (first cap : Array Value) (w : World), (Instr.makeFunc fn first cap).run Try.prog w = .ok (.func fn first cap) w := fun _ _ _ _ => rfl
  have hB := textW_below w g n
  have hlt := hI.lt
  have hgs : w0.heap.size ≤ g := hI.2.1
  obtain ⟨c0, c1, c2, c3⟩ := textW_cells w g n (.cells #[.pointer (some ⟨g, 0, none⟩)] 61)
  have hW : Below w.heap.size w ((textW w g n).alloc (.cells #[.pointer (some ⟨g, 0, none⟩)] 61)) := below_alloc hB _
  obtain ⟨A, c, ⟨_, _, d2, _⟩, _, _⟩ := (hI.below hW).cells
  have d3 := (hI.below hW).free 2
  have HD := Lib.hid (do_run w0 g l p 56 #[.pointer (some ⟨w.heap.size, 0, none⟩), .pointer (some ⟨w.heap.size + 1, 0, none⟩), .pointer (some ⟨w.heap.size + 1 + 1, 0, none⟩)] (textW w g n) R
    (fun W2 => IsRd w0 W2 g l p' e ∧ W2.cell? ⟨w.heap.size + 1 + 1, 0, none⟩ = some (.string r) ∧ KeepBut w W2 g none) (hI.below hB) (fun W => by rfl) hc (fun q W' h => by
      rcases hR q W' h with h | ⟨rfl, rfl, rfl, m, rfl⟩
      · exact .inl h
      · refine .inr ⟨e, .int .i64 0, rfl, ?_, d2, d3, ((hI.below hW).below (pw_below_drewN (Below.refl _ _) m)).set2 e, ?_, ?_⟩
        · rw [textW_size]
          exact (blk_cell (textW_heap w g n (.cells #[.pointer (some ⟨g, 0, none⟩)] 61)).2.2.2 0).trans rfl
        · rw [World.cell?_setCell_far _ _ _ _ (by simp; omega)]
          exact c2
        · exact (KeepBut.of_below (pw_below_drewN hW m) g none).set_ 2 _))
  clear hI hB hW hR hc d2 d3 c0 c1 c2 c3
  go_enter Try.func40, Try.ntmps40
  go_wp2_with (first | (go_at_call 52; refine HD.out.mono ?_; rintro q w' ⟨rfl, hP⟩; obtain ⟨P1, P2, P3⟩ := hP; have HP1 := Lib.hid P1; have HP3 := Lib.hid P3; clear P1 P3))
  go_ret
  exact ⟨rfl, HP1.out, HP3.out⟩

/-- Text, where the reader has no error yet. -/
theorem Text_run (w0 : World) (g : Nat) (l : List Int) (p n p' e : Int) (r : ByteArray) (w : World) (hI : IsRd w0 w g l p 0) (hp : 0 ≤ p) (hp2 : p ≤ l.length) (hl : l.length ≤ 140737488355328)
    (h : (n < 0 ∧ r = ⟨#[]⟩ ∧ p' = p ∧ e = 1) ∨ (0 ≤ n ∧ (l.length : Int) - p < n ∧ r = ⟨#[]⟩ ∧ p' = p ∧ e = 10) ∨
      (0 ≤ n ∧ p + n ≤ l.length ∧ p' = p + n ∧ e = 0 ∧ r = strOfNums ((l.take (p + n).toNat).drop p.toNat))) :
    Calls Try.prog 40 #[.pointer (some ⟨g, 0, none⟩), .int .i64 n] w fun q w' => q = .returned (.string r) ∧ IsRd w0 w' g l p' e ∧ KeepBut w w' g none := by
  have hB := textW_below w g n
  have hlt := hI.lt
  have hgs : w0.heap.size ≤ g := hI.2.1
  have hW : Below w.heap.size w ((textW w g n).alloc (.cells #[.pointer (some ⟨g, 0, none⟩)] 61)) := below_alloc hB _
  obtain ⟨c0, c1, c2, c3⟩ := textW_cells w g n (.cells #[.pointer (some ⟨g, 0, none⟩)] 61)
  rcases h with ⟨hn, rfl, rfl, rfl⟩ | ⟨h1, hl2, rfl, rfl, rfl⟩ | ⟨h1, hl2, rfl, rfl, rfl⟩
  · refine text_call w0 g l p' 1 n _ w hI _ p' (text_arg w.heap.size (w.heap.size + 1) (w.heap.size + 1 + 1) g n _ c0 c1 hn) ?_
    rintro q W' ⟨rfl, rfl⟩
    exact .inr ⟨rfl, rfl, rfl, 0, rfl⟩
  · refine text_call w0 g l p' 10 n _ w hI _ p' (text_past w0 w.heap.size (w.heap.size + 1) (w.heap.size + 1 + 1) g l p' 0 n _ c0 c1 (hI.below hW) h1 hp hl hp2 hl2) ?_
    rintro q W' ⟨rfl, m, rfl⟩
    exact .inr ⟨rfl, rfl, rfl, m, rfl⟩
  · refine text_call w0 g l p 0 n _ w hI _ (p + n) (text_ok w0 w.heap.size (w.heap.size + 1) (w.heap.size + 1 + 1) g l p n _ _ c0 c1 c2 c3 (hI.below hW) (by omega) (by omega) h1 hp hl hl2) ?_
    rintro q W' ⟨rfl, a, b, c⟩
    exact .inl ⟨_, rfl, a, b, kb_under hW c (fun k hk => by cases hk; omega)⟩

/-! ### Skip -/
abbrev skipW (w : World) (g : Nat) (n : Int) : World := ((w.alloc (.cells #[.pointer (some ⟨g, 0, none⟩)] 61)).alloc (.cells #[.int .i64 n] 3))
end Go.Proofs.Ytnbkbmhiajfbpaa.Rd
