/- WordNobody: for every number n: nil and a reader of noughts read nothing, have nothing left and have the error ErrNil; a reader of two bytes reads them. Conditions: none beyond those of the row. -/
import Derived.Test.YtjageihjjmfhgaaRdo
import Derived.Deep.LoopGhost

namespace Go.Proofs.Ytjageihjjmfhgaa.Rd
open Go.RowKit Go.Proofs.Ytjageihjjmfhgaa.XRd Go.Proofs.YtjageihjjmfhgaaW.PrintWords Go.Proofs.YtjageihjjmfhgaaW.PrintLast
set_option linter.unusedVariables false
set_option linter.unusedSimpArgs false

theorem below_size_ {B : Nat} {w w1 : World} (h : Below B w w1) (hB : B ≤ w.heap.size := by exact Nat.le_refl _) : B ≤ w1.heap.size := Nat.le_trans hB h.size

set_option maxHeartbeats 4000000 in
/-- The law WordNobody, walked. -/
theorem WordNobody_walk (n : Int) (w : World) (hn : (Lit.int .i64 n).wf = true) :
    Calls Try.prog 7 #[.int .i64 n] w fun e w' => e = .returned (.bool true) ∧ Below w.heap.size w w' := by
  obtain ⟨V, hV⟩ : ∃ V, V = (w.alloc (.cells #[.slice none 0 0, .int .i64 0, .int .i64 0, .bool false] 38)).alloc (.cells #[.pointer none, .pointer (some ⟨w.heap.size, 0, none⟩)] 36) := ⟨_, rfl⟩
  have hVB : Below w.heap.size w V := by rw [hV]; exact below_alloc (below_alloc (Below.refl _ _) _) _
  have hblk : V.heap[w.heap.size + 1]? = some (.cells #[.pointer none, .pointer (some ⟨w.heap.size, 0, none⟩)] 36 (0, 0)) := by rw [hV]; simp only [heap_alloc, World.size_alloc]; rw [if_pos trivial]
  have hN1 : Nob V (some ⟨w.heap.size, 0, none⟩) := .inr ⟨_, rfl, by rw [hV]; simp only [heap_alloc, World.size_alloc]; rw [if_neg (by omega), if_pos trivial]⟩
  have hN0 : Nob V none := .inl rfl
  have hE : ∀ (a b : Int) (W : World), (binOp .neq 3 (.int .i64 a) (.int .i64 b)).run Try.prog W = .ok (.bool (a != b)) W := fun _ _ _ => rfl
  clear hn
  go_enter Try.func7, Try.ntmps7
  go_wp2_with (fail)
  rw [← hV]
  have HVB := Lib.hid hVB
  have HN0 := Lib.hid hN0
  have HN1 := Lib.hid hN1
  have HBLK := Lib.hid hblk
  clear hV hVB hN0 hN1 hblk
  go_loopg [10] 2 (fun kq v10 w' => ∃ i : Nat, v10 = .int .i64 i ∧ Aside0 (i + kq = 2) ∧ Aside0 (Below V.heap.size V w'))
  case atStart => exact ⟨0, rfl, ⟨rfl⟩, ⟨Below.refl _ _⟩⟩
  case round =>
    obtain ⟨i, rfl, hk, hB⟩ := hrel
    have hi : i = 0 ∨ i = 1 ∨ i = 2 := by have := hk.out; omega
    have hc0 : wr.cell? ⟨w.heap.size + 1, 0, none⟩ = some (.pointer none) := pw_cell_below hB.out ((blk_cell HBLK.out 0).trans rfl)
    have hc1 : wr.cell? ⟨w.heap.size + 1, 1, none⟩ = some (.pointer (some ⟨w.heap.size, 0, none⟩)) := pw_cell_below hB.out ((blk_cell HBLK.out 1).trans rfl)
    have HB0 := Lib.hid hB.out
    clear hB
    rcases hi with rfl | rfl | rfl
    · go_wp2_with (first
        | (go_at_call 21; refine (Skip_nobody _ n _ (Nob.below HN0.out (by repeat (first | exact HB0.out | apply below_alloc | apply pw_below_drewN | apply below_drew1)))).mono ?_; rintro e w1 ⟨rfl, hb1⟩; have n0_ := Lib.hid (below_then (B := V.heap.size) (by repeat (first | exact HB0.out | apply below_alloc | apply pw_below_drewN | apply below_drew1)) (by exact (below_size_ (by repeat (first | exact HB0.out | apply below_alloc | apply pw_below_drewN | apply below_drew1)))) hb1); clear HB0 hb1; have HB0 := n0_; clear n0_)
        | (go_at_call 22; refine (Take_nobody _ n _ (Nob.below HN0.out (by repeat (first | exact HB0.out | apply below_alloc | apply pw_below_drewN | apply below_drew1)))).mono ?_; rintro e w1 ⟨rfl, hb1⟩; have n0_ := Lib.hid (below_then (B := V.heap.size) (by repeat (first | exact HB0.out | apply below_alloc | apply pw_below_drewN | apply below_drew1)) (by exact (below_size_ (by repeat (first | exact HB0.out | apply below_alloc | apply pw_below_drewN | apply below_drew1)))) hb1); clear HB0 hb1; have HB0 := n0_; clear n0_)
        | (go_at_call 23; refine (Text_nobody _ n _ (Nob.below HN0.out (by repeat (first | exact HB0.out | apply below_alloc | apply pw_below_drewN | apply below_drew1)))).mono ?_; rintro e w1 ⟨rfl, hb1⟩; have n0_ := Lib.hid (below_then (B := V.heap.size) (by repeat (first | exact HB0.out | apply below_alloc | apply pw_below_drewN | apply below_drew1)) (by exact (below_size_ (by repeat (first | exact HB0.out | apply below_alloc | apply pw_below_drewN | apply below_drew1)))) hb1); clear HB0 hb1; have HB0 := n0_; clear n0_)
        | (go_at_call 24; refine (Left_nobody _ _ (Nob.below HN0.out (by repeat (first | exact HB0.out | apply below_alloc | apply pw_below_drewN | apply below_drew1)))).mono ?_; rintro e w1 ⟨rfl, hb1⟩; have n0_ := Lib.hid (below_then (B := V.heap.size) (by repeat (first | exact HB0.out | apply below_alloc | apply pw_below_drewN | apply below_drew1)) (by exact (below_size_ (by repeat (first | exact HB0.out | apply below_alloc | apply pw_below_drewN | apply below_drew1)))) hb1); clear HB0 hb1; have HB0 := n0_; clear n0_)
        | (go_at_call 25; refine (Err_nobody _ _ (Nob.below HN0.out (by repeat (first | exact HB0.out | apply below_alloc | apply pw_below_drewN | apply below_drew1)))).mono ?_; rintro e w1 ⟨rfl, hb1⟩; have n0_ := Lib.hid (below_then (B := V.heap.size) (by repeat (first | exact HB0.out | apply below_alloc | apply pw_below_drewN | apply below_drew1)) (by exact (below_size_ (by repeat (first | exact HB0.out | apply below_alloc | apply pw_below_drewN | apply below_drew1)))) hb1); clear HB0 hb1; have HB0 := n0_; clear n0_))
      go_roundg 1
      case measure => have := hk.out; omega
      case rel => exact ⟨1, rfl, ⟨rfl⟩, ⟨HB0.out⟩⟩
    · go_wp2_with (first
        | (go_at_call 21; refine (Skip_nobody _ n _ (Nob.below HN1.out (by repeat (first | exact HB0.out | apply below_alloc | apply pw_below_drewN | apply below_drew1)))).mono ?_; rintro e w1 ⟨rfl, hb1⟩; have n0_ := Lib.hid (below_then (B := V.heap.size) (by repeat (first | exact HB0.out | apply below_alloc | apply pw_below_drewN | apply below_drew1)) (by exact (below_size_ (by repeat (first | exact HB0.out | apply below_alloc | apply pw_below_drewN | apply below_drew1)))) hb1); clear HB0 hb1; have HB0 := n0_; clear n0_)
        | (go_at_call 22; refine (Take_nobody _ n _ (Nob.below HN1.out (by repeat (first | exact HB0.out | apply below_alloc | apply pw_below_drewN | apply below_drew1)))).mono ?_; rintro e w1 ⟨rfl, hb1⟩; have n0_ := Lib.hid (below_then (B := V.heap.size) (by repeat (first | exact HB0.out | apply below_alloc | apply pw_below_drewN | apply below_drew1)) (by exact (below_size_ (by repeat (first | exact HB0.out | apply below_alloc | apply pw_below_drewN | apply below_drew1)))) hb1); clear HB0 hb1; have HB0 := n0_; clear n0_)
        | (go_at_call 23; refine (Text_nobody _ n _ (Nob.below HN1.out (by repeat (first | exact HB0.out | apply below_alloc | apply pw_below_drewN | apply below_drew1)))).mono ?_; rintro e w1 ⟨rfl, hb1⟩; have n0_ := Lib.hid (below_then (B := V.heap.size) (by repeat (first | exact HB0.out | apply below_alloc | apply pw_below_drewN | apply below_drew1)) (by exact (below_size_ (by repeat (first | exact HB0.out | apply below_alloc | apply pw_below_drewN | apply below_drew1)))) hb1); clear HB0 hb1; have HB0 := n0_; clear n0_)
        | (go_at_call 24; refine (Left_nobody _ _ (Nob.below HN1.out (by repeat (first | exact HB0.out | apply below_alloc | apply pw_below_drewN | apply below_drew1)))).mono ?_; rintro e w1 ⟨rfl, hb1⟩; have n0_ := Lib.hid (below_then (B := V.heap.size) (by repeat (first | exact HB0.out | apply below_alloc | apply pw_below_drewN | apply below_drew1)) (by exact (below_size_ (by repeat (first | exact HB0.out | apply below_alloc | apply pw_below_drewN | apply below_drew1)))) hb1); clear HB0 hb1; have HB0 := n0_; clear n0_)
        | (go_at_call 25; refine (Err_nobody _ _ (Nob.below HN1.out (by repeat (first | exact HB0.out | apply below_alloc | apply pw_below_drewN | apply below_drew1)))).mono ?_; rintro e w1 ⟨rfl, hb1⟩; have n0_ := Lib.hid (below_then (B := V.heap.size) (by repeat (first | exact HB0.out | apply below_alloc | apply pw_below_drewN | apply below_drew1)) (by exact (below_size_ (by repeat (first | exact HB0.out | apply below_alloc | apply pw_below_drewN | apply below_drew1)))) hb1); clear HB0 hb1; have HB0 := n0_; clear n0_))
      go_roundg 0
      case measure => have := hk.out; omega
      case rel => exact ⟨2, rfl, ⟨rfl⟩, ⟨HB0.out⟩⟩
    · have hgu : word_Get.f 5 [1, 2] 0 2 = some (513, 0) := by decide +kernel
      go_wp2_with (first
        | (go_at_call 26; refine (Over_call (some ⟨wr.heap.size, 0, none⟩) 2 [1, 2] _ (Kd.C_of_reads (d := (0 : Int)) (enc := Value.int .u8) (h1 := fun _ => rfl) ⟨rfl, by decide, fun _ => ⟨_, rfl, fun j hj => by
              have hb2 : (wr.alloc (.cells #[.int .u8 1, .int .u8 2] 5)).heap[wr.heap.size]? = some (.cells #[.int .u8 1, .int .u8 2] 5 (0, 0)) := by rw [heap_alloc, if_pos rfl]
              have : j = 0 ∨ j = 1 := by simp only [List.length_cons, List.length_nil] at hj; omega
              rcases this with rfl | rfl
              · exact (blk_cell hb2 0).trans rfl
              · exact (blk_cell hb2 1).trans rfl⟩⟩) (by decide)).mono ?_; rintro e w1 ⟨W1, g, rfl, hI, hb1, hs1⟩; have HI := Lib.hid hI; have n0_ := Lib.hid (below_then (B := V.heap.size) (w1 := W1) (below_then (B := V.heap.size) (w1 := wr.alloc (.cells #[.int .u8 1, .int .u8 2] 5)) (below_alloc HB0.out _) (below_size_ (below_alloc HB0.out _)) hb1) (Nat.le_trans (below_size_ (below_alloc HB0.out (.cells #[.int .u8 1, .int .u8 2] 5))) hs1) (Below.refl _ _)); have HS := Lib.hid (Nat.le_trans (below_size_ (below_alloc HB0.out (.cells #[.int .u8 1, .int .u8 2] 5))) hs1); clear hI hb1 hs1 HB0; have HB0 := n0_; clear n0_)
        | (go_at_call 22; refine (Take_run W1 g [1, 2] 0 2 513 2 0 _ 5 HI.out (by decide) (by decide) (by decide) (.inr (.inr ⟨by decide, by decide, by decide, rfl, rfl, 0, hgu⟩))).mono ?_; rintro e w2 ⟨rfl, hI, _⟩; clear HI; have HI := Lib.hid hI; clear hI)
        | (go_at_call 25; refine (Err_call W1 g [1, 2] 2 0 _ (HI.out.below (by repeat (first | exact Below.refl _ _ | apply below_alloc | apply pw_below_drewN | apply below_drew1)))).mono ?_; rintro e w3 ⟨rfl, m, rfl⟩))
      go_ret
      exact ⟨rfl, below_then (B := w.heap.size) HVB.out HVB.out.size (below_then (B := V.heap.size) HB0.out HS.out (by repeat (first | exact HI.out.2.2 | apply below_alloc | apply pw_below_drewN | apply below_drew1)))⟩
end Go.Proofs.Ytjageihjjmfhgaa.Rd
