/- The reader where all that is asked is there: plain steps, for the decoders. -/
import Derived.Test.YtdaeanodgnmknaaRdp
import Derived.Test.YtdaeanodgnmknaaWMore
namespace Go.Proofs.Ytdaeanodgnmknaa.Rd
open Go.RowKit Go.Proofs.Ytdaeanodgnmknaa.XRd Go.Proofs.YtdaeanodgnmknaaW.PrintWords Go.Proofs.YtdaeanodgnmknaaW.PrintLast Go.Proofs.YtdaeanodgnmknaaW.PrintMore
set_option linter.unusedVariables false
set_option linter.unusedSimpArgs false

theorem IsRd.grown_ {w0 W W1 : World} {g : Nat} {l : List Int} {p e : Int} {row : Option Nat} (h : IsRd w0 W g l p e) (hg : W.grownBy W1 row) (hr : ∀ k, row = some k → w0.heap.size ≤ k ∧ k ≠ g) : IsRd w0 W1 g l p e := by
  obtain ⟨⟨A, c, hb, h1, h2⟩, h3, h4⟩ := h
  refine ⟨⟨A, c, ?_, h1, h2⟩, h3, h4.grown hg h4.size (fun k hk => (hr k hk).1)⟩
  exact (hg.block g (blk_lt hb) (fun e => (hr g e.symm).2 rfl)).trans hb
theorem IsRd.bel {w0 W : World} {g : Nat} {l : List Int} {p e : Int} (h : IsRd w0 W g l p e) : Below w0.heap.size w0 W := h.2.2
theorem IsRd.drewN_ {w0 W : World} {g : Nat} {l : List Int} {p e : Int} (h : IsRd w0 W g l p e) (n : Nat) : IsRd w0 (W.drewN n) g l p e := h.below (pw_below_drewN (Below.refl _ _) n)
theorem R_keepG {α : Type} {d : Kd α} {e : Nat} {W w1 : World} {base g : Nat} {S : Nat → Prop} {u : Value} {xs : List α} (hu : d.R e W base (fun k => S k ∧ k ≠ g) u xs) (hk : KeepBut W w1 g none) : d.R e w1 base (fun k => S k ∧ k ≠ g) u xs :=
  Kd.R_mono (Kd.R_move (Kd.R_bound hu) (fun k h => hk.2 k h.2.2.1 h.1.2 (by simp))) (fun _ h => h.1)
theorem R_belowG {α : Type} {d : Kd α} {e : Nat} {W w1 : World} {base : Nat} {S : Nat → Prop} {u : Value} {xs : List α} (hu : d.R e W base S u xs) (hk : Below W.heap.size W w1) : d.R e w1 base S u xs :=
  Kd.R_mono (Kd.R_move (Kd.R_bound hu) (fun k h => hk.block k h.2.2.1)) (fun _ h => h.1)
theorem u8_wf {l : List Int} (h : ∀ x ∈ l, 0 ≤ x ∧ x ≤ 255) : ∀ x ∈ l, (Lit.int .u8 x).wf = true := by
  intro x hx
  have := h x hx
  simp [Lit.wf, IntKind.min, IntKind.max, IntKind.bits, IntKind.signed]
  omega

/-- Take, where the bytes are there. -/
theorem Take_ok (w0 : World) (g : Nat) (l : List Int) (p n : Int) (w : World) (hI : IsRd w0 w g l p 0) (hl : l.length ≤ 140737488351232) (hwf : ∀ x ∈ l, 0 ≤ x ∧ x ≤ 255) (hp : 0 ≤ p) (hn : 1 ≤ n) (hn4 : n ≤ 4) (h : p + n ≤ l.length) :
    Calls Try.prog 44 #[.pointer (some ⟨g, 0, none⟩), .int .i64 n] w fun q w' => q = .returned (.int .i64 (le (cutL l p n))) ∧ IsRd w0 w' g l (p + n) 0 ∧ KeepBut w w' g none := by
  have hE : takE l p 0 n = 0 := by unfold takE; rw [if_neg (by decide), if_neg (by omega), if_neg (by omega)]
  refine (Take_spec w0 g l p 0 n w hI hl (u8_wf hwf) hp (by omega) (WalkArith.wf_i64 (by omega))).mono ?_
  rintro q w' ⟨rfl, h1, h2⟩
  rw [hE] at h1
  unfold takV
  rw [hE, if_pos rfl]
  unfold nxP at h1
  rw [if_pos rfl] at h1
  exact ⟨rfl, h1, h2⟩
theorem Skip_ok (w0 : World) (g : Nat) (l : List Int) (p n : Int) (w : World) (hI : IsRd w0 w g l p 0) (hl : l.length ≤ 140737488351232) (hp : 0 ≤ p) (hn : 0 ≤ n) (h : p + n ≤ l.length) :
    Calls Try.prog 55 #[.pointer (some ⟨g, 0, none⟩), .int .i64 n] w fun q w' => q = .returned (.tuple #[]) ∧ IsRd w0 w' g l (p + n) 0 ∧ KeepBut w w' g none := by
  have hE : texE l p 0 n = 0 := by unfold texE; rw [if_neg (by decide), if_neg (by omega), if_neg (by omega)]
  refine (Skip_spec w0 g l p 0 n w hI hl hp (by omega)).mono ?_
  rintro q w' ⟨rfl, h1, h2⟩
  rw [hE] at h1
  unfold nxP at h1
  rw [if_pos rfl] at h1
  exact ⟨rfl, h1, h2⟩

/-- The first so many of an indirect block's addresses. -/
def fanL (l : List Int) (n : Nat) : List Int := (List.range n).map fun (i : Nat) => le (cutL l (2 * (i : Int)) 2)
theorem fanL_next (l : List Int) (i : Nat) : fanL l (i + 1) = fanL l i ++ [le (cutL l (2 * (i : Int)) 2)] := by
  unfold fanL
  rw [List.range_succ, List.map_append]
  rfl
theorem fanL_len (l : List Int) (n : Nat) : (fanL l n).length = n := by unfold fanL; rw [List.length_map, List.length_range]
end Go.Proofs.Ytdaeanodgnmknaa.Rd
