/- gauge: what this seat needs of the gauge. -/
import Derived.Test.YthgioldoeejjnaaDoorHo
import Derived.Deep.QuietTactic
import Derived.BigQuiet
import Derived.Deep.LoopGhost
namespace Go.Proofs.YthgioldoeejjnaaDoor.Gf
open Go.RowKit Go.Proofs.YthgioldoeejjnaaDoorW.PrintWords Go.Proofs.YthgioldoeejjnaaDoorW.PrintLast
set_option linter.unusedVariables false
set_option linter.unusedSimpArgs false
/-- The best of the first so many. -/
def bestP (l : List Int) : Nat → Nat
  | 0 => 0
  | i + 1 => if 0 < ordS (rd l (i : Int)).toNat (rd l (bestP l i : Nat)).toNat then i else bestP l i
theorem bestP_lt (l : List Int) (i : Nat) : i ≤ l.length → 0 < l.length → bestP l i < l.length := by
  induction i with
  | zero => intro _ h; exact h
  | succ i ih =>
    intro h h0
    rw [bestP]
    split
    · omega
    · exact ih (by omega) h0
theorem rd_mem {l : List Int} {i : Nat} (h : i < l.length) : rd l (i : Int) ∈ l := by
  unfold rd
  rw [Int.toNat_natCast, List.getD_eq_getElem?_getD, List.getElem?_eq_getElem h]
  exact List.getElem_mem h

set_option maxHeartbeats 4000000 in
theorem Best1_call (A : Option Addr) (c : Nat) (l : List Int) (i b : Nat) (S B : Nat) (w : World) (hi : i < l.length) (hb : b < l.length)
    (hS : w.cell? ⟨S, 0, none⟩ = some (.slice A l.length c)) (hB : w.cell? ⟨B, 0, none⟩ = some (.int .i64 b))
    (hC : Kd.C (Kd.int .u64) w A l.length l) (hl : l.length ≤ 140737488355328) (hF : ∀ x ∈ l, (Lit.int .u64 x).wf = true) :
    Calls Tryd.prog 26 #[.int .i64 i, .pointer (some ⟨S, 0, none⟩), .pointer (some ⟨B, 0, none⟩)] w fun e w' => e = .returned (.bool (decide (0 < ordS (rd l (i : Int)).toNat (rd l (b : Int)).toNat))) ∧ Drawn0 w w' := by
  obtain ⟨ad, rfl, hx⟩ := Kd.at_int hC (i : Int) (by omega) (by omega)
  obtain ⟨ad2, e2, hy⟩ := Kd.at_int hC (b : Int) (by omega) (by omega)
  cases e2
  simp only [Int.toNat_natCast] at hx hy
  have W1 := Lib.hid (hF _ (rd_mem hi))
  have W2 := Lib.hid (hF _ (rd_mem hb))
  have hib : decide (i < l.length) = true := decide_eq_true hi
  have hbb : decide (b < l.length) = true := decide_eq_true hb
  clear hC hF
  go_enter Tryd.func26, Tryd.ntmps26
  go_wp2
  go_quiet ((go_at_call 12; exact Calls.quiet_of_same (Order_call _ _ _ W1.out W2.out)))
  go_wp2
  go_ret
  exact ⟨rfl, ⟨⟨_, rfl⟩⟩⟩

/-- What Best's own cells hold: the row's box and the best so far. -/
structure BestI (w W : World) (A : Option Addr) (c : Nat) (l : List Int) (i : Nat) : Prop where
  cs : W.cell? ⟨w.heap.size, 0, none⟩ = some (.slice A l.length c)
  cb : W.cell? ⟨w.heap.size + 1, 0, none⟩ = some (.int .i64 (bestP l i : Nat))
  fb : W.frozen? ⟨w.heap.size + 1, 0, none⟩ = false
  below : Below w.heap.size w W

set_option maxHeartbeats 4000000 in
theorem Best_call (A : Option Addr) (c : Nat) (l : List Int) (w : World) (hC : Kd.C (Kd.int .u64) w A l.length l) (hl : l.length ≤ 140737488355328) (hF : ∀ x ∈ l, (Lit.int .u64 x).wf = true) :
    Calls Tryd.prog 10 #[.slice A l.length c] w fun e w' => e = .returned (.tuple #[.int .i64 (bestP l l.length : Nat), .bool (decide (0 < l.length))]) ∧ Below w.heap.size w w' := by
  have hmf : ∀ (fn : Fn) (first cap : Array Value) (w : World), (Instr.makeFunc fn first cap).run Tryd.prog w = .ok (.func fn first cap) w := fun _ _ _ _ => rfl
  have HC := Lib.hid hC
  have HL := Lib.hid hl
  have HF := Lib.hid hF
  clear hC hl hF
  go_enter Tryd.func10, Tryd.ntmps10
  go_wp2_with (fail)
  go_loopg [10] l.length (fun kq v10 W => ∃ (i : Nat), v10 = .int .i64 i ∧ Aside0 (i + kq = l.length) ∧ Aside0 (BestI w W A c l i))
  case atStart => exact ⟨0, rfl, ⟨by omega⟩, ⟨by go_simp, by go_simp; rfl, by go_simp, below_alloc (below_alloc (Below.refl _ _) _) _⟩⟩
  case round =>
    obtain ⟨i, rfl, hk, hI⟩ := hrel
    have HI := Lib.hid hI.out
    by_cases hi : i < l.length
    · have hib : decide (i < l.length) = true := decide_eq_true hi
      have HI2 := Lib.hid hi
      have hcs := HI.out.cs
      have HBC := Lib.hid (Best1_call A c l i (bestP l i) _ _ _ hi (bestP_lt l i (by omega) (by omega)) HI.out.cs HI.out.cb (Kd.C_below HC.out HI.out.below) HL.out HF.out)
      have hs1 : wrap64 ((i : Int) + 1) = ((i + 1 : Nat) : Int) := by unfold wrap64; have := HL.out; omega
      clear hi hI
      by_cases ho : 0 < ordS (rd l (i : Int)).toNat (rd l (bestP l i : Nat)).toNat
      · have hod : decide (0 < ordS (rd l (i : Int)).toNat (rd l (bestP l i : Nat)).toNat) = true := decide_eq_true ho
        have HO := Lib.hid ho
        have hcb := HI.out.cb
        have hfb := HI.out.fb
        rw [hod] at HBC
        clear ho hod
        go_wp2_with (first | (go_at_call 26; refine HBC.out.mono ?_; rintro e w' ⟨rfl, hd⟩; obtain ⟨nd, rfl⟩ := hd.out; clear hd))
        go_roundg (l.length - (i + 1))
        case measure => have := hk.out; have := HI2.out; omega
        case rel =>
          have hp : bestP l (i + 1) = i := by rw [bestP, if_pos HO.out]
          refine ⟨i + 1, congrArg _ hs1, ⟨by have := HI2.out; omega⟩, ⟨⟨?_, ?_, ?_, ?_⟩⟩⟩
          · go_simp
          · rw [hp]; go_simp
          · go_simp
          · exact (pw_below_drewN HI.out.below nd).setCell (by simp) _
      · have hod : decide (0 < ordS (rd l (i : Int)).toNat (rd l (bestP l i : Nat)).toNat) = false := decide_eq_false ho
        have HO := Lib.hid ho
        rw [hod] at HBC
        clear ho hod
        go_wp2_with (first | (go_at_call 26; refine HBC.out.mono ?_; rintro e w' ⟨rfl, hd⟩; obtain ⟨nd, rfl⟩ := hd.out; clear hd))
        go_roundg (l.length - (i + 1))
        case measure => have := hk.out; have := HI2.out; omega
        case rel =>
          have hp : bestP l (i + 1) = bestP l i := by rw [bestP, if_neg (by have := HO.out; omega)]
          exact ⟨i + 1, congrArg _ hs1, ⟨by have := HI2.out; omega⟩, ⟨⟨by go_simp, by rw [hp]; have := HI.out.cb; go_simp, by have := HI.out.fb; go_simp, pw_below_drewN HI.out.below nd⟩⟩⟩
    · have hib : decide (i < l.length) = false := decide_eq_false hi
      have hil : i = l.length := by have := hk.out; omega
      have hcs := HI.out.cs
      have hcb := HI.out.cb
      have HIL := Lib.hid hil
      clear hi hil hI
      go_wp2
      go_quiet (fail)
      go_wp2
      go_ret2
      exact ⟨by rw [HIL.out]; rfl, pw_below_drewN HI.out.below _⟩
end Go.Proofs.YthgioldoeejjnaaDoor.Gf
