/- GaugeOrders: for all gauges a, b and every row of gauges l: two gauges held against each other (gauge.Order), the best of some (gauge.Best) and how one is printed (gauge.Print) are what the reference tells. Condition: the tables of strconv and math/bits are as the program's text lays them (the card ties them). -/
import Derived.Test.YthgioldoeejjnaaDoorHt
import Derived.Deep.DeepFit
namespace Go.Proofs.YthgioldoeejjnaaDoor.Gf
open Go.RowKit Go.Proofs.YthgioldoeejjnaaDoorW.PrintWords Go.Proofs.YthgioldoeejjnaaDoorW.PrintLast
set_option linter.unusedVariables false
set_option linter.unusedSimpArgs false

theorem Tab.below {w w' : World} (h : Tab w) (hb : Below w.heap.size w w') : Tab w' := by
  unfold Tab Lib.TabIs World.var? at h ⊢
  obtain ⟨g, hg⟩ : ∃ g, Tryd.prog.globalNamed "internal/strconv.uint64pow10" = some g := by
    cases hg : Tryd.prog.globalNamed "internal/strconv.uint64pow10" with
    | none => rw [hg] at h; cases h
    | some g => exact ⟨g, rfl⟩
  rw [hg] at h ⊢
  simp only [Option.bind_some] at h ⊢
  have hlt : g < w.heap.size := by
    rcases Nat.lt_or_ge g w.heap.size with h' | h'
    · exact h'
    · rw [Array.getElem?_eq_none h'] at h; cases h
  rw [hb.block g hlt]
  exact h

set_option maxHeartbeats 4000000 in
theorem GaugeOrders_walk (a b : Int) (A : Option Addr) (c : Nat) (l : List Int) (w : World) (ha : (Lit.int .u64 a).wf = true) (hb : (Lit.int .u64 b).wf = true)
    (hC : Kd.C (Kd.int .u64) w A l.length l) (hc : l.length ≤ c) (hl : l.length * 8 ≤ 140737488351232) (hF : ∀ x ∈ l, (Lit.int .u64 x).wf = true) (ht : Tab w) :
    Calls Tryd.prog 4 #[.int .u64 a, .int .u64 b, .slice A l.length c] w fun e w' => e = .returned (.bool true) ∧ Below w.heap.size w w' := by
  have HC := Lib.hid hC
  have HL := Lib.hid (show l.length ≤ 140737488355328 by omega)
  have HF := Lib.hid hF
  have HA := Lib.hid ha
  have HAB := Lib.hid hb
  have HG := Lib.hid (show 0 ≤ a ∧ a.toNat < 18446744073709551616 by have := u64_bd ha; omega)
  have HT := Lib.hid ht
  have HB := Lib.hid (Below.refl w.heap.size w)
  clear hC hc hl hF ha hb ht
  go_enter Tryd.func4, Tryd.ntmps4
  go_wp2_with (first
    | (go_at_call 10; refine (Best_call A c l _ (Kd.C_below HC.out HB.out) HL.out HF.out).mono ?_; rintro e w1 ⟨rfl, hb1⟩; have n0_ := Lib.hid (below_then HB.out HB.out.size hb1); clear HB hb1; have HB := n0_; clear n0_)
    | (go_at_call 11; refine (BestR_call A c l _ (Kd.C_below HC.out HB.out) HL.out HF.out).mono ?_; rintro e w2 ⟨rfl, rfl⟩)
    | (go_at_call 12; refine (Order_call _ _ _ HA.out HAB.out).mono ?_; rintro e w2 ⟨rfl, rfl⟩)
    | (go_at_call 13; refine (OrderR_call _ _ _ HA.out HAB.out).mono ?_; rintro e w2 ⟨rfl, rfl⟩)
    | (go_at_call 9; refine (Print_call _ _ HG.out.2 (HT.out.below HB.out)).mono ?_; rintro e w2 ⟨rfl, hb1⟩; have n0_ := Lib.hid (below_then HB.out HB.out.size hb1); clear HB hb1; have HB := n0_; clear n0_)
    | (go_at_call 14; refine (PrintR_call _ _ HG.out.1 HG.out.2).mono ?_; rintro e w3 ⟨rfl, hb1⟩; have n0_ := Lib.hid (below_then HB.out HB.out.size hb1); clear HB hb1; have HB := n0_; clear n0_))
  go_ret
  exact ⟨rfl, HB.out⟩
end Go.Proofs.YthgioldoeejjnaaDoor.Gf
