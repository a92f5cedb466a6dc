/- LayoutBack, with the structs' cells as arguments have them. -/
import Derived.Test.YtdaeanodgnmknaaBl
namespace Go.Proofs.Ytdaeanodgnmknaa.Bi
open Go.RowKit Go.Proofs.Ytdaeanodgnmknaa.Rd Go.Proofs.Ytdaeanodgnmknaa.XLayoutBack Go.Proofs.YtdaeanodgnmknaaW.PrintWords Go.Proofs.YtdaeanodgnmknaaW.PrintLast Go.Proofs.YtdaeanodgnmknaaW.PrintMore
set_option linter.unusedVariables false
set_option linter.unusedSimpArgs false
theorem dn_open {w : World} {x : Int × Int × Int × List Int × Int × Int} {cs : Array Value} (hK : (Kd.pair (Kd.int .i64) (Kd.pair (Kd.int .i64) (Kd.pair (Kd.int .i64) (Kd.pair (Kd.arr 4 (Kd.int .i64) (by decide)) (Kd.pair (Kd.int .i64) (Kd.int .i64)))))).K w x cs.toList) : ∃ m l s : Int, ∃ ds : Int × Int × Int × Int, ∃ u v : Int, cs = dn m l s ds.1 ds.2.1 ds.2.2.1 ds.2.2.2 u v := by
  obtain ⟨m, l, s, ds, u, v⟩ := x
  obtain ⟨_, _, h0, h1, _, _, rfl, h2, _, _, rfl, h3, _, _, rfl, h4, _, _, rfl, h5, h6⟩ := hK
  obtain ⟨k1, rfl⟩ := Kd.arr_cells (enc := Value.int .i64) (h1 := fun _ => rfl) h4
  obtain rfl := h1
  obtain rfl := h2
  obtain rfl := h3
  obtain rfl := h5
  obtain rfl := h6
  match ds, k1 with
  | [a, b, c, d], _ => exact ⟨m, l, s, (a, b, c, d), u, v, Array.toList_inj.1 (by rw [h0]; rfl)⟩
theorem LayoutBack_row (e0 e1 e2 e3 : Int) (xg : Int × List Int × List Int) (cg : Array Value) (xd : Int × Int × Int × List Int × Int × Int) (cd : Array Value) (ino : Int) (nm : ByteArray) (w : World)
    (hKg : (Kd.pair (Kd.int .i64) (Kd.pair (Kd.arr 8 (Kd.int .u8) (by decide)) (Kd.arr 32 (Kd.int .u8) (by decide)))).K w xg cg.toList) (hFg : (Lit.int .i64 xg.1).wf = true ∧ (xg.2.1.length = 8 ∧ ∀ y ∈ xg.2.1, (Lit.int .u8 y).wf = true) ∧ (xg.2.2.length = 32 ∧ ∀ y ∈ xg.2.2, (Lit.int .u8 y).wf = true))
    (hKd : (Kd.pair (Kd.int .i64) (Kd.pair (Kd.int .i64) (Kd.pair (Kd.int .i64) (Kd.pair (Kd.arr 4 (Kd.int .i64) (by decide)) (Kd.pair (Kd.int .i64) (Kd.int .i64)))))).K w xd cd.toList) (hs : nm.size ≤ maxLen) :
    Calls Try.prog 9 #[.agg #[.int .i64 e0, .int .i64 e1, .int .i64 e2, .int .i64 e3], .agg cg, .agg cd, .agg #[.int .i64 ino, .string nm]] w fun e w' => e = .returned (.bool true) ∧ Below w.heap.size w w' := by
  obtain ⟨n, is, bs⟩ := xg
  obtain ⟨_, _, h0, h1, _, _, rfl, h2, h3⟩ := hKg
  obtain ⟨k1, rfl⟩ := Kd.arr_cells (enc := Value.int .u8) (h1 := fun _ => rfl) h2
  obtain ⟨k2, rfl⟩ := Kd.arr_cells (enc := Value.int .u8) (h1 := fun _ => rfl) h3
  obtain rfl := h1
  obtain rfl : cg = Gw.grp n is bs := Array.toList_inj.1 (by rw [h0]; simp [Gw.grp, encs])
  obtain ⟨m, l, s, ds, u, v, rfl⟩ := dn_open hKd
  exact LayoutBack_walk e0 e1 e2 e3 n is bs m l s _ _ _ _ u v ino nm w k1 k2 hFg.2.1.2 hFg.2.2.2 hs
end Go.Proofs.Ytdaeanodgnmknaa.Bi
