/- Written by a program of this session. copy of a row into a cut of an own row of bytes. -/
import Derived.Laws.CopyRow
import Derived.Test.YtijgfcpffjjlfaaQt
namespace Go.Proofs.Ytijgfcpffjjlfaa.Ca
open Go Go.RowKit Go.Proofs.YtijgfcpffjjlfaaW.PrintWords Go.Proofs.YtijgfcpffjjlfaaW.PrintLast Go.Proofs.YtijgfcpffjjlfaaW.PrintMore
set_option linter.unusedVariables false
set_option linter.unusedSimpArgs false
theorem dirs_spliceTake {α : Type} (L : List α) (B : List α) (o n : Nat) (h : o + B.length ≤ n) (hn : n ≤ L.length) : (L.take o ++ B ++ L.drop (o + B.length)).take n = (L.take n).take o ++ B ++ (L.take n).drop (o + B.length) := by
  rw [List.take_take, Nat.min_eq_left (by omega), List.drop_take]
  rw [List.take_append, List.take_of_length_le (by rw [List.length_append, List.length_take]; omega), List.length_append, List.length_take, Nat.min_eq_left (by omega)]
theorem dirs_copyAt (W : World) (base g cap o : Nat) (ad : Addr) (c : Nat) (xs ys : List Int) (ok : Nat → Prop) (hR : Kd.R (Kd.int .u8) 5 W base ok (.slice (some ⟨g, 0, none⟩) xs.length cap) xs) (hY : Kd.C (Kd.int .u8) W (some ad) ys.length ys) (ho : o + ys.length ≤ xs.length) (hp : 0 < ys.length) :
    ∃ W', (∀ ty, (Builtin.copy_ #[26, 26] ty #[.slice (some ⟨g, o, none⟩) (xs.length - o) (cap - o), .slice (some ad) ys.length c]).run Try.prog W = .ok (goInt ys.length) W') ∧
      Kd.R (Kd.int .u8) 5 W' base ok (.slice (some ⟨g, 0, none⟩) xs.length cap) (xs.take o ++ ys ++ xs.drop (o + ys.length)) ∧ W.grownBy W' (some g) := by
  have hown := Kd.own_of_R hR
  rcases hown.2 with ⟨hv, _⟩ | ⟨g', cap', cur, hv, hb, hh, hnc, hcm, hcs, htake⟩
  · cases hv
  · injection hv with h1 _ h2
    injection h1 with h1
    injection h1 with h1
    subst h1; subst h2
    rw [Nat.mul_one] at hcs htake
    have hY' : ReadsOf (Value.int .u8) 0 W (some ad) ys.length ys := Kd.reads_of_C hY
    obtain ⟨ad', e, hc⟩ := hY'.2.2 hp
    injection e with e
    subst e
    have hsz : cur.toList.length = cap := by simp [hcs]
    refine ⟨W.setRow g (cur.toList.take o ++ encs (Value.int .u8) ys ++ cur.toList.drop (o + (encs (Value.int .u8) ys).length)).toArray, fun ty => ?_, ?_, ?_⟩
    · have h := run_copy_row (P := Try.prog) W 26 26 ty 5 g o (xs.length - o) (cap - o) ad ys.length c cur 5 (encs (Value.int .u8) ys) Try.underlying26 (by kernel_rfl) hh
        (by rw [encs_length]; show ys.length = min ys.length (xs.length - o); omega)
        (fun j v hj => by
          have hlt : j < ys.length := by have := (List.getElem?_eq_some_iff.1 hj).1; rwa [encs_length] at this
          have hj2 : (encs (Value.int .u8) ys)[j]? = some (Value.int .u8 (ys.getD j 0)) := encs_get ys j hlt
          rw [hj] at hj2
          injection hj2 with hj2
          rw [hj2]; exact hc j hlt)
        (by rw [encs_length]; omega)
        (fun v hv => by
          obtain ⟨x, _, rfl⟩ := List.mem_map.1 hv
          rfl)
      rw [encs_length] at h ⊢
      exact h
    · have hl2 : (xs.take o ++ ys ++ xs.drop (o + ys.length)).length = xs.length := by simp; omega
      refine Kd.R_of_own (h1 := fun _ => rfl) ⟨?_, .inr ⟨g, cap, _, by rw [hl2], hb, setRow_heap W g cur _ _ _ hh, by omega, hcm, ?_, ?_⟩⟩ hR.1
      · rw [encs_length, Nat.mul_one]
      · simp only [List.size_toArray, List.length_append, List.length_take, List.length_drop, encs_length, Array.length_toList]; omega
      · rw [Nat.mul_one, List.toList_toArray]
        rw [hl2, dirs_spliceTake _ _ _ _ (by rw [encs_length]; omega) (by omega), htake]
        simp [encs, List.map_take, List.map_drop]
    · exact ⟨rfl, rfl, rfl, by simp [World.setRow], fun k _ hk => setRow_other W g k _ (fun e => hk (by rw [e]))⟩
end Go.Proofs.Ytijgfcpffjjlfaa.Ca
