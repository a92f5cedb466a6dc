/- Structures are read as they were written: the plain part of LayoutBack. -/
import Derived.Test.YtdaeanodgnmknaaBg
import Derived.Test.YtdaeanodgnmknaaBd
namespace Go.Proofs.Ytdaeanodgnmknaa.Bi
open Go.RowKit Go.Proofs.Ytdaeanodgnmknaa.Rd Go.Proofs.Ytdaeanodgnmknaa.XLayoutBack Go.Proofs.YtdaeanodgnmknaaW.PrintWords Go.Proofs.YtdaeanodgnmknaaW.PrintLast Go.Proofs.YtdaeanodgnmknaaW.PrintMore
set_option linter.unusedVariables false
set_option linter.unusedSimpArgs false
theorem seal_len {l : List Int} (h : 4 ≤ l.length) : (sealS l).1 = l.take (l.length - 4) ++ leb 4 (sumS (l.take (l.length - 4))) ∧ (sealS l).2 = 0 ∧ sealedS (sealS l).1 = true := by
  have e : sealS l = (putL 4 l (l.length - 4) (sumS (l.take (l.length - 4))), 0) := by unfold sealS; rw [if_neg (by omega)]
  refine ⟨?_, by rw [e], by rw [e]; exact sealed_seal l h _ rfl⟩
  rw [e]
  show putL 4 l (l.length - 4) _ = _
  rw [putL_eq _ _ _ _ (by omega), List.drop_eq_nil_of_le (by omega), List.append_nil]
theorem sup_back {g b i m : Int} {x : List Int} (hx : encS g b i m = (x, 0)) : decS x = (g, b, i, m, 0) := by
  have hx0 := hx
  unfold encS at hx
  split at hx
  · next h =>
    obtain ⟨hm, hm0, hm1⟩ := h
    have hb := mayG_bd hm
    obtain ⟨e1, e2, e3⟩ := seal_len (l := supL g b i m) (by rw [supL_len]; omega)
    rw [hx] at e1 e3
    dsimp only at e1 e3
    rw [supL_len] at e1
    obtain ⟨S, hS⟩ : ∃ S, S = sumS ((supL g b i m).take (128 - 4)) := ⟨_, rfl⟩
    rw [← hS] at e1
    have e4 : x = [98, 111, 108, 108] ++ leb 1 g ++ leb 1 (b - 1) ++ leb 1 i ++ leb 1 0 ++ leb 4 m ++ List.replicate 112 0 ++ leb 4 S := e1
    have hl : x.length = 128 := by rw [e4]; simp only [List.length_append, leb_length, List.length_replicate, List.length_cons, List.length_nil]
    have c1 : le (cutL x 4 1) = g := by rw [e4]; exact le_leb 1 g (by omega) (by simp; omega)
    have c2 : le (cutL x 5 1) = b - 1 := by rw [e4]; exact le_leb 1 (b - 1) (by omega) (by simp; omega)
    have c3 : le (cutL x 6 1) = i := by rw [e4]; exact le_leb 1 i (by omega) (by simp; omega)
    have c4 : le (cutL x 8 4) = m := by rw [e4]; exact le_leb 4 m (by omega) (by simp; omega)
    have c5 : x.take 4 = [98, 111, 108, 108] := by rw [e4]; rfl
    have c6 : (strOfNums ([98, 111, 108, 108] : List Int)).toList = ([98, 111, 108, 108] : List UInt8) := by rw [ByteArray.toList_eq]; rfl
    unfold decS
    rw [if_pos hl, c5, if_pos c6, if_pos e3, c1, c2, c3, c4, show wrap64 (b - 1 + 1) = b by unfold wrap64; omega, hx0, if_pos rfl, if_pos (beq_self_eq_true _)]
  · next h =>
    have h3 := congrArg Prod.snd hx
    dsimp only at h3
    omega
theorem grp_back {n : Int} {is bs x : List Int} (h1 : is.length = 8) (h2 : bs.length = 32) (hx : Gw.encG n is bs = (x, 0)) : Gw.decG x = ((n, is, bs), 0) := by
  have hx0 := hx
  unfold Gw.encG at hx
  split at hx
  · next h =>
    have e : x = Gw.grpL n is bs := (congrArg Prod.fst hx).symm
    have hl : (x.length : Int) = 128 := by rw [e]; unfold Gw.grpL; simp only [List.length_append, List.length_replicate, List.length_cons, List.length_nil, h1, h2]; rfl
    have c0 : x.take 2 = [104, 100] := by rw [e]; unfold Gw.grpL; rfl
    have c1 : rd x 2 = n := by rw [e]; unfold Gw.grpL; rfl
    have e2 : x = ([104, 100] ++ [n, 0]) ++ (is ++ (bs ++ List.replicate 84 0)) := by rw [e]; unfold Gw.grpL; simp only [List.append_assoc]
    have c2 : (x.take 12).drop 4 = is := by
      rw [e2, List.take_append, List.drop_append]
      have : ([104, 100] ++ [n, 0] : List Int).length = 4 := rfl
      rw [this, List.take_of_length_le (by simp), List.drop_eq_nil_of_le (by simp), List.nil_append, show 12 - 4 = 8 from rfl, List.take_append, h1, List.take_of_length_le (by omega)]
      simp [this]
    have c3 : (x.take 44).drop 12 = bs := by
      have e3 : x = ([104, 100] ++ [n, 0] ++ is) ++ (bs ++ List.replicate 84 0) := by rw [e2]; simp only [List.append_assoc]
      have h12 : ([104, 100] ++ [n, 0] ++ is : List Int).length = 12 := by rw [List.length_append, h1]; rfl
      rw [e3, List.take_append, List.drop_append, h12, List.take_of_length_le (by omega), List.drop_eq_nil_of_le (by omega), List.nil_append, show 44 - 12 = 32 from rfl, List.take_append, h2, List.take_of_length_le (by omega)]
      simp [h12, h1]
    have c6 : (strOfNums ([104, 100] : List Int)).toList = ([104, 100] : List UInt8) := by rw [ByteArray.toList_eq]; rfl
    unfold Gw.decG
    rw [if_pos hl, c0, if_pos c6, c1, c2, c3, hx0, if_pos rfl, if_pos rfl]
  · next h =>
    have h3 := congrArg Prod.snd hx
    dsimp only at h3
    omega
theorem din_back {m l s a b c d u v : Int} {x : List Int} (hx : encD m l s a b c d u v = (x, 0)) : decD x = ((m, l, s, a, b, c, d, u, v), 0) := by
  have hx0 := hx
  unfold encD at hx
  by_cases hok : okD m l s a b c d u v = true
  · rw [if_pos hok] at hx
    have hr := okD_rng hok
    by_cases hm : m = 0
    · rw [if_pos hm] at hx
      have e : x = List.replicate 32 0 := (congrArg Prod.fst hx).symm
      have hz : zerosB x = true := by rw [e]; rfl
      have hl : (x.length : Int) = 32 := by rw [e]; rfl
      unfold decD
      rw [if_pos hl, if_pos hz]
      unfold okD mayD at hok
      rw [if_pos hm, Bool.and_eq_true] at hok
      have h := hok.1
      unfold zeroD at h
      simp only [Bool.and_eq_true, beq_iff_eq] at h
      obtain ⟨rfl, rfl, rfl, ⟨rfl, rfl, rfl, rfl⟩, rfl, rfl⟩ := h
      rfl
    · rw [if_neg hm] at hx
      obtain ⟨e1, e2, e3⟩ := seal_len (l := dinL m l s a b c d u v) (by rw [dinL_len]; omega)
      rw [hx] at e1 e3
      dsimp only at e1 e3
      rw [dinL_len] at e1
      obtain ⟨S, hS⟩ : ∃ S, S = sumS ((dinL m l s a b c d u v).take (32 - 4)) := ⟨_, rfl⟩
      rw [← hS] at e1
      have e4 : x = leb 1 m ++ leb 1 0 ++ leb 2 l ++ leb 4 s ++ leb 2 a ++ leb 2 b ++ leb 2 c ++ leb 2 d ++ leb 2 u ++ leb 2 v ++ List.replicate 8 0 ++ leb 4 S := e1
      have hl : (x.length : Int) = 32 := by rw [e4]; simp only [List.length_append, leb_length, List.length_replicate]; rfl
      have hz : ¬ zerosB x = true := by
        rw [zerosB_iff]
        intro h
        have h0 : x[0]? = some 0 := by rw [h]; exact List.getElem?_replicate_of_lt (by omega)
        rw [e4] at h0
        have h1 : m % 256 = 0 := Option.some.inj h0
        omega
      have hrd : readD x = (m, l, s, a, b, c, d, u, v) := by
        unfold readD
        rw [show le (cutL x 0 1) = m by rw [e4]; exact le_leb 1 m (by omega) (by simp; omega), show le (cutL x 2 2) = l by rw [e4]; exact le_leb 2 l (by omega) (by simp; omega), show le (cutL x 4 4) = s by rw [e4]; exact le_leb 4 s (by omega) (by simp; omega),
          show le (cutL x 8 2) = a by rw [e4]; exact le_leb 2 a (by omega) (by simp; omega), show le (cutL x 10 2) = b by rw [e4]; exact le_leb 2 b (by omega) (by simp; omega), show le (cutL x 12 2) = c by rw [e4]; exact le_leb 2 c (by omega) (by simp; omega),
          show le (cutL x 14 2) = d by rw [e4]; exact le_leb 2 d (by omega) (by simp; omega), show le (cutL x 16 2) = u by rw [e4]; exact le_leb 2 u (by omega) (by simp; omega), show le (cutL x 18 2) = v by rw [e4]; exact le_leb 2 v (by omega) (by simp; omega)]
      have het : encT (readD x) = (x, 0) := by rw [hrd]; exact hx0
      unfold decD
      rw [if_pos hl, if_neg hz, if_pos e3, het, if_pos rfl, if_pos rfl, hrd]
  · rw [if_neg hok] at hx
    have h3 := congrArg Prod.snd hx
    dsimp only at h3
    omega
theorem putL_u8 (w : Nat) : ∀ (x : List Int) (a : Nat) (n : Int), (∀ y ∈ x, (Lit.int .u8 y).wf = true) → ∀ y ∈ putL w x a n, (Lit.int .u8 y).wf = true := by
  induction w with
  | zero => intro x a n h; exact h
  | succ w ih =>
    intro x a n h
    simp only [putL]
    refine ih _ _ _ ?_
    intro y hy
    rcases List.mem_or_eq_of_mem_set hy with hy | rfl
    · exact h y hy
    · simp [Lit.wf, IntKind.min, IntKind.max, IntKind.bits, IntKind.signed]; omega
theorem sealS_u8 {l : List Int} (h : ∀ x ∈ l, (Lit.int .u8 x).wf = true) : ∀ x ∈ (sealS l).1, (Lit.int .u8 x).wf = true := by
  unfold sealS
  split
  · intro x hx; cases hx
  · exact putL_u8 4 l _ _ h
theorem encS_u8 (g b i m : Int) : ∀ x ∈ (encS g b i m).1, (Lit.int .u8 x).wf = true := by
  unfold encS
  split
  · exact sealS_u8 (supL_u8 g b i m)
  · intro x hx; cases hx
theorem encD_u8 (m l s a b c d u v : Int) : ∀ x ∈ (encD m l s a b c d u v).1, (Lit.int .u8 x).wf = true := by
  unfold encD
  split
  · split
    · intro x hx; rw [List.eq_of_mem_replicate hx]; decide
    · exact sealS_u8 (dinL_u8 m l s a b c d u v)
  · intro x hx; cases hx
theorem u8_of {x : Int} (h : 0 ≤ x ∧ x ≤ 255) : (Lit.int .u8 x).wf = true := by
  simp [Lit.wf, IntKind.min, IntKind.max, IntKind.bits, IntKind.signed]; omega
theorem encG_u8 (n : Int) {is bs : List Int} (h1 : ∀ x ∈ is, (Lit.int .u8 x).wf = true) (h2 : ∀ x ∈ bs, (Lit.int .u8 x).wf = true) : ∀ x ∈ (Gw.encG n is bs).1, (Lit.int .u8 x).wf = true := by
  unfold Gw.encG
  split
  · next h =>
    intro x hx
    simp only [Gw.grpL, List.mem_append, List.mem_cons, List.not_mem_nil, or_false] at hx
    rcases hx with ((((hx | hx) | hx | hx) | hx) | hx) | hx
    · subst hx; decide
    · subst hx; decide
    · subst hx; exact u8_of (by omega)
    · subst hx; decide
    · exact h1 x hx
    · exact h2 x hx
    · rw [List.eq_of_mem_replicate hx]; decide
  · intro x hx; cases hx
theorem str_bytes (s : ByteArray) : strOfNums (bytesOf s) = s := by
  obtain ⟨⟨l⟩⟩ := s
  have h : ∀ b : UInt8, UInt8.ofNat ((b.toNat : Int)).toNat = b := fun b => by simp
  simp [strOfNums, bytesOf, Function.comp_def, h]
theorem bytesOf_u8 (s : ByteArray) : ∀ x ∈ bytesOf s, (Lit.int .u8 x).wf = true := by
  intro x hx
  unfold bytesOf at hx
  obtain ⟨b, _, rfl⟩ := List.mem_map.1 hx
  have := b.toNat_lt
  exact u8_of (by omega)
theorem encE_u8 (ino : Int) (s : ByteArray) : ∀ x ∈ (encE ino s).1, (Lit.int .u8 x).wf = true := by
  unfold encE
  split
  · intro x hx; rw [List.eq_of_mem_replicate hx]; decide
  · split
    · intro x hx; cases hx
    · split
      · intro x hx
        simp only [entL, List.mem_append] at hx
        rcases hx with ((hx | hx) | hx) | hx
        · exact leb_u8 _ _ x hx
        · exact leb_u8 _ _ x hx
        · exact bytesOf_u8 s x hx
        · rw [List.eq_of_mem_replicate hx]; decide
      · intro x hx; cases hx
theorem ent_back {ino : Int} {s : ByteArray} {x : List Int} (hx : encE ino s = (x, 0)) : decE x = (ino, s, 0) := by
  have hx0 := hx
  unfold encE at hx
  split at hx
  · next h =>
    obtain ⟨rfl, hs⟩ := h
    obtain rfl := of_toList hs
    have e : x = List.replicate 16 0 := (congrArg Prod.fst hx).symm
    have c1 : rd x 2 = 0 := by rw [e]; rfl
    have c2 : le (cutL x 0 2) = 0 := by rw [e]; rfl
    have c3 : strOfNums ((x.take (3 + (0 : Int)).toNat).drop 3) = ⟨List.toArray []⟩ := by rw [e]; rfl
    unfold decE
    rw [if_pos (by rw [e]; rfl), c1, if_neg (by decide), c2, c3, hx0, if_pos rfl, if_pos (beq_self_eq_true _)]
  · next h =>
    split at hx
    · have h3 := congrArg Prod.snd hx; dsimp only at h3; omega
    · next h2 =>
      split at hx
      · next h3 =>
        have h13 := spelt_size h3
        have hb := bytesOf_length s
        have e : x = leb 2 ino ++ leb 1 (s.size : Int) ++ bytesOf s ++ List.replicate (13 - s.size) 0 := (congrArg Prod.fst hx).symm
        have hl : x.length = 16 := by rw [e]; simp only [List.length_append, leb_length, List.length_replicate, hb]; omega
        have c1 : rd x 2 = (s.size : Int) := by
          rw [e]
          show (s.size : Int) % 256 = _
          omega
        have c2 : le (cutL x 0 2) = ino := by rw [e]; exact le_leb 2 ino (by omega) (by simp; omega)
        have c3 : (x.take (3 + (s.size : Int)).toNat).drop 3 = bytesOf s := by
          have e2 : x = (leb 2 ino ++ leb 1 (s.size : Int)) ++ (bytesOf s ++ List.replicate (13 - s.size) 0) := by rw [e, List.append_assoc (leb 2 ino ++ leb 1 (s.size : Int))]
          have h3l : (leb 2 ino ++ leb 1 (s.size : Int)).length = 3 := by simp only [List.length_append, leb_length]
          rw [e2, show (3 + (s.size : Int)).toNat = 3 + s.size by omega, List.take_append, List.drop_append, h3l, List.take_of_length_le (by omega), List.drop_eq_nil_of_le (by omega), List.nil_append, show 3 + s.size - 3 = s.size by omega, List.take_append, hb, List.take_of_length_le (by omega)]
          simp [h3l]
        unfold decE
        rw [if_pos hl, c1, if_neg (by omega), c2, c3, str_bytes, hx0, if_pos rfl, if_pos (beq_self_eq_true _)]
      · have h3 := congrArg Prod.snd hx; dsimp only at h3; omega
end Go.Proofs.Ytdaeanodgnmknaa.Bi
