/- What was packed is opened as it was: plain facts on the bytes. -/
import Derived.Test.YthblcoccoffofaaPacks
namespace Go.Proofs.Ythblcoccoffofaa.Pk

/-- An Item's bytes. -/
def enc (x : It) : List Int := if x.size = 0 then bytesOf x.s.size 2 ++ ints x.s else bytesOf x.v x.size.toNat
def okIt (x : It) : Prop := if x.size = 0 then x.s.size ≤ 65535 else szB x.size = true ∧ x.v < 256 ^ x.size.toNat
def encs (xs : List It) : List Int := xs.flatMap enc
theorem encs_cons (x : It) (xs : List It) : encs (x :: xs) = enc x ++ encs xs := by simp [encs]

theorem pstep_ok (l : List Int) (x : It) (l' : List Int) (h : pstep (l, 0) x = (l', 0)) : okIt x ∧ l' = l ++ enc x := by
  unfold pstep at h
  unfold okIt enc
  by_cases hx : x.size = 0
  · rw [if_pos hx] at h ⊢
    rw [if_pos hx]
    simp only at h
    rw [textStep0] at h
    by_cases hs : 65535 < x.s.size
    · rw [if_pos hs] at h; simp at h
    · rw [if_neg hs] at h
      simp only [Prod.mk.injEq] at h
      exact ⟨by omega, by rw [← h.1, List.append_assoc]⟩
  · rw [if_neg hx] at h ⊢
    rw [if_neg hx]
    simp only at h
    rw [numStep0] at h
    by_cases hc : szB x.size = true ∧ x.v < 256 ^ x.size.toNat
    · rw [if_pos hc] at h
      simp only [Prod.mk.injEq] at h
      exact ⟨hc, h.1.symm⟩
    · rw [if_neg hc] at h; simp at h
theorem pstep_err (l : List Int) (e : Int) (x : It) (h : e ≠ 0) : pstep (l, e) x = (l, e) := by
  unfold pstep
  split
  · simp only [textStep]; rw [if_pos h]
  · simp only [numStep]; rw [if_pos h]
theorem pfold_ok (xs : List It) : ∀ (l l' : List Int), xs.foldl pstep (l, 0) = (l', 0) → (∀ x ∈ xs, okIt x) ∧ l' = l ++ encs xs := by
  induction xs with
  | nil => intro l l' h; simp at h; simp [encs, h]
  | cons x xs ih =>
    intro l l' h
    rw [List.foldl_cons] at h
    obtain ⟨l1, e1, h1⟩ : ∃ l1 e1, pstep (l, 0) x = (l1, e1) := ⟨_, _, rfl⟩
    rw [h1] at h
    by_cases he : e1 = 0
    · subst he
      obtain ⟨h2, h3⟩ := pstep_ok l x l1 h1
      obtain ⟨h4, h5⟩ := ih l1 l' h
      refine ⟨?_, by rw [h5, h3, encs_cons, List.append_assoc]⟩
      intro y hy
      rcases List.mem_cons.1 hy with rfl | hy
      · exact h2
      · exact h4 y hy
    · have key : ∀ (ys : List It), ys.foldl pstep (l1, e1) = (l1, e1) := by
        intro ys
        induction ys with
        | nil => rfl
        | cons y ys ih2 => rw [List.foldl_cons, pstep_err l1 e1 y he, ih2]
      rw [key] at h
      simp at h
      exact absurd h.2 he

theorem byteAt_range (V : Int) (k : Nat) : 0 ≤ byteAt V k ∧ byteAt V k < 256 := by unfold byteAt; omega
theorem bytesOf_range (V : Int) (n : Nat) : ∀ b ∈ bytesOf V n, 0 ≤ b ∧ b < 256 := by
  intro b hb
  simp only [bytesOf, List.mem_map] at hb
  obtain ⟨k, _, rfl⟩ := hb
  exact byteAt_range V k
theorem enc_range (x : It) : ∀ b ∈ enc x, 0 ≤ b ∧ b < 256 := by
  intro b hb
  unfold enc at hb
  split at hb
  · rcases List.mem_append.1 hb with h | h
    · exact bytesOf_range _ _ b h
    · exact ints_range _ b h
  · exact bytesOf_range _ _ b hb
theorem encs_range (xs : List It) : ∀ b ∈ encs xs, 0 ≤ b ∧ b < 256 := by
  intro b hb
  simp only [encs, List.mem_flatMap] at hb
  obtain ⟨x, _, h⟩ := hb
  exact enc_range x b h

theorem ints_str (l : List Int) (h : ∀ b ∈ l, 0 ≤ b ∧ b < 256) : ints (strOfNums l) = l := by
  unfold ints
  rw [strOfNums_data, List.map_map]
  conv => rhs; rw [← List.map_id l]
  apply List.map_congr_left
  intro b hb
  have := h b hb
  simp only [Function.comp, id]
  obtain ⟨n, rfl⟩ := Int.eq_ofNat_of_zero_le this.1
  simp only [Int.toNat_natCast, UInt8.toNat_ofNat']
  omega
theorem extract_pre (a b : List Int) : (strOfNums (a ++ b)).extract 0 a.length = strOfNums a := by
  apply ByteArray.ext
  apply Array.ext'
  rw [Lib.extract_data]
  simp [strOfNums_data]
theorem extract_suf (a b : List Int) : (strOfNums (a ++ b)).extract a.length (strOfNums (a ++ b)).size = strOfNums b := by
  apply ByteArray.ext
  apply Array.ext'
  rw [Lib.extract_data, strOfNums_size]
  simp [strOfNums_data, List.take_of_length_le]
theorem valOf_bytes (n : Nat) : ∀ (V : Int), 0 ≤ V → valOf (bytesOf V n) = V % 256 ^ n := by
  induction n with
  | zero => intro V h; simp [bytesOf, valOf]
  | succ n ih =>
    intro V h
    rw [bytesOf_succ, valOf_snoc, ih V h, bytesOf_length, Int.pow_succ]
    unfold byteAt
    have hp : (0 : Int) < 256 ^ n := Int.pow_pos (by omega)
    generalize (256 : Int) ^ n = p at hp ⊢
    have e1 := Int.emod_add_mul_ediv V p
    have e2 := Int.emod_add_mul_ediv (V / p) 256
    have e4 : V / (p * 256) = V / p / 256 := (Int.ediv_ediv_of_nonneg (by omega)).symm
    have e3 := Int.emod_add_mul_ediv V (p * 256)
    rw [e4] at e3
    have e5 : p * (V / p) = p * (V / p % 256) + p * 256 * (V / p / 256) := by
      rw [Int.mul_assoc, ← Int.mul_add, e2]
    omega

theorem num_back (x : It) (hx : ¬ x.size = 0) (ho : okIt x) (hv : 0 ≤ x.v) (r : List Int) :
    numR (some (strOfNums (enc x ++ r))) x.size = (x.v, some (strOfNums r)) := by
  unfold okIt at ho
  rw [if_neg hx] at ho
  have he : enc x = bytesOf x.v x.size.toNat := by unfold enc; rw [if_neg hx]
  have hn := (szB_iff _).1 ho.1
  have hl : (enc x).length = x.size.toNat := by rw [he, bytesOf_length]
  simp only [numR]
  rw [if_pos ⟨ho.1, by rw [strOfNums_size, List.length_append, hl]; omega⟩, ← hl, extract_pre, extract_suf, ints_str _ (enc_range x), he, valOf_bytes _ _ hv, Int.emod_eq_of_lt hv ho.2]
theorem text_back (x : It) (hx : x.size = 0) (ho : okIt x) (r : List Int) :
    textR (some (strOfNums (enc x ++ r))) 65535 = (x.s, some (strOfNums r)) := by
  unfold okIt at ho
  rw [if_pos hx] at ho
  have he : enc x = bytesOf x.s.size 2 ++ ints x.s := by unfold enc; rw [if_pos hx]
  have hb2 : (bytesOf (x.s.size : Int) 2).length = 2 := bytesOf_length _ _
  rw [he, List.append_assoc]
  have e1 : (strOfNums (bytesOf x.s.size 2 ++ (ints x.s ++ r))).extract 0 2 = strOfNums (bytesOf x.s.size 2) := by
    have := extract_pre (bytesOf x.s.size 2) (ints x.s ++ r)
    rwa [hb2] at this
  have e2 : (strOfNums (bytesOf x.s.size 2 ++ (ints x.s ++ r))).extract 2 (strOfNums (bytesOf x.s.size 2 ++ (ints x.s ++ r))).size = strOfNums (ints x.s ++ r) := by
    have := extract_suf (bytesOf x.s.size 2) (ints x.s ++ r)
    rwa [hb2] at this
  have e3 : valOf (ints (strOfNums (bytesOf x.s.size 2))) = x.s.size := by
    rw [ints_str _ (bytesOf_range _ _), valOf_bytes _ _ (by omega), Int.emod_eq_of_lt (by omega) (by omega)]
  simp only [textR]
  rw [e1, e2, e3, if_neg (by rw [strOfNums_size, List.length_append, hb2]; omega), if_neg (by omega), if_neg (by rw [strOfNums_size, List.length_append, ints_length]; omega), Int.toNat_natCast]
  have hil := ints_length x.s
  have e4 := extract_pre (ints x.s) r
  have e5 := extract_suf (ints x.s) r
  rw [hil] at e4 e5
  rw [e4, e5, strOfNums_ints]
end Go.Proofs.Ythblcoccoffofaa.Pk
