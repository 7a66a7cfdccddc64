/- A command's bytes open as they were; what opens was a command's bytes. Plain. -/
import Derived.Test.YtadcpdpcpecooaaE21
import Derived.Test.YtadcpdpcpecooaaE17
namespace Go.Proofs.Ytadcpdpcpecooaa.Ev
open Go.RowKit Go.Proofs.Ytadcpdpcpecooaa.Pk Go.Proofs.Ytadcpdpcpecooaa.Re

theorem dec_back {e : E} (hg : goodE e = true) (ho : Ok e) : decB (encS e) = true ∧ getE (some (encS e)) = e := by
  have h := get_front e ho hg []
  rw [List.append_nil] at h
  refine ⟨?_, h.2⟩
  show (doneB (gs (some (encS e)) 11) && goodE (getE (some (encS e)))) = true
  rw [show gs (some (encS e)) 11 = some (strOfNums []) from h.1, show getE (some (encS e)) = e from h.2, hg]
  rfl
theorem done_some {st : Option ByteArray} (h : doneB st = true) : ∃ t, st = some t ∧ ints t = [] := by
  cases st with
  | none => cases h
  | some t =>
    refine ⟨t, rfl, ?_⟩
    have h1 : t.size = 0 := by simpa [doneB] using h
    exact List.eq_nil_of_length_eq_zero ((ints_length t).trans h1)
theorem enc_back {b : ByteArray} (h : decB b = true) : goodE (getE (some b)) = true ∧ encS (getE (some b)) = b := by
  unfold decB at h
  simp only [Bool.and_eq_true] at h
  obtain ⟨t, ht, h0⟩ := done_some h.1
  obtain ⟨s, hs, hi⟩ := get_took _ t ht h.2
  simp only [Option.some.injEq] at hs
  subst hs
  refine ⟨h.2, ?_⟩
  unfold encS
  rw [h0, List.append_nil] at hi
  rw [← hi, strOfNums_ints]
abbrev zeroC : C := ⟨false, 0, zeroE, 0⟩
def o0 (b : ByteArray) : Int := (numR (some b) 1).1
def st1 (b : ByteArray) : Option ByteArray := (numR (some b) 1).2
def o1 (b : ByteArray) : Int := (numR (st1 b) 4).1
def st2 (b : ByteArray) : Option ByteArray := (numR (st1 b) 4).2
def o2 (b : ByteArray) : Int := (numR (st2 b) 4).1
/-- The command that a text opens as, and what is left. -/
def opC (b : ByteArray) : C := if o0 b == 1 then ⟨true, o1 b, zeroE, o2 b⟩ else ⟨false, o1 b, getE (st2 b), 0⟩
def opS (b : ByteArray) : Option ByteArray := if o0 b == 1 then (numR (st2 b) 4).2 else gs (st2 b) 11
def openB (b : ByteArray) : Bool := doneB (opS b) && (!decide (1 < o0 b) && fineC (opC b))
def openC (b : ByteArray) : C := if openB b then opC b else zeroC
def openX (b : ByteArray) : Int := if openB b then 0 else 11
theorem o0_range (b : ByteArray) : 0 ≤ o0 b ∧ o0 b < 256 ^ 1 := num_range (some b) 1 (by decide)
theorem o1_range (b : ByteArray) : 0 ≤ o1 b ∧ o1 b < 256 ^ 4 := num_range (st1 b) 4 (by decide)
theorem o2_range (b : ByteArray) : 0 ≤ o2 b ∧ o2 b < 256 ^ 4 := num_range (st2 b) 4 (by decide)
theorem opC_ok (b : ByteArray) : OkC (opC b) := by
  have h4 : (0 : Int) ≤ 0 ∧ (0 : Int) < 256 ^ 4 := by decide
  have hz : Ok zeroE := ⟨by decide, by decide, by decide⟩
  unfold opC
  split
  · exact ⟨hz, o1_range b, o2_range b⟩
  · exact ⟨get_ok _, o1_range b, h4⟩
theorem open_back {c : C} (hf : fineC c = true) (ho : OkC c) : openB (strOfNums (bytesC c)) = true ∧ opC (strOfNums (bytesC c)) = c := by
  obtain ⟨u, k, e, f⟩ := c
  have hk := ho.key
  have hof := ho.of
  have hoe := ho.e
  have hff := hf
  unfold fineC at hf
  simp only at hk hof hoe hf
  cases u with
  | true =>
    simp only [if_true, decide_eq_true_eq] at hf
    subst hf
    have hb : bytesC ⟨true, k, zeroE, f⟩ = bytesOf 1 1 ++ (bytesOf k 4 ++ (bytesOf f 4 ++ [])) := by rw [List.append_nil]; rfl
    rw [hb]
    have n0 := num_front 1 1 rfl (by decide) (bytesOf k 4 ++ (bytesOf f 4 ++ []))
    have n1 := num_front k 4 rfl hk (bytesOf f 4 ++ [])
    have n2 := num_front f 4 rfl hof []
    generalize strOfNums (bytesOf 1 1 ++ (bytesOf k 4 ++ (bytesOf f 4 ++ []))) = b at *
    have v0 : o0 b = 1 := congrArg (·.1) n0
    have s1 : st1 b = some (strOfNums (bytesOf k 4 ++ (bytesOf f 4 ++ []))) := congrArg (·.2) n0
    have v1 : o1 b = k := by show (numR (st1 b) ((4 : Nat) : Int)).1 = _; rw [s1, n1]
    have s2 : st2 b = some (strOfNums (bytesOf f 4 ++ [])) := by show (numR (st1 b) ((4 : Nat) : Int)).2 = _; rw [s1, n1]
    have v2 : o2 b = f := by show (numR (st2 b) ((4 : Nat) : Int)).1 = _; rw [s2, n2]
    have s3 : (numR (st2 b) 4).2 = some (strOfNums []) := by show (numR (st2 b) ((4 : Nat) : Int)).2 = _; rw [s2, n2]
    have hc : opC b = ⟨true, k, zeroE, f⟩ := by
      unfold opC
      rw [v0, v1, v2]
      rfl
    refine ⟨?_, hc⟩
    unfold openB opS
    rw [hc, hff, v0, s3]
    rfl
  | false =>
    simp only [Bool.false_eq_true, if_false, Bool.and_eq_true, beq_iff_eq] at hf
    obtain ⟨rfl, hg, _⟩ := hf
    have hb : bytesC ⟨false, k, e, 0⟩ = bytesOf 0 1 ++ (bytesOf k 4 ++ (bytesE e ++ [])) := by rw [List.append_nil]; rfl
    rw [hb]
    have n0 := num_front 0 1 rfl (by decide) (bytesOf k 4 ++ (bytesE e ++ []))
    have n1 := num_front k 4 rfl hk (bytesE e ++ [])
    obtain ⟨n2, n3⟩ := get_front e hoe hg []
    generalize strOfNums (bytesOf 0 1 ++ (bytesOf k 4 ++ (bytesE e ++ []))) = b at *
    have v0 : o0 b = 0 := congrArg (·.1) n0
    have s1 : st1 b = some (strOfNums (bytesOf k 4 ++ (bytesE e ++ []))) := congrArg (·.2) n0
    have v1 : o1 b = k := by show (numR (st1 b) ((4 : Nat) : Int)).1 = _; rw [s1, n1]
    have s2 : st2 b = some (strOfNums (bytesE e ++ [])) := by show (numR (st1 b) ((4 : Nat) : Int)).2 = _; rw [s1, n1]
    have hc : opC b = ⟨false, k, e, 0⟩ := by
      unfold opC
      rw [v0, v1, s2, n3]
      rfl
    refine ⟨?_, hc⟩
    unfold openB opS
    rw [hc, hff, v0, s2, if_neg (by decide), n2]
    rfl
theorem pack_back {b : ByteArray} (h : openB b = true) : fineC (opC b) = true ∧ strOfNums (bytesC (opC b)) = b := by
  unfold openB at h
  simp only [Bool.and_eq_true, Bool.not_eq_true', decide_eq_false_iff_not] at h
  obtain ⟨hd, h1, hf⟩ := h
  refine ⟨hf, ?_⟩
  obtain ⟨t, ht, h0⟩ := done_some hd
  have r0 := o0_range b
  suffices hi : ints b = bytesC (opC b) by rw [← hi, strOfNums_ints]
  unfold opS at ht
  by_cases hu : o0 b = 1
  · have hu' : (o0 b == 1) = true := by simpa using hu
    rw [if_pos hu'] at ht
    obtain ⟨s2, e2, i2⟩ := num_took (st2 b) 4 t ht
    obtain ⟨s1, e1, i1⟩ := num_took (st1 b) 4 s2 e2
    obtain ⟨s0, e0, i0⟩ := num_took (some b) 1 s1 e1
    simp only [Option.some.injEq] at e0
    subst e0
    unfold opC
    rw [if_pos hu', i0, i1, i2, h0, List.append_nil]
    show bytesOf (o0 b) 1 ++ _ = _
    rw [hu]
    rfl
  · have hu' : ¬ (o0 b == 1) = true := by simpa using hu
    have hz : o0 b = 0 := by omega
    rw [if_neg hu'] at ht
    have hc : opC b = ⟨false, o1 b, getE (st2 b), 0⟩ := by unfold opC; rw [if_neg hu']
    have hg : goodE (getE (st2 b)) = true := by
      rw [hc] at hf
      unfold fineC at hf
      simp only [Bool.false_eq_true, if_false, Bool.and_eq_true] at hf
      exact hf.2.1
    obtain ⟨s2, e2, i2⟩ := get_took (st2 b) t ht hg
    obtain ⟨s1, e1, i1⟩ := num_took (st1 b) 4 s2 e2
    obtain ⟨s0, e0, i0⟩ := num_took (some b) 1 s1 e1
    simp only [Option.some.injEq] at e0
    subst e0
    rw [hc, i0, i1, i2, h0, List.append_nil]
    show bytesOf (o0 b) 1 ++ _ = _
    rw [hz]
    rfl
/-- Two texts are one where the commands are one. -/
theorem pack_one {a b : C} (fa : fineC a = true) (fb : fineC b = true) (oa : OkC a) (ob : OkC b) : (strOfNums (bytesC a) = strOfNums (bytesC b)) ↔ a = b := by
  refine ⟨fun h => ?_, fun h => by rw [h]⟩
  rw [← (open_back fa oa).2, ← (open_back fb ob).2, h]
theorem pack_size (c : C) : (strOfNums (bytesC c)).size = if c.undo then 9 else 44 := by
  rw [strOfNums_size]
  unfold bytesC
  rw [List.length_append, List.length_append, bytesOf_length, bytesOf_length]
  cases c.undo with
  | true => simp only [if_true, bytesOf_length]
  | false => simp only [Bool.false_eq_true, if_false, bytesE_len]
theorem pack_tail (c : C) (hu : c.undo = false) : (strOfNums (bytesC c)).extract 5 44 = encS c.e := by
  have h := extract_suf (bytesOf (flagI c.undo) 1 ++ bytesOf c.key 4) (bytesE c.e)
  have hb : bytesC c = (bytesOf (flagI c.undo) 1 ++ bytesOf c.key 4) ++ bytesE c.e := by
    unfold bytesC
    rw [hu, List.append_assoc]
    rfl
  rw [← hb, List.length_append, bytesOf_length, bytesOf_length, pack_size, hu] at h
  exact h
end Go.Proofs.Ytadcpdpcpecooaa.Ev
