/- The walk of PackOpens: whatever is asked of any bytes, the program's Opener and the reference's answer alike. -/
import Derived.Test.YthblcoccoffofaaRo
import Derived.Test.YthblcoccoffofaaBack
namespace Go.Proofs.Ythblcoccoffofaa.Pk
open Go.RowKit Go.Proofs.YthblcoccoffofaaW.PrintWords PPackOpens

/-- Both Openers: the program's at g with what is left, the reference's at q; and what was there at first is as it was. -/
structure Both (W w : World) (g q : Nat) (S : ByteArray) (sa sb : Option ByteArray) : Prop where
  own : OpSt 58 w W.heap.size g sa
  ref : ∃ A bad, IsS46 W w q S A bad ∧ RS sb S A bad
  below : Below W.heap.size W w

theorem OpSt.ne46 {w : World} {b g q : Nat} {st : Option ByteArray} {cs : Array Value} (h : OpSt 58 w b g st) (hq : w.heap[q]? = some (.cells cs 46 (0, 0))) : g ≠ q := by
  cases st with
  | none => obtain ⟨s, h1⟩ := h; exact Blk.ne_ h1.blk hq (by decide)
  | some s => exact Blk.ne_ h.1.blk hq (by decide)
theorem OpSt.lt {w : World} {b g : Nat} {st : Option ByteArray} (h : OpSt 58 w b g st) : g < w.heap.size := by
  cases st with
  | none => obtain ⟨s, h1⟩ := h; exact h1.blk.lt
  | some s => exact h.1.blk.lt

theorem Both.drew {W w : World} {g q : Nat} {S : ByteArray} {sa sb : Option ByteArray} (h : Both W w g q S sa sb) : Both W w.drew g q S sa sb := by
  obtain ⟨h1, ⟨A, bad, h2, h3⟩, h4⟩ := h
  exact ⟨OpSt.fr h1 rfl, ⟨A, bad, h2.drew, h3⟩, h4.drew⟩

theorem both_own {W w w1 : World} {g q : Nat} {S : ByteArray} {sa sb sa' : Option ByteArray} (h : Both W w g q S sa sb) (h1 : OpSt 58 w1 W.heap.size g sa') (f : FrO w w1 W.heap.size g) : Both W w1 g q S sa' sb := by
  obtain ⟨ho, ⟨A, bad, h2, h3⟩, h4⟩ := h
  have hne := OpSt.ne46 ho h2.1
  exact ⟨h1, ⟨A, bad, ⟨(f.same q h2.lt (fun e => hne e.symm) (by simp [Value.ownBlock])).trans h2.1, h2.2⟩, h3⟩, h4.trans f.below⟩
theorem both_ref {W w w1 : World} {g q : Nat} {S : ByteArray} {sa sb sb' : Option ByteArray} {A : Int} {bad : Bool} (h : Both W w g q S sa sb) (h1 : IsS46 W w1 q S A bad) (hr : RS sb' S A bad)
    (hb : Below W.heap.size W w1) (k : KeepBut w w1 q none) : Both W w1 g q S sa sb' := by
  obtain ⟨ho, ⟨A0, bad0, h2, h3⟩, h4⟩ := h
  have hne := OpSt.ne46 ho h2.1
  exact ⟨OpSt.fr ho (k.2 g (OpSt.lt ho) hne (by simp)), ⟨A, bad, h1, hr⟩, hb⟩

section
variable (W w : World) (g q : Nat) (S : ByteArray) (sa sb : Option ByteArray) (hS : S.size ≤ 1000000) (h : Both W w g q S sa sb)
include h
theorem bText (most : Int) : Calls Try.prog 17 #[.pointer (some ⟨g, 0, none⟩), .int .i64 most] w fun e w' => e = .returned (.string (textR sa most).1) ∧ Both W w' g q S (textR sa most).2 sb := by
  refine (OText_calls W.heap.size g sa most w h.own h.below.size).mono ?_
  rintro e w1 ⟨rfl, h1, f⟩
  exact ⟨rfl, both_own h h1 f⟩
theorem bNum (n : Int) : Calls Try.prog 19 #[.pointer (some ⟨g, 0, none⟩), .int .i64 n] w fun e w' => e = .returned (.int .u64 (numR sa n).1) ∧ Both W w' g q S (numR sa n).2 sb := by
  refine (ONum_calls W.heap.size g sa n w h.own h.below.size).mono ?_
  rintro e w1 ⟨rfl, h1, f⟩
  exact ⟨rfl, both_own h h1 f⟩
theorem bDone : Calls Try.prog 21 #[.pointer (some ⟨g, 0, none⟩)] w fun e w' => e = .returned (.bool (doneB sa)) ∧ Both W w' g q S sa sb := by
  refine (ODone_calls W.heap.size g sa w h.own).mono ?_
  rintro e w1 ⟨rfl, rfl⟩
  exact ⟨rfl, h⟩
theorem brDone : Calls Try.prog 22 #[.pointer (some ⟨q, 0, none⟩)] w fun e w' => e = .returned (.bool (doneB sb)) ∧ Both W w' g q S sa sb := by
  obtain ⟨A, bad, h2, h3⟩ := h.ref
  refine (annuityref08_Opener_Done.calls q S A bad _ _ _ _ W w h2 h.below (rdone_eval sb S A bad h3)).mono ?_
  rintro e w1 ⟨rfl, h1, hb, k⟩
  exact ⟨rfl, both_ref h h1 h3 hb k⟩
include hS
theorem brText (most : Int) : Calls Try.prog 18 #[.pointer (some ⟨q, 0, none⟩), .int .i64 most] w fun e w' => e = .returned (.string (textR sb most).1) ∧ Both W w' g q S sa (textR sb most).2 := by
  obtain ⟨A, bad, h2, h3⟩ := h.ref
  obtain ⟨k, A', bad', hf, hr⟩ := rtext_eval sb S A bad most hS h3
  refine (annuityref08_Opener_Text.calls k q S A bad most _ _ _ _ W w h2 h.below hf).mono ?_
  rintro e w1 ⟨rfl, h1, hb, k⟩
  exact ⟨rfl, both_ref h h1 hr hb k⟩
theorem brNum (n : Int) : Calls Try.prog 20 #[.pointer (some ⟨q, 0, none⟩), .int .i64 n] w fun e w' => e = .returned (.int .u64 (numR sb n).1) ∧ Both W w' g q S sa (numR sb n).2 := by
  obtain ⟨A, bad, h2, h3⟩ := h.ref
  obtain ⟨k, A', bad', hf, hr⟩ := rnum_eval sb S A bad n hS h3
  refine (annuityref08_Opener_Num.calls k q S A bad n _ _ _ _ W w h2 h.below hf).mono ?_
  rintro e w1 ⟨rfl, h1, hb, k⟩
  exact ⟨rfl, both_ref h h1 hr hb k⟩
end
end Go.Proofs.Ythblcoccoffofaa.Pk
