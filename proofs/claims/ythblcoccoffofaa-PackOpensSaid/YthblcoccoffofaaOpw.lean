/- The walk of PackOpens: whatever is asked of any bytes, the program's Opener and the reference's answer alike. -/
import Derived.Test.YthblcoccoffofaaOpens
namespace Go.Proofs.Ythblcoccoffofaa.Pk
open Go.RowKit Go.Proofs.YthblcoccoffofaaW.PrintWords PPackOpens

set_option maxHeartbeats 2000000 in
theorem opens_walk (S : ByteArray) (A : Option Addr) (cap : Nat) (xs : List It) (W : World) (h : ItIn W A xs) (hl : xs.length ≤ 4398046511104) (hs : ∀ x ∈ xs, x.s.size ≤ maxLen)
    (hSm : S.size ≤ maxLen) :
    Calls Try.prog 4 #[.string S, .slice A xs.length cap] W fun e w' => e = .returned (.bool true) ∧ Below W.heap.size W w' := by
  have HF := Lib.hid (fair_calls A cap xs W h hl hs)
  by_cases hbig : S.size ≤ 130000
  · by_cases hfair : fairB xs = true
    · have Hf := Lib.hid hfair
      have hS : S.size ≤ 1000000 := by omega
      have hsz : S.size ≤ 9223372036854775807 := by omega
      clear hfair hSm
      have hgt : ¬ (130000 : Int) < (S.size : Int) := by omega
      have HO := Lib.hid (fun w => Open_calls S w hsz)
      go_enter Try.func4, Try.ntmps4
      go_wp2_with (go_at_call 8; refine HF.out.mono ?_; rintro e w1 ⟨rfl, rfl⟩; rw [Hf.out])
      refine (HO.out W).mono ?_
      rintro e w2 ⟨g, rfl, ho, f2⟩
      have HB0 := Lib.hid (show Both W (w2.alloc (.cells #[.string S, .int .i64 0, .bool false] 46)) g w2.heap.size S (some S) (some S) from by
        refine ⟨OpSt.fr ho ?_, ⟨0, false, ⟨Blk.new _ _ _, f2.size⟩, 0, rfl, Nat.zero_le _, ?_⟩, f2.alloc f2.size _⟩
        · exact ((Below.refl w2.heap.size w2).alloc (Nat.le_refl _) _).block g (OpSt.lt ho)
        · rw [ByteArray.extract_zero_size])
      have hw2 : W.heap.size ≤ w2.heap.size := f2.size
      clear ho f2 hsz
      go_wp2_with fail
      generalize hq : w2.heap.size = q at HB0 ⊢
      go_loopw [7] (fun i wr => ∃ (k : Nat) (st : Option ByteArray), k ≤ xs.length ∧ i = .int .i64 k ∧ Both W wr g q S st st) (fun i _ => xs.length - (intOf i).toNat)
      case atStart => exact ⟨0, _, Nat.zero_le _, rfl, HB0.out⟩
      case round =>
        obtain ⟨k, st, hk, rfl, hb⟩ := hrel
        clear HB0 HO
        have hbs := hb.below.size
        by_cases hlt : k < xs.length
        · obtain ⟨x, hx⟩ : ∃ x, xs[k] = x := ⟨_, rfl⟩
          obtain ⟨ad, rfl, c0, c1, c2⟩ := (h.below hb.below) k hlt
          rw [hx] at c0 c1 c2
          have Hx := Lib.hid hx
          have HJ := Lib.hid hb.drew
          clear c2 hx hb
          by_cases hz : x.size = 0
          · have hzb : (x.size == 0) = true := by simpa using hz
            have H1 := Lib.hid (fun w sa sb (h : Both W w g q S sa sb) => bText W w g q S sa sb h (IntKind.i64.wrap x.v))
            have H2 := Lib.hid (fun w sa sb (h : Both W w g q S sa sb) => brText W w g q S sa sb hS h (IntKind.i64.wrap x.v))
            clear hz
            go_wp2_with fail
            go_region_with (first | (go_at_call 17; (refine (H1.out wr.drew st st HJ.out).mono ?_; rintro e w1 ⟨rfl, hb1⟩; obtain ⟨ad2, e2, _, d1, _⟩ := (h.below hb1.below) k hlt; cases e2; rw [Hx.out] at d1)) | (go_at_call 18; (refine (H2.out w1 _ st hb1).mono ?_; rintro e w3 ⟨rfl, hb3⟩)))
            all_goals
              have HB := Lib.hid hb3
              clear hb1 hb3 d1 c0 c1 HJ H1 H2
              go_wp2_with fail
              refine (bDone W _ g q S _ _ HB.out).mono ?_
              rintro e w4 ⟨rfl, hb4⟩
              have HB4 := Lib.hid hb4
              clear HB hb4
              go_wp2_with fail
              refine (brDone W _ g q S _ _ HB4.out).mono ?_
              rintro e w5 ⟨rfl, hb5⟩
              have HB5 := Lib.hid hb5
              clear HB4 hb5
              go_wp2_with fail
              go_roundw
              case rel => exact ⟨k + 1, _, by omega, by go_num, HB5.out⟩
              case measure => simp [intOf]; omega
          · have hzb : (x.size == 0) = false := by simpa using hz
            have H1 := Lib.hid (fun w sa sb (h : Both W w g q S sa sb) => bNum W w g q S sa sb h x.size)
            have H2 := Lib.hid (fun w sa sb (h : Both W w g q S sa sb) => brNum W w g q S sa sb hS h x.size)
            clear hz
            go_wp2_with fail
            go_region_with (first | (go_at_call 19; (refine (H1.out wr.drew st st HJ.out).mono ?_; rintro e w1 ⟨rfl, hb1⟩; obtain ⟨ad2, e2, d1, _, _⟩ := (h.below hb1.below) k hlt; cases e2; rw [Hx.out] at d1)) | (go_at_call 20; (refine (H2.out w1 _ st hb1).mono ?_; rintro e w3 ⟨rfl, hb3⟩)))
            all_goals
              have HB := Lib.hid hb3
              clear hb1 hb3 d1 c0 c1 HJ H1 H2
              go_wp2_with fail
              refine (bDone W _ g q S _ _ HB.out).mono ?_
              rintro e w4 ⟨rfl, hb4⟩
              have HB4 := Lib.hid hb4
              clear HB hb4
              go_wp2_with fail
              refine (brDone W _ g q S _ _ HB4.out).mono ?_
              rintro e w5 ⟨rfl, hb5⟩
              have HB5 := Lib.hid hb5
              clear HB4 hb5
              go_wp2_with fail
              go_roundw
              case rel => exact ⟨k + 1, _, by omega, by go_num, HB5.out⟩
              case measure => simp [intOf]; omega
        · go_wp2_with fail
          refine (bDone W _ g q S _ _ hb).mono ?_
          rintro e w4 ⟨rfl, hb4⟩
          have HB4 := Lib.hid hb4
          clear hb hb4
          go_wp2_with fail
          refine (brDone W _ g q S _ _ HB4.out).mono ?_
          rintro e w5 ⟨rfl, hb5⟩
          have HB5 := Lib.hid hb5
          clear HB4 hb5
          go_wp2_with fail
          refine (wakes_calls _).mono ?_
          rintro e w6 ⟨rfl, f6⟩
          have HB6 := Lib.hid (HB5.out.below.trans (f6.mono HB5.out.below.size))
          clear HB5 f6
          go_wp2_with fail
          go_ret
          exact ⟨rfl, HB6.out⟩
    · have Hf := Lib.hid (by simpa using hfair : fairB xs = false)
      clear hfair
      have hgt : ¬ (130000 : Int) < (S.size : Int) := by omega
      go_enter Try.func4, Try.ntmps4
      go_wp2_with (first | (go_at_call 8; refine HF.out.mono ?_; rintro e w1 ⟨rfl, rfl⟩; rw [Hf.out]) | (go_at_call 9; refine (wakes_calls _).mono ?_; rintro e w2 ⟨rfl, h1⟩))
      go_ret
      exact ⟨rfl, h1⟩
  · have hgt : (130000 : Int) < (S.size : Int) := by omega
    go_enter Try.func4, Try.ntmps4
    go_wp2_with (first | (go_at_call 8; refine HF.out.mono ?_; rintro e w1 ⟨rfl, rfl⟩; rw [Hf.out]) | (go_at_call 9; refine (wakes_calls _).mono ?_; rintro e w2 ⟨rfl, h1⟩))
    go_ret
    exact ⟨rfl, h1⟩
end Go.Proofs.Ythblcoccoffofaa.Pk
