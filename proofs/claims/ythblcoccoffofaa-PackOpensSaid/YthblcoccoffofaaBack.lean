/- The walk of PackBack. -/
import Derived.Test.YthblcoccoffofaaBp
namespace Go.Proofs.Ythblcoccoffofaa.Pk
open Go.RowKit

theorem OpSt.low {w : World} {b b' g : Nat} {st : Option ByteArray} (h : OpSt 58 w b g st) (hb : b' ≤ b) : OpSt 58 w b' g st := by
  cases st with
  | none => obtain ⟨s, h1⟩ := h; exact ⟨s, h1.blk, Nat.le_trans hb h1.ge⟩
  | some s => exact ⟨⟨h.1.blk, Nat.le_trans hb h.1.ge⟩, h.2⟩

set_option maxHeartbeats 2000000 in
theorem back_walk (A : Option Addr) (cap : Nat) (xs : List It) (W : World) (h : ItIn W A xs) (hl : xs.length ≤ 4398046511104) (hs : ∀ x ∈ xs, x.s.size ≤ maxLen)
    (hv : ∀ x ∈ xs, 0 ≤ x.v ∧ x.v < 18446744073709551616) :
    Calls Try.prog 5 #[.slice A xs.length cap] W fun e w' => e = .returned (.bool true) ∧ Below W.heap.size W w' := by
  have HF := Lib.hid (fair_calls A cap xs W h hl hs)
  by_cases hfair : fairB xs = true
  · have Hf := Lib.hid hfair
    have hsmall : ∀ x ∈ xs, x.s.size ≤ 130000 := by
      have h1 := hfair
      simp only [fairB, Bool.and_eq_true, decide_eq_true_eq] at h1
      exact h1.1.1
    have Hsmall := Lib.hid hsmall
    clear hsmall
    have Hb0 := Lib.hid ((Below.refl W.heap.size W).alloc (Nat.le_refl _) (.cells #[.slice none 0 0, .int .i64 0] 29))
    have Hp0 := Lib.hid (PkAt.new W W.heap.size (Nat.le_refl _))
    clear hfair
    go_enter Try.func5, Try.ntmps5
    go_wp2_with (go_at_call 8; refine HF.out.mono ?_; rintro e w1 ⟨rfl, rfl⟩; rw [Hf.out])
    go_loopw [4] (fun i wr => ∃ (k : Nat) (vb : Value), k ≤ xs.length ∧ i = .int .i64 k ∧ PkAt 29 5 wr W.heap.size W.heap.size vb (pfold (xs.take k)).1 (pfold (xs.take k)).2 ∧ Below W.heap.size W wr) (fun i _ => xs.length - (intOf i).toNat)
    case atStart => exact ⟨0, _, Nat.zero_le _, rfl, Hp0.out, Hb0.out⟩
    case round =>
      obtain ⟨k, vb, hk, rfl, hp, hb⟩ := hrel
      clear Hp0 Hb0
      have hsim := sim_fold (xs.take k)
      by_cases hlt : k < xs.length
      · obtain ⟨x, hx⟩ : ∃ x, xs[k] = x := ⟨_, rfl⟩
        have hxm : x ∈ xs := by rw [← hx]; exact List.getElem_mem hlt
        have hxs := Hsmall.out x hxm
        have hxv := hv x hxm
        have et : xs.take (k + 1) = xs.take k ++ [x] := by rw [List.take_succ_eq_append_getElem hlt, hx]
        have ep := pfold_snoc (xs.take k) x
        rw [← et] at ep
        obtain ⟨pl, pe, hpe⟩ : ∃ pl pe, pfold (xs.take k) = (pl, pe) := ⟨_, _, rfl⟩
        rw [hpe] at ep hp hsim
        have hlen : pe = 0 → pl.length ≤ 1000000 := fun h => by have := (hsim.str h).2; simp only at this; omega
        obtain ⟨ad, rfl, c0, c1, c2⟩ := (h.below hb) k hlt
        rw [hx] at c0 c1 c2
        have hbs := hb.size
        have E1 := Lib.hid ep
        clear ep hpe et hsim
        by_cases hz : x.size = 0
        · have hzb : (x.size == 0) = true := by simpa using hz
          have Hz := Lib.hid hz
          clear hz c1 hx
          go_wp2_with fail
          refine (Text_calls W.heap.size W.heap.size vb pl pe x.s _ hp hb.size hlen).mono ?_
          rintro e w1 ⟨rfl, v1, hp1, f1⟩
          have HP := Lib.hid hp1
          have HB := Lib.hid (hb.trans f1.below)
          clear c0 c2 hp hb f1 hp1
          go_wp2_with fail
          go_roundw
          case rel => exact ⟨k + 1, v1, by omega, by go_num, by rw [E1.out, pstep, if_pos Hz.out]; exact HP.out, HB.out⟩
          case measure => simp [intOf]; omega
        · have hzb : (x.size == 0) = false := by simpa using hz
          have Hz := Lib.hid hz
          clear hz c2 hx
          go_wp2_with fail
          go_still_tail 11, (by kernel_rfl)
          change wpList _ _ _ _ _ wr.drew
          have hpd : PkAt 29 5 wr.drew W.heap.size W.heap.size vb pl pe := hp.below (Below.refl _ _).drew
          have hbd : Below W.heap.size W wr.drew := hb.drew
          generalize wr.drew = wd at hpd hbd ⊢
          clear c0 c1 hp hb
          go_wp2_with fail
          refine (Num_calls W.heap.size W.heap.size vb pl pe x.v x.size _ hpd hbd.size hxv.1 hxv.2 hlen).mono ?_
          rintro e w1 ⟨rfl, v1, hp1, f1⟩
          have HP := Lib.hid hp1
          have HB := Lib.hid (hbd.trans f1.below)
          clear hpd hbd f1 hp1
          go_wp2_with fail
          go_roundw
          case rel => exact ⟨k + 1, v1, by omega, by go_num, by rw [E1.out, pstep, if_neg Hz.out]; exact HP.out, HB.out⟩
          case measure => simp [intOf]; omega
      · have ht : xs.take k = xs := by rw [show k = xs.length by omega, List.take_length]
        rw [ht] at hp hsim
        obtain ⟨pl, pe, hpe⟩ : ∃ pl pe, pfold xs = (pl, pe) := ⟨_, _, rfl⟩
        rw [hpe] at hp hsim
        by_cases h0 : pe = 0
        · subst h0
          obtain ⟨hok, henc⟩ := pfold_ok xs [] pl hpe
          rw [List.nil_append] at henc
          have hpl := (hsim.str rfl).2
          have hds : doneS pl 0 = strOfNums (encs xs) := by rw [← henc]; exact if_pos rfl
          have hsz : (strOfNums (encs xs)).size ≤ 60000 := by rw [strOfNums_size, ← henc]; exact hpl
          have HO := Lib.hid hok
          clear hpe hsim ht hok henc hpl
          go_wp2_with fail
          refine (Done_calls W.heap.size W.heap.size vb pl 0 _ hp).mono ?_
          rintro e w1 ⟨rfl, f1⟩
          have b1 := hb.trans (f1.mono hb.size)
          rw [hds]
          clear hds hp hb f1
          have hsz2 : (strOfNums (encs xs)).size ≤ 9223372036854775807 := by omega
          obtain ⟨S, hS⟩ : ∃ S, strOfNums (encs xs) = S := ⟨_, rfl⟩
          rw [hS] at hsz hsz2 ⊢
          have HS := Lib.hid hS
          clear hS
          go_wp2_with fail
          refine (Open_calls S w1 hsz2).mono ?_
          rintro e w2 ⟨g, rfl, ho, f2⟩
          have b2 := b1.trans (f2.mono b1.size)
          have ho2 := ho.low b1.size
          have HO2 := Lib.hid ho2
          have HB2 := Lib.hid b2
          clear ho ho2 f2 b1 b2 hsz hsz2
          go_wp2_with fail
          have hfr : ∀ w w' : World, FrO w w' W.heap.size g → Below W.heap.size W w → Below W.heap.size W w' := fun w w' f b => b.trans f.below
          go_loopw [8] (fun i wr => ∃ (j : Nat), j ≤ xs.length ∧ i = .int .i64 j ∧ OpSt 58 wr W.heap.size g (some (strOfNums (encs (xs.drop j)))) ∧ Below W.heap.size W wr) (fun i _ => xs.length - (intOf i).toNat)
          case atStart => exact ⟨0, Nat.zero_le _, rfl, by rw [List.drop_zero, HS.out]; exact HO2.out, HB2.out⟩
          case round =>
            obtain ⟨j, hj, rfl, ho, hb⟩ := hrel
            clear HO2 HB2
            by_cases hjl : j < xs.length
            · obtain ⟨x, hx⟩ : ∃ x, xs[j] = x := ⟨_, rfl⟩
              have hxm : x ∈ xs := by rw [← hx]; exact List.getElem_mem hjl
              have hxo := HO.out x hxm
              have hxv := hv x hxm
              have hxs := Hsmall.out x hxm
              have ed : encs (xs.drop j) = enc x ++ encs (xs.drop (j + 1)) := by
                rw [List.drop_eq_getElem_cons hjl, encs_cons, hx]
              rw [ed] at ho
              obtain ⟨ad, rfl, c0, c1, c2⟩ := (h.below hb) j hjl
              rw [hx] at c0 c1 c2
              have hbs := hb.size
              by_cases hz : x.size = 0
              · have hzb : (x.size == 0) = true := by simpa using hz
                have tb := text_back x hz hxo (encs (xs.drop (j + 1)))
                have HT : ∀ w, OpSt 58 w W.heap.size g (some (strOfNums (enc x ++ encs (xs.drop (j + 1))))) → W.heap.size ≤ w.heap.size → Calls Try.prog 17 #[.pointer (some ⟨g, 0, none⟩), .int .i64 65535] w fun e w' =>
                    e = .returned (.string x.s) ∧ OpSt 58 w' W.heap.size g (some (strOfNums (encs (xs.drop (j + 1))))) ∧ FrO w w' W.heap.size g := by
                  intro w hw hw2
                  have := OText_calls W.heap.size g _ 65535 w hw hw2
                  rwa [tb] at this
                have HT2 := Lib.hid HT
                have Ho := Lib.hid (OpSt.fr (w1 := wr.drew) ho rfl)
                have Hx := Lib.hid hx
                have Hz := Lib.hid hz
                clear HT tb ed hxo hz ho hx
                go_wp2_with fail
                go_region_with (go_at_call 17; (refine (HT2.out wr.drew Ho.out hbs).mono ?_; rintro e w1 ⟨rfl, hq, f⟩; have b1 := hfr _ _ f hb.drew; obtain ⟨ad2, e2, _, _, d2⟩ := (h.below b1) j hjl; cases e2; rw [Hx.out] at d2))
                all_goals
                  have HQ := Lib.hid hq
                  have HB := Lib.hid b1
                  clear hq f b1 d2 c0 c2 HT2 Ho hb
                  go_wp2_with fail
                  go_roundw
                  case rel => exact ⟨j + 1, by omega, by go_num, HQ.out, HB.out⟩
                  case measure => simp [intOf]; omega
              · have hzb : (x.size == 0) = false := by simpa using hz
                have tb := num_back x hz hxo hxv.1 (encs (xs.drop (j + 1)))
                have HT : ∀ w, OpSt 58 w W.heap.size g (some (strOfNums (enc x ++ encs (xs.drop (j + 1))))) → W.heap.size ≤ w.heap.size → Calls Try.prog 19 #[.pointer (some ⟨g, 0, none⟩), .int .i64 x.size] w fun e w' =>
                    e = .returned (.int .u64 x.v) ∧ OpSt 58 w' W.heap.size g (some (strOfNums (encs (xs.drop (j + 1))))) ∧ FrO w w' W.heap.size g := by
                  intro w hw hw2
                  have := ONum_calls W.heap.size g _ x.size w hw hw2
                  rwa [tb] at this
                have HT2 := Lib.hid HT
                have Ho := Lib.hid (OpSt.fr (w1 := wr.drew) ho rfl)
                have Hx := Lib.hid hx
                have Hz := Lib.hid hz
                clear HT tb ed hxo hz ho hx hxv
                go_wp2_with fail
                go_region_with (go_at_call 19; (refine (HT2.out wr.drew Ho.out hbs).mono ?_; rintro e w1 ⟨rfl, hq, f⟩; have b1 := hfr _ _ f hb.drew; obtain ⟨ad2, e2, _, d2, _⟩ := (h.below b1) j hjl; cases e2; rw [Hx.out] at d2))
                all_goals
                  have HQ := Lib.hid hq
                  have HB := Lib.hid b1
                  clear hq f b1 d2 c0 c1 HT2 Ho hb
                  go_wp2_with fail
                  go_roundw
                  case rel => exact ⟨j + 1, by omega, by go_num, HQ.out, HB.out⟩
                  case measure => simp [intOf]; omega
            · have hd : xs.drop j = [] := List.drop_eq_nil_of_le (by omega)
              rw [hd] at ho
              go_wp2_with fail
              refine (ODone_calls W.heap.size g _ _ ho).mono ?_
              rintro e w3 ⟨rfl, rfl⟩
              rw [show doneB (some (strOfNums (encs []))) = true from rfl]
              clear ho hd
              go_wp2_with fail
              refine (wakes_calls _).mono ?_
              rintro e w3 ⟨rfl, f3⟩
              have HB := Lib.hid (hb.trans (f3.mono hb.size))
              clear hb f3
              go_wp2_with fail
              go_ret
              exact ⟨rfl, HB.out⟩
        · have hds : doneS pl pe = ByteArray.empty := if_neg h0
          have hb0 : (pe != 0) = true := by simpa using h0
          clear hpe hsim ht
          go_wp2_with fail
          refine (Done_calls W.heap.size W.heap.size vb pl pe _ hp).mono ?_
          rintro e w1 ⟨rfl, f1⟩
          have b1 := hb.trans (f1.mono hb.size)
          rw [hds]
          clear hds hp hb f1
          go_wp2_with fail
          refine (wakes_calls _).mono ?_
          rintro e w3 ⟨rfl, f3⟩
          have HB := Lib.hid (b1.trans (f3.mono b1.size))
          clear b1 f3
          go_wp2_with fail
          go_ret
          exact ⟨rfl, HB.out⟩
  · have Hf := Lib.hid (by simpa using hfair : fairB xs = false)
    clear hfair
    go_enter Try.func5, Try.ntmps5
    go_wp2_with (first | (go_at_call 8; refine HF.out.mono ?_; rintro e w1 ⟨rfl, rfl⟩; rw [Hf.out]) | (go_at_call 9; refine (wakes_calls _).mono ?_; rintro e w2 ⟨rfl, h1⟩))
    go_ret
    exact ⟨rfl, h1⟩
end Go.Proofs.Ythblcoccoffofaa.Pk
