/- Whatever is put one behind the other: the bytes, or the first error: the law PackPacks returns true at every list of Items, and changes nothing that was there. No condition. -/
import Derived.Test.YthblcoccoffofaaIt
import Derived.Test.YthblcoccoffofaaRw
import Derived.Deep.RegionWith
import Derived.StillTailTactics
namespace Go.Proofs.Ythblcoccoffofaa.Pk
open Go.RowKit

def pstep (st : List Int × Int) (x : It) : List Int × Int := if x.size = 0 then textStep st.1 st.2 x.s else numStep st.1 st.2 x.v x.size
def rstep (st : ByteArray × Int) (x : It) : ByteArray × Int := if x.size = 0 then rtext st.1 st.2 x.s else rnum st.1 st.2 x.v x.size
def pfold (xs : List It) : List Int × Int := xs.foldl pstep ([], 0)
def rfold (xs : List It) : ByteArray × Int := xs.foldl rstep (⟨#[]⟩, 0)
theorem pfold_snoc (xs : List It) (x : It) : pfold (xs ++ [x]) = pstep (pfold xs) x := by simp [pfold]
theorem rfold_snoc (xs : List It) (x : It) : rfold (xs ++ [x]) = rstep (rfold xs) x := by simp [rfold]

/-- The two Packers hold the same. -/
structure Sim (p : List Int × Int) (r : ByteArray × Int) : Prop where
  err : p.2 = r.2
  str : p.2 = 0 → strOfNums p.1 = r.1 ∧ p.1.length ≤ 60000
  small : r.1.size ≤ 60000

theorem strOfNums_append (a b : List Int) : strOfNums (a ++ b) = strOfNums a ++ strOfNums b := by
  apply ByteArray.ext
  simp [strOfNums]
theorem strOfNums_ints (s : ByteArray) : strOfNums (ints s) = s := by
  apply ByteArray.ext
  apply Array.ext'
  simp [strOfNums, ints, Function.comp_def]

theorem textStep0 (l : List Int) (s : ByteArray) : textStep l 0 s = if 65535 < s.size then (l, 2) else (l ++ bytesOf s.size 2 ++ ints s, if 60000 < (l ++ bytesOf s.size 2 ++ ints s).length then 2 else 0) := if_neg (by decide)
theorem numStep0 (l : List Int) (V n : Int) : numStep l 0 V n = if szB n = true ∧ V < 256 ^ n.toNat then (l ++ bytesOf V n.toNat, if 60000 < (l ++ bytesOf V n.toNat).length then 2 else 0) else (l, 11) := if_neg (by decide)
theorem rput0 (a s : ByteArray) : rput a 0 s = if 60000 < a.size + s.size then (a, 2) else (a ++ s, 0) := if_neg (by decide)
theorem rtext0 (a s : ByteArray) : rtext a 0 s = if 65535 < s.size then (a, 2) else rput a 0 (bytesStr s.size 2 ++ s) := if_neg (by decide)
theorem rnum0 (a : ByteArray) (V n : Int) : rnum a 0 V n = if szB n = true ∧ V < 256 ^ n.toNat then rput a 0 (bytesStr V n.toNat) else (a, 11) := if_neg (by decide)

theorem rput_sim (l k : List Int) (a : ByteArray) (h : strOfNums l = a) (hl : l.length ≤ 60000) :
    Sim (l ++ k, if 60000 < (l ++ k).length then 2 else 0) (rput a 0 (strOfNums k)) := by
  have hs : a.size = l.length := by rw [← h, strOfNums_size]
  have hk : (strOfNums k).size = k.length := strOfNums_size k
  have hlen : (l ++ k).length = l.length + k.length := List.length_append
  rw [rput0]
  by_cases hc : 60000 < a.size + (strOfNums k).size
  · rw [if_pos hc, if_pos (show 60000 < (l ++ k).length by omega)]
    exact ⟨rfl, fun h0 => absurd h0 (show ¬ _ = (0 : Int) by simp), by show a.size ≤ _; omega⟩
  · rw [if_neg hc, if_neg (show ¬ 60000 < (l ++ k).length by omega)]
    refine ⟨rfl, fun _ => ⟨by rw [strOfNums_append, h], by show (l ++ k).length ≤ 60000; omega⟩, ?_⟩
    show (a ++ strOfNums k).size ≤ 60000
    rw [ByteArray.size_append]; omega

theorem sim_step {p : List Int × Int} {r : ByteArray × Int} (h : Sim p r) (x : It) : Sim (pstep p x) (rstep r x) := by
  obtain ⟨l, e⟩ := p
  obtain ⟨a, e'⟩ := r
  have he : e = e' := h.err
  subst he
  unfold pstep rstep
  by_cases h0 : e = 0
  · subst h0
    obtain ⟨h1, h2⟩ := h.str rfl
    have h3 := h.small
    simp only at h1 h2 h3 ⊢
    by_cases hx : x.size = 0
    · rw [if_pos hx, if_pos hx, textStep0, rtext0]
      by_cases hs : 65535 < x.s.size
      · rw [if_pos hs, if_pos hs]
        exact ⟨rfl, fun h0 => absurd h0 (show ¬ _ = (0 : Int) by simp), h3⟩
      · rw [if_neg hs, if_neg hs]
        have := rput_sim l (bytesOf x.s.size 2 ++ ints x.s) a h1 h2
        rw [strOfNums_append, strOfNums_ints, ← List.append_assoc] at this
        exact this
    · rw [if_neg hx, if_neg hx, numStep0, rnum0]
      by_cases hc : szB x.size = true ∧ x.v < 256 ^ x.size.toNat
      · rw [if_pos hc, if_pos hc]
        exact rput_sim l (bytesOf x.v x.size.toNat) a h1 h2
      · rw [if_neg hc, if_neg hc]
        exact ⟨rfl, fun h0 => absurd h0 (show ¬ _ = (0 : Int) by simp), h3⟩
  · have e1 : (if x.size = 0 then textStep l e x.s else numStep l e x.v x.size) = (l, e) := by
      split
      · unfold textStep; rw [if_pos h0]
      · unfold numStep; rw [if_pos h0]
    have e2 : (if x.size = 0 then rtext a e x.s else rnum a e x.v x.size) = (a, e) := by
      split
      · unfold rtext; rw [if_pos h0]
      · unfold rnum; rw [if_pos h0]
    simp only [e1, e2]
    exact h
theorem sim_fold (xs : List It) : Sim (pfold xs) (rfold xs) := by
  have key : ∀ (ys : List It) (p : List Int × Int) (r : ByteArray × Int), Sim p r → Sim (ys.foldl pstep p) (ys.foldl rstep r) := by
    intro ys
    induction ys with
    | nil => intro p r h; exact h
    | cons y ys ih => intro p r h; exact ih _ _ (sim_step h y)
  exact key xs _ _ ⟨rfl, fun _ => ⟨rfl, by simp⟩, by decide⟩

theorem RpAt.other {w w1 : World} {base g g2 : Nat} {s : ByteArray} {e : Int} {v v1 : Value} (h : RpAt 32 w base g2 s e) (f : Fr w w1 base g v v1) (hg : g2 ≠ g) (hv : v.ownBlock ≠ some g2) : RpAt 32 w1 base g2 s e :=
  ⟨h.blk.same (f.same g2 h.blk.lt hg hv), h.ge⟩
theorem PkAt.otherO {w w1 : World} {base g g2 : Nat} {v : Value} {l : List Int} {e : Int} (h : PkAt 29 5 w base g v l e) (f : FrO w w1 base g2) (hg : g ≠ g2) (hv : v.ownBlock ≠ some g2) : PkAt 29 5 w1 base g v l e :=
  h.other f hg (by simp [Value.ownBlock]) hv (fun k _ => by simp [Value.ownBlock])

set_option maxHeartbeats 2000000 in
theorem packs_walk (A : Option Addr) (cap : Nat) (xs : List It) (W : World) (h : ItIn W A xs) (hl : xs.length ≤ 4398046511104) (hs : ∀ x ∈ xs, x.s.size ≤ maxLen)
    (hv : ∀ x ∈ xs, 0 ≤ x.v ∧ x.v < 18446744073709551616) :
    Calls Try.prog 3 #[.slice A xs.length cap] W fun e w' => e = .returned (.bool true) ∧ Below W.heap.size W w' := by
  have HF := Lib.hid (fair_calls A cap xs W h hl hs)
  by_cases hfair : fairB xs = true
  · have Hf := Lib.hid hfair
    have hsmall : ∀ x ∈ xs, x.s.size ≤ 130000 := by
      have h1 := hfair
      simp only [fairB, Bool.and_eq_true, decide_eq_true_eq] at h1
      exact h1.1.1
    have Hsmall := Lib.hid hsmall
    clear hsmall
    have hb0 : Below W.heap.size W ((W.alloc (.cells #[.slice none 0 0, .int .i64 0] 29)).alloc (.cells #[.string ⟨#[]⟩, .int .i64 0] 32)) :=
      ((Below.refl _ _).alloc (Nat.le_refl _) _).alloc (by simp) _
    have hp0 : PkAt 29 5 ((W.alloc (.cells #[.slice none 0 0, .int .i64 0] 29)).alloc (.cells #[.string ⟨#[]⟩, .int .i64 0] 32)) W.heap.size W.heap.size (.slice none 0 0) [] 0 :=
      (PkAt.new W W.heap.size (Nat.le_refl _)).below ((Below.refl _ _).alloc (Nat.le_refl _) _)
    have hr0 : RpAt 32 ((W.alloc (.cells #[.slice none 0 0, .int .i64 0] 29)).alloc (.cells #[.string ⟨#[]⟩, .int .i64 0] 32)) W.heap.size (W.heap.size + 1) ⟨#[]⟩ 0 :=
      ⟨by simpa using Blk.new (W.alloc (.cells #[.slice none 0 0, .int .i64 0] 29)) 32 #[.string ⟨#[]⟩, .int .i64 0], by omega⟩
    have Hb0 := Lib.hid hb0
    have Hp0 := Lib.hid hp0
    have Hr0 := Lib.hid hr0
    clear hb0 hp0 hr0 hfair
    go_enter Try.func3, Try.ntmps3
    go_wp2_with (go_at_call 8; refine HF.out.mono ?_; rintro e w1 ⟨rfl, rfl⟩; rw [Hf.out])
    go_loopw [5] (fun i wr => ∃ (k : Nat) (vb : Value), k ≤ xs.length ∧ i = .int .i64 k ∧ PkAt 29 5 wr W.heap.size W.heap.size vb (pfold (xs.take k)).1 (pfold (xs.take k)).2 ∧
        RpAt 32 wr W.heap.size (W.heap.size + 1) (rfold (xs.take k)).1 (rfold (xs.take k)).2 ∧ Below W.heap.size W wr) (fun i _ => xs.length - (intOf i).toNat)
    case atStart => exact ⟨0, _, Nat.zero_le _, rfl, Hp0.out, Hr0.out, Hb0.out⟩
    case round =>
      obtain ⟨k, vb, hk, rfl, hp, hr, hb⟩ := hrel
      clear Hp0 Hr0 Hb0
      have hsim := sim_fold (xs.take k)
      by_cases hlt : k < xs.length
      · obtain ⟨x, hx⟩ : ∃ x, xs[k] = x := ⟨_, rfl⟩
        have hxm : x ∈ xs := by rw [← hx]; exact List.getElem_mem hlt
        have hxs := Hsmall.out x hxm
        have hxv := hv x hxm
        have et : xs.take (k + 1) = xs.take k ++ [x] := by rw [List.take_succ_eq_append_getElem hlt, hx]
        have ep := pfold_snoc (xs.take k) x
        have er := rfold_snoc (xs.take k) x
        rw [← et] at ep er
        obtain ⟨pl, pe, hpe⟩ : ∃ pl pe, pfold (xs.take k) = (pl, pe) := ⟨_, _, rfl⟩
        obtain ⟨ra, re, hre⟩ : ∃ ra re, rfold (xs.take k) = (ra, re) := ⟨_, _, rfl⟩
        rw [hpe] at ep hp hsim
        rw [hre] at er hr hsim
        have hlen : pe = 0 → pl.length ≤ 1000000 := fun h => by have := (hsim.str h).2; simp only at this; omega
        have hra : ra.size ≤ 1000000 := by have := hsim.small; simp only at this; omega
        obtain ⟨ad, rfl, c0, c1, c2⟩ := (h.below hb) k hlt
        rw [hx] at c0 c1 c2
        have hne : W.heap.size + 1 ≠ W.heap.size := by omega
        have hvb : vb.ownBlock ≠ some (W.heap.size + 1) := own_blk_ne hp.row hr.blk (by decide)
        have hvg : vb.ownBlock ≠ some W.heap.size := hp.apart (by decide)
        have hbs := hb.size
        have E1 := Lib.hid ep
        have E2 := Lib.hid er
        have hx' := hx
        clear ep er hpe hre et hsim
        by_cases hz : x.size = 0
        · have hzb : (x.size == 0) = true := by simpa using hz
          have Hz := Lib.hid hz
          clear hz c1
          go_wp2_with fail
          refine (Text_calls W.heap.size W.heap.size vb pl pe x.s _ hp hb.size hlen).mono ?_
          rintro e w1 ⟨rfl, v1, hp1, f1⟩
          have b1 := hb.trans f1.below
          have hr1 := hr.other f1 hne hvb
          obtain ⟨ad', e', d0, d1, d2⟩ := (h.below b1) k hlt
          obtain rfl : ad = ad' := by injection e'
          rw [hx'] at d2
          clear c0 c2 d0 d1 hp hr hb f1
          go_wp2_with fail
          refine (rtext_calls W.heap.size (W.heap.size + 1) ra x.s re _ hr1 b1.size hra (by omega)).mono ?_
          rintro e w2 ⟨rfl, hr2, f2⟩
          have b2 := b1.trans f2.below
          have hp2 := hp1.otherO f2 (by omega) (own_blk_ne hp1.row hr1.blk (by decide))
          have HP := Lib.hid hp2
          have HR := Lib.hid hr2
          have HB := Lib.hid b2
          clear hp1 hr1 b1 f2 hp2 hr2 b2 d2
          go_wp2_with fail
          go_roundw
          case rel =>
            refine ⟨k + 1, v1, by omega, by go_num, ?_, ?_, HB.out⟩
            · rw [E1.out, pstep, if_pos Hz.out]; exact HP.out
            · rw [E2.out, rstep, if_pos Hz.out]; exact HR.out
          case measure => simp [intOf]; omega
        · have hzb : (x.size == 0) = false := by simpa using hz
          have Hz := Lib.hid hz
          clear hz c2
          go_wp2_with fail
          go_still_tail 11, (by kernel_rfl)
          change wpList _ _ _ _ _ wr.drew
          have hpd : PkAt 29 5 wr.drew W.heap.size W.heap.size vb pl pe := hp.below (Below.refl _ _).drew
          have hrd : RpAt 32 wr.drew W.heap.size (W.heap.size + 1) ra re := hr.below (Below.refl _ _).drew
          have hbd : Below W.heap.size W wr.drew := hb.drew
          generalize wr.drew = wd at hpd hrd hbd ⊢
          clear c0 c1 hp hr hb
          go_wp2_with fail
          refine (Num_calls W.heap.size W.heap.size vb pl pe x.v x.size _ hpd hbd.size hxv.1 hxv.2 hlen).mono ?_
          rintro e w1 ⟨rfl, v1, hp1, f1⟩
          have b1 := hbd.trans f1.below
          have hr1 := hrd.other f1 hne hvb
          obtain ⟨ad', e', c0, c1, _⟩ := (h.below b1) k hlt
          obtain rfl : ad = ad' := by injection e'
          rw [hx'] at c0 c1
          clear hpd hrd hbd f1
          go_wp2_with fail
          go_still_tail 11, (by kernel_rfl)
          change wpList _ _ _ _ _ w1.drew
          have hpd : PkAt 29 5 w1.drew W.heap.size W.heap.size v1 _ _ := hp1.below (Below.refl _ _).drew
          have hrd : RpAt 32 w1.drew W.heap.size (W.heap.size + 1) ra re := hr1.below (Below.refl _ _).drew
          have hbd : Below W.heap.size W w1.drew := b1.drew
          generalize w1.drew = wd at hpd hrd hbd ⊢
          clear c0 c1 hp1 hr1 b1
          go_wp2_with fail
          refine (rnum_calls W.heap.size (W.heap.size + 1) ra re x.v x.size _ hrd hbd.size hra hxv.1 hxv.2).mono ?_
          rintro e w2 ⟨rfl, hr2, f2⟩
          have b2 := hbd.trans f2.below
          have hp2 := hpd.otherO f2 (by omega) (own_blk_ne hpd.row hrd.blk (by decide))
          have HP := Lib.hid hp2
          have HR := Lib.hid hr2
          have HB := Lib.hid b2
          clear hpd hrd hbd f2 hp2 hr2 b2
          go_wp2_with fail
          go_roundw
          case rel =>
            refine ⟨k + 1, v1, by omega, by go_num, ?_, ?_, HB.out⟩
            · rw [E1.out, pstep, if_neg Hz.out]; exact HP.out
            · rw [E2.out, rstep, if_neg Hz.out]; exact HR.out
          case measure => simp [intOf]; omega
      · have ht : xs.take k = xs := by rw [show k = xs.length by omega, List.take_length]
        rw [ht] at hp hr hsim
        obtain ⟨pl, pe, hpe⟩ : ∃ pl pe, pfold xs = (pl, pe) := ⟨_, _, rfl⟩
        obtain ⟨ra, re, hre⟩ : ∃ ra re, rfold xs = (ra, re) := ⟨_, _, rfl⟩
        rw [hpe] at hp hsim
        rw [hre] at hr hsim
        have he : pe = re := hsim.err
        subst he
        have hstr : doneS pl pe = if pe = 0 then ra else ByteArray.empty := by
          unfold doneS
          by_cases h0 : pe = 0
          · rw [if_pos h0, if_pos h0]; exact (hsim.str h0).1
          · rw [if_neg h0, if_neg h0]
        clear hpe hre hsim ht
        go_wp2_with fail
        refine (Done_calls W.heap.size W.heap.size vb pl pe _ hp).mono ?_
        rintro e w1 ⟨rfl, f1⟩
        have hr1 := hr.below f1
        have b1 := hb.trans (f1.mono hb.size)
        have hrd := rdone_calls W.heap.size (W.heap.size + 1) ra pe w1 hr1
        rw [hstr]
        generalize (if pe = 0 then ra else ByteArray.empty) = st at hrd ⊢
        have HRD := Lib.hid hrd
        clear hstr hp hr hb f1 hrd hr1
        go_wp2_with fail
        refine HRD.out.mono ?_
        rintro e w2 ⟨rfl, f2⟩
        have b2 := b1.trans (f2.mono b1.size)
        clear HRD f2 b1
        go_wp2_with fail
        refine (wakes_calls _).mono ?_
        rintro e w3 ⟨rfl, f3⟩
        have HB := Lib.hid (b2.trans (f3.mono b2.size))
        clear b2 f3
        go_wp2_with fail
        go_ret
        exact ⟨rfl, HB.out⟩
  · have Hf := Lib.hid (by simpa using hfair : fairB xs = false)
    clear hfair
    go_enter Try.func3, Try.ntmps3
    go_wp2_with (first | (go_at_call 8; refine HF.out.mono ?_; rintro e w1 ⟨rfl, rfl⟩; rw [Hf.out]) | (go_at_call 9; refine (wakes_calls _).mono ?_; rintro e w2 ⟨rfl, h1⟩))
    go_ret
    exact ⟨rfl, h1⟩
end Go.Proofs.Ythblcoccoffofaa.Pk
