/- The walk of PackApart. -/
import Derived.Test.YthblcoccoffofaaAp
namespace Go.Proofs.Ythblcoccoffofaa.Pk
open Go.RowKit

/-- Two Packers that share nothing. -/
structure Two (w : World) (base g1 g2 : Nat) (v1 v2 : Value) (p1 p2 : List Int × Int) : Prop where
  one : PkAt 29 5 w base g1 v1 p1.1 p1.2
  two : PkAt 29 5 w base g2 v2 p2.1 p2.2
  apart : ∀ k, v1.ownBlock = some k → v2.ownBlock ≠ some k
theorem Two.below {w w1 : World} {base g1 g2 : Nat} {v1 v2 : Value} {p1 p2 : List Int × Int} (h : Two w base g1 g2 v1 v2 p1 p2) (hb : Below w.heap.size w w1) : Two w1 base g1 g2 v1 v2 p1 p2 :=
  ⟨h.one.below hb, h.two.below hb, h.apart⟩
theorem Two.first {w w1 : World} {base g1 g2 : Nat} {v1 v1' v2 : Value} {p1 p1' p2 : List Int × Int} (h : Two w base g1 g2 v1 v2 p1 p2) (hg : g2 ≠ g1) (f : Fr w w1 base g1 v1 v1') (h1 : PkAt 29 5 w1 base g1 v1' p1'.1 p1'.2) :
    Two w1 base g1 g2 v1' v2 p1' p2 :=
  ⟨h1, h.two.other f hg (own_blk_ne h.one.row h.two.blk (by decide)) (own_blk_ne h.two.row h.one.blk (by decide)) fun k hk hk1 => h.apart k hk1 hk, fun k hk hk2 => by
    rcases f.own with e | ⟨j, e, hj⟩
    · rw [e] at hk; exact h.apart k hk hk2
    · rw [e] at hk
      have := (h.two.row.lt k hk2).2
      injection hk with hk
      omega⟩
theorem Two.second {w w1 : World} {base g1 g2 : Nat} {v1 v2 v2' : Value} {p1 p2 p2' : List Int × Int} (h : Two w base g1 g2 v1 v2 p1 p2) (hg : g2 ≠ g1) (f : Fr w w1 base g2 v2 v2') (h2 : PkAt 29 5 w1 base g2 v2' p2'.1 p2'.2) :
    Two w1 base g1 g2 v1 v2' p1 p2' :=
  ⟨h.one.other f (fun e => hg e.symm) (own_blk_ne h.two.row h.one.blk (by decide)) (own_blk_ne h.one.row h.two.blk (by decide)) fun k hk => h.apart k hk, h2, fun k hk hk2 => by
    rcases f.own with e | ⟨j, e, hj⟩
    · rw [e] at hk2; exact h.apart k hk hk2
    · rw [e] at hk2
      have := (h.one.row.lt k hk).2
      injection hk2 with hk2
      omega⟩

theorem PkAt.far {w : World} {base g bx i : Nat} {v u : Value} {l : List Int} {e : Int} {cs : Array Value} (h : PkAt 29 5 w base g v l e) (hb : Blk w bx 35 cs) : PkAt 29 5 (w.setCell ⟨bx, i, none⟩ u) base g v l e :=
  ⟨h.blk.same (Below.heap_setCell _ _ _ _ (h.blk.ne_ hb (by decide))), h.ge, own_same h.row fun k hk => Below.heap_setCell _ _ _ _ (by
    rintro rfl
    exact own_blk_ne h.row hb (by decide) hk)⟩
theorem Two.far {w : World} {base g1 g2 bx i : Nat} {v1 v2 u : Value} {p1 p2 : List Int × Int} {cs : Array Value} (h : Two w base g1 g2 v1 v2 p1 p2) (hb : Blk w bx 35 cs) : Two (w.setCell ⟨bx, i, none⟩ u) base g1 g2 v1 v2 p1 p2 :=
  ⟨h.one.far hb, h.two.far hb, h.apart⟩
theorem Blk.fr {w w1 : World} {base g bx : Nat} {v v1 : Value} {l : List Int} {e : Int} {cs : Array Value} (hb : Blk w bx 35 cs) (f : Fr w w1 base g v v1) (h : PkAt 29 5 w base g v l e) : Blk w1 bx 35 cs :=
  hb.same (f.same bx hb.lt (hb.ne_ h.blk (by decide)) (own_blk_ne h.row hb (by decide)))

/-- What 'same' holds behind j rounds. -/
def sameB (xs : List It) (c j : Nat) (v : Int) : Bool := if j ≤ c then true else match xs[c]? with | some x => sameAt x v | none => true

set_option maxHeartbeats 1000000 in
theorem apart_walk (A : Option Addr) (cap : Nat) (xs : List It) (at_ v : Int) (W : World) (h : ItIn W A xs) (hl : xs.length ≤ 4398046511104) (hs : ∀ x ∈ xs, x.s.size ≤ maxLen)
    (hv : ∀ x ∈ xs, 0 ≤ x.v ∧ x.v < 18446744073709551616) (hat : -9223372036854775808 ≤ at_ ∧ at_ ≤ 9223372036854775807) (hv0 : 0 ≤ v) (hv64 : v < 18446744073709551616) :
    Calls Try.prog 7 #[.slice A xs.length cap, .int .i64 at_, .int .u64 v] W fun e w' => e = .returned (.bool true) ∧ Below W.heap.size W w' := by
  have HF := Lib.hid (fair_calls A cap xs W h hl hs)
  by_cases hfair : fairB xs = true ∧ 1 ≤ xs.length
  · obtain ⟨hfair, hpos⟩ := hfair
    have Hf := Lib.hid hfair
    have hsmall : ∀ x ∈ xs, x.s.size ≤ 130000 := by
      have h1 := hfair
      simp only [fairB, Bool.and_eq_true, decide_eq_true_eq] at h1
      exact h1.1.1
    have Hsmall := Lib.hid hsmall
    have hlen0 : ((xs.length : Int) == 0) = false := by simpa using (show xs ≠ [] from fun e => by rw [e] at hpos; simp at hpos)
    have HM := Lib.hid (mod_calls at_ xs.length W hat hpos hl)
    have Hat := Lib.hid hat
    have hw2 : Two ((W.alloc (.cells #[.slice none 0 0, .int .i64 0] 29)).alloc (.cells #[.slice none 0 0, .int .i64 0] 29)) W.heap.size W.heap.size (W.heap.size + 1) (.slice none 0 0) (.slice none 0 0) ([], 0) ([], 0) := by
      have h2 := PkAt.new (W.alloc (.cells #[.slice none 0 0, .int .i64 0] 29)) W.heap.size (by simp)
      refine ⟨(PkAt.new W W.heap.size (Nat.le_refl _)).below ((Below.refl _ _).alloc (Nat.le_refl _) _), by simpa using h2, fun k hk => by simp [Value.ownBlock] at hk⟩
    have Hw2 := Lib.hid hw2
    have Hb0 := Lib.hid (((Below.refl W.heap.size W).alloc (Nat.le_refl _) (.cells #[.slice none 0 0, .int .i64 0] 29)).alloc (by simp) (.cells #[.slice none 0 0, .int .i64 0] 29))
    clear hfair hsmall hw2 hat
    go_enter Try.func7, Try.ntmps7
    go_wp2_with (first | (go_at_call 8; refine HF.out.mono ?_; rintro e w1 ⟨rfl, rfl⟩; rw [Hf.out]) | (go_at_call 23; refine HM.out.mono ?_; rintro e w1 ⟨c, hc, rfl, rfl⟩))
    go_loopw [10, 11] (fun sm i wr => ∃ (j : Nat) (v1 v2 : Value), j ≤ xs.length ∧ i = .int .i64 j ∧ sm = .bool (sameB xs c j v) ∧
        Two wr W.heap.size W.heap.size (W.heap.size + 1) v1 v2 (pfold (xs.take j)) (pfold ((turned xs c v).take j)) ∧ Below W.heap.size W wr) (fun _ i _ => xs.length - (intOf i).toNat)
    case atStart => exact ⟨0, _, _, Nat.zero_le _, rfl, by simp [sameB], Hw2.out, Hb0.out⟩
    case round =>
      obtain ⟨j, v1, v2, hj, rfl, rfl, hw, hb⟩ := hrel
      clear Hw2 Hb0
      have hs1 := sim_fold (xs.take j)
      have hs2 := sim_fold ((turned xs c v).take j)
      by_cases hlt : j < xs.length
      · obtain ⟨x, hx⟩ : ∃ x, xs[j] = x := ⟨_, rfl⟩
        have hxm : x ∈ xs := by rw [← hx]; exact List.getElem_mem hlt
        have hxs := Hsmall.out x hxm
        have hxv := hv x hxm
        have hta := turned_at xs c v j hlt hc
        rw [hx] at hta
        have et : xs.take (j + 1) = xs.take j ++ [x] := by rw [List.take_succ_eq_append_getElem hlt, hx]
        have et2 : (turned xs c v).take (j + 1) = (turned xs c v).take j ++ [if j = c then turn x v else x] := by
          rw [List.take_add_one, hta]; rfl
        have ep := pfold_snoc (xs.take j) x
        have ep2 := pfold_snoc ((turned xs c v).take j) (if j = c then turn x v else x)
        rw [← et] at ep
        rw [← et2] at ep2
        obtain ⟨pl, pe, hpe⟩ : ∃ pl pe, pfold (xs.take j) = (pl, pe) := ⟨_, _, rfl⟩
        obtain ⟨ql, qe, hqe⟩ : ∃ ql qe, pfold ((turned xs c v).take j) = (ql, qe) := ⟨_, _, rfl⟩
        rw [hpe] at ep hw hs1
        rw [hqe] at ep2 hw hs2
        have hlen : pe = 0 → pl.length ≤ 1000000 := fun h => by have := (hs1.str h).2; simp only at this; omega
        have hlen2 : qe = 0 → ql.length ≤ 1000000 := fun h => by have := (hs2.str h).2; simp only at this; omega
        obtain ⟨ad, rfl, c0, c1, c2⟩ := (h.below hb) j hlt
        rw [hx] at c0 c1 c2
        have hsame : j + 1 ≠ c + 1 → sameB xs c (j + 1) v = sameB xs c j v := by
          intro hne
          unfold sameB
          by_cases h1 : j ≤ c
          · rw [if_pos h1, if_pos (by omega)]
          · rw [if_neg h1, if_neg (by omega)]
        have hsame2 : j = c → sameB xs c (j + 1) v = sameAt x v := by
          rintro rfl
          unfold sameB
          rw [if_neg (by omega), List.getElem?_eq_getElem hlt, hx]
        have E1 := Lib.hid ep
        have E2 := Lib.hid ep2
        have S1 := Lib.hid hsame
        have S2 := Lib.hid hsame2
        generalize sameB xs c j v = sm at *
        have hne : W.heap.size + 1 ≠ W.heap.size := by omega
        clear ep ep2 hpe hqe et et2 hs1 hs2 hta hsame hsame2
        by_cases hz : x.size = 0
        · have hzb : (x.size == 0) = true := by simpa using hz
          have Hz := Lib.hid hz
          clear hz
          by_cases hjc : j = c
          · have hjb : ((j : Int) == (c : Int)) = true := by simp; omega
            have Hjc := Lib.hid hjc
            clear hjc hx
            have ba : Below wr.heap.size wr (wr.alloc (.cells #[.int .i64 x.size, .int .u64 x.v, .string x.s] 35)) := (Below.refl _ _).alloc (Nat.le_refl _) _
            have hwa := hw.below ba
            have hba := hb.trans (ba.mono hb.size)
            have kx := Blk.new wr 35 #[.int .i64 x.size, .int .u64 x.v, .string x.s]
            have hTx : x.s.size + (⟨#[122]⟩ : ByteArray).size ≤ 9223372036854775807 := by have : (⟨#[122]⟩ : ByteArray).size = 1 := rfl; omega
            have hTs : (x.s ++ ⟨#[122]⟩ : ByteArray).size ≤ 1000000000 := by rw [ByteArray.size_append]; have : (⟨#[122]⟩ : ByteArray).size = 1 := rfl; omega
            have HTs := Lib.hid hTs
            clear hTs
            go_wp2_with fail
            refine (Text_calls W.heap.size W.heap.size v1 pl pe x.s _ hwa.one hba.size hlen).mono ?_
            rintro e w1 ⟨rfl, v1', hp1, f1⟩
            have hw1 := hwa.first hne f1 hp1
            have kx1 := kx.fr f1 hwa.one
            have b1 := hba.trans f1.below
            have d2 := kx1.cell 2
            have g2 := kx1.frozen 2
            have kx2 := kx1.set_ 2 (.string (x.s ++ ⟨#[122]⟩))
            have hw2 := hw1.far (i := 2) (u := .string (x.s ++ ⟨#[122]⟩)) kx1
            have hxge : W.heap.size ≤ wr.heap.size := hb.size
            have b2 : Below W.heap.size W (w1.setCell ⟨wr.heap.size, 2, none⟩ (.string (x.s ++ ⟨#[122]⟩))) := b1.setCell hxge _
            clear c0 c1 c2 ba hwa hba kx hp1 f1 hw1 kx1 b1 hw hb
            have hT := Lib.hid (Text_calls W.heap.size (W.heap.size + 1) v2 ql qe (x.s ++ ⟨#[122]⟩) _ hw2.two b2.size hlen2)
            go_wp2_with fail
            refine hT.out.mono ?_
            clear hT
            rintro e w3 ⟨rfl, v2', hp3, f3⟩
            have HW := Lib.hid (hw2.second hne f3 hp3)
            have HB := Lib.hid (b2.trans f3.below)
            clear hp3 f3 hw2 b2 kx2 d2 g2
            go_wp2_with fail
            go_roundw
            case rel =>
              refine ⟨j + 1, v1', v2', by omega, by go_num, ?_, ?_, HB.out⟩
              · rw [S2.out Hjc.out, sameAt, if_pos Hz.out]
              · rw [E1.out, E2.out, if_pos Hjc.out, turn, if_pos Hz.out, pstep, pstep, if_pos Hz.out, if_pos Hz.out]; exact HW.out
            case measure => simp [intOf]; omega
          · have hjb : ((j : Int) == (c : Int)) = false := by simp; omega
            have Hjc := Lib.hid hjc
            clear hjc hx
            have ba : Below wr.heap.size wr (wr.alloc (.cells #[.int .i64 x.size, .int .u64 x.v, .string x.s] 35)) := (Below.refl _ _).alloc (Nat.le_refl _) _
            have hwa := hw.below ba
            have hba := hb.trans (ba.mono hb.size)
            have kx := Blk.new wr 35 #[.int .i64 x.size, .int .u64 x.v, .string x.s]
            have hT := Lib.hid (Text_calls W.heap.size W.heap.size v1 pl pe x.s _ hwa.one hba.size hlen)
            go_wp2_with fail
            refine hT.out.mono ?_
            rintro e w1 ⟨rfl, v1', hp1, f1⟩
            have hw1 := hwa.first hne f1 hp1
            have kx1 := kx.fr f1 hwa.one
            have b1 := hba.trans f1.below
            have d2 := kx1.cell 2
            clear c0 c1 c2 ba hwa hba kx hp1 f1 kx1 hw hb hT
            have hT := Lib.hid (Text_calls W.heap.size (W.heap.size + 1) v2 ql qe x.s _ hw1.two b1.size hlen2)
            go_wp2_with fail
            refine hT.out.mono ?_
            rintro e w3 ⟨rfl, v2', hp3, f3⟩
            have HW := Lib.hid (hw1.second hne f3 hp3)
            have HB := Lib.hid (b1.trans f3.below)
            clear hp3 f3 hw1 b1 d2 hT
            go_wp2_with fail
            go_roundw
            case rel =>
              refine ⟨j + 1, v1', v2', by omega, by go_num, ?_, ?_, HB.out⟩
              · rw [S1.out (by have := Hjc.out; omega)]
              · rw [E1.out, E2.out, if_neg Hjc.out, pstep, pstep, if_pos Hz.out, if_pos Hz.out]; exact HW.out
            case measure => simp [intOf]; omega
        · have hzb : (x.size == 0) = false := by simpa using hz
          have Hz := Lib.hid hz
          clear hz
          have ba : Below wr.heap.size wr (wr.alloc (.cells #[.int .i64 x.size, .int .u64 x.v, .string x.s] 35)) := (Below.refl _ _).alloc (Nat.le_refl _) _
          have hwa := hw.below ba
          have hba := hb.trans (ba.mono hb.size)
          have kx := Blk.new wr 35 #[.int .i64 x.size, .int .u64 x.v, .string x.s]
          have hT := Lib.hid (Num_calls W.heap.size W.heap.size v1 pl pe x.v x.size _ hwa.one hba.size hxv.1 hxv.2 hlen)
          have hxge : W.heap.size ≤ wr.heap.size := hb.size
          by_cases hjc : j = c
          · have hjb : ((j : Int) == (c : Int)) = true := by simp; omega
            have Hjc := Lib.hid hjc
            clear hjc hx
            go_wp2_with fail
            refine hT.out.mono ?_
            rintro e w1 ⟨rfl, v1', hp1, f1⟩
            have hw1 := hwa.first hne f1 hp1
            have kx1 := kx.fr f1 hwa.one
            have b1 := hba.trans f1.below
            have d0 := kx1.cell 0
            have d1 := kx1.cell 1
            have g1 := kx1.frozen 1
            have hw2 := hw1.far (i := 1) (u := .int .u64 v) kx1
            have b2 : Below W.heap.size W (w1.setCell ⟨wr.heap.size, 1, none⟩ (.int .u64 v)) := b1.setCell hxge _
            clear c0 c1 c2 ba hwa hba kx hp1 f1 hw1 b1 hw hb hT
            have hT := Lib.hid (Num_calls W.heap.size (W.heap.size + 1) v2 ql qe v x.size _ hw2.two b2.size hv0 hv64 hlen2)
            go_wp2_with fail
            refine hT.out.mono ?_
            rintro e w3 ⟨rfl, v2', hp3, f3⟩
            have HW := Lib.hid (hw2.second hne f3 hp3)
            have HB := Lib.hid (b2.trans f3.below)
            clear hp3 f3 hw2 b2 d0 d1 g1 kx1 hT
            go_wp2_with fail
            go_roundw
            case rel =>
              refine ⟨j + 1, v1', v2', by omega, by go_num, ?_, ?_, HB.out⟩
              · rw [S2.out Hjc.out, sameAt, if_neg Hz.out]
              · rw [E1.out, E2.out, if_pos Hjc.out, turn, if_neg Hz.out, pstep, pstep, if_neg Hz.out, if_neg Hz.out]; exact HW.out
            case measure => simp [intOf]; omega
          · have hjb : ((j : Int) == (c : Int)) = false := by simp; omega
            have Hjc := Lib.hid hjc
            clear hjc hx
            go_wp2_with fail
            refine hT.out.mono ?_
            rintro e w1 ⟨rfl, v1', hp1, f1⟩
            have hw1 := hwa.first hne f1 hp1
            have kx1 := kx.fr f1 hwa.one
            have b1 := hba.trans f1.below
            have d0 := kx1.cell 0
            have d1 := kx1.cell 1
            clear c0 c1 c2 ba hwa hba kx hp1 f1 kx1 hw hb hT
            have hT := Lib.hid (Num_calls W.heap.size (W.heap.size + 1) v2 ql qe x.v x.size _ hw1.two b1.size hxv.1 hxv.2 hlen2)
            go_wp2_with fail
            refine hT.out.mono ?_
            rintro e w3 ⟨rfl, v2', hp3, f3⟩
            have HW := Lib.hid (hw1.second hne f3 hp3)
            have HB := Lib.hid (b1.trans f3.below)
            clear hp3 f3 hw1 b1 d0 d1 hT
            go_wp2_with fail
            go_roundw
            case rel =>
              refine ⟨j + 1, v1', v2', by omega, by go_num, ?_, ?_, HB.out⟩
              · rw [S1.out (by have := Hjc.out; omega)]
              · rw [E1.out, E2.out, if_neg Hjc.out, pstep, pstep, if_neg Hz.out, if_neg Hz.out]; exact HW.out
            case measure => simp [intOf]; omega
      · have ht : xs.take j = xs := by rw [show j = xs.length by omega, List.take_length]
        have ht2 : (turned xs c v).take j = turned xs c v := by rw [show j = (turned xs c v).length by rw [turned_length]; omega, List.take_length]
        rw [ht, ht2] at hw
        have hsm : sameB xs c j v = sameAt xs[c] v := by
          unfold sameB
          rw [if_neg (by omega), List.getElem?_eq_getElem hc]
        rw [hsm]
        have key := encs_turned xs c v hc (fun x hx => (hv x hx).1) hv0
        obtain ⟨pl, pe, hpe⟩ : ∃ pl pe, pfold xs = (pl, pe) := ⟨_, _, rfl⟩
        obtain ⟨ql, qe, hqe⟩ : ∃ ql qe, pfold (turned xs c v) = (ql, qe) := ⟨_, _, rfl⟩
        rw [hpe, hqe] at hw
        have hfin : pe = 0 → qe = 0 → ((doneS pl pe).toList == (doneS ql qe).toList) = sameAt xs[c] v := by
          rintro rfl rfl
          obtain ⟨h1, h2⟩ := pfold_ok xs [] pl hpe
          obtain ⟨h3, h4⟩ := pfold_ok (turned xs c v) [] ql hqe
          rw [List.nil_append] at h2 h4
          have k := key h1 h3
          have e1 : doneS pl 0 = strOfNums (encs xs) := by rw [← h2]; exact if_pos rfl
          have e2 : doneS ql 0 = strOfNums (encs (turned xs c v)) := by rw [← h4]; exact if_pos rfl
          rw [e1, e2, Bool.eq_iff_iff, ← k, beq_iff_eq]
          constructor
          · intro hh
            rw [Lib.toList_data, Lib.toList_data] at hh
            exact strOfNums_inj _ _ (encs_range _) (encs_range _) (ByteArray.ext (Array.ext' hh))
          · intro hh; rw [hh]
        have HK := Lib.hid hfin
        generalize sameAt xs[c] v = sm at *
        clear key hsm hpe hqe ht ht2 hs1 hs2 hfin
        have hT := Lib.hid (Done_calls W.heap.size W.heap.size v1 pl pe _ hw.one)
        generalize doneS pl pe = sp at hT HK
        go_wp2_with fail
        refine hT.out.mono ?_
        rintro e w1 ⟨rfl, f1⟩
        have b1 := hb.trans (f1.mono hb.size)
        have hw1 := hw.below f1
        clear hT hw hb f1
        have hT := Lib.hid (Done_calls W.heap.size (W.heap.size + 1) v2 ql qe _ hw1.two)
        generalize doneS ql qe = sq at hT HK
        go_wp2_with fail
        refine hT.out.mono ?_
        rintro e w2 ⟨rfl, f2⟩
        have b2 := b1.trans (f2.mono b1.size)
        clear hT hw1 b1 f2
        by_cases h0 : pe = 0
        · by_cases h1 : qe = 0
          · have hq0 : (pe != 0) = false := by simp [h0]
            have hq1 : (qe != 0) = false := by simp [h1]
            have hk := HK.out h0 h1
            clear HK h0 h1
            go_wp2_with fail
            refine (wakes_calls _).mono ?_
            rintro e w3 ⟨rfl, f3⟩
            have HB := Lib.hid (b2.trans (f3.mono b2.size))
            clear b2 f3
            go_wp2_with fail
            go_ret
            exact ⟨rfl, HB.out⟩
          · have hq0 : (pe != 0) = false := by simp [h0]
            have hq1 : (qe != 0) = true := by simpa using h1
            clear HK h0 h1
            go_wp2_with fail
            refine (wakes_calls _).mono ?_
            rintro e w3 ⟨rfl, f3⟩
            have HB := Lib.hid (b2.trans (f3.mono b2.size))
            clear b2 f3
            go_wp2_with fail
            go_ret
            exact ⟨rfl, HB.out⟩
        · have hq0 : (pe != 0) = true := by simpa using h0
          clear HK h0
          go_wp2_with fail
          refine (wakes_calls _).mono ?_
          rintro e w3 ⟨rfl, f3⟩
          have HB := Lib.hid (b2.trans (f3.mono b2.size))
          clear b2 f3
          go_wp2_with fail
          go_ret
          exact ⟨rfl, HB.out⟩
  · by_cases hf2 : fairB xs = true
    · have Hf := Lib.hid hf2
      have hpos : xs.length = 0 := by
        rcases Nat.lt_or_ge 0 xs.length with h1 | h1
        · exact absurd ⟨hf2, h1⟩ hfair
        · omega
      have hlen0 : ((xs.length : Int) == 0) = true := by simp [List.eq_nil_of_length_eq_zero hpos]
      clear hfair hf2 hpos
      go_enter Try.func7, Try.ntmps7
      go_wp2_with (first | (go_at_call 8; refine HF.out.mono ?_; rintro e w1 ⟨rfl, rfl⟩; rw [Hf.out]) | (go_at_call 9; refine (wakes_calls _).mono ?_; rintro e w2 ⟨rfl, h1⟩))
      go_ret
      exact ⟨rfl, h1⟩
    · have Hf := Lib.hid (by simpa using hf2 : fairB xs = false)
      clear hfair hf2
      go_enter Try.func7, Try.ntmps7
      go_wp2_with (first | (go_at_call 8; refine HF.out.mono ?_; rintro e w1 ⟨rfl, rfl⟩; rw [Hf.out]) | (go_at_call 9; refine (wakes_calls _).mono ?_; rintro e w2 ⟨rfl, h1⟩))
      go_ret
      exact ⟨rfl, h1⟩
end Go.Proofs.Ythblcoccoffofaa.Pk
