/- The reference's change, Add, Cut, Both: they answer as the program's own. -/
import Derived.Test.YtgiccdjgbjgdcaaJo
namespace Go.Proofs.Ytgiccdjgbjgdcaa.Sp
open Go.RowKit Go.Proofs.YtgiccdjgbjgdcaaW.PrintWords PSpanTells

def chF (how : Int) (xs : List S51) (f t : Int) : List S51 × Int := if how = 0 then addF xs f t else cutF xs f t
theorem can_one (f t : Int) (h0 : 0 ≤ f) (hft : f < t) (h9 : t ≤ 87659) : Can (-1) [⟨f, t⟩] := ⟨fun x hx => by rw [List.mem_singleton] at hx; subst hx; exact ⟨by show -1 < f; omega, hft, h9⟩, List.pairwise_singleton _ _⟩
theorem ch_bad (how : Int) (xs : List S51) (f t : Int) (h : mayE xs f t ≠ 0) : chF how xs f t = ([], mayE xs f t) := by
  unfold chF addF cutF
  rw [if_neg h]
  split <;> rfl
theorem ch_ok (how : Int) (hh : how = 0 ∨ how = 1) (xs : List S51) (f t : Int) (h : mayE xs f t = 0) (O : List S51) (hO : Joined how xs [⟨f, t⟩] O) : chF how xs f t = fewL O := by
  obtain ⟨hg, h0, hft, h9⟩ := may_pos xs f t h
  have hc := ((good_iff xs).1 hg).2
  unfold chF addF cutF
  rw [if_pos h, if_pos h]
  rcases hh with rfl | rfl
  · rw [if_pos rfl, joined_add xs f t O hc h0 hft h9 hO]
  · rw [if_neg (by decide), joined_cut xs f t O hc hft hO]
theorem own_tup {a b c d : Value} (h : Ending.returned (.tuple #[a, b]) = .returned (.tuple #[c, d])) : a = c ∧ b = d := by
  injection h with h
  injection h with h
  have := congrArg Array.toList h
  simp at this
  exact this

set_option maxHeartbeats 1000000 in
theorem change_calls (v : Value) (xs : List S51) (f t how : Int) (w : World) (h : Rr w v xs) (hl : xs.length ≤ 1100) (hh : how = 0 ∨ how = 1) :
    Calls Try.prog 31 #[v, .int .i64 f, .int .i64 t, .int .i64 how] w fun e w' => ∃ v', e = .returned (.tuple #[v', .int .i64 (chF how xs f t).2]) ∧ Rr w' v' (chF how xs f t).1 ∧ Below w.heap.size w w' := by
  have HG := Lib.hid (rGood_calls v xs w h (by omega))
  have HR := Lib.hid h
  obtain ⟨A, c, rfl, hc, _⟩ := h
  have HNil : ∀ W, Rr W (.slice none 0 0) [] := fun W => ⟨none, 0, rfl, Nat.le_refl _, Kd.C_nil k53 _⟩
  by_cases hm : mayE xs f t = 0
  · obtain ⟨hg, h0, hft, h9⟩ := may_pos xs f t hm
    have HM := Lib.hid hm
    have HGd := Lib.hid hg
    have n0 : ¬ f < 0 := by omega
    have n1 : ¬ t ≤ f := by omega
    have n2 : ¬ (87659 : Int) < t := by omega
    clear hm
    go_enter Try.func31, Try.ntmps31
    go_wp2_with fail
    refine HG.out.mono ?_
    rw [HGd.out]
    rintro e w1 ⟨rfl, b1⟩
    have HB1 := Lib.hid b1
    have hba : Below w1.heap.size w1 (w1.alloc (.cells #[.int .i64 f, .int .i64 t] 53)) := (Below.refl _ _).alloc (Nat.le_refl _) _
    have HJ := Lib.hid (joined_calls _ _ xs [⟨f, t⟩] how (w1.alloc (.cells #[.int .i64 f, .int .i64 t] 53)) ((HR.out.below b1).below hba) (one_rowR w1 f t) (by simp; omega) ((good_iff xs).1 hg).2 (can_one f t h0 hft h9) (hh.imp id .inl))
    have HBa := Lib.hid (b1.trans (hba.mono b1.size))
    clear b1 hba HG hg
    go_wp2_with fail
    refine HJ.out.mono ?_
    rintro e w2 ⟨v2, O, rfl, r2, hO, b2⟩
    have HB2 := Lib.hid (HBa.out.trans (b2.mono HBa.out.size))
    have HC := Lib.hid (ch_ok how hh xs f t HM.out O hO)
    have HR2 := Lib.hid r2
    clear b2 hO r2 HJ HBa
    obtain ⟨er, her⟩ : ∃ er, (fewL O).2 = er := ⟨_, rfl⟩
    rw [her]
    have Her := Lib.hid her
    clear her
    go_wp2_with fail
    go_ret2
    exact ⟨v2, by rw [HC.out, Her.out]; rfl, by rw [HC.out]; exact HR2.out, HB2.out⟩
  · have HC := Lib.hid (ch_bad how xs f t hm)
    have hmE : mayE xs f t = if goodB xs = true then (if f < 0 then 1 else if t ≤ f then 1 else if t > 87659 then 1 else 0) else 11 := rfl
    rw [hmE] at hm HC
    clear hmE
    cases hg : goodB xs with
    | false =>
      rw [hg] at HC
      have HC2 : Hid (chF how xs f t = ([], 11)) := Lib.hid (by rw [HC.out]; simp)
      clear hm HC
      go_enter Try.func31, Try.ntmps31
      go_wp2_with fail
      refine HG.out.mono ?_
      rw [hg]
      rintro e w1 ⟨rfl, b1⟩
      have HB1 := Lib.hid b1
      clear b1 HG hg
      go_wp2_with fail
      go_ret2
      exact ⟨.slice none 0 0, by rw [HC2.out]; rfl, by rw [HC2.out]; exact HNil _, HB1.out⟩
    | true =>
      rw [hg] at HC hm
      have hbad : f < 0 ∨ t ≤ f ∨ 87659 < t := by
        rcases Int.lt_or_le f 0 with e | e
        · exact .inl e
        · rcases Int.lt_or_le f t with e2 | e2
          · rcases Int.lt_or_le 87659 t with e3 | e3
            · exact .inr (.inr e3)
            · rw [if_pos rfl, if_neg (by omega), if_neg (by omega), if_neg (by omega)] at hm
              exact absurd rfl hm
          · exact .inr (.inl e2)
      have HC2 : Hid (chF how xs f t = ([], 1)) := Lib.hid (by
        rw [HC.out, if_pos rfl]
        rcases hbad with e | e | e
        · rw [if_pos e]
        · rw [if_pos e]; split <;> rfl
        · rw [if_pos (show t > 87659 from e)]; split <;> (try split) <;> rfl)
      clear hm HC
      go_enter Try.func31, Try.ntmps31
      go_wp2_with fail
      refine HG.out.mono ?_
      rw [hg]
      rintro e w1 ⟨rfl, b1⟩
      have HB1 := Lib.hid b1
      clear b1 HG hg
      by_cases e1 : f < 0
      · go_wp2_with fail
        go_ret2
        exact ⟨.slice none 0 0, by rw [HC2.out]; rfl, by rw [HC2.out]; exact HNil _, HB1.out⟩
      · by_cases e2 : t ≤ f
        · go_wp2_with fail
          go_ret2
          exact ⟨.slice none 0 0, by rw [HC2.out]; rfl, by rw [HC2.out]; exact HNil _, HB1.out⟩
        · have e3 : (87659 : Int) < t := by omega
          go_wp2_with fail
          go_ret2
          exact ⟨.slice none 0 0, by rw [HC2.out]; rfl, by rw [HC2.out]; exact HNil _, HB1.out⟩
theorem rAdd_calls (v : Value) (xs : List S51) (f t : Int) (w : World) (h : Rr w v xs) (hl : xs.length ≤ 1100) :
    Calls Try.prog 18 #[v, .int .i64 f, .int .i64 t] w fun e w' => ∃ v', e = .returned (.tuple #[v', .int .i64 (addF xs f t).2]) ∧ Rr w' v' (addF xs f t).1 ∧ Below w.heap.size w w' := by
  have HC := Lib.hid (change_calls v xs f t 0 w h hl (.inl rfl))
  have he : chF 0 xs f t = addF xs f t := if_pos rfl
  rw [he] at HC
  clear he h
  rcases hq : addF xs f t with ⟨L, er⟩
  rw [hq] at HC
  clear hq
  go_enter Try.func18, Try.ntmps18
  go_wp2_with fail
  refine HC.out.mono ?_
  rintro e w1 ⟨v1, rfl, r1, b1⟩
  have HR := Lib.hid r1
  have HB := Lib.hid b1
  clear r1 b1 HC
  go_wp2_with fail
  go_ret2
  exact ⟨v1, rfl, HR.out, HB.out⟩
theorem rCut_calls (v : Value) (xs : List S51) (f t : Int) (w : World) (h : Rr w v xs) (hl : xs.length ≤ 1100) :
    Calls Try.prog 20 #[v, .int .i64 f, .int .i64 t] w fun e w' => ∃ v', e = .returned (.tuple #[v', .int .i64 (cutF xs f t).2]) ∧ Rr w' v' (cutF xs f t).1 ∧ Below w.heap.size w w' := by
  have HC := Lib.hid (change_calls v xs f t 1 w h hl (.inr rfl))
  have he : chF 1 xs f t = cutF xs f t := if_neg (by decide)
  rw [he] at HC
  clear he h
  rcases hq : cutF xs f t with ⟨L, er⟩
  rw [hq] at HC
  clear hq
  go_enter Try.func20, Try.ntmps20
  go_wp2_with fail
  refine HC.out.mono ?_
  rintro e w1 ⟨v1, rfl, r1, b1⟩
  have HR := Lib.hid r1
  have HB := Lib.hid b1
  clear r1 b1 HC
  go_wp2_with fail
  go_ret2
  exact ⟨v1, rfl, HR.out, HB.out⟩
set_option maxHeartbeats 1000000 in
theorem rBoth_calls (v u : Value) (xs ys : List S51) (w : World) (h : Rr w v xs) (h' : Rr w u ys) (hl : xs.length ≤ 1000) (hl' : ys.length ≤ 1000) :
    Calls Try.prog 22 #[v, u] w fun e w' => ∃ v', e = .returned (.tuple #[v', .int .i64 (bothF xs ys).2]) ∧ Rr w' v' (bothF xs ys).1 ∧ Below w.heap.size w w' := by
  have HG := Lib.hid (rGood_calls v xs w h (by omega))
  have HG2 := Lib.hid (fun W (hb : Below w.heap.size w W) => rGood_calls u ys W (h'.below hb) (by omega))
  have HR := Lib.hid h
  have HR' := Lib.hid h'
  have HNil : ∀ W, Rr W (.slice none 0 0) [] := fun W => ⟨none, 0, rfl, Nat.le_refl _, Kd.C_nil k53 _⟩
  clear h h'
  go_enter Try.func22, Try.ntmps22
  go_wp2_with fail
  refine HG.out.mono ?_
  rintro e w1 ⟨rfl, b1⟩
  have HB1 := Lib.hid b1
  clear b1 HG
  rcases Bool.eq_false_or_eq_true (goodB xs) with hg | hg
  · rw [hg]
    go_wp2_with fail
    refine (HG2.out w1 HB1.out).mono ?_
    rintro e w2 ⟨rfl, b2⟩
    have HB2 := Lib.hid (HB1.out.trans (b2.mono HB1.out.size))
    clear b2 HG2 HB1
    rcases Bool.eq_false_or_eq_true (goodB ys) with hg' | hg'
    · rw [hg']
      have HJ := Lib.hid (joined_calls v u xs ys 2 w2 (HR.out.below HB2.out) (HR'.out.below HB2.out) (by omega) ((good_iff xs).1 hg).2 ((good_iff ys).1 hg').2 (.inr (.inr rfl)))
      have HF := Lib.hid (fun O (hO : Joined 2 xs ys O) => (show bothF xs ys = fewL O by unfold bothF; rw [if_pos ⟨hg, hg'⟩, joined_both xs ys O ((good_iff xs).1 hg).2 ((good_iff ys).1 hg').2 hO]))
      clear hg hg'
      go_wp2_with fail
      refine HJ.out.mono ?_
      rintro e w3 ⟨v3, O, rfl, r3, hO, b3⟩
      have HE := Lib.hid (HF.out O hO)
      have HR3 := Lib.hid r3
      have HB3 := Lib.hid (HB2.out.trans (b3.mono HB2.out.size))
      clear r3 b3 hO HJ HF
      obtain ⟨er, her⟩ : ∃ er, (fewL O).2 = er := ⟨_, rfl⟩
      rw [her]
      have Her := Lib.hid her
      clear her
      go_wp2_with fail
      go_ret2
      exact ⟨v3, by rw [HE.out, Her.out]; rfl, by rw [HE.out]; exact HR3.out, HB3.out⟩
    · rw [hg']
      have HE : Hid (bothF xs ys = ([], 11)) := Lib.hid (by unfold bothF; rw [if_neg (by rw [hg']; simp)])
      clear hg hg'
      go_wp2_with fail
      go_ret2
      exact ⟨.slice none 0 0, by rw [HE.out]; rfl, by rw [HE.out]; exact HNil _, HB2.out⟩
  · rw [hg]
    have HE : Hid (bothF xs ys = ([], 11)) := Lib.hid (by unfold bothF; rw [if_neg (by rw [hg]; simp)])
    clear hg
    go_wp2_with fail
    go_ret2
    exact ⟨.slice none 0 0, by rw [HE.out]; rfl, by rw [HE.out]; exact HNil _, HB1.out⟩
end Go.Proofs.Ytgiccdjgbjgdcaa.Sp
