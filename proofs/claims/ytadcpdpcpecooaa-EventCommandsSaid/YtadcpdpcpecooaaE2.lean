/- The walk of event.Good. -/
import Derived.Test.YtadcpdpcpecooaaE1
namespace Go.Proofs.Ytadcpdpcpecooaa.Ev
open Go.RowKit Go.Proofs.Ytadcpdpcpecooaa.Pk Go.Proofs.Ytadcpdpcpecooaa.Re

theorem letters_size (k : Int) : (letters k).size ≤ 4 := by
  unfold letters
  repeat' split
  all_goals decide
theorem hasL_take (l : ByteArray) (f : Int) (i : Nat) (hi : i < l.size) : ((ints l).take (i + 1)).any (· == f) = (((ints l).take i).any (· == f) || ((l[i].toNat : Int) == f)) := by
  have hlen : i < (ints l).length := by rw [ints_length]; exact hi
  rw [List.take_succ_eq_append_getElem hlen, List.any_append]
  congr 1
  have : (ints l)[i] = (l[i].toNat : Int) := by simp [ints, ByteArray.getElem_eq_getElem_data]
  simp [this]
theorem hasL_all (l : ByteArray) (f : Int) : ((ints l).take l.size).any (· == f) = hasL l f := by
  unfold hasL
  rw [List.take_of_length_le (by rw [ints_length]; exact Nat.le_refl _)]
theorem tests_at (e : E) (l : ByteArray) (hl : letters e.kind = l) : testF e 97 = fieldB e.amount 1000000000 (hasL l 97) ∧ testF e 108 = fieldB e.loan 1000 (hasL l 108) ∧
    testF e 112 = planB e.plan e.family e.income (hasL l 112) ∧ testF e 114 = rateB e.rate (hasL l 114) ∧ testF e 115 = fieldB e.status 5 (hasL l 115) ∧ testF e 117 = (hasL l 117 || !e.sub) := by
  subst hl
  exact ⟨rfl, rfl, rfl, rfl, rfl, rfl⟩
theorem testF_nil (e : E) (f : Nat) (h : f ≠ 97 ∧ f ≠ 108 ∧ f ≠ 112 ∧ f ≠ 114 ∧ f ≠ 115 ∧ f ≠ 117) : testF e (f : Int) = true := by
  obtain ⟨h1, h2, h3, h4, h5, h6⟩ := h
  unfold testF
  rw [if_neg (by omega), if_neg (by omega), if_neg (by omega), if_neg (by omega), if_neg (by omega), if_neg (by omega)]
theorem nextF (e : E) (f : Nat) (h : ∀ j : Nat, j < f → testF e (j : Int) = true) (hc : testF e (f : Int) = true) : ∀ j : Nat, j < f + 1 → testF e (j : Int) = true := by
  intro j hj
  by_cases c : j = f
  · subst c; exact hc
  · exact h j (by omega)
theorem byte_wrap (b : UInt8) : wrap64 (b.toNat : Int) = (b.toNat : Int) := by
  have := b.toNat_lt
  exact wr64 _ (by omega)
set_option maxRecDepth 20000 in
set_option maxHeartbeats 4000000 in
theorem good_calls (e : E) (w : World) (hr : e.rate < 18446744073709551616) (hi : e.income < 18446744073709551616) :
    Calls Try.prog 15 #[e.v] w fun r w' => r = .returned (.bool (goodE e)) ∧ Below w.heap.size w w' := by
  have hb := Blk.new w 25 e.cells
  have HBk := Lib.hid hb
  obtain ⟨k0, k1, k2, k3, k4, k5, k6, k7, k8, k9, k10⟩ := bx_of hb
  have HB := Lib.hid ((Below.refl w.heap.size w).alloc (Nat.le_refl _) (.cells e.cells 25))
  clear hb
  have HF := Lib.hid (fun W => fields_calls e.kind W)
  have HD := Lib.hid (fun W => day_calls e.day W)
  have HL := Lib.hid (letters_size e.kind)
  obtain ⟨l, hl⟩ : ∃ l, letters e.kind = l := ⟨_, rfl⟩
  have hT : goodE e = (kindB e.kind && (dayB e.day && goodE e)) := by
    unfold goodE
    cases kindB e.kind <;> cases dayB e.day <;> rfl
  rw [hl] at HF HL
  go_enter Try.func15, Try.ntmps15
  go_upto_region 1 with fail
  generalize w.alloc (.cells e.cells 25) = W1 at *
  go_wp2_with fail
  refine (HF.out _).mono ?_
  rintro r w1 ⟨rfl, rfl⟩
  cases hk : kindB e.kind with
  | false =>
    rw [hk] at hT
    go_wp2_with fail
    go_ret
    exact ⟨ret_bool (by rw [hT]; rfl), HB.out⟩
  | true =>
    go_wp2_with fail
    refine (HD.out _).mono ?_
    rintro r w1 ⟨rfl, rfl⟩
    cases hd : dayB e.day with
    | false =>
      rw [hk, hd] at hT
      go_wp2_with fail
      go_ret
      exact ⟨ret_bool (by rw [hT]; rfl), HB.out⟩
    | true =>
      clear k0 k1 k2 k3 k4 k5 k6 k7 k8 k9 k10 hT
      go_wp2_with fail
      refine (goods_calls _).mono ?_
      rintro r w2 ⟨rfl, b2⟩
      have HB2 := Lib.hid b2
      have HK2 := Lib.hid (HBk.out.below b2)
      have HS := Lib.hid HBk.out.lt
      clear b2
      go_wp2_with fail
      go_loopw [24] (fun i wr => ∃ f : Nat, f ≤ 128 ∧ i = .int .i64 (f : Int) ∧ (∀ j : Nat, j < f → testF e (j : Int) = true) ∧ Below w1.heap.size w1 wr) (fun i _ => 128 - (intOf i).toNat)
      case atStart => exact ⟨0, by decide, rfl, fun j hj => absurd hj (Nat.not_lt_zero j), HB2.out⟩
      case round =>
        obtain ⟨f, hf, rfl, hj, hbl⟩ := hrel
        have Hj := Lib.hid hj
        have Hbl := Lib.hid hbl
        have HKr := Lib.hid (HBk.out.below hbl)
        clear hj hbl
        by_cases hf2 : f < 128
        · have hix : ∃ v, goodsA[f]? = some v := ⟨_, Array.getElem?_eq_getElem (by rw [goods_size]; exact hf2)⟩
          obtain ⟨v, hv⟩ := hix
          have hix := index79 f hf2 v hv
          go_wp2_with fail
          go_loopw [30, 7] (fun i h w3 => ∃ j : Nat, j ≤ l.size ∧ i = .int .i64 (j : Int) ∧ h = .bool (((ints l).take j).any (· == (f : Int))) ∧ w3 = wr) (fun i _ _ => l.size - (intOf i).toNat)
          case atStart => exact ⟨0, Nat.zero_le _, rfl, rfl, rfl⟩
          case round =>
            obtain ⟨j, hj, rfl, rfl, rfl⟩ := hrel
            by_cases hj2 : j < l.size
            · have ht := hasL_take l f j hj2
              have HT := Lib.hid ht
              clear ht
              obtain ⟨b, hb⟩ : ∃ b, ((ints l).take j).any (· == (f : Int)) = b := ⟨_, rfl⟩
              rw [hb] at HT ⊢
              clear hb
              have hs4 := HL.out
              cases b
              · go_wp2_with fail
                refine ⟨⟨j + 1, by omega, by go_num, ?_, trivial⟩, by simp [intOf]; omega⟩
                rw [HT.out, byte_wrap, Bool.false_or]
              · go_wp2_with fail
                refine ⟨⟨j + 1, by omega, by go_num, ?_, trivial⟩, by simp [intOf]; omega⟩
                rw [HT.out, Bool.true_or]
            · have hje : j = l.size := by omega
              rw [hje, hasL_all]
              clear hj2 hj hje
              obtain ⟨k0, k1, k2, k3, k4, k5, k6, k7, k8, k9, k10⟩ := bx_of HKr.out
              obtain ⟨A97, A108, A112, A114, A115, A117⟩ := goods_at
              obtain ⟨T97, T108, T112, T114, T115, T117⟩ := tests_at e l hl
              by_cases hn : f ≠ 97 ∧ f ≠ 108 ∧ f ≠ 112 ∧ f ≠ 114 ∧ f ≠ 115 ∧ f ≠ 117
              · have hv2 : v = .nilFunc := Option.some.inj (hv.symm.trans (goods_nil f hf2 hn))
                subst hv2
                have hc := testF_nil e f hn
                have hq : ∀ W : World, (binOp .neq 78 .nilFunc .nilFunc).run Try.prog W = .ok (.bool false) W := fun W => by kernel_rfl
                clear A97 A108 A112 A114 A115 A117 T97 T108 T112 T114 T115 T117 hv hix hn k0 k1 k2 k3 k4 k5 k6 k7 k8 k9 k10
                go_wp2_with fail
                refine ⟨⟨f + 1, by omega, by go_num, nextF e f Hj.out hc, Hbl.out⟩, by simp [intOf]; omega⟩
              have hn' : f = 97 ∨ f = 108 ∨ f = 112 ∨ f = 114 ∨ f = 115 ∨ f = 117 := by omega
              clear hn
              rcases hn' with rfl | rfl | rfl | rfl | rfl | rfl
              · have hv2 : v = .func (.func 59) #[] #[] := Option.some.inj (hv.symm.trans A97)
                subst hv2
                have HC := Lib.hid (fun W => g2_calls e (hasL l 97) W)
                have ht := T97
                obtain ⟨c, hc⟩ : ∃ c, testF e (97 : Int) = c := ⟨_, rfl⟩
                rw [← ht, hc] at HC
                have HC' : Hid (∀ W, Calls Try.prog 59 #[e.v, .bool (hasL l ((97 : Nat) : Int))] W fun r w' => r = .returned (.bool c) ∧ Below W.heap.size W w') := HC
                have hq : ∀ W : World, (binOp .neq 78 (.func (.func 59) #[] #[]) .nilFunc).run Try.prog W = .ok (.bool true) W := fun W => by kernel_rfl
                clear hv hix ht HC A97 A108 A112 A114 A115 A117 T97 T108 T112 T114 T115 T117
                go_wp2_with fail
                refine (HC'.out _).mono ?_
                rintro r w4 ⟨rfl, b4⟩
                have HB4 := Lib.hid (Hbl.out.trans (b4.mono Hbl.out.size))
                clear b4
                cases c
                · go_wp2_with fail
                  go_ret
                  exact ⟨ret_bool (goodE_not e 97 hc).symm, HB.out.trans (HB4.out.mono HB.out.size)⟩
                · go_wp2_with fail
                  refine ⟨⟨98, by decide, rfl, nextF e 97 Hj.out hc, HB4.out⟩, by simp [intOf]⟩
              · have hv2 : v = .func (.func 58) #[] #[] := Option.some.inj (hv.symm.trans A108)
                subst hv2
                have HC := Lib.hid (fun W => g1_calls e (hasL l 108) W)
                have ht := T108
                obtain ⟨c, hc⟩ : ∃ c, testF e (108 : Int) = c := ⟨_, rfl⟩
                rw [← ht, hc] at HC
                have HC' : Hid (∀ W, Calls Try.prog 58 #[e.v, .bool (hasL l ((108 : Nat) : Int))] W fun r w' => r = .returned (.bool c) ∧ Below W.heap.size W w') := HC
                have hq : ∀ W : World, (binOp .neq 78 (.func (.func 58) #[] #[]) .nilFunc).run Try.prog W = .ok (.bool true) W := fun W => by kernel_rfl
                clear hv hix ht HC A97 A108 A112 A114 A115 A117 T97 T108 T112 T114 T115 T117
                go_wp2_with fail
                refine (HC'.out _).mono ?_
                rintro r w4 ⟨rfl, b4⟩
                have HB4 := Lib.hid (Hbl.out.trans (b4.mono Hbl.out.size))
                clear b4
                cases c
                · go_wp2_with fail
                  go_ret
                  exact ⟨ret_bool (goodE_not e 108 hc).symm, HB.out.trans (HB4.out.mono HB.out.size)⟩
                · go_wp2_with fail
                  refine ⟨⟨109, by decide, rfl, nextF e 108 Hj.out hc, HB4.out⟩, by simp [intOf]⟩
              · have hv2 : v = .func (.func 66) #[] #[] := Option.some.inj (hv.symm.trans A112)
                subst hv2
                have HC := Lib.hid (fun W => g6_calls e (hasL l 112) W hi)
                have ht := T112
                obtain ⟨c, hc⟩ : ∃ c, testF e (112 : Int) = c := ⟨_, rfl⟩
                rw [← ht, hc] at HC
                have HC' : Hid (∀ W, Calls Try.prog 66 #[e.v, .bool (hasL l ((112 : Nat) : Int))] W fun r w' => r = .returned (.bool c) ∧ Below W.heap.size W w') := HC
                have hq : ∀ W : World, (binOp .neq 78 (.func (.func 66) #[] #[]) .nilFunc).run Try.prog W = .ok (.bool true) W := fun W => by kernel_rfl
                clear hv hix ht HC A97 A108 A112 A114 A115 A117 T97 T108 T112 T114 T115 T117
                go_wp2_with fail
                refine (HC'.out _).mono ?_
                rintro r w4 ⟨rfl, b4⟩
                have HB4 := Lib.hid (Hbl.out.trans (b4.mono Hbl.out.size))
                clear b4
                cases c
                · go_wp2_with fail
                  go_ret
                  exact ⟨ret_bool (goodE_not e 112 hc).symm, HB.out.trans (HB4.out.mono HB.out.size)⟩
                · go_wp2_with fail
                  refine ⟨⟨113, by decide, rfl, nextF e 112 Hj.out hc, HB4.out⟩, by simp [intOf]⟩
              · have hv2 : v = .func (.func 60) #[] #[] := Option.some.inj (hv.symm.trans A114)
                subst hv2
                have HC := Lib.hid (fun W => g3_calls e (hasL l 114) W hr)
                have ht := T114
                obtain ⟨c, hc⟩ : ∃ c, testF e (114 : Int) = c := ⟨_, rfl⟩
                rw [← ht, hc] at HC
                have HC' : Hid (∀ W, Calls Try.prog 60 #[e.v, .bool (hasL l ((114 : Nat) : Int))] W fun r w' => r = .returned (.bool c) ∧ Below W.heap.size W w') := HC
                have hq : ∀ W : World, (binOp .neq 78 (.func (.func 60) #[] #[]) .nilFunc).run Try.prog W = .ok (.bool true) W := fun W => by kernel_rfl
                clear hv hix ht HC A97 A108 A112 A114 A115 A117 T97 T108 T112 T114 T115 T117
                go_wp2_with fail
                refine (HC'.out _).mono ?_
                rintro r w4 ⟨rfl, b4⟩
                have HB4 := Lib.hid (Hbl.out.trans (b4.mono Hbl.out.size))
                clear b4
                cases c
                · go_wp2_with fail
                  go_ret
                  exact ⟨ret_bool (goodE_not e 114 hc).symm, HB.out.trans (HB4.out.mono HB.out.size)⟩
                · go_wp2_with fail
                  refine ⟨⟨115, by decide, rfl, nextF e 114 Hj.out hc, HB4.out⟩, by simp [intOf]⟩
              · have hv2 : v = .func (.func 65) #[] #[] := Option.some.inj (hv.symm.trans A115)
                subst hv2
                have HC := Lib.hid (fun W => g5_calls e (hasL l 115) W)
                have ht := T115
                obtain ⟨c, hc⟩ : ∃ c, testF e (115 : Int) = c := ⟨_, rfl⟩
                rw [← ht, hc] at HC
                have HC' : Hid (∀ W, Calls Try.prog 65 #[e.v, .bool (hasL l ((115 : Nat) : Int))] W fun r w' => r = .returned (.bool c) ∧ Below W.heap.size W w') := HC
                have hq : ∀ W : World, (binOp .neq 78 (.func (.func 65) #[] #[]) .nilFunc).run Try.prog W = .ok (.bool true) W := fun W => by kernel_rfl
                clear hv hix ht HC A97 A108 A112 A114 A115 A117 T97 T108 T112 T114 T115 T117
                go_wp2_with fail
                refine (HC'.out _).mono ?_
                rintro r w4 ⟨rfl, b4⟩
                have HB4 := Lib.hid (Hbl.out.trans (b4.mono Hbl.out.size))
                clear b4
                cases c
                · go_wp2_with fail
                  go_ret
                  exact ⟨ret_bool (goodE_not e 115 hc).symm, HB.out.trans (HB4.out.mono HB.out.size)⟩
                · go_wp2_with fail
                  refine ⟨⟨116, by decide, rfl, nextF e 115 Hj.out hc, HB4.out⟩, by simp [intOf]⟩
              · have hv2 : v = .func (.func 64) #[] #[] := Option.some.inj (hv.symm.trans A117)
                subst hv2
                have HC := Lib.hid (fun W => g4_calls e (hasL l 117) W)
                have ht := T117
                obtain ⟨c, hc⟩ : ∃ c, testF e (117 : Int) = c := ⟨_, rfl⟩
                rw [← ht, hc] at HC
                have HC' : Hid (∀ W, Calls Try.prog 64 #[e.v, .bool (hasL l ((117 : Nat) : Int))] W fun r w' => r = .returned (.bool c) ∧ Below W.heap.size W w') := HC
                have hq : ∀ W : World, (binOp .neq 78 (.func (.func 64) #[] #[]) .nilFunc).run Try.prog W = .ok (.bool true) W := fun W => by kernel_rfl
                clear hv hix ht HC A97 A108 A112 A114 A115 A117 T97 T108 T112 T114 T115 T117
                go_wp2_with fail
                refine (HC'.out _).mono ?_
                rintro r w4 ⟨rfl, b4⟩
                have HB4 := Lib.hid (Hbl.out.trans (b4.mono Hbl.out.size))
                clear b4
                cases c
                · go_wp2_with fail
                  go_ret
                  exact ⟨ret_bool (goodE_not e 117 hc).symm, HB.out.trans (HB4.out.mono HB.out.size)⟩
                · go_wp2_with fail
                  refine ⟨⟨118, by decide, rfl, nextF e 117 Hj.out hc, HB4.out⟩, by simp [intOf]⟩
        · obtain rfl : f = 128 := by omega
          have hg := goodE_of e hk hd Hj.out
          go_wp2_with fail
          go_ret
          exact ⟨ret_bool hg.symm, HB.out.trans (Hbl.out.mono HB.out.size)⟩
end Go.Proofs.Ytadcpdpcpecooaa.Ev
