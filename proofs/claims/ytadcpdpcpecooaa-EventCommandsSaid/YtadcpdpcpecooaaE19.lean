/- EventOthers: plain law and walk. -/
import Derived.Test.YtadcpdpcpecooaaE18
import Derived.Test.YtadcpdpcpecooaaE6
import Derived.Deep.CutBlock
namespace Go.Proofs.Ytadcpdpcpecooaa.Ev
open Go.RowKit Go.Proofs.Ytadcpdpcpecooaa.Pk Go.Proofs.Ytadcpdpcpecooaa.Re

/-- One field changed. -/
inductive Chg (e : E) : E → Prop where
  | loan (v : Int) : Chg e { e with loan := v }
  | amount (v : Int) : Chg e { e with amount := v }
  | rate (v : Nat) (h : v < 18446744073709551616) : Chg e { e with rate := v }
  | income (v : Nat) (h : v < 18446744073709551616) : Chg e { e with income := v }
  | sub (v : Bool) : Chg e { e with sub := v }
  | status (v : Int) : Chg e { e with status := v }
  | family (v : Int) : Chg e { e with family := v }
theorem chg_ok {e x : E} (ho : Ok e) (h : Chg e x) : Ok x := by
  cases h with
  | loan v => exact ⟨ho.key, ho.rate, ho.income⟩
  | amount v => exact ⟨ho.key, ho.rate, ho.income⟩
  | rate v h => exact ⟨ho.key, h, ho.income⟩
  | income v h => exact ⟨ho.key, ho.rate, h⟩
  | sub v => exact ⟨ho.key, ho.rate, ho.income⟩
  | status v => exact ⟨ho.key, ho.rate, ho.income⟩
  | family v => exact ⟨ho.key, ho.rate, ho.income⟩
theorem only_chg {e x : E} (hk : 1 ≤ e.kind ∧ e.kind ≤ 8) (he : e = onlyE e) (h : Chg e x) : x = onlyE x ∨ onlyE x = e := by
  obtain ⟨kind, day, key, loan, amount, rate, income, sub, status, plan, family⟩ := e
  simp only at hk
  have h8 : kind = 1 ∨ kind = 2 ∨ kind = 3 ∨ kind = 4 ∨ kind = 5 ∨ kind = 6 ∨ kind = 7 ∨ kind = 8 := by omega
  clear hk
  rcases h8 with rfl | rfl | rfl | rfl | rfl | rfl | rfl | rfl
  · have o : ∀ a b r i s t p f, onlyE ⟨1, day, key, a, b, r, i, s, t, p, f⟩ = ⟨1, day, key, a, b, r, 0, s, 0, 0, 0⟩ := fun _ _ _ _ _ _ _ _ => rfl
    rw [o] at he
    simp only [E.mk.injEq, true_and] at he
    cases h <;> simp [o, he]
  · have o : ∀ a b r i s t p f, onlyE ⟨2, day, key, a, b, r, i, s, t, p, f⟩ = ⟨2, day, key, a, 0, 0, 0, false, t, 0, 0⟩ := fun _ _ _ _ _ _ _ _ => rfl
    rw [o] at he
    simp only [E.mk.injEq, true_and] at he
    cases h <;> simp [o, he]
  · have o : ∀ a b r i s t p f, onlyE ⟨3, day, key, a, b, r, i, s, t, p, f⟩ = ⟨3, day, key, 0, b, 0, 0, false, 0, 0, 0⟩ := fun _ _ _ _ _ _ _ _ => rfl
    rw [o] at he
    simp only [E.mk.injEq, true_and] at he
    cases h <;> simp [o, he]
  · have o : ∀ a b r i s t p f, onlyE ⟨4, day, key, a, b, r, i, s, t, p, f⟩ = ⟨4, day, key, a, b, 0, 0, false, 0, 0, 0⟩ := fun _ _ _ _ _ _ _ _ => rfl
    rw [o] at he
    simp only [E.mk.injEq, true_and] at he
    cases h <;> simp [o, he]
  · by_cases hp : plan = 4
    · subst hp
      have o : ∀ a b r i s t f, onlyE ⟨5, day, key, a, b, r, i, s, t, 4, f⟩ = ⟨5, day, key, 0, 0, 0, i, false, 0, 4, f⟩ := fun _ _ _ _ _ _ _ => rfl
      rw [o] at he
      simp only [E.mk.injEq, true_and, and_true] at he
      cases h <;> simp [o, he]
    · have o : ∀ a b r i s t f, onlyE ⟨5, day, key, a, b, r, i, s, t, plan, f⟩ = ⟨5, day, key, 0, 0, 0, 0, false, 0, plan, 0⟩ := fun a b r i s t f => by
        show (if plan = 4 then _ else _) = _
        rw [if_neg hp]
        rfl
      rw [o] at he
      simp only [E.mk.injEq, true_and] at he
      cases h <;> simp [o, he]
  · have o : ∀ a b r i s t p f, onlyE ⟨6, day, key, a, b, r, i, s, t, p, f⟩ = ⟨6, day, key, 0, 0, 0, 0, false, 0, 0, 0⟩ := fun _ _ _ _ _ _ _ _ => rfl
    rw [o] at he
    simp only [E.mk.injEq, true_and] at he
    cases h <;> simp [o, he]
  · have o : ∀ a b r i s t p f, onlyE ⟨7, day, key, a, b, r, i, s, t, p, f⟩ = ⟨7, day, key, a, 0, 0, 0, false, 0, 0, 0⟩ := fun _ _ _ _ _ _ _ _ => rfl
    rw [o] at he
    simp only [E.mk.injEq, true_and] at he
    cases h <;> simp [o, he]
  · have o : ∀ a b r i s t p f, onlyE ⟨8, day, key, a, b, r, i, s, t, p, f⟩ = ⟨8, day, key, a, 0, 0, 0, false, 0, 0, 0⟩ := fun _ _ _ _ _ _ _ _ => rfl
    rw [o] at he
    simp only [E.mk.injEq, true_and] at he
    cases h <;> simp [o, he]
theorem good_only (e : E) (ho : Ok e) (hg : goodE e = true) : e = onlyE e ∧ 1 ≤ e.kind ∧ e.kind ≤ 8 := by
  rw [good_same e ho.rate ho.income] at hg
  unfold goodR' at hg
  simp only [Bool.and_eq_true, decide_eq_true_eq] at hg
  obtain ⟨h1, _, h3, _⟩ := hg
  unfold kindB at h1
  simp only [Bool.and_eq_true, decide_eq_true_eq] at h1
  exact ⟨h3, h1⟩
theorem enc_not (x : E) (ho : Ok x) (h : x ≠ onlyE x) : encX x = 11 ∧ encB x = ByteArray.empty := by
  have : goodE x = false := by
    cases hg : goodE x with
    | false => rfl
    | true => exact absurd (good_only x ho hg).1 h
  unfold encX encB
  rw [this]
  exact ⟨rfl, rfl⟩
theorem one_add (x : Nat) (hx : x < 18446744073709551616) (hg : goodR x = true) : ∃ r, floatBits .add .f64 x 4607182418800017408 = some r ∧ r < 18446744073709551616 := by
  have hr : ∃ s m i, Ieee.double.read x = .number s m i := by
    rcases good_cases x hx hg with rfl | ⟨e, f, h1, h2, rfl⟩
    · exact ⟨true, 0, -1074, by decide⟩
    · rcases Nat.eq_zero_or_pos e with rfl | he
      · exact ⟨false, _, _, by rw [show 0 * 4503599627370496 + f = f by omega]; exact read_low f h2⟩
      · exact ⟨false, _, _, read_nrm e f he h1 h2⟩
  obtain ⟨s, m, i, hr⟩ := hr
  have h1 : Ieee.double.read 4607182418800017408 = .number false 4503599627370496 (-52) := by kernel_rfl
  have : ∃ r, floatBits .add .f64 x 4607182418800017408 = some r := by
    unfold floatBits
    simp only
    unfold Ieee.Format.add
    rw [fmt, hr, h1]
    exact ⟨_, rfl⟩
  obtain ⟨r, h⟩ := this
  refine ⟨r, h, ?_⟩
  have hw : Ieee.double.add x 4607182418800017408 = some r := h
  exact Ieee.Format.add_lt Ieee.double hw
theorem rate_good {e : E} (hg : goodE e = true) : goodR e.rate = true := by
  unfold goodE at hg
  simp only [Bool.and_eq_true] at hg
  obtain ⟨_, _, _, _, _, h, _, _⟩ := hg
  rw [(tests_at e _ rfl).2.2.2.1] at h
  unfold rateB at h
  split at h
  · unfold takeB at h
    simp at h
    exact pm_good _ h.1.1
  · have : e.rate = 0 := by simpa using h
    rw [this]
    exact good_nil.1
theorem income_good {e : E} (hg : goodE e = true) : goodR e.income = true := by
  unfold goodE at hg
  simp only [Bool.and_eq_true] at hg
  obtain ⟨_, _, _, _, h, _, _, _⟩ := hg
  rw [(tests_at e _ rfl).2.2.1] at h
  have hz : ((e.income : Int) == 0) = true → goodR e.income = true := fun h => by
    have : e.income = 0 := by simpa using h
    rw [this]
    exact good_nil.1
  unfold planB at h
  split at h
  · split at h
    · unfold takeB at h
      simp only [Bool.and_eq_true, beq_iff_eq] at h
      exact tk_good _ _ h.1.1
    · simp only [Bool.and_eq_true] at h
      exact hz h.2.1
  · simp only [Bool.and_eq_true] at h
    exact hz h.2.1
set_option maxRecDepth 20000 in
set_option maxHeartbeats 8000000 in
theorem others_walk (e : E) (n : Nat) (w : World) (ho : Ok e) (hn : n < 256) :
    Calls Try.prog 5 #[e.v, .int .u8 (n : Int)] w fun r w' => r = .returned (.bool true) ∧ Below w.heap.size w w' := by
  have hst := fun (a : Addr) (n : Nat) (W : World) => run_store Try.prog W a (.float .f64 n) .plain rfl
  have HB1 := Lib.hid (Blk.new w 25 e.cells)
  have HL1 := Lib.hid ((Below.refl w.heap.size w).alloc (Nat.le_refl _) (.cells e.cells 25))
  have HG := Lib.hid (fun W => rgoodE_calls e W ho.rate ho.income)
  rw [← good_same e ho.rate ho.income] at HG
  have HGO := Lib.hid (good_only e ho)
  obtain ⟨gb, hgb⟩ : ∃ b, goodE e = b := ⟨_, rfl⟩
  rw [hgb] at HG HGO
  have Hgb := Lib.hid hgb
  have HO := Lib.hid ho
  clear hgb ho
  go_enter Try.func5, Try.ntmps5
  go_upto_region 1 with fail
  generalize w.alloc (.cells e.cells 25) = W1 at *
  obtain ⟨k0, k1, k2, k3, k4, k5, k6, k7, k8, k9, k10⟩ := bx_of HB1.out
  go_wp2_with fail
  refine (HG.out _).mono ?_
  rintro r w2 ⟨rfl, b2⟩
  have HL2 := Lib.hid (HL1.out.trans (b2.mono HL1.out.size))
  have HB2 := Lib.hid (HB1.out.below b2)
  clear b2 k0 k1 k2 k3 k4 k5 k6 k7 k8 k9 k10
  cases gb with
  | false =>
    go_wp2_with fail
    refine (wakes_calls _).mono ?_
    rintro r w3 ⟨rfl, b3⟩
    have HL3 := Lib.hid (HL2.out.trans (b3.mono HL2.out.size))
    clear b3
    go_wp2_with fail
    go_ret
    exact ⟨rfl, HL3.out⟩
  | true =>
    obtain ⟨k0, k1, k2, k3, k4, k5, k6, k7, k8, k9, k10⟩ := bx_of HB2.out
    have hx := (Below.refl w2.heap.size w2).alloc (Nat.le_refl _) (.cells e.cells 25)
    have HX := Lib.hid (Blk.new w2 25 e.cells)
    have HL3 := Lib.hid (HL2.out.trans (hx.mono HL2.out.size))
    have HGX : Hid (w.heap.size ≤ w2.heap.size) := Lib.hid HL2.out.size
    clear hx
    go_upto_region 4 with fail
    generalize w2.alloc (.cells e.cells 25) = w3 at *
    generalize w2.heap.size = gx at *
    clear k0 k1 k2 k3 k4 k5 k6 k7 k8 k9 k10
    go_upto_block 0 with fail
    have hm : (n : Int) % 7 = 0 ∨ (n : Int) % 7 = 1 ∨ (n : Int) % 7 = 2 ∨ (n : Int) % 7 = 3 ∨ (n : Int) % 7 = 4 ∨ (n : Int) % 7 = 5 ∨ (n : Int) % 7 = 6 := by omega
    obtain ⟨r1, hr1, hr1b⟩ := one_add e.rate HO.out.rate (rate_good Hgb.out)
    obtain ⟨r2, hr2, hr2b⟩ := one_add e.income HO.out.income (income_good Hgb.out)
    have ha1 := fun W => run_float_arith (P := Try.prog) W .add 23 .f64 _ _ _ hr1
    have ha2 := fun W => run_float_arith (P := Try.prog) W .add 23 .f64 _ _ _ hr2
    go_cut [5] from 15 to 56 (fun v W => v = .pointer (some ⟨gx, 0, none⟩) ∧ ∃ x, Chg e x ∧ Blk W gx 25 x.cells ∧ Below w.heap.size w W)
    case first =>
      obtain ⟨k0, k1, k2, k3, k4, k5, k6, k7, k8, k9, k10⟩ := bx_of HX.out
      have f3 := HX.out.frozen 3
      have f4 := HX.out.frozen 4
      have f5 := HX.out.frozen 5
      have f6 := HX.out.frozen 6
      have f7 := HX.out.frozen 7
      have f8 := HX.out.frozen 8
      have f10 := HX.out.frozen 10
      rcases hm with hm | hm | hm | hm | hm | hm | hm
      · go_wp2_with fail
        go_meet
        exact ⟨rfl, _, Chg.loan (wrap64 (e.loan + 1)), HX.out.set_ 3 (.int .i64 (wrap64 (e.loan + 1))), HL3.out.setCell (show w.heap.size ≤ gx from HGX.out) _⟩
      · go_wp2_with fail
        go_meet
        exact ⟨rfl, _, Chg.amount (wrap64 (e.amount + 1)), HX.out.set_ 4 (.int .i64 (wrap64 (e.amount + 1))), HL3.out.setCell (show w.heap.size ≤ gx from HGX.out) _⟩
      · go_wp2_with fail
        go_meet
        exact ⟨rfl, _, Chg.rate r1 hr1b, HX.out.set_ 5 _, HL3.out.setCell (show w.heap.size ≤ gx from HGX.out) _⟩
      · go_wp2_with fail
        go_meet
        exact ⟨rfl, _, Chg.income r2 hr2b, HX.out.set_ 6 _, HL3.out.setCell (show w.heap.size ≤ gx from HGX.out) _⟩
      · go_wp2_with fail
        go_meet
        exact ⟨rfl, _, Chg.sub (!e.sub), HX.out.set_ 7 (.bool (!e.sub)), HL3.out.setCell (show w.heap.size ≤ gx from HGX.out) _⟩
      · go_wp2_with fail
        go_meet
        exact ⟨rfl, _, Chg.status (wrap64 (e.status + 1)), HX.out.set_ 8 (.int .i64 (wrap64 (e.status + 1))), HL3.out.setCell (show w.heap.size ≤ gx from HGX.out) _⟩
      · go_wp2_with fail
        go_meet
        exact ⟨rfl, _, Chg.family (wrap64 (e.family + 1)), HX.out.set_ 10 (.int .i64 (wrap64 (e.family + 1))), HL3.out.setCell (show w.heap.size ≤ gx from HGX.out) _⟩
    case rest =>
      obtain ⟨rfl, x, hc, hx, hl⟩ := hcut
      have hox := chg_ok HO.out hc
      have HOx := Lib.hid hox
      obtain ⟨g1, g2, g3⟩ := HGO.out trivial
      have HOC := Lib.hid (only_chg ⟨g2, g3⟩ g1 hc)
      have HEn := Lib.hid (fun W => enc_calls x W hox)
      have HOn := Lib.hid (fun W => only_calls x W)
      have HKv := Lib.hid (fun W => kev_calls x (onlyE x) W)
      obtain ⟨q, hq⟩ : ∃ q, decide (x = onlyE x) = q := ⟨_, rfl⟩
      obtain ⟨sB, hsB⟩ : ∃ q, encB x = q := ⟨_, rfl⟩
      obtain ⟨sX, hsX⟩ : ∃ q, encX x = q := ⟨_, rfl⟩
      rw [hq] at HKv
      rw [hsB, hsX] at HEn
      have Hq := Lib.hid hq
      have HsB := Lib.hid hsB
      have HsX := Lib.hid hsX
      clear hq hsB hsX
      have HXx := Lib.hid hx
      have HLx := Lib.hid hl
      clear hox hc hx hl g1 g2 g3 ha1 ha2 hr1 hr2 hr1b hr2b hm
      obtain ⟨k0, k1, k2, k3, k4, k5, k6, k7, k8, k9, k10⟩ := bx_of HXx.out
      go_wp2_with fail
      refine (HEn.out _).mono ?_
      rintro r w5 ⟨rfl, b5⟩
      have HL5 := Lib.hid (HLx.out.trans (b5.mono HLx.out.size))
      have HX5 := Lib.hid (HXx.out.below b5)
      clear b5 k0 k1 k2 k3 k4 k5 k6 k7 k8 k9 k10
      obtain ⟨k0, k1, k2, k3, k4, k5, k6, k7, k8, k9, k10⟩ := bx_of HX5.out
      have HKE := Lib.hid (fun W (hB : Below w5.heap.size w5 W) => bx_list (HX5.out.below hB))
      go_upto_region 20 with fail
      go_region_held3 (fun w' => w'.cell? ⟨gx, 0, none⟩ = some (.int .i64 x.kind) ∧ w'.cell? ⟨gx, 1, none⟩ = some (.int .i64 x.day) ∧ w'.cell? ⟨gx, 2, none⟩ = some (.int .u32 x.key) ∧ w'.cell? ⟨gx, 3, none⟩ = some (.int .i64 x.loan) ∧ w'.cell? ⟨gx, 4, none⟩ = some (.int .i64 x.amount) ∧ w'.cell? ⟨gx, 5, none⟩ = some (.float .f64 x.rate) ∧ w'.cell? ⟨gx, 6, none⟩ = some (.float .f64 x.income) ∧ w'.cell? ⟨gx, 7, none⟩ = some (.bool x.sub) ∧ w'.cell? ⟨gx, 8, none⟩ = some (.int .i64 x.status) ∧ w'.cell? ⟨gx, 9, none⟩ = some (.int .i64 x.plan) ∧ w'.cell? ⟨gx, 10, none⟩ = some (.int .i64 x.family)) (first | go_keep | exact HKE.out _ (by assumption))
        (first
          | ((go_at_call 17; refine (HKv.out p6).mono ?_; rintro r p7 ⟨rfl, b7⟩; have e7 : Below w5.heap.size w5 p7 := e6.trans (b7.mono e6.size)))
          | ((go_at_call 19; refine (HOn.out w5.drew).mono ?_; rintro r p6 ⟨rfl, b6⟩; have e6 : Below w5.heap.size w5 p6 := (Below.refl _ _).drew.trans (b6.mono (Below.refl w5.heap.size w5).drew.size))))
      have HL7 := Lib.hid (HL5.out.trans (e7.mono HL5.out.size))
      have HX7 := Lib.hid (HX5.out.below e7)
      clear b6 b7 e6 e7 k0 k1 k2 k3 k4 k5 k6 k7 k8 k9 k10 HKE
      obtain ⟨k0, k1, k2, k3, k4, k5, k6, k7, k8, k9, k10⟩ := bx_of HX7.out
      cases q with
      | false =>
        have hne := of_decide_eq_false Hq.out
        obtain ⟨z1, z2⟩ := enc_not x HOx.out hne
        have hoe : onlyE x = e := by
          rcases HOC.out with h | h
          · exact absurd h hne
          · exact h
        obtain rfl : sX = 11 := HsX.out.symm.trans z1
        obtain rfl : sB = ByteArray.empty := HsB.out.symm.trans z2
        rw [hoe] at HOn
        have HGe := Lib.hid (fun W => good_calls e W HO.out.rate HO.out.income)
        rw [Hgb.out] at HGe
        clear hne z1 z2 hoe
        go_wp2_with fail
        refine (HOn.out _).mono ?_
        rintro r w8 ⟨rfl, b8⟩
        have HL8 := Lib.hid (HL7.out.trans (b8.mono HL7.out.size))
        clear b8
        go_wp2_with fail
        refine (HGe.out _).mono ?_
        rintro r w9 ⟨rfl, b9⟩
        have HL9 := Lib.hid (HL8.out.trans (b9.mono HL8.out.size))
        clear b9
        go_wp2_with fail
        refine (wakes_calls _).mono ?_
        rintro r wa ⟨rfl, ba⟩
        have HLa := Lib.hid (HL9.out.trans (ba.mono HL9.out.size))
        clear ba
        go_wp2_with fail
        go_ret
        exact ⟨rfl, HLa.out⟩
      | true =>
        have HGx := Lib.hid (fun W => rgoodE_calls x W HOx.out.rate HOx.out.income)
        rw [← good_same x HOx.out.rate HOx.out.income] at HGx
        have hX := HsX.out
        unfold encX at hX
        obtain ⟨gx2, hgx2⟩ : ∃ q, goodE x = q := ⟨_, rfl⟩
        rw [hgx2] at HGx hX
        clear hgx2
        cases gx2 with
        | false =>
          obtain rfl : sX = 11 := hX.symm
          clear hX
          go_wp2_with fail
          refine (HGx.out _).mono ?_
          rintro r w8 ⟨rfl, b8⟩
          have HL8 := Lib.hid (HL7.out.trans (b8.mono HL7.out.size))
          clear b8
          go_wp2_with fail
          refine (wakes_calls _).mono ?_
          rintro r wa ⟨rfl, ba⟩
          have HLa := Lib.hid (HL8.out.trans (ba.mono HL8.out.size))
          clear ba
          go_wp2_with fail
          go_ret
          exact ⟨rfl, HLa.out⟩
        | true =>
          obtain rfl : sX = 0 := hX.symm
          clear hX
          go_wp2_with fail
          refine (HGx.out _).mono ?_
          rintro r w8 ⟨rfl, b8⟩
          have HL8 := Lib.hid (HL7.out.trans (b8.mono HL7.out.size))
          clear b8
          go_wp2_with fail
          refine (wakes_calls _).mono ?_
          rintro r wa ⟨rfl, ba⟩
          have HLa := Lib.hid (HL8.out.trans (ba.mono HL8.out.size))
          clear ba
          go_wp2_with fail
          go_ret
          exact ⟨rfl, HLa.out⟩
end Go.Proofs.Ytadcpdpcpecooaa.Ev
