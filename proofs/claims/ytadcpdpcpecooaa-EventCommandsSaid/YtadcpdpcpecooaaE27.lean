/- The reference's Fine, Pack and Open; EventCommands walked. (Printed by gen27.py, gen28.py, gen29.py, join27.py.) -/
import Derived.Test.YtadcpdpcpecooaaE14
import Derived.Test.YtadcpdpcpecooaaE18
import Derived.Test.YtadcpdpcpecooaaE24
import Derived.Test.YtadcpdpcpecooaaE20
import Derived.Test.YtadcpdpcpecooaaE23
namespace Go.Proofs.Ytadcpdpcpecooaa.Ev
open Go.RowKit Go.Proofs.Ytadcpdpcpecooaa.Pk Go.Proofs.Ytadcpdpcpecooaa.Re

set_option maxRecDepth 20000 in
set_option maxHeartbeats 4000000 in
theorem rfine_calls (c : C) (w : World) (hr : c.e.rate < 18446744073709551616) (hi : c.e.income < 18446744073709551616) :
    Calls Try.prog 24 #[c.v] w fun r w' => r = .returned (.bool (fineC c)) ∧ Below w.heap.size w w' := by
  have hb := Blk.new w 27 c.cells
  have HB := Lib.hid ((Below.refl w.heap.size w).alloc (Nat.le_refl _) (.cells c.cells 27))
  have HBk := Lib.hid hb
  have HG := Lib.hid (fun W => rgoodE_calls c.e W hr hi)
  rw [← good_same c.e hr hi] at HG
  have HS := Lib.hid (fun W => kev_calls c.e zeroE W)
  obtain ⟨k0, k1, k2, k3, k4, k5, k6, k7, k8, k9, k10, k11, k12, k13⟩ := cx_of hb
  clear hb
  unfold fineC
  obtain ⟨u, hu⟩ : ∃ u, c.undo = u := ⟨_, rfl⟩
  obtain ⟨g1, hg1⟩ : ∃ u, goodE c.e = u := ⟨_, rfl⟩
  obtain ⟨g2, hg2⟩ : ∃ u, decide (c.e = zeroE) = u := ⟨_, rfl⟩
  rw [hg1] at HG ⊢
  rw [hg2] at HS ⊢
  obtain ⟨q, hq⟩ : ∃ q, (c.of == 0) = q := ⟨_, rfl⟩
  obtain ⟨q2, hq2⟩ : ∃ q, (c.e.key == c.key) = q := ⟨_, rfl⟩
  rw [hu, hq, hq2]
  have HU := Lib.hid hu
  have HQ := Lib.hid hq
  have HQ2 := Lib.hid hq2
  clear hg1 hg2 hu hq hq2
  go_enter Try.func24, Try.ntmps24
  go_upto_region 1 with fail
  generalize w.alloc (.cells c.cells 27) = W1 at *
  rw [HU.out] at k0
  have hq := HQ.out
  have hq2 := HQ2.out
  cases u with
  | true =>
    go_wp2_with fail
    refine (HS.out _).mono ?_
    rintro r w2 ⟨rfl, b2⟩
    have HB2 := Lib.hid (HB.out.trans (b2.mono HB.out.size))
    clear b2
    go_wp2_with fail
    go_ret
    exact ⟨rfl, HB2.out⟩
  | false =>
    cases q with
    | false =>
      go_wp2_with fail
      go_ret
      exact ⟨rfl, HB.out⟩
    | true =>
      go_wp2_with fail
      refine (HG.out _).mono ?_
      rintro r w2 ⟨rfl, b2⟩
      have HB2 := Lib.hid (HB.out.trans (b2.mono HB.out.size))
      have HK2 := Lib.hid (HBk.out.below b2)
      clear b2 k0 k1 k2 k3 k4 k5 k6 k7 k8 k9 k10 k11 k12 k13
      obtain ⟨k0, k1, k2, k3, k4, k5, k6, k7, k8, k9, k10, k11, k12, k13⟩ := cx_of HK2.out
      cases g1 with
      | false =>
        go_wp2_with fail
        go_ret
        exact ⟨rfl, HB2.out⟩
      | true =>
        go_wp2_with fail
        go_ret
        exact ⟨ret_bool (by simp), HB2.out⟩
theorem add_run (A B : List Int) (h : (strOfNums A).size + (strOfNums B).size ≤ 9223372036854775807) (W : World) : (Op.stringOp .add (strOfNums A) (strOfNums B)).run Try.prog W = .ok (.string (strOfNums (A ++ B))) W := by
  rw [str_app]
  simp [go_sem]
  omega
theorem by_str (V : Int) (n : Nat) : bytesStr V n = strOfNums (bytesOf V n) := rfl
set_option maxRecDepth 20000 in
set_option maxHeartbeats 8000000 in
theorem rpack_calls (c : C) (w : World) (ho : OkC c) : Calls Try.prog 21 #[c.v] w fun r w' => r = .returned (.tuple #[.string (packB c), .int .i64 (packX c)]) ∧ Below w.heap.size w w' := by
  have hb := Blk.new w 27 c.cells
  have HB := Lib.hid ((Below.refl w.heap.size w).alloc (Nat.le_refl _) (.cells c.cells 27))
  have HBk := Lib.hid hb
  have HG := Lib.hid (fun W => rfine_calls c W ho.e.rate ho.e.income)
  have HFt := Lib.hid (fun h hu => fits_of c.e (fine_good c h hu) ho.e)
  have uk : IntKind.u64.wrap c.key = c.key := u64_fit ho.key (by decide)
  have uo : IntKind.u64.wrap c.of = c.of := u64_fit ho.of (by decide)
  have HP1 := Lib.hid (fun W => Bytes_calls (flagI c.undo) 1 W (by unfold flagI; split <;> decide) (by unfold flagI; split <;> decide) (by decide))
  have HP2 := Lib.hid (fun W => Bytes_calls c.key 4 W ho.key.1 (Int.lt_trans ho.key.2 (by decide)) (by decide))
  have HP3 := Lib.hid (fun W => Bytes_calls c.of 4 W ho.of.1 (Int.lt_trans ho.of.2 (by decide)) (by decide))
  have HFl := Lib.hid (fun W => flag_calls c.undo W)
  unfold packB packX
  obtain ⟨gb, hgb⟩ : ∃ b, fineC c = b := ⟨_, rfl⟩
  rw [hgb] at HG HFt ⊢
  clear hgb
  have hadd1 := add_run (bytesOf (flagI c.undo) 1) (bytesOf c.key 4) (by rw [strOfNums_size, strOfNums_size, bytesOf_length, bytesOf_length]; decide)
  have HA2 := Lib.hid (add_run (bytesOf (flagI c.undo) 1 ++ bytesOf c.key 4) (bytesOf c.of 4) (by rw [strOfNums_size, strOfNums_size, List.length_append, bytesOf_length, bytesOf_length, bytesOf_length]; decide))
  have HA3 := Lib.hid (add_run (bytesOf (flagI c.undo) 1 ++ bytesOf c.key 4) (bytesE c.e) (by rw [strOfNums_size, strOfNums_size, List.length_append, bytesOf_length, bytesOf_length, bytesE_len]; decide))
  simp only [by_str] at HP1 HP2 HP3
  obtain ⟨k0, k1, k2, k3, k4, k5, k6, k7, k8, k9, k10, k11, k12, k13⟩ := cx_of hb
  clear hb
  go_enter Try.func21, Try.ntmps21
  go_upto_region 1 with fail
  generalize w.alloc (.cells c.cells 27) = W1 at *
  go_wp2_with fail
  refine (HG.out _).mono ?_
  rintro r w2 ⟨rfl, b2⟩
  have HB2 := Lib.hid (HB.out.trans (b2.mono HB.out.size))
  have HK2 := Lib.hid (HBk.out.below b2)
  clear b2 k0 k1 k2 k3 k4 k5 k6 k7 k8 k9 k10 k11 k12 k13
  cases gb with
  | false =>
    go_wp2_with fail
    go_ret2
    exact ⟨rfl, HB2.out⟩
  | true =>
    obtain ⟨k0, k1, k2, k3, k4, k5, k6, k7, k8, k9, k10, k11, k12, k13⟩ := cx_of HK2.out
    have HKE : Hid (∀ w' : World, Below w2.heap.size w2 w' → (w'.cell? ⟨w.heap.size, 0, none⟩ = some (.bool c.undo) ∧ w'.cell? ⟨w.heap.size, 1, none⟩ = some (.int .u32 c.key))) := Lib.hid (fun w' hB => ⟨(cx_of (HK2.out.below hB)).c0, (cx_of (HK2.out.below hB)).c1⟩)
    have e0 := (Below.refl w2.heap.size w2).drew
    go_upto_region 3 with fail
    go_region_held3 (fun w' => w'.cell? ⟨w.heap.size, 0, none⟩ = some (.bool c.undo) ∧ w'.cell? ⟨w.heap.size, 1, none⟩ = some (.int .u32 c.key)) (first | exact HKE.out _ (by assumption) | go_keep)
      (first
        | ((go_at_call 48; refine (HP2.out p1).mono ?_; rintro r p2 ⟨rfl, b2⟩; have e2 : Below w2.heap.size w2 p2 := e1.trans (b2.mono e1.size)))
        | ((go_at_call 48; refine (HP1.out w2.drew).mono ?_; rintro r p1 ⟨rfl, b1⟩; have e1 : Below w2.heap.size w2 p1 := e0.trans (b1.mono e0.size)))
        | ((go_at_call 49; refine (HFl.out w2.drew).mono ?_; rintro r p0 ⟨rfl, rfl⟩)))
    have HK3 := Lib.hid (HK2.out.below e2)
    have HB3 := Lib.hid (HB2.out.trans (e2.mono HB2.out.size))
    clear k0 k1 k2 k3 k4 k5 k6 k7 k8 k9 k10 k11 k12 k13 hadd1 b1 b2 e0 e1 e2 HKE uk
    generalize p2 = w3 at HK3 HB3 ⊢
    obtain ⟨k0, k1, k2, k3, k4, k5, k6, k7, k8, k9, k10, k11, k12, k13⟩ := cx_of HK3.out
    obtain ⟨u, hu⟩ : ∃ u, c.undo = u := ⟨_, rfl⟩
    rw [hu] at k0
    have HUu := Lib.hid hu
    clear hu
    cases u with
    | true =>
      have hadd2 := HA2.out
      go_wp2_with fail
      refine (HP3.out _).mono ?_
      rintro r w4 ⟨rfl, b4⟩
      have HB4 := Lib.hid (HB3.out.trans (b4.mono HB3.out.size))
      clear b4
      go_wp2_with fail
      go_ret2
      refine ⟨?_, HB4.out⟩
      unfold bytesC
      rw [HUu.out]
      simp
    | false =>
      have hadd3 := HA3.out
      have HRb := Lib.hid (fun W => rbytes_calls c.e W (HFt.out trivial HUu.out))
      go_wp2_with fail
      refine (HRb.out _).mono ?_
      rintro r w4 ⟨rfl, b4⟩
      have HB4 := Lib.hid (HB3.out.trans (b4.mono HB3.out.size))
      clear b4
      have hes : encS c.e = strOfNums (bytesE c.e) := rfl
      rw [hes]
      go_wp2_with fail
      go_ret2
      refine ⟨?_, HB4.out⟩
      unfold bytesC
      rw [HUu.out]
      simp
theorem gs_none (k : Nat) : gs none k = none := by
  induction k with
  | zero => rfl
  | succ k ih =>
    show (numR (gs none k) _).2 = none
    rw [ih]
    rfl
theorem open_no {b : ByteArray} (h : openB b = false) : openC b = zeroC ∧ openX b = 11 := by
  unfold openC openX
  rw [h]
  exact ⟨rfl, rfl⟩
theorem open_yes {b : ByteArray} (h : openB b = true) : openC b = opC b ∧ openX b = 0 := by
  unfold openC openX
  rw [h]
  exact ⟨rfl, rfl⟩
theorem open_bad {b : ByteArray} (h : st2 b = none) : openB b = false := by
  have : opS b = none := by
    unfold opS
    rw [h]
    split
    · rfl
    · exact gs_none 11
  unfold openB
  rw [this]
  rfl
theorem open_big {b : ByteArray} (h : 1 < o0 b) : openB b = false := by
  unfold openB
  rw [decide_eq_true h]
  simp
theorem open_undo {b : ByteArray} (h : o0 b = 1) : openB b = doneB (numR (st2 b) 4).2 ∧ opC b = ⟨true, o1 b, zeroE, o2 b⟩ := by
  have hq : (o0 b == 1) = true := by simpa using h
  have hc : opC b = ⟨true, o1 b, zeroE, o2 b⟩ := by unfold opC; rw [if_pos hq]
  refine ⟨?_, hc⟩
  have hf : fineC (⟨true, o1 b, zeroE, o2 b⟩ : C) = true := by
    show decide (zeroE = zeroE) = true
    simp
  unfold openB opS
  rw [hc, hf, if_pos hq, h]
  simp
theorem open_event' {b t : ByteArray} (h : o0 b = 0) (ht : st2 b = some t) : openB b = (decB t && ((decE t).key == o1 b)) ∧ (decB t = true → opC b = ⟨false, o1 b, decE t, 0⟩) := by
  have hq : ¬ (o0 b == 1) = true := by rw [h]; decide
  have hc : opC b = ⟨false, o1 b, getE (some t), 0⟩ := by unfold opC; rw [if_neg hq, ht]
  have hs : opS b = gs (some t) 11 := by unfold opS; rw [if_neg hq, ht]
  constructor
  · unfold openB
    rw [hc, hs, h]
    have hf : fineC (⟨false, o1 b, getE (some t), 0⟩ : C) = (goodE (getE (some t)) && ((getE (some t)).key == o1 b)) := rfl
    rw [hf]
    have hd : decB t = (doneB (gs (some t) 11) && goodE (getE (some t))) := rfl
    cases h1 : doneB (gs (some t) 11) with
    | false =>
      rw [hd, h1]
      rfl
    | true =>
      cases h2 : goodE (getE (some t)) with
      | false =>
        rw [hd, h1, h2]
        rfl
      | true =>
        have hdt : decB t = true := by rw [hd, h1, h2]; rfl
        unfold decE
        rw [hdt]
        simp
  · intro hd
    rw [hc]
    unfold decE
    rw [if_pos hd]
theorem st2_some {b t : ByteArray} (h : st2 b = some t) : 5 ≤ b.size ∧ t = b.extract 5 b.size := by
  unfold st2 at h
  cases h1 : st1 b with
  | none =>
    rw [h1] at h
    cases h
  | some s =>
    rw [h1] at h
    unfold st1 at h1
    simp only [numR] at h h1
    split at h1
    · rename_i c1
      simp only [Option.some.injEq] at h1
      split at h
      · rename_i c2
        simp only [Option.some.injEq] at h
        have e1 : s = b.extract 1 b.size := h1.symm
        have e2 : t = s.extract 4 s.size := h.symm
        have z : s.size = b.size - 1 := by rw [e1]; simp [ByteArray.size_extract]
        have q1 : (1 : Int).toNat ≤ b.size := by have := c1.2; omega
        have q2 : 4 ≤ s.size := by have := c2.2; omega
        have q3 : 1 ≤ b.size := q1
        refine ⟨by omega, ?_⟩
        rw [e2, z, e1]
        rw [ext2 b 1 4 (b.size - 1) (by omega)]
        congr 1
        omega
      · cases h
    · cases h1
theorem roflag (S : ByteArray) (a : Nat) (bad : Bool) : (bad = true → stR S a bad = none) ∧ (bad = false → ∃ t, stR S a bad = some t) := by
  unfold stR
  constructor
  · rintro rfl
    rfl
  · rintro rfl
    exact ⟨_, rfl⟩
set_option maxRecDepth 20000 in
set_option maxHeartbeats 8000000 in
theorem ropen_calls (b : ByteArray) (w : World) (hb : b.size ≤ 1000000) : Calls Try.prog 22 #[.string b] w fun r w' => r = .returned (.tuple #[(openC b).v, .int .i64 (openX b)]) ∧ Below w.heap.size w w' := by
  have hst := fun (a : Addr) (n : Nat) (W : World) => run_store Try.prog W a (.float .f64 n) .plain rfl
  have HR0 := Lib.hid (Blk.new w 27 zeroC.cells)
  have HB0 := Lib.hid ((Below.refl w.heap.size w).alloc (Nat.le_refl _) (.cells zeroC.cells 27))
  have r1 := o1_range b
  have r2 := o2_range b
  have r0 := o0_range b
  go_enter Try.func22, Try.ntmps22
  go_upto_region 1 with fail
  generalize w.alloc (.cells zeroC.cells 27) = W1 at *
  have HO1 := Lib.hid (Blk.new W1 67 #[.string b, .int .i64 0, .bool false])
  have hx := (Below.refl W1.heap.size W1).alloc (Nat.le_refl _) (.cells #[.string b, .int .i64 0, .bool false] 67)
  have HR1 := Lib.hid (HR0.out.below hx)
  have HB1 := Lib.hid (HB0.out.trans (hx.mono HB0.out.size))
  have HL1 := Lib.hid HR0.out.lt
  clear hx
  go_upto_region 2 with fail
  generalize W1.alloc (.cells #[.string b, .int .i64 0, .bool false] 67) = W2 at *
  generalize hgo : W1.heap.size = go at *
  have HS : Hid (stR b 0 false = some b) := Lib.hid (by show some (b.extract 0 b.size) = some b; rw [ByteArray.extract_zero_size])
  have HRO : Hid (RO W2 go go b 0 false) := Lib.hid ⟨HO1.out, Nat.le_refl _, Nat.zero_le _⟩
  have hN1 := ronum_calls go go b 0 1 false W2 HRO.out (Nat.le_of_lt HO1.out.lt) (by decide) hb
  rw [HS.out] at hN1
  have HN1 : Hid (Calls Try.prog 34 #[.pointer (some ⟨go, 0, none⟩), .int .i64 1] W2 fun e w' => ∃ a' bad', e = .returned (.int .u64 (o0 b)) ∧ RO w' go go b a' bad' ∧ stR b a' bad' = st1 b ∧ FrO W2 w' go go) := Lib.hid hN1
  clear hN1 hgo
  have HNe : Hid (w.heap.size ≠ go) := Lib.hid (Nat.ne_of_lt HL1.out)
  have HLe : Hid (w.heap.size ≤ go) := Lib.hid (Nat.le_of_lt HL1.out)
  go_wp2_with fail
  refine HN1.out.mono ?_
  rintro r W3 ⟨a3, bad3, rfl, ho3, hs3, hf3⟩
  have HRO3 := Lib.hid ho3
  have HR3 := Lib.hid (fro_blk hf3 HR1.out HNe.out)
  have HB3 := Lib.hid (fro_below hf3 HLe.out HB1.out)
  have hN2 := ronum_calls go go b a3 4 bad3 W3 ho3 (Nat.le_of_lt ho3.blk.lt) (by decide) hb
  rw [hs3] at hN2
  have HN2 : Hid (Calls Try.prog 34 #[.pointer (some ⟨go, 0, none⟩), .int .i64 4] W3 fun e w' => ∃ a' bad', e = .returned (.int .u64 (o1 b)) ∧ RO w' go go b a' bad' ∧ stR b a' bad' = st2 b ∧ FrO W3 w' go go) := Lib.hid hN2
  clear ho3 hs3 hf3 hN2 HN1
  go_wp2_with fail
  refine HN2.out.mono ?_
  rintro r W4 ⟨a4, bad4, rfl, ho4, hs4, hf4⟩
  have HRO4 := Lib.hid ho4
  have HS4 := Lib.hid hs4
  have HR := Lib.hid (fro_blk hf4 HR3.out HNe.out)
  have HB := Lib.hid (fro_below hf4 HLe.out HB3.out)
  have HFl := Lib.hid (roflag b a4 bad4)
  have c2 := ho4.blk.cell 2
  clear ho4 hs4 hf4 HN2 HR3 HB3 HRO3
  cases bad4 with
  | true =>
    have HY := Lib.hid (open_no (open_bad (HS4.out.symm.trans (HFl.out.1 rfl))))
    obtain ⟨j0, j1, j2, j3, j4, j5, j6, j7, j8, j9, j10, j11, j12, j13⟩ := cx_of HR.out
    have f0 := HR.out.frozen 0
    have f1 := HR.out.frozen 1
    have f2 := HR.out.frozen 2
    have f3 := HR.out.frozen 3
    have f4 := HR.out.frozen 4
    have f5 := HR.out.frozen 5
    have f6 := HR.out.frozen 6
    have f7 := HR.out.frozen 7
    have f8 := HR.out.frozen 8
    have f9 := HR.out.frozen 9
    have f10 := HR.out.frozen 10
    have f11 := HR.out.frozen 11
    have f12 := HR.out.frozen 12
    have f13 := HR.out.frozen 13
    go_wp2_with fail
    have S := set_command zeroC HR.out
    have SB := set_command_below zeroC (Nat.le_refl w.heap.size) HB.out
    (try simp only [Exit.inBlock, Exit.then])
    refine bodyPost_ret (results_cell_row2 (p := 2) (u := 3) (ty := 27) rfl _ _ w.heap.size 27 _ _ _ rfl S Try.underlying27 rfl (by kernel_rfl)) rfl ?_
    exact ⟨by rw [(HY.out).1, (HY.out).2]; rfl, SB⟩
  | false =>
    by_cases h1 : 1 < o0 b
    · have HY := Lib.hid (open_no (open_big h1))
      obtain ⟨j0, j1, j2, j3, j4, j5, j6, j7, j8, j9, j10, j11, j12, j13⟩ := cx_of HR.out
      have f0 := HR.out.frozen 0
      have f1 := HR.out.frozen 1
      have f2 := HR.out.frozen 2
      have f3 := HR.out.frozen 3
      have f4 := HR.out.frozen 4
      have f5 := HR.out.frozen 5
      have f6 := HR.out.frozen 6
      have f7 := HR.out.frozen 7
      have f8 := HR.out.frozen 8
      have f9 := HR.out.frozen 9
      have f10 := HR.out.frozen 10
      have f11 := HR.out.frozen 11
      have f12 := HR.out.frozen 12
      have f13 := HR.out.frozen 13
      go_wp2_with fail
      have S := set_command zeroC HR.out
      have SB := set_command_below zeroC (Nat.le_refl w.heap.size) HB.out
      (try simp only [Exit.inBlock, Exit.then])
      refine bodyPost_ret (results_cell_row2 (p := 2) (u := 3) (ty := 27) rfl _ _ w.heap.size 27 _ _ _ rfl S Try.underlying27 rfl (by kernel_rfl)) rfl ?_
      exact ⟨by rw [(HY.out).1, (HY.out).2]; rfl, SB⟩
    · by_cases h2 : o0 b = 1
      · have HU := Lib.hid (open_undo h2)
        have hN3 := ronum_calls go go b a4 4 false W4 HRO4.out (Nat.le_of_lt HRO4.out.blk.lt) (by decide) hb
        rw [HS4.out] at hN3
        have HN3 : Hid (Calls Try.prog 34 #[.pointer (some ⟨go, 0, none⟩), .int .i64 4] W4 fun e w' => ∃ a' bad', e = .returned (.int .u64 (o2 b)) ∧ RO w' go go b a' bad' ∧ stR b a' bad' = (numR (st2 b) 4).2 ∧ FrO W4 w' go go) := Lib.hid hN3
        clear hN3
        go_wp2_with fail
        refine HN3.out.mono ?_
        rintro r W5 ⟨a5, bad5, rfl, ho5, hs5, hf5⟩
        have HRO5 := Lib.hid ho5
        have HRa := Lib.hid (fro_blk hf5 HR.out HNe.out)
        have HBa := Lib.hid (fro_below hf5 HLe.out HB.out)
        have hD := rodone_calls go go b a5 bad5 W5 ho5 hb
        rw [hs5, ← HU.out.1] at hD
        have HD := Lib.hid hD
        clear hD ho5 hs5 hf5 HN3 c2 HR HB
        have HR := HRa
        have HB := HBa
        clear HRa HBa
        go_wp2_with fail
        refine HD.out.mono ?_
        rintro r W6 ⟨rfl, m, rfl⟩
        have HRa := Lib.hid (blk_drewN HR.out m)
        have HBa := Lib.hid (below_drewN HB.out m)
        clear HR HB HD HRO5
        have HR := HRa
        have HB := HBa
        clear HRa HBa
        generalize World.drewN _ m = W6 at *
        obtain ⟨q, hq⟩ : ∃ x, openB b = x := ⟨_, rfl⟩
        rw [hq]
        have HQ := Lib.hid hq
        clear hq
        cases q with
        | false =>
          have HY := Lib.hid (open_no HQ.out)
          obtain ⟨j0, j1, j2, j3, j4, j5, j6, j7, j8, j9, j10, j11, j12, j13⟩ := cx_of HR.out
          have f0 := HR.out.frozen 0
          have f1 := HR.out.frozen 1
          have f2 := HR.out.frozen 2
          have f3 := HR.out.frozen 3
          have f4 := HR.out.frozen 4
          have f5 := HR.out.frozen 5
          have f6 := HR.out.frozen 6
          have f7 := HR.out.frozen 7
          have f8 := HR.out.frozen 8
          have f9 := HR.out.frozen 9
          have f10 := HR.out.frozen 10
          have f11 := HR.out.frozen 11
          have f12 := HR.out.frozen 12
          have f13 := HR.out.frozen 13
          go_wp2_with fail
          have S := set_command zeroC HR.out
          have SB := set_command_below zeroC (Nat.le_refl w.heap.size) HB.out
          (try simp only [Exit.inBlock, Exit.then])
          refine bodyPost_ret (results_cell_row2 (p := 2) (u := 3) (ty := 27) rfl _ _ w.heap.size 27 _ _ _ rfl S Try.underlying27 rfl (by kernel_rfl)) rfl ?_
          exact ⟨by rw [(HY.out).1, (HY.out).2]; rfl, SB⟩
        | true =>
          have HY := Lib.hid (open_yes HQ.out)
          rw [HU.out.2] at HY
          obtain ⟨j0, j1, j2, j3, j4, j5, j6, j7, j8, j9, j10, j11, j12, j13⟩ := cx_of HR.out
          have f0 := HR.out.frozen 0
          have f1 := HR.out.frozen 1
          have f2 := HR.out.frozen 2
          have f3 := HR.out.frozen 3
          have f4 := HR.out.frozen 4
          have f5 := HR.out.frozen 5
          have f6 := HR.out.frozen 6
          have f7 := HR.out.frozen 7
          have f8 := HR.out.frozen 8
          have f9 := HR.out.frozen 9
          have f10 := HR.out.frozen 10
          have f11 := HR.out.frozen 11
          have f12 := HR.out.frozen 12
          have f13 := HR.out.frozen 13
          go_wp2_with fail
          have S := set_command ⟨true, o1 b, zeroE, o2 b⟩ HR.out
          have SB := set_command_below ⟨true, o1 b, zeroE, o2 b⟩ (Nat.le_refl w.heap.size) HB.out
          (try simp only [Exit.inBlock, Exit.then])
          refine bodyPost_ret (results_cell_row2 (p := 2) (u := 3) (ty := 27) rfl _ _ w.heap.size 27 _ _ _ rfl S Try.underlying27 rfl (by kernel_rfl)) rfl ?_
          exact ⟨by rw [(HY.out).1, (HY.out).2]; rfl, SB⟩
      · have h0 : o0 b = 0 := by omega
        obtain ⟨t, ht⟩ := HFl.out.2 rfl
        have ht2 := HS4.out.symm.trans ht
        obtain ⟨h5, h6⟩ := st2_some ht2
        have HV := Lib.hid (open_event' h0 ht2)
        have h7 : (5 : Int) ≤ (b.size : Int) := by omega
        have htz : t.size ≤ 1000000 := by rw [h6, ByteArray.size_extract]; omega
        have HD := Lib.hid (fun W => rdec_calls t W htz)
        rw [h6] at HD
        have H6 := Lib.hid h6
        rw [← h6] at HD
        have HXd : Hid (decX t = if decB t then 0 else 11) := Lib.hid rfl
        have H6 := Lib.hid h6
        obtain ⟨q, hq⟩ : ∃ x, ((decE t).key == o1 b) = x := ⟨_, rfl⟩
        have hq2 : ((decE t).key != o1 b) = !q := by rw [← hq]; rfl
        rw [hq] at HV
        have HQ2 := Lib.hid hq2
        generalize decE t = E0 at *
        generalize decX t = X0 at *
        generalize decB t = D0 at *
        clear ht ht2 h6 htz hq hq2
        go_upto_region 10 with fail
        go_wp2_with fail
        rw [← H6.out]
        refine (HD.out _).mono ?_
        rintro r W5 ⟨rfl, b5⟩
        have hal := (Below.refl W5.heap.size W5).alloc (Nat.le_refl _) (.cells E0.cells 25)
        have HRa := Lib.hid ((HR.out.below b5).below hal)
        have HBa := Lib.hid ((HB.out.trans (b5.mono HB.out.size)).trans (hal.mono (HB.out.trans (b5.mono HB.out.size)).size))
        have HE := Lib.hid (Blk.new W5 25 E0.cells)
        clear hal b5 HR HB HRO4 c2
        have HR := HRa
        have HB := HBa
        clear HRa HBa
        go_upto_region 11 with fail
        generalize W5.alloc (.cells E0.cells 25) = W6 at *
        generalize W5.heap.size = g6 at *
        obtain ⟨m0, m1, m2, m3, m4, m5, m6, m7, m8, m9, m10⟩ := bx_of HE.out
        have hq2 := HQ2.out
        cases D0 with
        | false =>
          obtain rfl : X0 = 11 := HXd.out
          have HY := Lib.hid (open_no HV.out.1)
          obtain ⟨j0, j1, j2, j3, j4, j5, j6, j7, j8, j9, j10, j11, j12, j13⟩ := cx_of HR.out
          have f0 := HR.out.frozen 0
          have f1 := HR.out.frozen 1
          have f2 := HR.out.frozen 2
          have f3 := HR.out.frozen 3
          have f4 := HR.out.frozen 4
          have f5 := HR.out.frozen 5
          have f6 := HR.out.frozen 6
          have f7 := HR.out.frozen 7
          have f8 := HR.out.frozen 8
          have f9 := HR.out.frozen 9
          have f10 := HR.out.frozen 10
          have f11 := HR.out.frozen 11
          have f12 := HR.out.frozen 12
          have f13 := HR.out.frozen 13
          go_wp2_with fail
          have S := set_command zeroC HR.out
          have SB := set_command_below zeroC (Nat.le_refl w.heap.size) HB.out
          (try simp only [Exit.inBlock, Exit.then])
          refine bodyPost_ret (results_cell_row2 (p := 2) (u := 3) (ty := 27) rfl _ _ w.heap.size 27 _ _ _ rfl S Try.underlying27 rfl (by kernel_rfl)) rfl ?_
          exact ⟨by rw [(HY.out).1, (HY.out).2]; rfl, SB⟩
        | true =>
          obtain rfl : X0 = 0 := HXd.out
          cases q with
          | false =>
            have HY := Lib.hid (open_no HV.out.1)
            obtain ⟨j0, j1, j2, j3, j4, j5, j6, j7, j8, j9, j10, j11, j12, j13⟩ := cx_of HR.out
            have f0 := HR.out.frozen 0
            have f1 := HR.out.frozen 1
            have f2 := HR.out.frozen 2
            have f3 := HR.out.frozen 3
            have f4 := HR.out.frozen 4
            have f5 := HR.out.frozen 5
            have f6 := HR.out.frozen 6
            have f7 := HR.out.frozen 7
            have f8 := HR.out.frozen 8
            have f9 := HR.out.frozen 9
            have f10 := HR.out.frozen 10
            have f11 := HR.out.frozen 11
            have f12 := HR.out.frozen 12
            have f13 := HR.out.frozen 13
            go_wp2_with fail
            have S := set_command zeroC HR.out
            have SB := set_command_below zeroC (Nat.le_refl w.heap.size) HB.out
            (try simp only [Exit.inBlock, Exit.then])
            refine bodyPost_ret (results_cell_row2 (p := 2) (u := 3) (ty := 27) rfl _ _ w.heap.size 27 _ _ _ rfl S Try.underlying27 rfl (by kernel_rfl)) rfl ?_
            exact ⟨by rw [(HY.out).1, (HY.out).2]; rfl, SB⟩
          | true =>
            have HY := Lib.hid (open_yes HV.out.1)
            rw [HV.out.2 rfl] at HY
            obtain ⟨j0, j1, j2, j3, j4, j5, j6, j7, j8, j9, j10, j11, j12, j13⟩ := cx_of HR.out
            have f0 := HR.out.frozen 0
            have f1 := HR.out.frozen 1
            have f2 := HR.out.frozen 2
            have f3 := HR.out.frozen 3
            have f4 := HR.out.frozen 4
            have f5 := HR.out.frozen 5
            have f6 := HR.out.frozen 6
            have f7 := HR.out.frozen 7
            have f8 := HR.out.frozen 8
            have f9 := HR.out.frozen 9
            have f10 := HR.out.frozen 10
            have f11 := HR.out.frozen 11
            have f12 := HR.out.frozen 12
            have f13 := HR.out.frozen 13
            go_wp2_with fail
            have S := set_command ⟨false, o1 b, E0, 0⟩ HR.out
            have SB := set_command_below ⟨false, o1 b, E0, 0⟩ (Nat.le_refl w.heap.size) HB.out
            (try simp only [Exit.inBlock, Exit.then])
            refine bodyPost_ret (results_cell_row2 (p := 2) (u := 3) (ty := 27) rfl _ _ w.heap.size 27 _ _ _ rfl S Try.underlying27 rfl (by kernel_rfl)) rfl ?_
            exact ⟨by rw [(HY.out).1, (HY.out).2]; rfl, SB⟩
set_option maxRecDepth 20000 in
set_option maxHeartbeats 16000000 in
theorem commands_walk (c : C) (s : ByteArray) (w : World) (ho : OkC c) :
    Calls Try.prog 7 #[c.v, .string s] w fun r w' => r = .returned (.bool true) ∧ Below w.heap.size w w' := by
  have hst := fun (a : Addr) (n : Nat) (W : World) => run_store Try.prog W a (.float .f64 n) .plain rfl
  have HE := Lib.hid (Blk.new w 27 c.cells)
  have HB0 := Lib.hid ((Below.refl w.heap.size w).alloc (Nat.le_refl _) (.cells c.cells 27))
  have HEn := Lib.hid (fun W => pack_calls c W ho)
  have HRn := Lib.hid (fun W => rpack_calls c W ho)
  have HG := Lib.hid (fun W => fine_calls c W ho.e.rate ho.e.income)
  have HR := Lib.hid (fun W => rfine_calls c W ho.e.rate ho.e.income)
  generalize fineC c = g at HG HR
  generalize packX c = x at HEn HRn
  have hs := beq_list (packB c) (packB c)
  rw [show decide (packB c = packB c) = true by simp] at hs
  generalize packB c = sb at *
  have hx : (x == x) = true := by simp
  have hg : (g == g) = true := by simp
  by_cases hlen : s.size ≤ 20000
  · have HD := Lib.hid (fun W => open_calls s W (by omega))
    have HRd := Lib.hid (fun W => ropen_calls s W (by omega))
    generalize openC s = d at *
    generalize openX s = y at *
    have hy : (y == y) = true := by simp
    have HKd := Lib.hid (fun W => kcmd_calls d d W)
    rw [show decide (d = d) = true by simp] at HKd
    go_enter Try.func7, Try.ntmps7
    go_upto_region 1 with fail
    generalize w.alloc (.cells c.cells 27) = w1 at *
    obtain ⟨k0, k1, k2, k3, k4, k5, k6, k7, k8, k9, k10, k11, k12, k13⟩ := cx_of HE.out
    go_wp2_with fail
    refine (HEn.out _).mono ?_
    rintro r w2 ⟨rfl, b2⟩
    have HE2 := Lib.hid (HE.out.below b2)
    have HB2 := Lib.hid (HB0.out.trans (b2.mono HB0.out.size))
    clear b2 k0 k1 k2 k3 k4 k5 k6 k7 k8 k9 k10 k11 k12 k13
    obtain ⟨k0, k1, k2, k3, k4, k5, k6, k7, k8, k9, k10, k11, k12, k13⟩ := cx_of HE2.out
    go_wp2_with fail
    refine (HRn.out _).mono ?_
    rintro r w3 ⟨rfl, b3⟩
    have HE3 := Lib.hid (HE2.out.below b3)
    have HB3 := Lib.hid (HB2.out.trans (b3.mono HB2.out.size))
    clear b3 k0 k1 k2 k3 k4 k5 k6 k7 k8 k9 k10 k11 k12 k13
    go_wp2_with fail
    refine (HD.out _).mono ?_
    rintro r w4 ⟨rfl, b4⟩
    have hal := (Below.refl w4.heap.size w4).alloc (Nat.le_refl _) (.cells d.cells 27)
    have HX4 := Lib.hid (Blk.new w4 27 d.cells)
    have HE4 := Lib.hid ((HE3.out.below b4).below hal)
    have HB4 := Lib.hid ((HB3.out.trans (b4.mono HB3.out.size)).trans (hal.mono (HB3.out.trans (b4.mono HB3.out.size)).size))
    clear b4 hal
    go_upto_region 6 with fail
    generalize w4.alloc (.cells d.cells 27) = w5 at *
    generalize w4.heap.size = gx at *
    go_wp2_with fail
    refine (HRd.out _).mono ?_
    rintro r w6 ⟨rfl, b6⟩
    have hal := (Below.refl w6.heap.size w6).alloc (Nat.le_refl _) (.cells d.cells 27)
    have HY1 := Lib.hid (Blk.new w6 27 d.cells)
    have HX1 := Lib.hid ((HX4.out.below b6).below hal)
    have HE1 := Lib.hid ((HE4.out.below b6).below hal)
    have HB1 := Lib.hid ((HB4.out.trans (b6.mono HB4.out.size)).trans (hal.mono (HB4.out.trans (b6.mono HB4.out.size)).size))
    clear b6 hal
    go_upto_region 7 with fail
    generalize w6.alloc (.cells d.cells 27) = w7 at *
    generalize w6.heap.size = gy at *
    clear HE HB0 HE2 HB2 HE3 HB3 HX4 HE4 HB4 HEn HRn HD HRd
    generalize hge : w.heap.size = ge at *
    have HGG := Lib.hid hge
    clear hge
    have HKE : Hid (∀ w' : World, Below w7.heap.size w7 w' → (w'.cell? ⟨ge, 0, none⟩ = some (.bool c.undo) ∧ w'.cell? ⟨ge, 1, none⟩ = some (.int .u32 c.key) ∧ w'.cell? ⟨ge, 2, none⟩ = some (.int .i64 c.e.kind) ∧ w'.cell? ⟨ge, 3, none⟩ = some (.int .i64 c.e.day) ∧ w'.cell? ⟨ge, 4, none⟩ = some (.int .u32 c.e.key) ∧ w'.cell? ⟨ge, 5, none⟩ = some (.int .i64 c.e.loan) ∧ w'.cell? ⟨ge, 6, none⟩ = some (.int .i64 c.e.amount) ∧ w'.cell? ⟨ge, 7, none⟩ = some (.float .f64 c.e.rate) ∧ w'.cell? ⟨ge, 8, none⟩ = some (.float .f64 c.e.income) ∧ w'.cell? ⟨ge, 9, none⟩ = some (.bool c.e.sub) ∧ w'.cell? ⟨ge, 10, none⟩ = some (.int .i64 c.e.status) ∧ w'.cell? ⟨ge, 11, none⟩ = some (.int .i64 c.e.plan) ∧ w'.cell? ⟨ge, 12, none⟩ = some (.int .i64 c.e.family) ∧ w'.cell? ⟨ge, 13, none⟩ = some (.int .u32 c.of) ∧ w'.cell? ⟨gx, 0, none⟩ = some (.bool d.undo) ∧ w'.cell? ⟨gx, 1, none⟩ = some (.int .u32 d.key) ∧ w'.cell? ⟨gx, 2, none⟩ = some (.int .i64 d.e.kind) ∧ w'.cell? ⟨gx, 3, none⟩ = some (.int .i64 d.e.day) ∧ w'.cell? ⟨gx, 4, none⟩ = some (.int .u32 d.e.key) ∧ w'.cell? ⟨gx, 5, none⟩ = some (.int .i64 d.e.loan) ∧ w'.cell? ⟨gx, 6, none⟩ = some (.int .i64 d.e.amount) ∧ w'.cell? ⟨gx, 7, none⟩ = some (.float .f64 d.e.rate) ∧ w'.cell? ⟨gx, 8, none⟩ = some (.float .f64 d.e.income) ∧ w'.cell? ⟨gx, 9, none⟩ = some (.bool d.e.sub) ∧ w'.cell? ⟨gx, 10, none⟩ = some (.int .i64 d.e.status) ∧ w'.cell? ⟨gx, 11, none⟩ = some (.int .i64 d.e.plan) ∧ w'.cell? ⟨gx, 12, none⟩ = some (.int .i64 d.e.family) ∧ w'.cell? ⟨gx, 13, none⟩ = some (.int .u32 d.of) ∧ w'.cell? ⟨gy, 0, none⟩ = some (.bool d.undo) ∧ w'.cell? ⟨gy, 1, none⟩ = some (.int .u32 d.key) ∧ w'.cell? ⟨gy, 2, none⟩ = some (.int .i64 d.e.kind) ∧ w'.cell? ⟨gy, 3, none⟩ = some (.int .i64 d.e.day) ∧ w'.cell? ⟨gy, 4, none⟩ = some (.int .u32 d.e.key) ∧ w'.cell? ⟨gy, 5, none⟩ = some (.int .i64 d.e.loan) ∧ w'.cell? ⟨gy, 6, none⟩ = some (.int .i64 d.e.amount) ∧ w'.cell? ⟨gy, 7, none⟩ = some (.float .f64 d.e.rate) ∧ w'.cell? ⟨gy, 8, none⟩ = some (.float .f64 d.e.income) ∧ w'.cell? ⟨gy, 9, none⟩ = some (.bool d.e.sub) ∧ w'.cell? ⟨gy, 10, none⟩ = some (.int .i64 d.e.status) ∧ w'.cell? ⟨gy, 11, none⟩ = some (.int .i64 d.e.plan) ∧ w'.cell? ⟨gy, 12, none⟩ = some (.int .i64 d.e.family) ∧ w'.cell? ⟨gy, 13, none⟩ = some (.int .u32 d.of))) := Lib.hid (fun w' hB => ⟨(cx_of (HE1.out.below hB)).c0, (cx_of (HE1.out.below hB)).c1, (cx_of (HE1.out.below hB)).c2, (cx_of (HE1.out.below hB)).c3, (cx_of (HE1.out.below hB)).c4, (cx_of (HE1.out.below hB)).c5, (cx_of (HE1.out.below hB)).c6, (cx_of (HE1.out.below hB)).c7, (cx_of (HE1.out.below hB)).c8, (cx_of (HE1.out.below hB)).c9, (cx_of (HE1.out.below hB)).c10, (cx_of (HE1.out.below hB)).c11, (cx_of (HE1.out.below hB)).c12, (cx_of (HE1.out.below hB)).c13, (cx_of (HX1.out.below hB)).c0, (cx_of (HX1.out.below hB)).c1, (cx_of (HX1.out.below hB)).c2, (cx_of (HX1.out.below hB)).c3, (cx_of (HX1.out.below hB)).c4, (cx_of (HX1.out.below hB)).c5, (cx_of (HX1.out.below hB)).c6, (cx_of (HX1.out.below hB)).c7, (cx_of (HX1.out.below hB)).c8, (cx_of (HX1.out.below hB)).c9, (cx_of (HX1.out.below hB)).c10, (cx_of (HX1.out.below hB)).c11, (cx_of (HX1.out.below hB)).c12, (cx_of (HX1.out.below hB)).c13, (cx_of (HY1.out.below hB)).c0, (cx_of (HY1.out.below hB)).c1, (cx_of (HY1.out.below hB)).c2, (cx_of (HY1.out.below hB)).c3, (cx_of (HY1.out.below hB)).c4, (cx_of (HY1.out.below hB)).c5, (cx_of (HY1.out.below hB)).c6, (cx_of (HY1.out.below hB)).c7, (cx_of (HY1.out.below hB)).c8, (cx_of (HY1.out.below hB)).c9, (cx_of (HY1.out.below hB)).c10, (cx_of (HY1.out.below hB)).c11, (cx_of (HY1.out.below hB)).c12, (cx_of (HY1.out.below hB)).c13⟩)
    have e0 := (Below.refl w7.heap.size w7).drew
    go_region_held3 (fun w' => w'.cell? ⟨ge, 0, none⟩ = some (.bool c.undo) ∧ w'.cell? ⟨ge, 1, none⟩ = some (.int .u32 c.key) ∧ w'.cell? ⟨ge, 2, none⟩ = some (.int .i64 c.e.kind) ∧ w'.cell? ⟨ge, 3, none⟩ = some (.int .i64 c.e.day) ∧ w'.cell? ⟨ge, 4, none⟩ = some (.int .u32 c.e.key) ∧ w'.cell? ⟨ge, 5, none⟩ = some (.int .i64 c.e.loan) ∧ w'.cell? ⟨ge, 6, none⟩ = some (.int .i64 c.e.amount) ∧ w'.cell? ⟨ge, 7, none⟩ = some (.float .f64 c.e.rate) ∧ w'.cell? ⟨ge, 8, none⟩ = some (.float .f64 c.e.income) ∧ w'.cell? ⟨ge, 9, none⟩ = some (.bool c.e.sub) ∧ w'.cell? ⟨ge, 10, none⟩ = some (.int .i64 c.e.status) ∧ w'.cell? ⟨ge, 11, none⟩ = some (.int .i64 c.e.plan) ∧ w'.cell? ⟨ge, 12, none⟩ = some (.int .i64 c.e.family) ∧ w'.cell? ⟨ge, 13, none⟩ = some (.int .u32 c.of) ∧ w'.cell? ⟨gx, 0, none⟩ = some (.bool d.undo) ∧ w'.cell? ⟨gx, 1, none⟩ = some (.int .u32 d.key) ∧ w'.cell? ⟨gx, 2, none⟩ = some (.int .i64 d.e.kind) ∧ w'.cell? ⟨gx, 3, none⟩ = some (.int .i64 d.e.day) ∧ w'.cell? ⟨gx, 4, none⟩ = some (.int .u32 d.e.key) ∧ w'.cell? ⟨gx, 5, none⟩ = some (.int .i64 d.e.loan) ∧ w'.cell? ⟨gx, 6, none⟩ = some (.int .i64 d.e.amount) ∧ w'.cell? ⟨gx, 7, none⟩ = some (.float .f64 d.e.rate) ∧ w'.cell? ⟨gx, 8, none⟩ = some (.float .f64 d.e.income) ∧ w'.cell? ⟨gx, 9, none⟩ = some (.bool d.e.sub) ∧ w'.cell? ⟨gx, 10, none⟩ = some (.int .i64 d.e.status) ∧ w'.cell? ⟨gx, 11, none⟩ = some (.int .i64 d.e.plan) ∧ w'.cell? ⟨gx, 12, none⟩ = some (.int .i64 d.e.family) ∧ w'.cell? ⟨gx, 13, none⟩ = some (.int .u32 d.of) ∧ w'.cell? ⟨gy, 0, none⟩ = some (.bool d.undo) ∧ w'.cell? ⟨gy, 1, none⟩ = some (.int .u32 d.key) ∧ w'.cell? ⟨gy, 2, none⟩ = some (.int .i64 d.e.kind) ∧ w'.cell? ⟨gy, 3, none⟩ = some (.int .i64 d.e.day) ∧ w'.cell? ⟨gy, 4, none⟩ = some (.int .u32 d.e.key) ∧ w'.cell? ⟨gy, 5, none⟩ = some (.int .i64 d.e.loan) ∧ w'.cell? ⟨gy, 6, none⟩ = some (.int .i64 d.e.amount) ∧ w'.cell? ⟨gy, 7, none⟩ = some (.float .f64 d.e.rate) ∧ w'.cell? ⟨gy, 8, none⟩ = some (.float .f64 d.e.income) ∧ w'.cell? ⟨gy, 9, none⟩ = some (.bool d.e.sub) ∧ w'.cell? ⟨gy, 10, none⟩ = some (.int .i64 d.e.status) ∧ w'.cell? ⟨gy, 11, none⟩ = some (.int .i64 d.e.plan) ∧ w'.cell? ⟨gy, 12, none⟩ = some (.int .i64 d.e.family) ∧ w'.cell? ⟨gy, 13, none⟩ = some (.int .u32 d.of)) (first | exact HKE.out _ (by assumption) | go_keep)
      (first
        | ((go_at_call 9; refine (wakes_calls p3).mono ?_; rintro r p7 ⟨rfl, b7⟩; have e7 : Below w7.heap.size w7 p7 := e3.trans (b7.mono e3.size)))
        | ((go_at_call 10; refine (HKd.out p2).mono ?_; rintro r p3 ⟨rfl, b3⟩; have e3 : Below w7.heap.size w7 p3 := e2.trans (b3.mono e2.size)))
        | ((go_at_call 24; refine (HR.out p1).mono ?_; rintro r p2 ⟨rfl, b2⟩; have e2 : Below w7.heap.size w7 p2 := e1.trans (b2.mono e1.size)))
        | ((go_at_call 23; refine (HG.out w7.drew).mono ?_; rintro r p1 ⟨rfl, b1⟩; have e1 : Below w7.heap.size w7 p1 := e0.trans (b1.mono e0.size))))
    have HB8 := Lib.hid (HB1.out.trans (e7.mono (HGG.out ▸ HB1.out.size)))
    go_wp2_with fail
    go_ret
    exact ⟨by simp, by rw [HGG.out]; exact HB8.out⟩
  · have h1 : (20000 : Int) < (s.size : Int) := by omega
    clear hlen
    go_enter Try.func7, Try.ntmps7
    go_upto_region 1 with fail
    generalize w.alloc (.cells c.cells 27) = W1 at *
    go_wp2_with fail
    refine (wakes_calls _).mono ?_
    rintro r wa ⟨rfl, ba⟩
    have HBa := Lib.hid (HB0.out.trans (ba.mono HB0.out.size))
    clear ba
    go_wp2_with fail
    go_ret
    exact ⟨rfl, HBa.out⟩
end Go.Proofs.Ytadcpdpcpecooaa.Ev
