/- The reference's Done; its Decode, up to the numbers. -/
import Derived.Test.YtadcpdpcpecooaaE13
import Derived.Test.YtadcpdpcpecooaaE12
import Derived.Test.YtadcpdpcpecooaaE21
import Derived.Test.YtadcpdpcpecooaaOf
import Derived.Test.YtadcpdpcpecooaaE6
import Derived.Test.YtadcpdpcpecooaaE7
import Derived.Test.YtadcpdpcpecooaaE10
namespace Go.Proofs.Ytadcpdpcpecooaa.Ev
open Go.RowKit Go.Proofs.Ytadcpdpcpecooaa.Pk Go.Proofs.Ytadcpdpcpecooaa.Re

theorem done_st (S : ByteArray) (a : Nat) (bad : Bool) (ha : a ≤ S.size) : doneB (stR S a bad) = (!bad && decide (a = S.size)) := by
  unfold stR
  cases bad with
  | true => rfl
  | false =>
    have hz : (S.extract a S.size).size = S.size - a := by simp [ByteArray.size_extract]
    simp only [Bool.false_eq_true, if_false, doneB]
    rw [hz, Bool.eq_iff_iff]
    simp
    omega
set_option maxRecDepth 20000 in
set_option maxHeartbeats 4000000 in
theorem rodone_calls (base g : Nat) (S : ByteArray) (a : Nat) (bad : Bool) (w : World) (hp : RO w base g S a bad) (hS : S.size ≤ 1000000) :
    Calls Try.prog 36 #[.pointer (some ⟨g, 0, none⟩)] w fun e w' => e = .returned (.bool (doneB (stR S a bad))) ∧ ∃ m, w' = w.drewN m := by
  rw [done_st S a bad hp.le]
  have c0 := hp.blk.cell 0
  have c1 := hp.blk.cell 1
  have c2 := hp.blk.cell 2
  have ha := hp.le
  clear hp
  cases bad with
  | true =>
    go_enter Try.func36, Try.ntmps36
    go_upto_region 1 with fail
    go_quiet (fail)
    go_wp2_with fail
    go_ret
    exact ⟨rfl, nq, rfl⟩
  | false =>
    go_enter Try.func36, Try.ntmps36
    go_upto_region 1 with fail
    go_quiet (fail)
    go_wp2_with fail
    go_ret
    exact ⟨ret_bool (by rw [Bool.eq_iff_iff]; simp; omega), nq, rfl⟩
theorem info57 : (Try.prog.info? 57).map (fun i => (i.zero, i.size, i.bytes)) = some (some (.int .u64 0), 1, 8) := by kernel_rfl
/-- The numbers read so far, noughts behind. -/
def numsG (st : Option ByteArray) (k : Nat) : List Int := (List.range 11).map fun j => if j < k then gv st j else 0
theorem numsG_set (st : Option ByteArray) (k : Nat) : (nums .u64 (numsG st k)).toArray.setIfInBounds k (.int .u64 (gv st k)) = (nums .u64 (numsG st (k + 1))).toArray := by
  apply Array.ext'
  simp only [Array.toList_setIfInBounds]
  apply List.ext_getElem
  · simp [nums, numsG]
  · intro i h1 h2
    have hi : i < 11 := by simpa [nums, numsG] using h2
    rw [List.getElem_set]
    simp only [nums, numsG, List.getElem_map, List.getElem_range]
    by_cases c : k = i
    · subst c
      rw [if_pos rfl, if_pos (by omega)]
    · rw [if_neg c]
      by_cases c2 : i < k
      · rw [if_pos c2, if_pos (by omega)]
      · rw [if_neg c2, if_neg (by omega)]
theorem numsG_zero (st : Option ByteArray) : (nums .u64 (numsG st 0)) = List.replicate 11 (.int .u64 0) := by
  unfold numsG nums
  simp [List.range, List.range.loop, List.replicate]
theorem sizes_szB (k : Nat) (hk : k < 11) : sizesL.getD k 0 = 1 ∨ sizesL.getD k 0 = 2 ∨ sizesL.getD k 0 = 4 ∨ sizesL.getD k 0 = 8 := by
  have : k = 0 ∨ k = 1 ∨ k = 2 ∨ k = 3 ∨ k = 4 ∨ k = 5 ∨ k = 6 ∨ k = 7 ∨ k = 8 ∨ k = 9 ∨ k = 10 := by omega
  rcases this with rfl | rfl | rfl | rfl | rfl | rfl | rfl | rfl | rfl | rfl | rfl <;> decide
theorem gs_step (st : Option ByteArray) (k : Nat) (hk : k < 11) : gv st k = (numR (gs st k) ((sizesL.getD k 0 : Nat) : Int)).1 ∧ gs st (k + 1) = (numR (gs st k) ((sizesL.getD k 0 : Nat) : Int)).2 := by
  have : k = 0 ∨ k = 1 ∨ k = 2 ∨ k = 3 ∨ k = 4 ∨ k = 5 ∨ k = 6 ∨ k = 7 ∨ k = 8 ∨ k = 9 ∨ k = 10 := by omega
  rcases this with rfl | rfl | rfl | rfl | rfl | rfl | rfl | rfl | rfl | rfl | rfl <;> exact ⟨rfl, rfl⟩
theorem below_chain {n : Nat} {w X Y : World} (hn : n ≤ w.heap.size) (h : Below n w X) (h2 : Below X.heap.size X Y) : Below n w Y := h.trans (h2.mono (Nat.le_trans hn h.size))
theorem below_new {n : Nat} {w X : World} (hn : n ≤ w.heap.size) (h : Below n w X) (o : Obj) : Below n w (X.alloc o) := h.alloc (Nat.le_trans hn h.size) o
theorem below_drewN {n : Nat} {w w1 : World} (h : Below n w w1) : ∀ m, Below n w (w1.drewN m)
  | 0 => h
  | m + 1 => by
    have := (below_drewN h m).drew
    exact this
theorem four_new (w : World) (c1 c2 c3 c4 : Array Value) (t : TypeId) : Blk ((((w.alloc (.cells c1 t)).alloc (.cells c2 t)).alloc (.cells c3 t)).alloc (.cells c4 t)).drew w.heap.size t c1 ∧ Blk ((((w.alloc (.cells c1 t)).alloc (.cells c2 t)).alloc (.cells c3 t)).alloc (.cells c4 t)).drew (w.heap.size + 1) t c2 ∧ Blk ((((w.alloc (.cells c1 t)).alloc (.cells c2 t)).alloc (.cells c3 t)).alloc (.cells c4 t)).drew (w.heap.size + 1 + 1) t c3 ∧ Blk ((((w.alloc (.cells c1 t)).alloc (.cells c2 t)).alloc (.cells c3 t)).alloc (.cells c4 t)).drew (w.heap.size + 1 + 1 + 1) t c4 ∧ Below w.heap.size w ((((w.alloc (.cells c1 t)).alloc (.cells c2 t)).alloc (.cells c3 t)).alloc (.cells c4 t)).drew := by
  have b1 := Blk.new w t c1
  have b2 := Blk.new (w.alloc (.cells c1 t)) t c2
  have b3 := Blk.new ((w.alloc (.cells c1 t)).alloc (.cells c2 t)) t c3
  have b4 := Blk.new (((w.alloc (.cells c1 t)).alloc (.cells c2 t)).alloc (.cells c3 t)) t c4
  have s1 : (w.alloc (.cells c1 t)).heap.size = w.heap.size + 1 := by simp
  have s2 : ((w.alloc (.cells c1 t)).alloc (.cells c2 t)).heap.size = w.heap.size + 1 + 1 := by simp
  have s3 : (((w.alloc (.cells c1 t)).alloc (.cells c2 t)).alloc (.cells c3 t)).heap.size = w.heap.size + 1 + 1 + 1 := by simp
  rw [s1] at b2
  rw [s2] at b3
  rw [s3] at b4
  have n2 := (Below.refl _ (w.alloc (.cells c1 t))).alloc (Nat.le_refl _) (.cells c2 t)
  have n3 := (Below.refl _ ((w.alloc (.cells c1 t)).alloc (.cells c2 t))).alloc (Nat.le_refl _) (.cells c3 t)
  have n4 := (Below.refl _ (((w.alloc (.cells c1 t)).alloc (.cells c2 t)).alloc (.cells c3 t))).alloc (Nat.le_refl _) (.cells c4 t)
  have hb := below_new (Nat.le_refl _) (below_new (Nat.le_refl _) (below_new (Nat.le_refl _) (below_new (Nat.le_refl _) (Below.refl w.heap.size w) (.cells c1 t)) (.cells c2 t)) (.cells c3 t)) (.cells c4 t)
  exact ⟨blk_drewN (((b1.below n2).below n3).below n4) 1, blk_drewN ((b2.below n3).below n4) 1, blk_drewN (b3.below n4) 1, blk_drewN b4 1, hb.drew⟩
/-- The event of the reference's numbers. -/
def refE (st : Option ByteArray) : E := ⟨gv st 0, gv st 1, gv st 2, gv st 3, gv st 4, ofN (gv st 5), ofN (gv st 6), gv st 7 == 1, gv st 8, gv st 9, gv st 10⟩
theorem ref_get (st : Option ByteArray) (h4 : gv st 4 ≤ 1000000000) (h5 : ofB (gv st 5) = true) (h6 : ofB (gv st 6) = true) (h7 : gv st 7 ≤ 1) : refE st = getE st := by
  have r := (gv_range st).2.2.2.2.1
  have a : ¬ 1 < gv st 7 := Int.not_lt.2 h7
  have c : gv st 4 < 9223372036854775808 := Int.lt_of_le_of_lt h4 (by decide)
  unfold refE getE ofN
  rw [if_pos h5, if_pos h6, if_neg a, wrap64_small r.1 c]
theorem get_parts (st : Option ByteArray) : (getE st).amount = wrap64 (gv st 4) ∧ (getE st).rate = (gv st 5).toNat ∧ (getE st).income = (gv st 6).toNat ∧ (getE st).kind = if 1 < gv st 7 then 0 else gv st 0 := ⟨rfl, rfl, rfl, rfl⟩
theorem get_in (st : Option ByteArray) (hg : goodE (getE st) = true) : gv st 4 ≤ 1000000000 ∧ ofB (gv st 5) = true ∧ ofB (gv st 6) = true ∧ gv st 7 ≤ 1 := by
  obtain ⟨_, _, _, _, r4, r5, r6, r7, _⟩ := gv_range st
  have h1 := amount_fit hg
  have h2 := rate_good hg
  have h3 := rate_word hg
  have h4 := income_good hg
  have h5 := income_word hg
  have h6 := (kind_fit hg).1
  obtain ⟨p1, p2, p3, p4⟩ := get_parts st
  rw [p1] at h1
  rw [p2] at h2 h3
  rw [p3] at h4 h5
  rw [p4] at h6
  rw [wrap64_big h1.1 r4.1 r4.2] at h1
  have e5 := Int.toNat_of_nonneg r5.1
  have e6 := Int.toNat_of_nonneg r6.1
  refine ⟨h1.2, (of_yes h2 (h3.trans e5)).1, (of_yes h4 (h5.trans e6)).1, ?_⟩
  refine Decidable.byContradiction fun hn => ?_
  rw [if_pos (Int.not_le.1 hn)] at h6
  exact absurd h6 (by decide)
/-- The reference's tests, one behind the other. -/
theorem dec_tests (b : ByteArray) : decB b = (doneB (gs (some b) 11) && (decide (gv (some b) 4 ≤ 1000000000) && (ofB (gv (some b) 5) && (ofB (gv (some b) 6) && (decide (gv (some b) 7 ≤ 1) && goodE (refE (some b))))))) := by
  unfold decB
  rw [Bool.eq_iff_iff]
  simp only [Bool.and_eq_true, decide_eq_true_eq]
  constructor
  · rintro ⟨h0, hg⟩
    obtain ⟨h4, h5, h6, h7⟩ := get_in _ hg
    exact ⟨h0, h4, h5, h6, h7, by rw [ref_get _ h4 h5 h6 h7]; exact hg⟩
  · rintro ⟨h0, h4, h5, h6, h7, hg⟩
    exact ⟨h0, by rw [← ref_get _ h4 h5 h6 h7]; exact hg⟩
theorem dec_yes {b : ByteArray} (h : decB b = true) : decE b = refE (some b) ∧ decX b = 0 := by
  have h1 := dec_tests b
  rw [h] at h1
  have h1 := h1.symm
  simp only [Bool.and_eq_true, decide_eq_true_eq] at h1
  obtain ⟨h0, h4, h5, h6, h7, hg⟩ := h1
  unfold decE decX
  rw [if_pos h, if_pos h, ref_get _ h4 h5 h6 h7]
  exact ⟨rfl, rfl⟩
theorem dec_no {b : ByteArray} (h : decB b = false) : decE b = zeroE ∧ decX b = 11 := by
  unfold decE decX
  rw [h]
  exact ⟨rfl, rfl⟩
theorem ref_ok (st : Option ByteArray) : (refE st).rate < 18446744073709551616 ∧ (refE st).income < 18446744073709551616 := by
  obtain ⟨_, _, _, _, _, r5, r6, _⟩ := gv_range st
  constructor
  · show ofN _ < _
    unfold ofN
    split <;> omega
  · show ofN _ < _
    unfold ofN
    split <;> omega
theorem iw {x : Int} (h : 0 ≤ x) (h2 : x < 9223372036854775808) : IntKind.i64.wrap x = x := by
  rw [IntKind.wrap_i64]
  omega
theorem uw {x : Int} (h : 0 ≤ x) (h2 : x < 4294967296) : IntKind.u32.wrap x = x := by
  rw [IntKind.wrap_u32]
  omega
theorem ref_cells (st : Option ByteArray) (h4 : gv st 4 ≤ 1000000000) : #[Value.int IntKind.i64 (IntKind.i64.wrap (gv st 0)),
            Value.int IntKind.i64 (IntKind.i64.wrap (gv st 1)),
            Value.int IntKind.u32 (IntKind.u32.wrap (gv st 2)),
            Value.int IntKind.i64 (IntKind.i64.wrap (gv st 3)),
            Value.int IntKind.i64 (IntKind.i64.wrap (gv st 4)), Value.float FloatKind.f64 (ofN (gv st 5)),
            Value.float FloatKind.f64 (ofN (gv st 6)), Value.bool (gv st 7 == 1),
            Value.int IntKind.i64 (IntKind.i64.wrap (gv st 8)),
            Value.int IntKind.i64 (IntKind.i64.wrap (gv st 9)),
            Value.int IntKind.i64 (IntKind.i64.wrap (gv st 10))] = (refE st).cells := by
  obtain ⟨r0, r1, r2, r3, r4, _, _, r7, r8, r9, r10⟩ := gv_range st
  have l : ∀ {x y : Int}, x < y → y ≤ 9223372036854775808 → x < 9223372036854775808 := fun h1 h2 => Int.lt_of_lt_of_le h1 h2
  rw [iw r0.1 (l r0.2 (by decide)), iw r1.1 (l r1.2 (by decide)), uw r2.1 r2.2, iw r3.1 (l r3.2 (by decide)), iw r4.1 (Int.lt_of_le_of_lt h4 (by decide)), iw r8.1 (l r8.2 (by decide)), iw r9.1 (l r9.2 (by decide)), iw r10.1 (l r10.2 (by decide))]
  rfl
set_option maxRecDepth 20000 in
set_option maxHeartbeats 8000000 in
theorem rdec_calls (b : ByteArray) (w : World) (hb : b.size ≤ 1000000) : Calls Try.prog 14 #[.string b] w fun r w' => r = .returned (.tuple #[(decE b).v, .int .i64 (decX b)]) ∧ Below w.heap.size w w' := by
  have hst := fun (a : Addr) (n : Nat) (W : World) => run_store Try.prog W a (.float .f64 n) .plain rfl
  have hmk : ∀ W : World, (Instr.makeSlice 70 (.int .i64 11) (.int .i64 11)).run Try.prog W = .ok (.slice (some ⟨W.heap.size, 0, none⟩) 11 11) (W.alloc (.cells (nums .u64 (numsG (some b) 0)).toArray 57)) := by
    intro W
    obtain ⟨i0, hi, hz0, hz1, hz2⟩ := info_parts info57
    have h := run_make (P := Try.prog) W 70 57 i0 (.int .u64 0) Try.underlying70 hi hz0 .i64 .i64 11 11 (by omega) (by omega) (by rw [hz2]; omega) (by omega)
    rw [hz1] at h
    have em : madeCells (Value.int .u64 0).cells (Int.toNat 11 * 1) = (List.replicate 11 (Value.int .u64 0)).toArray := by kernel_rfl
    rw [numsG_zero, h, em]
    rfl
  have HR0 := Lib.hid (Blk.new w 25 zeroE.cells)
  have HB0 := Lib.hid ((Below.refl w.heap.size w).alloc (Nat.le_refl _) (.cells zeroE.cells 25))
  go_enter Try.func14, Try.ntmps14
  go_upto_region 1 with fail
  generalize w.alloc (.cells zeroE.cells 25) = W1 at *
  have HO1 := Lib.hid (Blk.new W1 67 #[.string b, .int .i64 0, .bool false])
  have hx := (Below.refl W1.heap.size W1).alloc (Nat.le_refl _) (.cells #[.string b, .int .i64 0, .bool false] 67)
  have HR1 := Lib.hid (HR0.out.below hx)
  have HB1 := Lib.hid (HB0.out.trans (hx.mono HB0.out.size))
  have HL1 := Lib.hid HR0.out.lt
  clear hx
  go_upto_region 2 with fail
  generalize W1.alloc (.cells #[.string b, .int .i64 0, .bool false] 67) = W2 at *
  generalize hgo : W1.heap.size = go at *
  go_wp2_with fail
  refine (sizes_calls _).mono ?_
  rintro r W3 ⟨gz, rfl, hgz, hbs, b3⟩
  have HZ3 := Lib.hid hbs
  have HO3 := Lib.hid (HO1.out.below b3)
  have HR3 := Lib.hid (HR1.out.below b3)
  have HB3 := Lib.hid (HB1.out.trans (b3.mono HB1.out.size))
  have hgoz : go < gz := Nat.lt_of_lt_of_le HO1.out.lt hgz
  clear b3 hbs hgo
  have hx := (Below.refl W3.heap.size W3).alloc (Nat.le_refl _) (.cells (nums .u64 (numsG (some b) 0)).toArray 57)
  have HN4 := Lib.hid (Blk.new W3 57 (nums .u64 (numsG (some b) 0)).toArray)
  have HZ4 := Lib.hid (HZ3.out.below hx)
  have HO4 := Lib.hid (HO3.out.below hx)
  have HR4 := Lib.hid (HR3.out.below hx)
  have HB4 := Lib.hid (HB3.out.trans (hx.mono HB3.out.size))
  have hzn : gz < W3.heap.size := HZ3.out.lt
  clear hx
  go_upto_region 4 with fail
  generalize W3.alloc (.cells (nums .u64 (numsG (some b) 0)).toArray 57) = W4 at *
  generalize W3.heap.size = gn at *
  go_wp2_with fail
  have HGo : Hid (w.heap.size < go ∧ go < gz ∧ gz < gn) := Lib.hid ⟨HL1.out, hgoz, hzn⟩
  have HRO : Hid (RO W4 go go b 0 false) := Lib.hid ⟨HO4.out, Nat.le_refl _, Nat.zero_le _⟩
  have hgn4 : Hid (gn < W4.heap.size) := Lib.hid HN4.out.lt
  clear hgoz hzn hgz HL1
  go_loopw [7] (fun i wr => ∃ (k a : Nat) (bad : Bool), k ≤ 11 ∧ i = .int .i64 (k : Int) ∧ RO wr go go b a bad ∧ stR b a bad = gs (some b) k ∧ Blk wr gn 57 (nums .u64 (numsG (some b) k)).toArray ∧ Blk wr gz 3 sizesC ∧ Blk wr w.heap.size 25 zeroE.cells ∧ Below w.heap.size w wr ∧ gn < wr.heap.size) (fun i _ => 11 - (intOf i).toNat)
  case atStart =>
    refine ⟨0, 0, false, by decide, rfl, HRO.out, ?_, HN4.out, HZ4.out, HR4.out, HB4.out, hgn4.out⟩
    show some (b.extract 0 b.size) = some b
    rw [ByteArray.extract_zero_size]
  case round =>
    obtain ⟨k, a, bad, hk, rfl, ho, hst2, hn, hz, hr, hB, hgs⟩ := hrel
    have Ho := Lib.hid ho
    have Hst := Lib.hid hst2
    have Hn := Lib.hid hn
    have Hz := Lib.hid hz
    have Hr := Lib.hid hr
    have HB := Lib.hid hB
    have Hgs := Lib.hid hgs
    by_cases hk2 : k < 11
    · have a2 := hz.cell k
      rw [(nums_at ⟨0, 0, 0, 0, 0, 0, 0, false, 0, 0, 0⟩ k hk2).2] at a2
      obtain ⟨s1, s2⟩ := gs_step (some b) k hk2
      have hsz := sizes_szB k hk2
      obtain ⟨n, hnn⟩ : ∃ n, sizesL.getD k 0 = n := ⟨_, rfl⟩
      rw [hnn] at a2 s1 s2 hsz
      rw [← hst2] at s1 s2
      have S1 := Lib.hid s1
      have S2 := Lib.hid s2
      have HC := Lib.hid (ronum_calls go go b a n bad wr ho (by have := HGo.out; omega) hsz hb)
      clear ho hst2 hn hz hr hB hgs hsz s1 s2 hnn
      go_wp2_with fail
      refine HC.out.mono ?_
      rintro r W6 ⟨a6, bad6, rfl, ho6, hs6, hf6⟩
      rw [← S1.out]
      have hx := HGo.out
      have Hn6 := Lib.hid (fro_blk hf6 Hn.out (by omega))
      have Hz6 := Lib.hid (fro_blk hf6 Hz.out (by omega))
      have Hr6 := Lib.hid (fro_blk hf6 Hr.out (by omega))
      have HB6 := Lib.hid (HB.out.trans (hf6.below.mono (by omega)))
      have Hgs6 := Lib.hid (Nat.lt_of_lt_of_le Hgs.out hf6.below.size)
      have Ho6 := Lib.hid ho6
      have Hs6 := Lib.hid hs6
      clear hf6 ho6 hs6
      have q1 := Hn6.out.cell k
      have q2 := Hn6.out.frozen k
      have q3 : (nums .u64 (numsG (some b) k)).toArray[k]? = some (.int .u64 0) := by
        simp [nums, numsG, hk2]
      rw [q3] at q1
      have HX := Lib.hid hx
      clear q3 hx
      go_wp2_with fail
      have hy := HX.out
      refine ⟨⟨k + 1, a6, bad6, by omega, by go_num, ⟨blk_other Ho6.out.blk (by omega) _ _, Ho6.out.ge, Ho6.out.le⟩, Hs6.out.trans S2.out.symm, ?_, blk_other Hz6.out (by omega) _ _, blk_other Hr6.out (by omega) _ _, HB6.out.setCell (show w.heap.size ≤ gn by omega) _, by simpa using Hgs6.out⟩, by simp [intOf]; omega⟩
      rw [← numsG_set]
      exact Hn6.out.set_ k _
    · obtain rfl : k = 11 := by omega
      have HD := Lib.hid (fun W (h : RO W go go b a bad) => rodone_calls go go b a bad W h hb)
      rw [hst2] at HD
      clear ho hst2 hn hz hr hB hgs
      have n5 := Hn.out.cell 5
      have n6 := Hn.out.cell 6
      rw [show (nums .u64 (numsG (some b) 11)).toArray[5]? = some (.int .u64 (gv (some b) 5)) from rfl] at n5
      rw [show (nums .u64 (numsG (some b) 11)).toArray[6]? = some (.int .u64 (gv (some b) 6)) from rfl] at n6
      have HF := Lib.hid (fun u W => rof_exact u W)
      go_upto_region 8 with fail
      obtain ⟨w5, h⟩ : ∃ W, W = wr := ⟨_, rfl⟩
      subst h
      have SK : Hid (∀ w' : World, Below w5.heap.size w5 w' → (Below w5.heap.size w5 w' ∧ w'.cell? ⟨gn, 5, none⟩ = some (.int .u64 (gv (some b) 5)) ∧ w'.cell? ⟨gn, 6, none⟩ = some (.int .u64 (gv (some b) 6)))) := Lib.hid fun w' hb' => ⟨hb', by rw [hb'.cell (show gn < _ from Hgs.out)]; exact n5, by rw [hb'.cell (show gn < _ from Hgs.out)]; exact n6⟩
      have B5 : Below w5.heap.size w5 w5 := Below.refl _ _
      go_cut [8, 9] from 31 to 38 (fun v8 v9 W => ∃ p8 p9, v8 = .pointer (some ⟨p8, 0, none⟩) ∧ v9 = .pointer (some ⟨p9, 0, none⟩) ∧ Blk W p8 73 #[.float .f64 (ofN (gv (some b) 5)), .bool (ofB (gv (some b) 5))] ∧ Blk W p9 73 #[.float .f64 (ofN (gv (some b) 6)), .bool (ofB (gv (some b) 6))] ∧ RO W go go b a bad ∧ Blk W gn 57 (nums .u64 (numsG (some b) 11)).toArray ∧ Blk W w.heap.size 25 zeroE.cells ∧ Below w.heap.size w W)
      case first =>
        go_region_held3 (fun w' => w'.cell? ⟨gn, 5, none⟩ = some (.int .u64 (gv (some b) 5)) ∧ w'.cell? ⟨gn, 6, none⟩ = some (.int .u64 (gv (some b) 6))) (exact (SK.out _ (by repeat first | exact B5 | refine Below.drew ?_ | refine below_new (Nat.le_refl _) ?_ _ | refine Below.setCell ?_ (by simp; try omega) _)).2) ((go_at_call 35; refine (HF.out _ _).mono ?_; rintro e wc ⟨rfl, rfl⟩))
        all_goals (go_wp2_with fail; go_meet)
        all_goals refine ⟨_, _, rfl, rfl, ?_, ?_, ⟨Ho.out.blk.below ?_, Ho.out.ge, Ho.out.le⟩, Hn.out.below ?_, Hr.out.below ?_, HB.out.trans (Below.mono ?_ HB.out.size)⟩
        all_goals first | exact (four_new w5 _ _ _ _ _).1 | exact (four_new w5 _ _ _ _ _).2.1 | exact (four_new w5 _ _ _ _ _).2.2.1 | exact (four_new w5 _ _ _ _ _).2.2.2.1 | exact (four_new w5 _ _ _ _ _).2.2.2.2
      case rest =>
        obtain ⟨p8, p9, rfl, rfl, h8, h9, ho, hn, hr, hB⟩ := hcut
        have H8 := Lib.hid h8
        have H9 := Lib.hid h9
        have Hn := Lib.hid hn
        have Hr := Lib.hid hr
        have HB := Lib.hid hB
        have HD2 := HD.out _ ho
        clear SK B5 hn h8 h9 hr hB ho HD
        have HT := Lib.hid (dec_tests b)
        have HYes := Lib.hid (fun h => dec_yes (b := b) h)
        obtain ⟨gd, hgd⟩ : ∃ x, doneB (gs (some b) 11) = x := ⟨_, rfl⟩
        rw [hgd] at HD2 HT
        clear hgd
        go_upto_region 9 with fail
        go_wp2_with fail
        refine HD2.mono ?_
        rintro r w6 ⟨rfl, m, rfl⟩
        have H8a := Lib.hid (blk_drewN H8.out m)
        have H9a := Lib.hid (blk_drewN H9.out m)
        have Hna := Lib.hid (blk_drewN Hn.out m)
        have Hra := Lib.hid (blk_drewN Hr.out m)
        have HBa := Lib.hid (below_drewN HB.out m)
        clear H8 H9 Hn Hr HB HD2
        have H8 := H8a
        have H9 := H9a
        have Hn := Hna
        have Hr := Hra
        have HB := HBa
        clear H8a H9a Hna Hra HBa
        generalize World.drewN _ m = w6 at *
        cases gd with
        | false =>
          have HY := Lib.hid (dec_no (b := b) (by rw [HT.out]; rfl))
          obtain ⟨d0, d1, d2, d3, d4, d5, d6, d7, d8, d9, d10⟩ := bx_of Hr.out
          have f0 := Hr.out.frozen 0
          have f1 := Hr.out.frozen 1
          have f2 := Hr.out.frozen 2
          have f3 := Hr.out.frozen 3
          have f4 := Hr.out.frozen 4
          have f5 := Hr.out.frozen 5
          have f6 := Hr.out.frozen 6
          have f7 := Hr.out.frozen 7
          have f8 := Hr.out.frozen 8
          have f9 := Hr.out.frozen 9
          have f10 := Hr.out.frozen 10
          go_wp2_with fail
          have S := set_event zeroE Hr.out
          have SB := set_below zeroE (Nat.le_refl w.heap.size) HB.out
          (try simp only [Exit.inBlock, Exit.then])
          refine bodyPost_ret (results_cell_row2 (p := 2) (u := 3) (ty := 25) rfl _ _ w.heap.size 25 _ _ _ rfl S Try.underlying25 rfl (by kernel_rfl)) rfl ?_
          exact ⟨by rw [HY.out.1, HY.out.2]; rfl, SB⟩
        | true =>
          obtain ⟨_, _, _, _, r4, _, _, r7, _⟩ := gv_range (some b)
          have n4 := Hn.out.cell 4
          have n7 := Hn.out.cell 7
          have p80 := H8.out.cell 1
          have p90 := H9.out.cell 1
          rw [show (nums .u64 (numsG (some b) 11)).toArray[4]? = some (.int .u64 (gv (some b) 4)) from rfl] at n4
          rw [show (nums .u64 (numsG (some b) 11)).toArray[7]? = some (.int .u64 (gv (some b) 7)) from rfl] at n7
          by_cases q4 : gv (some b) 4 ≤ 1000000000
          · have HQ4 := Lib.hid q4
            obtain ⟨b5, e5⟩ : ∃ x, ofB (gv (some b) 5) = x := ⟨_, rfl⟩
            obtain ⟨b6, e6⟩ : ∃ x, ofB (gv (some b) 6) = x := ⟨_, rfl⟩
            rw [e5] at p80
            rw [e6] at p90
            have HE5 := Lib.hid e5
            have HE6 := Lib.hid e6
            clear e5 e6
            cases b5 with
            | false =>
              have HY := Lib.hid (dec_no (b := b) (by rw [HT.out]; rw [HE5.out]; simp))
              obtain ⟨d0, d1, d2, d3, d4, d5, d6, d7, d8, d9, d10⟩ := bx_of Hr.out
              have f0 := Hr.out.frozen 0
              have f1 := Hr.out.frozen 1
              have f2 := Hr.out.frozen 2
              have f3 := Hr.out.frozen 3
              have f4 := Hr.out.frozen 4
              have f5 := Hr.out.frozen 5
              have f6 := Hr.out.frozen 6
              have f7 := Hr.out.frozen 7
              have f8 := Hr.out.frozen 8
              have f9 := Hr.out.frozen 9
              have f10 := Hr.out.frozen 10
              go_wp2_with fail
              have S := set_event zeroE Hr.out
              have SB := set_below zeroE (Nat.le_refl w.heap.size) HB.out
              (try simp only [Exit.inBlock, Exit.then])
              refine bodyPost_ret (results_cell_row2 (p := 2) (u := 3) (ty := 25) rfl _ _ w.heap.size 25 _ _ _ rfl S Try.underlying25 rfl (by kernel_rfl)) rfl ?_
              exact ⟨by rw [HY.out.1, HY.out.2]; rfl, SB⟩
            | true =>
              cases b6 with
              | false =>
                have HY := Lib.hid (dec_no (b := b) (by rw [HT.out]; rw [HE6.out]; simp))
                obtain ⟨d0, d1, d2, d3, d4, d5, d6, d7, d8, d9, d10⟩ := bx_of Hr.out
                have f0 := Hr.out.frozen 0
                have f1 := Hr.out.frozen 1
                have f2 := Hr.out.frozen 2
                have f3 := Hr.out.frozen 3
                have f4 := Hr.out.frozen 4
                have f5 := Hr.out.frozen 5
                have f6 := Hr.out.frozen 6
                have f7 := Hr.out.frozen 7
                have f8 := Hr.out.frozen 8
                have f9 := Hr.out.frozen 9
                have f10 := Hr.out.frozen 10
                go_wp2_with fail
                have S := set_event zeroE Hr.out
                have SB := set_below zeroE (Nat.le_refl w.heap.size) HB.out
                (try simp only [Exit.inBlock, Exit.then])
                refine bodyPost_ret (results_cell_row2 (p := 2) (u := 3) (ty := 25) rfl _ _ w.heap.size 25 _ _ _ rfl S Try.underlying25 rfl (by kernel_rfl)) rfl ?_
                exact ⟨by rw [HY.out.1, HY.out.2]; rfl, SB⟩
              | true =>
                by_cases q7 : gv (some b) 7 ≤ 1
                · have HQ7 := Lib.hid q7
                  go_upto_region 11 with fail
                  clear n4 n7 p80 p90 n5 n6
                  obtain ⟨r0, r1, r2, r3, _, _, _, _, r8, r9, r10⟩ := gv_range (some b)
                  have m0 := Hn.out.cell 0
                  rw [show (nums .u64 (numsG (some b) 11)).toArray[0]? = some (.int .u64 (gv (some b) 0)) from rfl] at m0
                  have m1 := Hn.out.cell 1
                  rw [show (nums .u64 (numsG (some b) 11)).toArray[1]? = some (.int .u64 (gv (some b) 1)) from rfl] at m1
                  have m2 := Hn.out.cell 2
                  rw [show (nums .u64 (numsG (some b) 11)).toArray[2]? = some (.int .u64 (gv (some b) 2)) from rfl] at m2
                  have m3 := Hn.out.cell 3
                  rw [show (nums .u64 (numsG (some b) 11)).toArray[3]? = some (.int .u64 (gv (some b) 3)) from rfl] at m3
                  have m4 := Hn.out.cell 4
                  rw [show (nums .u64 (numsG (some b) 11)).toArray[4]? = some (.int .u64 (gv (some b) 4)) from rfl] at m4
                  have m7 := Hn.out.cell 7
                  rw [show (nums .u64 (numsG (some b) 11)).toArray[7]? = some (.int .u64 (gv (some b) 7)) from rfl] at m7
                  have m8 := Hn.out.cell 8
                  rw [show (nums .u64 (numsG (some b) 11)).toArray[8]? = some (.int .u64 (gv (some b) 8)) from rfl] at m8
                  have m9 := Hn.out.cell 9
                  rw [show (nums .u64 (numsG (some b) 11)).toArray[9]? = some (.int .u64 (gv (some b) 9)) from rfl] at m9
                  have m10 := Hn.out.cell 10
                  rw [show (nums .u64 (numsG (some b) 11)).toArray[10]? = some (.int .u64 (gv (some b) 10)) from rfl] at m10
                  have m5 := H8.out.cell 0
                  have m6 := H9.out.cell 0
                  have SK : Hid (∀ w' : World, Below w6.heap.size w6 w' → (w'.cell? ⟨gn, 0, none⟩ = some (.int .u64 (gv (some b) 0)) ∧ w'.cell? ⟨gn, 1, none⟩ = some (.int .u64 (gv (some b) 1)) ∧ w'.cell? ⟨gn, 2, none⟩ = some (.int .u64 (gv (some b) 2)) ∧ w'.cell? ⟨gn, 3, none⟩ = some (.int .u64 (gv (some b) 3)) ∧ w'.cell? ⟨gn, 4, none⟩ = some (.int .u64 (gv (some b) 4)) ∧ w'.cell? ⟨gn, 7, none⟩ = some (.int .u64 (gv (some b) 7)) ∧ w'.cell? ⟨gn, 8, none⟩ = some (.int .u64 (gv (some b) 8)) ∧ w'.cell? ⟨gn, 9, none⟩ = some (.int .u64 (gv (some b) 9)) ∧ w'.cell? ⟨gn, 10, none⟩ = some (.int .u64 (gv (some b) 10)) ∧ w'.cell? ⟨p8, 0, none⟩ = some (.float .f64 (ofN (gv (some b) 5))) ∧ w'.cell? ⟨p9, 0, none⟩ = some (.float .f64 (ofN (gv (some b) 6))))) := Lib.hid fun w' hb' => ⟨by rw [hb'.cell (show gn < _ from Hn.out.lt)]; exact m0, by rw [hb'.cell (show gn < _ from Hn.out.lt)]; exact m1, by rw [hb'.cell (show gn < _ from Hn.out.lt)]; exact m2, by rw [hb'.cell (show gn < _ from Hn.out.lt)]; exact m3, by rw [hb'.cell (show gn < _ from Hn.out.lt)]; exact m4, by rw [hb'.cell (show gn < _ from Hn.out.lt)]; exact m7, by rw [hb'.cell (show gn < _ from Hn.out.lt)]; exact m8, by rw [hb'.cell (show gn < _ from Hn.out.lt)]; exact m9, by rw [hb'.cell (show gn < _ from Hn.out.lt)]; exact m10, by rw [hb'.cell (show p8 < _ from H8.out.lt)]; exact m5, by rw [hb'.cell (show p9 < _ from H9.out.lt)]; exact m6⟩
                  have B6 : Below w6.heap.size w6 w6 := Below.refl _ _
                  have HGd : Hid (∀ W : World, Calls Try.prog 16 #[(refE (some b)).v] W fun r w' => r = .returned (.bool (goodE (refE (some b)))) ∧ Below W.heap.size W w') := Lib.hid (fun W => by rw [good_same _ (ref_ok (some b)).1 (ref_ok (some b)).2]; exact rgoodE_calls _ W (ref_ok (some b)).1 (ref_ok (some b)).2)
                  have HF11 : Hid (decB b = goodE (refE (some b))) := Lib.hid (by rw [HT.out, decide_eq_true HQ4.out, HE5.out, HE6.out, decide_eq_true HQ7.out]; rfl)
                  have HE := Lib.hid (Blk.new w6 25 (refE (some b)).cells)
                  have hal := (Below.refl w6.heap.size w6).alloc (Nat.le_refl _) (.cells (refE (some b)).cells 25)
                  have HR7 := Lib.hid (Hr.out.below hal)
                  have HB7 := Lib.hid (HB.out.trans (hal.mono HB.out.size))
                  clear hal
                  go_region_held3 (fun w' => w'.cell? ⟨gn, 0, none⟩ = some (.int .u64 (gv (some b) 0)) ∧ w'.cell? ⟨gn, 1, none⟩ = some (.int .u64 (gv (some b) 1)) ∧ w'.cell? ⟨gn, 2, none⟩ = some (.int .u64 (gv (some b) 2)) ∧ w'.cell? ⟨gn, 3, none⟩ = some (.int .u64 (gv (some b) 3)) ∧ w'.cell? ⟨gn, 4, none⟩ = some (.int .u64 (gv (some b) 4)) ∧ w'.cell? ⟨gn, 7, none⟩ = some (.int .u64 (gv (some b) 7)) ∧ w'.cell? ⟨gn, 8, none⟩ = some (.int .u64 (gv (some b) 8)) ∧ w'.cell? ⟨gn, 9, none⟩ = some (.int .u64 (gv (some b) 9)) ∧ w'.cell? ⟨gn, 10, none⟩ = some (.int .u64 (gv (some b) 10)) ∧ w'.cell? ⟨p8, 0, none⟩ = some (.float .f64 (ofN (gv (some b) 5))) ∧ w'.cell? ⟨p9, 0, none⟩ = some (.float .f64 (ofN (gv (some b) 6)))) (exact SK.out _ (by repeat first | exact B6 | refine Below.drew ?_ | refine below_new (Nat.le_refl _) ?_ _ | refine Below.setCell ?_ (by simp; try omega) _)) (fail)
                  rw [ref_cells (some b) HQ4.out]
                  have HE7 := Lib.hid (blk_drewN HE.out 1)
                  have HR7a := Lib.hid (blk_drewN HR7.out 1)
                  have HB7a := Lib.hid (below_drewN HB7.out 1)
                  clear Hr HB Hn H8 H9 HE HR7 HB7 m0 m1 m2 m3 m4 m5 m6 m7 m8 m9 m10 SK B6
                  have Hr := HR7a
                  have HB := HB7a
                  clear HR7a HB7a
                  have hdrw : (w6.alloc (.cells (refE (some b)).cells 25)).drewN 1 = (w6.alloc (.cells (refE (some b)).cells 25)).drew := rfl
                  rw [hdrw] at Hr HB HE7
                  clear hdrw
                  generalize (w6.alloc (.cells (refE (some b)).cells 25)).drew = w7 at *
                  generalize w6.heap.size = g7 at *
                  obtain ⟨j0, j1, j2, j3, j4, j5, j6, j7, j8, j9, j10⟩ := bx_of HE7.out
                  go_wp2_with fail
                  refine (HGd.out _).mono ?_
                  rintro r w8 ⟨rfl, b8⟩
                  have HE8 := Lib.hid (HE7.out.below b8)
                  have Hr8 := Lib.hid (Hr.out.below b8)
                  have HB8 := Lib.hid (HB.out.trans (b8.mono HB.out.size))
                  clear b8 j0 j1 j2 j3 j4 j5 j6 j7 j8 j9 j10 HE7 Hr HB
                  have Hr := Hr8
                  have HB := HB8
                  clear Hr8 HB8
                  obtain ⟨j0, j1, j2, j3, j4, j5, j6, j7, j8, j9, j10⟩ := bx_of HE8.out
                  obtain ⟨d0, d1, d2, d3, d4, d5, d6, d7, d8, d9, d10⟩ := bx_of Hr.out
                  have f0 := Hr.out.frozen 0
                  have f1 := Hr.out.frozen 1
                  have f2 := Hr.out.frozen 2
                  have f3 := Hr.out.frozen 3
                  have f4 := Hr.out.frozen 4
                  have f5 := Hr.out.frozen 5
                  have f6 := Hr.out.frozen 6
                  have f7 := Hr.out.frozen 7
                  have f8 := Hr.out.frozen 8
                  have f9 := Hr.out.frozen 9
                  have f10 := Hr.out.frozen 10
                  obtain ⟨gg, hgg⟩ : ∃ x, goodE (refE (some b)) = x := ⟨_, rfl⟩
                  rw [hgg] at HF11 ⊢
                  clear hgg
                  cases gg with
                  | false =>
                    have HY := Lib.hid (dec_no HF11.out)
                    go_wp2_with fail
                    have S := set_event zeroE Hr.out
                    have SB := set_below zeroE (Nat.le_refl w.heap.size) HB.out
                    (try simp only [Exit.inBlock, Exit.then])
                    refine bodyPost_ret (results_cell_row2 (p := 2) (u := 3) (ty := 25) rfl _ _ w.heap.size 25 _ _ _ rfl S Try.underlying25 rfl (by kernel_rfl)) rfl ?_
                    exact ⟨by rw [HY.out.1, HY.out.2]; rfl, SB⟩
                  | true =>
                    have HY := Lib.hid (dec_yes HF11.out)
                    go_wp2_with fail
                    have S := set_event (refE (some b)) Hr.out
                    have SB := set_below (refE (some b)) (Nat.le_refl w.heap.size) HB.out
                    (try simp only [Exit.inBlock, Exit.then])
                    refine bodyPost_ret (results_cell_row2 (p := 2) (u := 3) (ty := 25) rfl _ _ w.heap.size 25 _ _ _ rfl S Try.underlying25 rfl (by kernel_rfl)) rfl ?_
                    exact ⟨by rw [HY.out.1, HY.out.2]; rfl, SB⟩
                · have HQ7 := Lib.hid q7
                  have HY := Lib.hid (dec_no (b := b) (by rw [HT.out]; rw [decide_eq_false HQ7.out]; simp))
                  obtain ⟨d0, d1, d2, d3, d4, d5, d6, d7, d8, d9, d10⟩ := bx_of Hr.out
                  have f0 := Hr.out.frozen 0
                  have f1 := Hr.out.frozen 1
                  have f2 := Hr.out.frozen 2
                  have f3 := Hr.out.frozen 3
                  have f4 := Hr.out.frozen 4
                  have f5 := Hr.out.frozen 5
                  have f6 := Hr.out.frozen 6
                  have f7 := Hr.out.frozen 7
                  have f8 := Hr.out.frozen 8
                  have f9 := Hr.out.frozen 9
                  have f10 := Hr.out.frozen 10
                  go_wp2_with fail
                  have S := set_event zeroE Hr.out
                  have SB := set_below zeroE (Nat.le_refl w.heap.size) HB.out
                  (try simp only [Exit.inBlock, Exit.then])
                  refine bodyPost_ret (results_cell_row2 (p := 2) (u := 3) (ty := 25) rfl _ _ w.heap.size 25 _ _ _ rfl S Try.underlying25 rfl (by kernel_rfl)) rfl ?_
                  exact ⟨by rw [HY.out.1, HY.out.2]; rfl, SB⟩
          · have HQ4 := Lib.hid q4
            have HY := Lib.hid (dec_no (b := b) (by rw [HT.out]; rw [decide_eq_false HQ4.out]; simp))
            obtain ⟨d0, d1, d2, d3, d4, d5, d6, d7, d8, d9, d10⟩ := bx_of Hr.out
            have f0 := Hr.out.frozen 0
            have f1 := Hr.out.frozen 1
            have f2 := Hr.out.frozen 2
            have f3 := Hr.out.frozen 3
            have f4 := Hr.out.frozen 4
            have f5 := Hr.out.frozen 5
            have f6 := Hr.out.frozen 6
            have f7 := Hr.out.frozen 7
            have f8 := Hr.out.frozen 8
            have f9 := Hr.out.frozen 9
            have f10 := Hr.out.frozen 10
            go_wp2_with fail
            have S := set_event zeroE Hr.out
            have SB := set_below zeroE (Nat.le_refl w.heap.size) HB.out
            (try simp only [Exit.inBlock, Exit.then])
            refine bodyPost_ret (results_cell_row2 (p := 2) (u := 3) (ty := 25) rfl _ _ w.heap.size 25 _ _ _ rfl S Try.underlying25 rfl (by kernel_rfl)) rfl ?_
            exact ⟨by rw [HY.out.1, HY.out.2]; rfl, SB⟩
end Go.Proofs.Ytadcpdpcpecooaa.Ev
