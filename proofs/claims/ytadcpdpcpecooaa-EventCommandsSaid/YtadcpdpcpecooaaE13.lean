/- The reference's Opener: Num, Done. -/
import Derived.Test.YtadcpdpcpecooaaE11
import Derived.Test.YtadcpdpcpecooaaE9
namespace Go.Proofs.Ytadcpdpcpecooaa.Ev
open Go.RowKit Go.Proofs.Ytadcpdpcpecooaa.Pk Go.Proofs.Ytadcpdpcpecooaa.Re

theorem ints_extract (s : ByteArray) (a b : Nat) : ints (s.extract a b) = ((ints s).drop a).take (b - a) := by
  unfold ints
  rw [Lib.extract_data, List.map_take, List.map_drop]
theorem ext2 (S : ByteArray) (a i j : Nat) (h : a + j ≤ S.size) : (S.extract a S.size).extract i j = S.extract (a + i) (a + j) := by
  apply ByteArray.ext
  apply Array.ext'
  rw [Lib.extract_data, Lib.extract_data, Lib.extract_data, List.drop_take, List.drop_drop, List.take_take]
  congr 1
  omega
/-- What the reference's opener has left. -/
def stR (S : ByteArray) (a : Nat) (bad : Bool) : Option ByteArray := if bad then none else some (S.extract a S.size)
structure RO (w : World) (base g : Nat) (S : ByteArray) (a : Nat) (bad : Bool) : Prop where
  blk : Blk w g 67 #[.string S, .int .i64 (a : Int), .bool bad]
  ge : base ≤ g
  le : a ≤ S.size
theorem numR_ok (S : ByteArray) (a n : Nat) (hn : n = 1 ∨ n = 2 ∨ n = 4 ∨ n = 8) (h : a + n ≤ S.size) :
    (numR (stR S a false) (n : Int)).1 = Pk.valOf (((ints S).drop a).take n) ∧ (numR (stR S a false) (n : Int)).2 = stR S (a + n) false := by
  have hs : szB (n : Int) = true := (szB_iff _).2 (by omega)
  have hz : (S.extract a S.size).size = S.size - a := by simp [ByteArray.size_extract]
  unfold stR numR
  simp only [Bool.false_eq_true, if_false]
  rw [if_pos ⟨hs, by rw [hz]; omega⟩, Int.toNat_natCast]
  constructor
  · show Pk.valOf (ints ((S.extract a S.size).extract 0 n)) = _
    rw [ext2 S a 0 n h, ints_extract]
    congr 2
    omega
  · show some ((S.extract a S.size).extract n (S.extract a S.size).size) = _
    rw [hz, ext2 S a n (S.size - a) (by omega)]
    congr 2
    omega
theorem numR_bad (S : ByteArray) (a n : Nat) (bad : Bool) (h : bad = true ∨ S.size < a + n) (ha : a ≤ S.size) : numR (stR S a bad) (n : Int) = (0, none) := by
  unfold stR numR
  cases bad with
  | true => rfl
  | false =>
    simp only [Bool.false_eq_true, if_false]
    have hz : (S.extract a S.size).size = S.size - a := by simp [ByteArray.size_extract]
    rw [if_neg]
    rw [hz]
    rintro ⟨_, h2⟩
    rcases h with h | h
    · cases h
    · omega
theorem fro_drew {w w1 : World} {base g : Nat} (h : FrO w w1 base g) : FrO w w1.drew base g := ⟨h.below.drew, h.same, .inl rfl⟩
theorem fro_drewN {w w1 : World} {base g : Nat} (h : FrO w w1 base g) : ∀ n, FrO w (w1.drewN n) base g
  | 0 => h
  | n + 1 => by
    have := fro_drew (fro_drewN h n)
    exact this
theorem blk_drewN {w : World} {g : Nat} {t : TypeId} {cs : Array Value} (h : Blk w g t cs) : ∀ n, Blk (w.drewN n) g t cs
  | 0 => h
  | n + 1 => by
    have := blk_drewN h n
    exact this
theorem drop_valOf (L : List Int) (j : Nat) (hj : j < L.length) : Pk.valOf (L.drop j) = L[j] + 256 * Pk.valOf (L.drop (j + 1)) := by
  rw [List.drop_eq_getElem_cons hj]
  rfl
theorem sized_same (n : Int) (w : World) : Calls Try.prog 56 #[.int .i64 n] w fun e w' => e = .returned (.bool (szB n)) ∧ w' = w := (rsized_calls n w).mono fun e w' h => ⟨h.1, h.2.symm⟩
theorem sum_in (a n : Nat) (h : a + n ≤ 1000000) : wrap64 ((a : Int) + (n : Int)) = ((a + n : Nat) : Int) := by
  rw [wr64 _ (by omega)]; omega
theorem loop_in (a q : Nat) (V b : Int) (h : a + q ≤ 1000000) (hV : 0 ≤ V ∧ V < 72057594037927936) (hb : 0 ≤ b ∧ b < 256) :
    IntKind.u64.wrap (V * 256) = V * 256 ∧ IntKind.u64.wrap b = b ∧ IntKind.u64.wrap (V * 256 + b) = V * 256 + b ∧ wrap64 ((a : Int) + (q : Int)) = (a : Int) + (q : Int) ∧ wrap64 ((q : Int) - 1) = (q : Int) - 1 := by
  refine ⟨?_, ?_, ?_, wr64 _ (by omega), wr64 _ (by omega)⟩
  · rw [IntKind.wrap_u64]; omega
  · rw [IntKind.wrap_u64]; omega
  · rw [IntKind.wrap_u64]; omega
theorem pow_le7 (n : Nat) (h : n ≤ 7) : (256 : Int) ^ n ≤ 256 ^ 7 := by
  have : n = 0 ∨ n = 1 ∨ n = 2 ∨ n = 3 ∨ n = 4 ∨ n = 5 ∨ n = 6 ∨ n = 7 := by omega
  rcases this with rfl | rfl | rfl | rfl | rfl | rfl | rfl | rfl <;> decide
/-- The byte at an index. -/
theorem byte_at (S : ByteArray) (a n q : Nat) (L : List Int) (hL : ((ints S).drop a).take n = L) (hq : q < n) (h : a + n ≤ S.size) (W : World) :
    (Instr.index 9 (.string S) (.int .i64 ((a : Int) + (q : Int)))).run Try.prog W = .ok (.int .u8 (L[q]'(by rw [← hL, List.length_take, List.length_drop, ints_length]; omega))) W := by
  have hi : (0 : Int) ≤ (a : Int) + (q : Int) ∧ (a : Int) + (q : Int) < S.size := by omega
  rw [run_index_string (h := Try.underlying9), dif_pos hi]
  have e : L[q]'(by rw [← hL, List.length_take, List.length_drop, ints_length]; omega) = (ints S)[a + q]'(by rw [ints_length]; omega) := by
    subst hL
    simp
  have e2 : (ints S)[a + q]'(by rw [ints_length]; omega) = ((S[a + q]'(by omega)).toNat : Int) := by simp [ints, ByteArray.getElem_eq_getElem_data]
  rw [e, e2]
  congr 2
set_option maxRecDepth 20000 in
set_option maxHeartbeats 8000000 in
theorem ronum_calls (base g : Nat) (S : ByteArray) (a n : Nat) (bad : Bool) (w : World) (hp : RO w base g S a bad) (hbase : base ≤ w.heap.size) (hn : n = 1 ∨ n = 2 ∨ n = 4 ∨ n = 8) (hS : S.size ≤ 1000000) :
    Calls Try.prog 34 #[.pointer (some ⟨g, 0, none⟩), .int .i64 (n : Int)] w fun e w' => ∃ a' bad', e = .returned (.int .u64 (numR (stR S a bad) (n : Int)).1) ∧ RO w' base g S a' bad' ∧ stR S a' bad' = (numR (stR S a bad) (n : Int)).2 ∧ FrO w w' base g := by
  have hs : szB (n : Int) = true := (szB_iff _).2 (by omega)
  have c0 := hp.blk.cell 0
  have c1 := hp.blk.cell 1
  have c2 := hp.blk.cell 2
  have f2 := hp.blk.frozen 2
  have HS := Lib.hid (fun W => sized_same (n : Int) W)
  rw [hs] at HS
  have ha := hp.le
  have HP := Lib.hid hp
  cases bad with
  | true =>
    have HN := Lib.hid (numR_bad S a n true (.inl rfl) ha)
    clear hp
    go_enter Try.func34, Try.ntmps34
    go_upto_region 1 with fail
    go_quiet (fail)
    generalize hW : World.drewN _ _ = w1
    have HB1 : Hid (Blk w1 g 67 #[.string S, .int .i64 (a : Int), .bool true]) := Lib.hid (by rw [← hW]; exact blk_drewN HP.out.blk _)
    have HF1 : Hid (FrO w w1 base g) := Lib.hid (by rw [← hW]; exact fro_drewN (Fr.refl _ _ _ _) _)
    clear hW c0 c1 c2 f2
    have c2 := HB1.out.cell 2
    have f2 := HB1.out.frozen 2
    go_wp2_with fail
    go_ret
    refine ⟨a, true, by rw [HN.out]; rfl, ⟨HB1.out.set_ 2 (.bool true), HP.out.ge, ha⟩, by rw [HN.out]; rfl, HF1.out.trans (PkAt.fr_set 2 _ _ HP.out.ge)⟩
  | false =>
    by_cases hlen : S.size < a + n
    · have HN := Lib.hid (numR_bad S a n false (.inr hlen) ha)
      have hw1 : wrap64 ((S.size : Int) - (a : Int)) = (S.size : Int) - (a : Int) := wr64 _ (by omega)
      have hd : decide ((S.size : Int) - (a : Int) < (n : Int)) = true := by rw [decide_eq_true_iff]; omega
      clear hp
      go_enter Try.func34, Try.ntmps34
      go_upto_region 1 with fail
      go_quiet ((go_at_call 56; exact Calls.quiet_of_same (HS.out _)))
      generalize hW : World.drewN _ _ = w1
      have HB1 : Hid (Blk w1 g 67 #[.string S, .int .i64 (a : Int), .bool false]) := Lib.hid (by rw [← hW]; exact blk_drewN HP.out.blk _)
      have HF1 : Hid (FrO w w1 base g) := Lib.hid (by rw [← hW]; exact fro_drewN (Fr.refl _ _ _ _) _)
      clear hW c0 c1 c2 f2
      have c2 := HB1.out.cell 2
      have f2 := HB1.out.frozen 2
      go_wp2_with fail
      go_ret
      refine ⟨a, true, by rw [HN.out]; rfl, ⟨HB1.out.set_ 2 (.bool true), HP.out.ge, ha⟩, by rw [HN.out]; rfl, HF1.out.trans (PkAt.fr_set 2 _ _ HP.out.ge)⟩
    · have HN := Lib.hid (numR_ok S a n hn (by omega))
      have hw1 : wrap64 ((S.size : Int) - (a : Int)) = (S.size : Int) - (a : Int) := wr64 _ (by omega)
      have hd : decide ((S.size : Int) - (a : Int) < (n : Int)) = false := by rw [decide_eq_false_iff_not]; omega
      clear hp
      go_enter Try.func34, Try.ntmps34
      go_upto_region 1 with fail
      go_quiet ((go_at_call 56; exact Calls.quiet_of_same (HS.out _)))
      generalize hW : World.drewN _ _ = w1
      have HB1 : Hid (Blk w1 g 67 #[.string S, .int .i64 (a : Int), .bool false]) := Lib.hid (by rw [← hW]; exact blk_drewN HP.out.blk _)
      have HF1 : Hid (FrO w w1 base g) := Lib.hid (by rw [← hW]; exact fro_drewN (Fr.refl _ _ _ _) _)
      clear hW c0 c1 c2 f2
      go_wp2_with fail
      obtain ⟨L, hL⟩ : ∃ L, ((ints S).drop a).take n = L := ⟨_, rfl⟩
      rw [hL] at HN
      have hlen2 : L.length = n := by rw [← hL, List.length_take, List.length_drop, ints_length]; omega
      have HL := Lib.hid hL
      clear hL hd hw1
      go_loopw [6, 5] (fun i v wr => ∃ j : Nat, j ≤ n ∧ i = .int .i64 ((j : Int) - 1) ∧ v = .int .u64 (Pk.valOf (L.drop j)) ∧ Blk wr g 67 #[.string S, .int .i64 (a : Int), .bool false] ∧ FrO w wr base g) (fun i _ _ => (intOf i + 1).toNat)
      case atStart => exact ⟨n, Nat.le_refl _, rfl, by rw [List.drop_of_length_le (by omega)]; rfl, HB1.out, HF1.out⟩
      case round =>
        obtain ⟨j, hj, rfl, rfl, hb, hf⟩ := hrel
        have Hb := Lib.hid hb
        have Hf := Lib.hid hf
        have c0 := hb.cell 0
        have c1 := hb.cell 1
        have f1 := hb.frozen 1
        clear hb hf
        rcases Nat.eq_zero_or_pos j with rfl | h0
        · have e0 : ((0 : Nat) : Int) - 1 = -1 := rfl
          rw [e0, List.drop_zero]
          have hle : a + n ≤ S.size := Nat.le_of_not_lt hlen
          have r4 := sum_in a n (Nat.le_trans hle hS)
          have Hle := Lib.hid hle
          clear e0 hn hs hlen hlen2 hle hj
          go_wp2_with fail
          go_ret
          refine ⟨a + n, false, by rw [HN.out.1]; rfl, ⟨Hb.out.set_ 1 (.int .i64 ((a + n : Nat) : Int)), HP.out.ge, Hle.out⟩, by rw [HN.out.2], Hf.out.trans (PkAt.fr_set 1 _ _ HP.out.ge)⟩
        · obtain ⟨q, rfl⟩ : ∃ q, j = q + 1 := ⟨j - 1, by omega⟩
          have e1 : ((q + 1 : Nat) : Int) - 1 = (q : Int) := by omega
          rw [e1]
          have hq : q < L.length := by omega
          have hv := drop_valOf L q hq
          have hbyte := byte_at S a n q L HL.out (by omega) (by omega)
          have hrg := valOf_range (L.drop (q + 1)) (fun b hb => by
            rw [← HL.out] at hb
            exact ints_range S b (List.mem_of_mem_drop (List.mem_of_mem_take (List.mem_of_mem_drop hb))))
          have hbr : 0 ≤ L[q] ∧ L[q] < 256 := ints_range S _ (List.mem_of_mem_drop (List.mem_of_mem_take (by rw [HL.out]; exact List.getElem_mem hq)))
          have hp7 : (256 : Int) ^ (L.drop (q + 1)).length ≤ 256 ^ 7 := by
            have : (L.drop (q + 1)).length ≤ 7 := by rw [List.length_drop]; omega
            exact pow_le7 _ this
          obtain ⟨V, hV⟩ : ∃ V, Pk.valOf (L.drop (q + 1)) = V := ⟨_, rfl⟩
          obtain ⟨b, hb⟩ : ∃ b, L[q] = b := ⟨_, rfl⟩
          rw [hV] at hv hrg ⊢
          rw [hb] at hv hbyte hbr
          have h7 : (256 : Int) ^ 7 = 72057594037927936 := by decide
          rw [h7] at hp7
          have hV2 : 0 ≤ V ∧ V < 72057594037927936 := ⟨hrg.1, Int.lt_of_lt_of_le hrg.2 hp7⟩
          have haq : a + q ≤ 1000000 := Nat.le_trans (Nat.le_trans (Nat.add_le_add_left (Nat.le_of_lt (hlen2 ▸ hq)) a) (Nat.le_of_not_lt hlen)) hS
          obtain ⟨r1, r2, r3, r4, r5⟩ := loop_in a q V b haq hV2 hbr
          have Hv := Lib.hid hv
          have Hj := Lib.hid hj
          clear hv hrg hp7 h7 hV hb e1 hV2 haq hn hs hlen hlen2 hq h0 hbr hS ha hj
          go_wp2_with fail
          go_quiet (fail)
          generalize hW : World.drewN _ _ = w3
          have HB3 : Hid (Blk w3 g 67 #[.string S, .int .i64 (a : Int), .bool false]) := Lib.hid (by rw [← hW]; exact blk_drewN Hb.out _)
          have HF3 : Hid (FrO w w3 base g) := Lib.hid (by rw [← hW]; exact fro_drewN Hf.out _)
          clear hW
          go_wp2_with fail
          rw [r5]
          refine ⟨⟨q, by have := Hj.out; omega, rfl, ?_, HB3.out, HF3.out⟩, by simp [intOf]⟩
          rw [Hv.out, Int.mul_comm V 256, Int.add_comm]
end Go.Proofs.Ytadcpdpcpecooaa.Ev
