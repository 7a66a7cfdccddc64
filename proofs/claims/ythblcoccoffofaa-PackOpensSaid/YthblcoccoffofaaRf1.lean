/- The walks of the reference's Bytes and of its Packer. -/
import Derived.Test.YthblcoccoffofaaOp1
import Derived.Laws.BytesArg
import Derived.Laws.MakeOwn
import Derived.Laws.Concat
namespace Go.Proofs.Ythblcoccoffofaa.Pk
open Go.RowKit

theorem made_zero (n : Nat) : (madeCells #[Value.int .u8 0] n).toList = nums .u8 (List.replicate n 0) := by
  simp [madeCells, nums]
  apply List.ext_getElem <;> simp [Nat.mod_one]

/-- The string of a number's bytes. -/
def bytesStr (V : Int) (n : Nat) : ByteArray := strOfNums (bytesOf V n)

set_option maxHeartbeats 1000000 in
theorem Bytes_calls (V : Int) (n : Nat) (w : World) (hV0 : 0 ≤ V) (hV64 : V < 18446744073709551616) (hn : n ≤ 8) :
    Calls Try.prog 28 #[.int .u64 V, .int .i64 (n : Int)] w fun e w' => e = .returned (.string (bytesStr V n)) ∧ Below w.heap.size w w' := by
  have hmk : ∀ W : World, (Instr.makeSlice 26 (.int .i64 (n : Int)) (.int .i64 (n : Int))).run Try.prog W = .ok (.slice (some ⟨W.heap.size, 0, none⟩) n n) (W.alloc (.cells (nums .u8 (List.replicate n 0)).toArray 5)) := by
    intro W
    obtain ⟨i0, hi, hz0, hz1, hz2⟩ := info_parts info5
    have h := run_make (P := Try.prog) W 26 5 i0 (.int .u8 0) Try.underlying26 hi hz0 .i64 .i64 n n (by omega) (by omega) (by rw [hz2]; omega) (by omega)
    simp only [Int.toNat_natCast, hz1, Nat.mul_one] at h
    rw [h, ← made_zero]
    rfl
  go_enter Try.func28, Try.ntmps28
  go_wp2_with fail
  go_loopw [0, 6] (fun v i wr => ∃ k : Nat, k ≤ n ∧ i = .int .i64 k ∧ v = .int .u64 (V / 256 ^ k) ∧ Blk wr w.heap.size 5 (nums .u8 (bytesOf V k ++ List.replicate (n - k) 0)).toArray ∧ Below w.heap.size w wr) (fun _ i _ => n - (intOf i).toNat)
  case atStart => exact ⟨0, Nat.zero_le _, rfl, by simp, by simpa [bytesOf] using Blk.new w 5 _, (Below.refl _ _).alloc (Nat.le_refl _) _⟩
  case round =>
    obtain ⟨k, hk, rfl, rfl, hb, hbel⟩ := hrel
    have hVk : 0 ≤ V / 256 ^ k := Int.ediv_nonneg hV0 (Int.pow_nonneg (by omega))
    obtain ⟨L, hL⟩ : ∃ L, bytesOf V k ++ List.replicate (n - k) 0 = L := ⟨_, rfl⟩
    have hll : L.length = n := by rw [← hL]; simp [bytesOf_length]; omega
    by_cases hlt : k < n
    · have e2 : V / 256 ^ k / 256 = V / 256 ^ (k + 1) := by rw [Int.pow_succ, Int.ediv_ediv_of_nonneg (Int.pow_nonneg (by omega))]
      have e3 : V / 256 ^ k % 256 = byteAt V k := rfl
      have hset : (nums .u8 L).toArray.setIfInBounds k (.int .u8 (byteAt V k)) = (nums .u8 (bytesOf V (k + 1) ++ List.replicate (n - (k + 1)) 0)).toArray := by
        rw [← hL, bytesOf_succ, show n - k = (n - (k + 1)) + 1 by omega, List.replicate_succ]
        apply Array.ext'
        simp only [Array.toList_setIfInBounds, nums, List.map_append, List.map_cons, List.map_nil, List.append_assoc]
        rw [List.set_append_right _ _ (by simp [bytesOf_length])]
        simp [bytesOf_length]
      rw [hL] at hb
      have hc : ∃ u, wr.cell? ⟨w.heap.size, k, none⟩ = some u := by
        rw [hb.cell k]
        have : k < (nums .u8 L).toArray.size := by simp [nums_length, hll, hlt]
        exact ⟨_, Array.getElem?_eq_getElem this⟩
      obtain ⟨u, hc⟩ := hc
      have hf := hb.frozen k
      have E2 := Lib.hid e2
      have E3 := Lib.hid e3
      have Hset := Lib.hid hset
      clear e2 e3 hset hll hL
      have hq64 : V / 256 ^ k ≤ V := Int.ediv_le_self _ hV0
      generalize V / 256 ^ k = q at hVk E2 E3 hq64
      have e4 : IntKind.u64.wrap (q.tdiv 256) = q / 256 := by rw [Int.tdiv_eq_ediv_of_nonneg hVk, IntKind.wrap_u64, Int.emod_eq_of_lt (by omega) (by omega)]
      have E4 := Lib.hid e4
      have Hbel := Lib.hid hbel
      clear e4 hq64 hV64 hbel
      go_wp2_with fail
      go_roundw
      case rel =>
        refine ⟨k + 1, by omega, by go_num, by rw [E4.out, E2.out], ?_, ?_⟩
        · have h1 := hb.set_ k (.int .u8 (byteAt V k))
          rw [Hset.out] at h1
          rw [← E3.out] at h1
          exact h1
        · exact Hbel.out.setCell (by simp) _
      case measure => simp [intOf]; omega
    · have hkn : k = n := by omega
      subst hkn
      rw [hL] at hb
      have hb2 : L = bytesOf V k := by rw [← hL]; simp
      have hc : ∀ dst, Try.prog.underlying dst = some .string → (convert 26 dst (.slice (some ⟨w.heap.size, 0, none⟩) k k)).run Try.prog wr = .ok (.string (strOfNums L)) wr :=
        run_convert_bytes_arg wr 26 5 Try.underlying26 Try.underlying5 w.heap.size 0 k k L hll (fun i hi => by
          rw [Nat.zero_add, hb.cell i]
          simp [nums, List.getD_eq_getElem?_getD, hll, hi])
      have hcv := hc 9 Try.underlying9
      have Hb2 := Lib.hid hb2
      clear hb2 hL hc hll
      go_wp2_with fail
      go_ret
      exact ⟨by rw [Hb2.out]; rfl, hbel⟩

theorem bytesStr_size (V : Int) (n : Nat) : (bytesStr V n).size = n := by simp [bytesStr, strOfNums_size, bytesOf_length]

/-- The reference's Packer in memory. -/
structure RpAt (T : TypeId) (w : World) (base g : Nat) (s : ByteArray) (e : Int) : Prop where
  blk : Blk w g T #[.string s, .int .i64 e]
  ge : base ≤ g
theorem RpAt.set0 {T : TypeId} {w : World} {base g : Nat} {s : ByteArray} {e : Int} (h : RpAt T w base g s e) (s' : ByteArray) : RpAt T (w.setCell ⟨g, 0, none⟩ (.string s')) base g s' e ∧ FrO w (w.setCell ⟨g, 0, none⟩ (.string s')) base g :=
  ⟨⟨by simpa using h.blk.set_ 0 (.string s'), h.ge⟩, PkAt.fr_set 0 _ _ h.ge⟩
theorem RpAt.set1 {T : TypeId} {w : World} {base g : Nat} {s : ByteArray} {e : Int} (h : RpAt T w base g s e) (e' : Int) : RpAt T (w.setCell ⟨g, 1, none⟩ (.int .i64 e')) base g s e' ∧ FrO w (w.setCell ⟨g, 1, none⟩ (.int .i64 e')) base g :=
  ⟨⟨by simpa using h.blk.set_ 1 (.int .i64 e'), h.ge⟩, PkAt.fr_set 1 _ _ h.ge⟩
theorem RpAt.below {T : TypeId} {w w1 : World} {base g : Nat} {s : ByteArray} {e : Int} (h : RpAt T w base g s e) (hb : Below w.heap.size w w1) : RpAt T w1 base g s e := ⟨h.blk.same (hb.block g h.blk.lt), h.ge⟩

def rput (a : ByteArray) (e : Int) (s : ByteArray) : ByteArray × Int :=
  if e ≠ 0 then (a, e) else if 60000 < a.size + s.size then (a, 2) else (a ++ s, 0)
def rnum (a : ByteArray) (e V n : Int) : ByteArray × Int :=
  if e ≠ 0 then (a, e) else if szB n = true ∧ V < 256 ^ n.toNat then rput a e (bytesStr V n.toNat) else (a, 11)
def rtext (a : ByteArray) (e : Int) (s : ByteArray) : ByteArray × Int :=
  if e ≠ 0 then (a, e) else if 65535 < s.size then (a, 2) else rput a e (bytesStr s.size 2 ++ s)

set_option maxHeartbeats 1000000 in
theorem rput_calls (base g : Nat) (a s : ByteArray) (e0 : Int) (w : World) (hp : RpAt 32 w base g a e0) (ha : a.size ≤ 1000000000) (hs : s.size ≤ 1000000000) :
    Calls Try.prog 27 #[.pointer (some ⟨g, 0, none⟩), .string s] w fun e w' => e = .returned (.tuple #[]) ∧ RpAt 32 w' base g (rput a e0 s).1 (rput a e0 s).2 ∧ FrO w w' base g := by
  have c0 := hp.blk.cell 0
  have c1 := hp.blk.cell 1
  have f0 := hp.blk.frozen 0
  have f1 := hp.blk.frozen 1
  unfold rput
  by_cases h0 : e0 = 0
  · subst h0
    rw [if_neg (by simp)]
    by_cases h1 : 60000 < a.size + s.size
    · rw [if_pos h1]
      go_enter Try.func27, Try.ntmps27
      go_wp2_with fail
      refine bodyPost_ret (results_none rfl _ _ _) rfl ?_
      exact ⟨rfl, hp.set1 2⟩
    · rw [if_neg h1]
      go_enter Try.func27, Try.ntmps27
      go_wp2_with fail
      go_end0
      exact ⟨rfl, hp.set0 _⟩
  · rw [if_pos h0]
    have hb : (e0 != 0) = true := by simpa using h0
    go_enter Try.func27, Try.ntmps27
    go_wp2_with fail
    refine bodyPost_ret (results_none rfl _ _ _) rfl ?_
    exact ⟨rfl, hp, Fr.refl _ _ _ _⟩

theorem rsized_calls (n : Int) (w : World) : Calls Try.prog 30 #[.int .i64 n] w fun e w' => e = .returned (.bool (szB n)) ∧ w = w' := by
  go_enter Try.func30, Try.ntmps30
  go_wp2
  all_goals go_ret
  all_goals exact ⟨ret_bool (by simp_all [szB]), rfl⟩

set_option maxHeartbeats 1000000 in
theorem rtext_calls (base g : Nat) (a s : ByteArray) (e0 : Int) (w : World) (hp : RpAt 32 w base g a e0) (hbase : base ≤ w.heap.size) (ha : a.size ≤ 1000000) (hs : s.size ≤ 1000000) :
    Calls Try.prog 11 #[.pointer (some ⟨g, 0, none⟩), .string s] w fun e w' => e = .returned (.tuple #[]) ∧ RpAt 32 w' base g (rtext a e0 s).1 (rtext a e0 s).2 ∧ FrO w w' base g := by
  have c1 := hp.blk.cell 1
  have f1 := hp.blk.frozen 1
  unfold rtext
  by_cases h0 : e0 = 0
  · subst h0
    rw [if_neg (by simp)]
    by_cases h1 : 65535 < s.size
    · rw [if_pos h1]
      go_enter Try.func11, Try.ntmps11
      go_wp2_with fail
      go_end0
      exact ⟨rfl, hp.set1 2⟩
    · rw [if_neg h1]
      have HB := Lib.hid (Bytes_calls s.size 2 w (by omega) (by omega) (by omega))
      have hb2 := bytesStr_size s.size 2
      have hsz2 : (bytesStr s.size 2 ++ s).size ≤ 1000000000 := by rw [ByteArray.size_append, hb2]; omega
      have HR := fun w1 (h : Below w.heap.size w w1) => rput_calls base g a (bytesStr s.size 2 ++ s) 0 w1 (hp.below h) (by omega) hsz2
      have HR2 := Lib.hid HR
      clear HR hsz2
      generalize bytesStr (↑s.size) 2 = b at HB hb2 HR2 ⊢
      have Hb2 := Lib.hid hb2
      have hb3 : b.size ≤ 2 := by omega
      clear hb2
      go_enter Try.func11, Try.ntmps11
      go_wp2_with fail
      refine HB.out.mono ?_
      rintro e w1 ⟨rfl, hw1⟩
      go_wp2_with fail
      refine (HR2.out w1 hw1).mono ?_
      rintro e w2 ⟨rfl, h1, h2⟩
      have H1 := Lib.hid h1
      have H2 := Lib.hid h2
      clear h1 h2 HR2 HB
      go_wp2_with fail
      go_end0
      exact ⟨rfl, H1.out, (Fr.of_below hw1 hbase).trans H2.out⟩
  · rw [if_pos h0]
    have hb : (e0 == 0) = false := by simpa using h0
    go_enter Try.func11, Try.ntmps11
    go_wp2_with fail
    go_end0
    exact ⟨rfl, hp, Fr.refl _ _ _ _⟩

set_option maxHeartbeats 1000000 in
theorem rnum_calls (base g : Nat) (a : ByteArray) (e0 V n : Int) (w : World) (hp : RpAt 32 w base g a e0) (hbase : base ≤ w.heap.size) (ha : a.size ≤ 1000000)
    (hV0 : 0 ≤ V) (hV64 : V < 18446744073709551616) :
    Calls Try.prog 13 #[.pointer (some ⟨g, 0, none⟩), .int .u64 V, .int .i64 n] w fun e w' => e = .returned (.tuple #[]) ∧ RpAt 32 w' base g (rnum a e0 V n).1 (rnum a e0 V n).2 ∧ FrO w w' base g := by
  have c1 := hp.blk.cell 1
  have f1 := hp.blk.frozen 1
  unfold rnum
  by_cases h0 : e0 = 0
  · subst h0
    rw [if_neg (by simp)]
    by_cases hs : szB n = true
    · have hn := (szB_iff n).1 hs
      obtain ⟨m, rfl⟩ := Int.eq_ofNat_of_zero_le (show 0 ≤ n by omega)
      rw [Int.toNat_natCast]
      have hm8 : m ≤ 8 := by omega
      have hm1 : 1 ≤ m := by omega
      have Hs := Lib.hid hs
      have e : (2 : Int) ^ (8 * m) = 256 ^ m := by rw [show (256 : Int) = 2 ^ 8 from rfl, ← Int.pow_mul]
      by_cases hV : V < 256 ^ m
      · rw [if_pos ⟨hs, hV⟩]
        have HB := Lib.hid (Bytes_calls V m w hV0 hV64 hm8)
        have hb2 := bytesStr_size V m
        have HR := Lib.hid (fun w1 (h : Below w.heap.size w w1) => rput_calls base g a (bytesStr V m) 0 w1 (hp.below h) (by omega) (by omega))
        generalize bytesStr V m = b at HB HR ⊢
        have h00 : V / 2 ^ (8 * m) = 0 := by rw [e]; exact Int.ediv_eq_zero_of_lt hV0 hV
        have H0 := Lib.hid h00
        clear h00 e hV hs hn hV64 hb2
        go_enter Try.func13, Try.ntmps13
        go_upto_region 1 with (fail)
        go_cut [25] (fun v wc => v = .bool false ∧ w = wc)
        case first =>
          go_wp2_with (go_at_call 30; refine (rsized_calls _ _).mono ?_; rintro e w' ⟨rfl, rfl⟩; rw [Hs.out])
          all_goals go_meet
          · exact ⟨by rw [H0.out]; simp, rfl⟩
          · exact ⟨rfl, rfl⟩
        case rest =>
          obtain ⟨rfl, rfl⟩ := hcut
          go_wp2_with fail
          refine HB.out.mono ?_
          rintro e w1 ⟨rfl, hw1⟩
          go_wp2_with fail
          refine (HR.out w1 hw1).mono ?_
          rintro e w2 ⟨rfl, h1, h2⟩
          have H1 := Lib.hid h1
          have H2 := Lib.hid h2
          clear h1 h2 HR HB
          go_wp2_with fail
          go_end0
          exact ⟨rfl, H1.out, (Fr.of_below hw1 hbase).trans H2.out⟩
      · rw [if_neg (fun h => hV h.2)]
        have hm : m < 8 := by
          rcases Nat.lt_or_ge m 8 with h | h
          · exact h
          · obtain rfl : m = 8 := by omega
            exact absurd hV64 (by simpa using hV)
        have h00 : V / 2 ^ (8 * m) ≠ 0 := by
          rw [e]
          have hp : (0 : Int) < 256 ^ m := Int.pow_pos (by omega)
          have := Int.ediv_le_ediv hp (show 256 ^ m ≤ V by omega)
          rw [Int.ediv_self (by omega)] at this
          omega
        have H0 := Lib.hid h00
        clear h00 e hV hs hn hV64
        go_enter Try.func13, Try.ntmps13
        go_upto_region 1 with (fail)
        go_cut [25] (fun v wc => v = .bool true ∧ w = wc)
        case first =>
          go_wp2_with (go_at_call 30; refine (rsized_calls _ _).mono ?_; rintro e w' ⟨rfl, rfl⟩; rw [Hs.out])
          all_goals go_meet
          exact ⟨by simp [H0.out], rfl⟩
        case rest =>
          obtain ⟨rfl, rfl⟩ := hcut
          go_wp2_with fail
          refine bodyPost_ret (results_none rfl _ _ _) rfl ?_
          exact ⟨rfl, hp.set1 11⟩
    · rw [if_neg (fun h => hs h.1)]
      have Hs := Lib.hid (by simpa using hs : szB n = false)
      clear hs hV64
      go_enter Try.func13, Try.ntmps13
      go_upto_region 1 with (fail)
      go_cut [25] (fun v wc => v = .bool true ∧ w = wc)
      case first =>
        go_wp2_with (go_at_call 30; refine (rsized_calls _ _).mono ?_; rintro e w' ⟨rfl, rfl⟩; rw [Hs.out])
        all_goals go_meet
        all_goals exact ⟨rfl, rfl⟩
      case rest =>
        obtain ⟨rfl, rfl⟩ := hcut
        go_wp2_with fail
        refine bodyPost_ret (results_none rfl _ _ _) rfl ?_
        exact ⟨rfl, hp.set1 11⟩
  · rw [if_pos h0]
    have hb : (e0 != 0) = true := by simpa using h0
    clear hV64
    go_enter Try.func13, Try.ntmps13
    go_wp2_with fail
    refine bodyPost_ret (results_none rfl _ _ _) rfl ?_
    exact ⟨rfl, hp, Fr.refl _ _ _ _⟩
end Go.Proofs.Ythblcoccoffofaa.Pk
