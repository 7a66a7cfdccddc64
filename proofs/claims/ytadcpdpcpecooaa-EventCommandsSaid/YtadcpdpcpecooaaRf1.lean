/- The walks of the reference's Bytes and of its Packer. -/
import Derived.Test.YtadcpdpcpecooaaOp1
import Derived.Laws.BytesArg
import Derived.Laws.MakeOwn
import Derived.Laws.Concat
namespace Go.Proofs.Ytadcpdpcpecooaa.Pk
open Go.RowKit

theorem made_zero (n : Nat) : (madeCells #[Value.int .u8 0] n).toList = nums .u8 (List.replicate n 0) := by
  simp [madeCells, nums]
  apply List.ext_getElem <;> simp [Nat.mod_one]

/-- The string of a number's bytes. -/
def bytesStr (V : Int) (n : Nat) : ByteArray := strOfNums (bytesOf V n)

set_option maxRecDepth 20000 in
set_option maxHeartbeats 1000000 in
theorem Bytes_calls (V : Int) (n : Nat) (w : World) (hV0 : 0 ≤ V) (hV64 : V < 18446744073709551616) (hn : n ≤ 8) :
    Calls Try.prog 48 #[.int .u64 V, .int .i64 (n : Int)] w fun e w' => e = .returned (.string (bytesStr V n)) ∧ Below w.heap.size w w' := by
  have hmk : ∀ W : World, (Instr.makeSlice 53 (.int .i64 (n : Int)) (.int .i64 (n : Int))).run Try.prog W = .ok (.slice (some ⟨W.heap.size, 0, none⟩) n n) (W.alloc (.cells (nums .u8 (List.replicate n 0)).toArray 5)) := by
    intro W
    obtain ⟨i0, hi, hz0, hz1, hz2⟩ := info_parts info5
    have h := run_make (P := Try.prog) W 53 5 i0 (.int .u8 0) Try.underlying53 hi hz0 .i64 .i64 n n (by omega) (by omega) (by rw [hz2]; omega) (by omega)
    simp only [Int.toNat_natCast, hz1, Nat.mul_one] at h
    rw [h, ← made_zero]
    rfl
  go_enter Try.func48, Try.ntmps48
  go_wp2_with fail
  go_loopw [0, 6] (fun v i wr => ∃ k : Nat, k ≤ n ∧ i = .int .i64 k ∧ v = .int .u64 (V / 256 ^ k) ∧ Blk wr w.heap.size 5 (nums .u8 (bytesOf V k ++ List.replicate (n - k) 0)).toArray ∧ Below w.heap.size w wr) (fun _ i _ => n - (intOf i).toNat)
  case atStart => exact ⟨0, Nat.zero_le _, rfl, by simp, by simpa [bytesOf] using Blk.new w 5 _, (Below.refl _ _).alloc (Nat.le_refl _) _⟩
  case round =>
    obtain ⟨k, hk, rfl, rfl, hb, hbel⟩ := hrel
    have hVk : 0 ≤ V / 256 ^ k := Int.ediv_nonneg hV0 (Int.pow_nonneg (by omega))
    obtain ⟨L, hL⟩ : ∃ L, bytesOf V k ++ List.replicate (n - k) 0 = L := ⟨_, rfl⟩
    have hll : L.length = n := by rw [← hL]; simp [bytesOf_length]; omega
    by_cases hlt : k < n
    · have e2 : V / 256 ^ k / 256 = V / 256 ^ (k + 1) := by rw [Int.pow_succ, Int.ediv_ediv_of_nonneg (Int.pow_nonneg (by omega))]
      have e3 : V / 256 ^ k % 256 = byteAt V k := rfl
      have hset : (nums .u8 L).toArray.setIfInBounds k (.int .u8 (byteAt V k)) = (nums .u8 (bytesOf V (k + 1) ++ List.replicate (n - (k + 1)) 0)).toArray := by
        rw [← hL, bytesOf_succ, show n - k = (n - (k + 1)) + 1 by omega, List.replicate_succ]
        apply Array.ext'
        simp only [Array.toList_setIfInBounds, nums, List.map_append, List.map_cons, List.map_nil, List.append_assoc]
        rw [List.set_append_right _ _ (by simp [bytesOf_length])]
        simp [bytesOf_length]
      rw [hL] at hb
      have hc : ∃ u, wr.cell? ⟨w.heap.size, k, none⟩ = some u := by
        rw [hb.cell k]
        have : k < (nums .u8 L).toArray.size := by simp [nums_length, hll, hlt]
        exact ⟨_, Array.getElem?_eq_getElem this⟩
      obtain ⟨u, hc⟩ := hc
      have hf := hb.frozen k
      have E2 := Lib.hid e2
      have E3 := Lib.hid e3
      have Hset := Lib.hid hset
      clear e2 e3 hset hll hL
      have hq64 : V / 256 ^ k ≤ V := Int.ediv_le_self _ hV0
      generalize V / 256 ^ k = q at hVk E2 E3 hq64
      have e4 : IntKind.u64.wrap (q.tdiv 256) = q / 256 := by rw [Int.tdiv_eq_ediv_of_nonneg hVk, IntKind.wrap_u64, Int.emod_eq_of_lt (by omega) (by omega)]
      have E4 := Lib.hid e4
      have Hbel := Lib.hid hbel
      clear e4 hq64 hV64 hbel
      go_wp2_with fail
      go_roundw
      case rel =>
        refine ⟨k + 1, by omega, by go_num, by rw [E4.out, E2.out], ?_, ?_⟩
        · have h1 := hb.set_ k (.int .u8 (byteAt V k))
          rw [Hset.out] at h1
          rw [← E3.out] at h1
          exact h1
        · exact Hbel.out.setCell (by simp) _
      case measure => simp [intOf]; omega
    · have hkn : k = n := by omega
      subst hkn
      rw [hL] at hb
      have hb2 : L = bytesOf V k := by rw [← hL]; simp
      have hc : ∀ dst, Try.prog.underlying dst = some .string → (convert 53 dst (.slice (some ⟨w.heap.size, 0, none⟩) k k)).run Try.prog wr = .ok (.string (strOfNums L)) wr :=
        run_convert_bytes_arg wr 53 5 Try.underlying53 Try.underlying5 w.heap.size 0 k k L hll (fun i hi => by
          rw [Nat.zero_add, hb.cell i]
          simp [nums, List.getD_eq_getElem?_getD, hll, hi])
      have hcv := hc 9 Try.underlying9
      have Hb2 := Lib.hid hb2
      clear hb2 hL hc hll
      go_wp2_with fail
      go_ret
      exact ⟨by rw [Hb2.out]; rfl, hbel⟩

theorem bytesStr_size (V : Int) (n : Nat) : (bytesStr V n).size = n := by simp [bytesStr, strOfNums_size, bytesOf_length]

/-- The reference's Packer in memory. -/
structure RpAt (T : TypeId) (w : World) (base g : Nat) (s : ByteArray) (e : Int) : Prop where
  blk : Blk w g T #[.string s, .int .i64 e]
  ge : base ≤ g
theorem RpAt.set0 {T : TypeId} {w : World} {base g : Nat} {s : ByteArray} {e : Int} (h : RpAt T w base g s e) (s' : ByteArray) : RpAt T (w.setCell ⟨g, 0, none⟩ (.string s')) base g s' e ∧ FrO w (w.setCell ⟨g, 0, none⟩ (.string s')) base g :=
  ⟨⟨by simpa using h.blk.set_ 0 (.string s'), h.ge⟩, PkAt.fr_set 0 _ _ h.ge⟩
theorem RpAt.set1 {T : TypeId} {w : World} {base g : Nat} {s : ByteArray} {e : Int} (h : RpAt T w base g s e) (e' : Int) : RpAt T (w.setCell ⟨g, 1, none⟩ (.int .i64 e')) base g s e' ∧ FrO w (w.setCell ⟨g, 1, none⟩ (.int .i64 e')) base g :=
  ⟨⟨by simpa using h.blk.set_ 1 (.int .i64 e'), h.ge⟩, PkAt.fr_set 1 _ _ h.ge⟩
theorem RpAt.below {T : TypeId} {w w1 : World} {base g : Nat} {s : ByteArray} {e : Int} (h : RpAt T w base g s e) (hb : Below w.heap.size w w1) : RpAt T w1 base g s e := ⟨h.blk.same (hb.block g h.blk.lt), h.ge⟩

def rput (a : ByteArray) (e : Int) (s : ByteArray) : ByteArray × Int :=
  if e ≠ 0 then (a, e) else if 60000 < a.size + s.size then (a, 2) else (a ++ s, 0)
def rnum (a : ByteArray) (e V n : Int) : ByteArray × Int :=
  if e ≠ 0 then (a, e) else if szB n = true ∧ V < 256 ^ n.toNat then rput a e (bytesStr V n.toNat) else (a, 11)
def rtext (a : ByteArray) (e : Int) (s : ByteArray) : ByteArray × Int :=
  if e ≠ 0 then (a, e) else if 65535 < s.size then (a, 2) else rput a e (bytesStr s.size 2 ++ s)

set_option maxRecDepth 20000 in
theorem rsized_calls (n : Int) (w : World) : Calls Try.prog 56 #[.int .i64 n] w fun e w' => e = .returned (.bool (szB n)) ∧ w = w' := by
  go_enter Try.func56, Try.ntmps56
  go_wp2
  all_goals go_ret
  all_goals exact ⟨ret_bool (by simp_all [szB]), rfl⟩

end Go.Proofs.Ytadcpdpcpecooaa.Pk
