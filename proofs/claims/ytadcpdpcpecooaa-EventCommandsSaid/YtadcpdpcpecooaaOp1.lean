/- The walks of (*Opener).take and num. -/
import Derived.Test.YtadcpdpcpecooaaPk1
import Derived.Lib.ConvBytes
import Derived.Lib.Strings
import Derived.Lib.IndexBytes
import Derived.Laws.BitsAllLaws
namespace Go.Proofs.Ytadcpdpcpecooaa.Pk
open Go.RowKit

/-- An Opener in memory: what is left, and whether it is spoilt. -/
structure OpAt (T : TypeId) (w : World) (base g : Nat) (s : ByteArray) (sp : Bool) : Prop where
  blk : Blk w g T #[.string s, .bool sp]
  ge : base ≤ g
abbrev FrO (w w' : World) (base g : Nat) : Prop := Fr w w' base g (.bool false) (.bool false)

set_option maxRecDepth 20000 in
theorem take_ok (base g n : Nat) (s : ByteArray) (sp : Bool) (w : World) (hp : OpAt 92 w base g s sp) (hn : n ≤ s.size) (_hs : s.size ≤ 9223372036854775807) :
    Calls Try.prog 81 #[.pointer (some ⟨g, 0, none⟩), .int .i64 (n : Int)] w fun e w' => e = .returned (.string (s.extract 0 n)) ∧ w.setCell ⟨g, 0, none⟩ (.string (s.extract n s.size)) = w' := by
  have c0 := hp.blk.cell 0
  have f0 := hp.blk.frozen 0
  go_enter Try.func81, Try.ntmps81
  go_wp2_with fail
  go_ret
  exact ⟨rfl, rfl⟩

set_option maxRecDepth 20000 in
theorem take_bad (base g : Nat) (n : Int) (s : ByteArray) (sp : Bool) (w : World) (hp : OpAt 92 w base g s sp) (hn : (s.size : Int) < n) :
    Calls Try.prog 81 #[.pointer (some ⟨g, 0, none⟩), .int .i64 n] w fun e w' => e = .panicked [{ v := .iface 109 (.agg #[]), recovered := false }] ∧ w = w' := by
  have c0 := hp.blk.cell 0
  have f0 := hp.blk.frozen 0
  go_enter Try.func81, Try.ntmps81
  go_wp2_with fail
  exact ⟨rfl, rfl, rfl⟩

theorem ints_range (s : ByteArray) : ∀ b ∈ ints s, 0 ≤ b ∧ b < 256 := by
  intro b hb
  simp only [ints, List.mem_map] at hb
  obtain ⟨u, _, rfl⟩ := hb
  have := u.toNat_lt
  omega
/-- The number that bytes are, the lowest first. -/
def valOf : List Int → Int
  | [] => 0
  | b :: r => b + 256 * valOf r
theorem valOf_snoc (l : List Int) (b : Int) : valOf (l ++ [b]) = valOf l + 256 ^ l.length * b := by
  induction l with
  | nil => simp [valOf]
  | cons a r ih => simp only [List.cons_append, valOf, ih, List.length_cons, Int.pow_succ]; rw [Int.mul_add, Int.mul_comm (256 ^ r.length) 256, Int.mul_assoc, ← Int.add_assoc]
theorem valOf_range (l : List Int) (h : ∀ b ∈ l, 0 ≤ b ∧ b < 256) : 0 ≤ valOf l ∧ valOf l < 256 ^ l.length := by
  induction l with
  | nil => simp [valOf]
  | cons a r ih =>
    have h1 := h a (by simp)
    have h2 := ih fun b hb => h b (by simp [hb])
    simp only [valOf, List.length_cons, Int.pow_succ]
    omega

theorem conv_bytes (w : World) (s : ByteArray) : ∃ c w', (convert 9 53 (.string s)).run Try.prog w = .ok (.slice (some ⟨w.heap.size, 0, none⟩) s.size c) w' ∧ Below w.heap.size w w' ∧
    ∀ j, j < s.size → w'.cell? ⟨w.heap.size, j, none⟩ = some (.int .u8 ((ints s).getD j 0)) := by
  have h := run_bytes_of_string (P := Try.prog) w 9 53 5 s Try.underlying9 Try.underlying53 Try.underlying5
  refine ⟨_, _, h, ((Below.refl _ _).drew).alloc (Nat.le_refl _) _, fun j hj => ?_⟩
  have hj' : j < s.data.size := hj
  have hc := cell_of_row (w.drew.alloc (.cells (bytesRow s (grownCap w s.size 0 5)) 5 ((bytesRow s (grownCap w s.size 0 5)).size, (bytesRow s (grownCap w s.size 0 5)).size + 1))) w.heap.size j _ _ _ (heap_alloc_new w.drew _)
  rw [hc, bytesRow_at s _ j hj']
  simp [ints, List.getD_eq_getElem?_getD, Array.getElem?_eq_getElem hj']
theorem or_step (V b : Int) (k : Nat) (hV0 : 0 ≤ V) (hV : V < 256 ^ k) (hb0 : 0 ≤ b) (hb : b < 256) (hk : k < 8) :
    bits .or .u64 V (IntKind.u64.wrap (b * 2 ^ (8 * k))) = V + 256 ^ k * b := by
  have e : (2 : Int) ^ (8 * k) = 256 ^ k := by rw [show (256 : Int) = 2 ^ 8 from rfl, ← Int.pow_mul]
  rw [e]
  obtain ⟨v, rfl⟩ := Int.eq_ofNat_of_zero_le hV0
  obtain ⟨c, rfl⟩ := Int.eq_ofNat_of_zero_le hb0
  have hp : (256 : Int) ^ k = ((256 ^ k : Nat) : Int) := by simp
  rw [hp] at hV ⊢
  have hv : v < 256 ^ k := by omega
  have hpk : 256 ^ k ≤ 72057594037927936 := by
    have : 256 ^ k ≤ 256 ^ 7 := Nat.pow_le_pow_right (by omega) (by omega)
    simpa using this
  have hc : c < 256 := by omega
  have hm : c * 256 ^ k ≤ 255 * 256 ^ k := Nat.mul_le_mul_right _ (by omega)
  have e2 : (c : Int) * ((256 ^ k : Nat) : Int) = ((c * 256 ^ k : Nat) : Int) := (Int.natCast_mul _ _).symm
  have e3 : ((256 ^ k : Nat) : Int) * (c : Int) = ((c * 256 ^ k : Nat) : Int) := by rw [Int.natCast_mul, Int.mul_comm]
  rw [e2, e3, IntKind.wrap_u64, Int.emod_eq_of_lt (by omega) (by omega), u64_or_nat _ _ (by omega) (by omega)]
  have := nat_join (8 * k) (c * 256 ^ k) v (by rw [show 2 ^ (8 * k) = 256 ^ k by rw [show 256 = 2 ^ 8 from rfl, ← Nat.pow_mul]]; simp) (by rw [show 2 ^ (8 * k) = 256 ^ k by rw [show 256 = 2 ^ 8 from rfl, ← Nat.pow_mul]]; exact hv)
  rw [Nat.or_comm, this, Int.natCast_add, Int.add_comm]

set_option maxRecDepth 20000 in
set_option maxHeartbeats 1000000 in
theorem onum_ok (base g : Nat) (n : Nat) (s : ByteArray) (sp : Bool) (w : World) (hp : OpAt 92 w base g s sp) (hbase : base ≤ w.heap.size) (hn : n = 1 ∨ n = 2 ∨ n = 4 ∨ n = 8) (hns : n ≤ s.size) (hs : s.size ≤ 9223372036854775807) :
    Calls Try.prog 73 #[.pointer (some ⟨g, 0, none⟩), .int .i64 (n : Int)] w fun e w' => e = .returned (.int .u64 (valOf (ints (s.extract 0 n)))) ∧
      OpAt 92 w' base g (s.extract n s.size) sp ∧ FrO w w' base g := by
  have hs1 : szB (n : Int) = true := (szB_iff _).2 (by omega)
  have Hs := Lib.hid hs1
  clear hs1
  have HT := Lib.hid (take_ok base g n s sp w hp hns hs)
  go_enter Try.func73, Try.ntmps73
  obtain ⟨c, w2, hcv, hb2, hcell⟩ := conv_bytes (w.setCell ⟨g, 0, none⟩ (.string (s.extract n s.size))) (s.extract 0 n)
  have hT : (s.extract 0 n).size = n := by simp [ByteArray.size_extract]; omega
  have hsz : (w.setCell ⟨g, 0, none⟩ (.string (s.extract n s.size))).heap.size = w.heap.size := by simp [World.setCell]
  rw [hsz] at hcell
  clear hsz
  have HC := Lib.hid hcell
  clear hcell
  go_wp2_with (first | (go_at_call 75; refine (size_calls _ _).mono ?_; rintro e w' ⟨rfl, rfl⟩; rw [Hs.out]) | (go_at_call 81; refine HT.out.mono ?_; rintro e w' ⟨rfl, rfl⟩))
  have ht0 : ∀ b ∈ ints (s.extract 0 n), 0 ≤ b ∧ b < 256 := fun b hb => ints_range _ b hb
  obtain ⟨l, hl⟩ : ∃ l, ints (s.extract 0 n) = l := ⟨_, rfl⟩
  rw [hl] at ht0
  have hll : l.length = n := by rw [← hl, ints_length, hT]
  have HL := Lib.hid hl
  have Hll := Lib.hid hll
  have HR := Lib.hid ht0
  clear ht0 hl hll
  go_loop [5, 18] (fun v i => ∃ k : Nat, k ≤ n ∧ i = .int .i64 k ∧ v = .int .u64 (valOf (l.take k))) (fun _ i => n - (intOf i).toNat)
  case atStart => exact ⟨0, Nat.zero_le _, rfl, rfl⟩
  case round =>
    obtain ⟨k, hk, rfl, rfl⟩ := hrel
    by_cases hlt : k < n
    · have hb : 0 ≤ l.getD k 0 ∧ l.getD k 0 < 256 := by
        have hm : k < l.length := by rw [Hll.out]; exact hlt
        rw [List.getD_eq_getElem?_getD, List.getElem?_eq_getElem hm]; exact HR.out _ (List.getElem_mem hm)
      have hc := HC.out k (by rw [hT]; exact hlt)
      rw [HL.out] at hc
      obtain ⟨b, hbb⟩ : ∃ b, l.getD k 0 = b := ⟨_, rfl⟩
      rw [hbb] at hb hc
      have Hb := Lib.hid hbb
      clear hbb
      have hv := valOf_range (l.take k) (fun b hb => HR.out b (List.mem_of_mem_take hb))
      obtain ⟨V, hV⟩ : ∃ V, valOf (l.take k) = V := ⟨_, rfl⟩
      rw [hV] at hv ⊢
      have HV := Lib.hid hV
      have Hv := Lib.hid hv
      clear hV hv
      obtain ⟨hb0, hb1⟩ := hb
      go_wp2_with fail
      go_roundw
      case rel =>
        refine ⟨k + 1, by omega, by go_num, ?_⟩
        have hkl : (l.take k).length = k := by rw [List.length_take, Hll.out]; omega
        have hv := Hv.out
        rw [hkl] at hv
        have hm : k < l.length := by rw [Hll.out]; exact hlt
        have e1 : l.take (k + 1) = l.take k ++ [b] := by
          rw [List.take_succ_eq_append_getElem hm]
          have := Hb.out
          rw [List.getD_eq_getElem?_getD, List.getElem?_eq_getElem hm] at this
          simp at this
          rw [this]
        rw [e1, valOf_snoc, hkl, HV.out, or_step V b k hv.1 hv.2 hb0 hb1 (by omega)]
      case measure => simp [intOf]; omega
    · go_wp2_with fail
      go_ret
      obtain rfl : k = n := by omega
      have hgl := hp.blk.lt
      refine ⟨?_, ⟨?_, hp.ge⟩, ?_⟩
      · rw [HL.out, List.take_of_length_le (by rw [Hll.out]; omega)]; rfl
      · have h1 : Blk (w.setCell ⟨g, 0, none⟩ (.string (s.extract k s.size))) g 92 #[.string (s.extract k s.size), .bool sp] := by
          have := hp.blk.set_ 0 (.string (s.extract k s.size))
          simpa using this
        exact h1.same (hb2.block g h1.lt)
      · exact (PkAt.fr_set 0 _ _ hp.ge).trans (Fr.of_below hb2 (by simp [World.setCell]; omega))

set_option maxRecDepth 20000 in
theorem onum_bad (base g : Nat) (n : Int) (s : ByteArray) (sp : Bool) (w : World) (hp : OpAt 92 w base g s sp) (hn : szB n = false ∨ (s.size : Int) < n) :
    Calls Try.prog 73 #[.pointer (some ⟨g, 0, none⟩), .int .i64 n] w fun e w' => e = .panicked [{ v := .iface 109 (.agg #[]), recovered := false }] ∧ w = w' := by
  by_cases hs : szB n = true
  · have hlt : (s.size : Int) < n := by rcases hn with h | h <;> simp_all
    have Hs := Lib.hid hs
    have HT := Lib.hid (take_bad base g n s sp w hp hlt)
    clear hs hn hlt
    go_enter Try.func73, Try.ntmps73
    go_wp2_with (first | (go_at_call 75; refine (size_calls _ _).mono ?_; rintro e w' ⟨rfl, rfl⟩; rw [Hs.out]) | (go_at_call 81; refine HT.out.mono ?_; rintro e w' ⟨rfl, rfl⟩))
    exact ⟨rfl, rfl, rfl⟩
  · have Hs := Lib.hid (by simpa using hs : szB n = false)
    clear hs hn
    go_enter Try.func73, Try.ntmps73
    go_wp2_with (first | (go_at_call 75; refine (size_calls _ _).mono ?_; rintro e w' ⟨rfl, rfl⟩; rw [Hs.out]))
    exact ⟨rfl, rfl, rfl⟩
end Go.Proofs.Ytadcpdpcpecooaa.Pk
