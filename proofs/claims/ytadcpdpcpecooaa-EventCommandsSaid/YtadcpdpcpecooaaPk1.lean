/- The walk of (*Packer).num. -/
import Derived.Test.YtadcpdpcpecooaaPk0
import Derived.Deep.LoopGhost
import Derived.Deep.RegionLaw
import Derived.WalkLawsBesides
import Derived.WalkSpells
import Derived.Deep.DeepCutAuto
import Derived.Deep.CutBlock
import Derived.Deep.QuietTactic
import Derived.BigQuiet
import Derived.Lib.Hide
namespace Go.Proofs.Ytadcpdpcpecooaa.Pk
open Go.RowKit

theorem info5 : (Try.prog.info? 5).map (fun i => (i.zero, i.size, i.bytes)) = some (some (.int .u8 0), 1, 1) := by kernel_rfl

/-- May a number have so many bytes? -/
def szB (n : Int) : Bool := n == 1 || n == 2 || n == 4 || n == 8
theorem szB_iff (n : Int) : szB n = true ↔ n = 1 ∨ n = 2 ∨ n = 4 ∨ n = 8 := by simp [szB, or_assoc]
theorem ret_bool {a b : Bool} (h : a = b) : Ending.returned (.bool a) = .returned (.bool b) := by rw [h]
set_option maxRecDepth 20000 in
theorem size_calls (n : Int) (w : World) : Calls Try.prog 75 #[.int .i64 n] w fun e w' => e = .returned (.bool (szB n)) ∧ w = w' := by
  go_enter Try.func75, Try.ntmps75
  go_wp2
  all_goals go_ret
  all_goals exact ⟨ret_bool (by simp_all [szB]), rfl⟩

set_option maxRecDepth 20000 in
set_option maxHeartbeats 1000000 in
theorem num_ok (base g : Nat) (vb : Value) (l : List Int) (e0 V : Int) (n : Nat) (w : World) (hp : PkAt 55 5 w base g vb l e0) (hbase : base ≤ w.heap.size)
    (hn : n = 1 ∨ n = 2 ∨ n = 4 ∨ n = 8) (hV0 : 0 ≤ V) (hV : V < 256 ^ n) (hl : l.length ≤ 1000000000) :
    Calls Try.prog 52 #[.pointer (some ⟨g, 0, none⟩), .int .u64 V, .int .i64 (n : Int)] w fun e w' => e = .returned (.tuple #[]) ∧
      ∃ vb', PkAt 55 5 w' base g vb' (l ++ bytesOf V n) e0 ∧ Fr w w' base g vb vb' := by
  obtain ⟨i0, hi, hz0, hz1, hz2⟩ := info_parts info5
  have hn8 : n ≤ 8 := by omega
  have hn1 : 1 ≤ n := by omega
  have hs : szB (n : Int) = true := (szB_iff _).2 (by omega)
  have Hs := Lib.hid hs
  clear hs
  have HV := Lib.hid hV
  clear hV
  have Hn := Lib.hid hn
  clear hn
  go_enter Try.func52, Try.ntmps52
  go_upto_region 0 with (fail)
  go_cut [20] (fun v wc => v = .bool false ∧ w = wc)
  case first =>
    go_wp2_with (go_at_call 75; refine (size_calls _ _).mono ?_; rintro e w' ⟨rfl, rfl⟩; rw [Hs.out])
    all_goals go_meet
    · refine ⟨?_, rfl⟩
      have h := HV.out
      have e : (2 : Int) ^ (8 * n) = 256 ^ n := by rw [show (256 : Int) = 2 ^ 8 from rfl, ← Int.pow_mul]
      have h0 : V / 2 ^ (8 * n) = 0 := by rw [e]; exact Int.ediv_eq_zero_of_lt hV0 h
      simp [h0]
    · exact ⟨rfl, rfl⟩
  case rest =>
    obtain ⟨rfl, rfl⟩ := hcut
    go_wp2_with fail
    go_loopw [23] (fun i wr => ∃ (k : Nat) (vk : Value), k ≤ n ∧ i = .int .i64 k ∧ PkAt 55 5 wr base g vk (l ++ bytesOf V k) e0 ∧ Fr w wr base g vb vk) (fun i _ => n - (intOf i).toNat)
    case atStart => exact ⟨0, vb, Nat.zero_le _, rfl, by simpa [bytesOf] using hp, Fr.refl _ _ _ _⟩
    case round =>
      obtain ⟨k, vk, hk, rfl, hpk, hfr⟩ := hrel
      by_cases hlt : k < n
      · obtain ⟨L, hL⟩ : ∃ L, l ++ bytesOf V k = L := ⟨_, rfl⟩
        rw [hL] at hpk
        have hll : L.length = l.length + k := by rw [← hL]; simp [bytesOf_length]
        have Hll := Lib.hid hll
        have HL := Lib.hid hL
        clear hll hL
        have hb0 := hpk.blk.cell 0
        have hb1 := hpk.blk.cell 1
        have hf0 := hpk.blk.frozen 0
        go_wp2_with fail
        have s1 := Lib.hid (hpk.row)
        have a1 : IntKind.i64.wrap (8 * (k : Int)) = 8 * (k : Int) := IntWalk.i64_in _ (by omega)
        have a2 : (0 : Int) ≤ 8 * (k : Int) := by omega
        have a3 : (8 * (k : Int)).toNat = 8 * k := by omega
        have a4 : 8 * (k : Int) ≤ 64 := by omega
        have hnew : ∀ j u, [Value.int .u8 (IntKind.u8.wrap (V / 2 ^ (8 * k)))][j]? = some u → (wr.drew.alloc (.cells #[.int .u8 (IntKind.u8.wrap (V / 2 ^ (8 * k)))] 5)).cell? ((⟨wr.heap.size, 0, none⟩ : Addr).add j) = some u :=
          World.news_of_block (cs := #[.int .u8 (IntKind.u8.wrap (V / 2 ^ (8 * k)))]) (t := 5) (fr := (0, 0)) (heap_alloc_new wr.drew _)
        have Hnew := Lib.hid hnew
        clear hnew
        have hsz := hfr.below.size
        have hgl := hpk.blk.lt
        have hb2 : ∀ o, (wr.alloc o).cell? ⟨g, 0, none⟩ = some vk := fun o => (World.cell?_alloc_past _ _ _ hgl).trans hb0
        go_region_law (refine step_append_lies _ rfl (.tmp 30) (.tmp 36) 53 rfl base 5 i0 (.int .u8 0) 1 1 Try.underlying53 hi hz0 hz1 hz2 rfl (by decide) vk _ _ rfl (s1.out.drew.alloc _) ⟨wr.heap.size, 0, none⟩ 1 1 _ rfl rfl Hnew.out ?h1 (by decide) ?h2 ?h3 ?h4 (wr.heap.size + 1) ?h5 ?_; (case h1 => exact fun u hu => by simp at hu; subst hu; rfl); (case h2 => rw [Hll.out]; unfold maxLen; omega); (case h3 => rw [Hll.out]; omega); (case h4 => simp; omega); (case h5 => simp); intro gn cap w1 hown hgrow hat hlt1; have kb := hpk.grown_blk (by decide) (((Below.refl _ _).alloc (Nat.le_refl _) _).drew) hgrow; have k0 := kb.cell 0; have kf := kb.frozen 0; clear kb)
        all_goals
          have hx := byteAt_wrap V k
          rw [hx] at hown
          have ho : w1.ownsRow base 5 1 (.slice (some ⟨gn, 0, none⟩) (L.length + 1) cap) (L ++ [byteAt V k]).length (nums .u8 (L ++ [byteAt V k])) := by
            rw [nums_append, List.length_append]; exact hown
          have R := hpk.grown (xs := [byteAt V k]) (by decide) (((Below.refl _ _).alloc (Nat.le_refl _) _).drew) (by omega) hgrow ho (by
            rcases hat with h | h
            · exact .inl (by rw [h]; rfl)
            · exact .inr ⟨gn, rfl, by omega⟩)
          rw [show L ++ [byteAt V k] = l ++ bytesOf V (k + 1) by rw [← HL.out, List.append_assoc, ← bytesOf_succ]] at R
          have HR := Lib.hid R
          clear R ho hown hgrow hat k0 kf hb0 hb1 hf0 hb2 Hnew
          go_wp2
          go_roundw
          case rel => exact ⟨k + 1, _, by omega, by go_num, HR.out.1, hfr.trans HR.out.2⟩
          case measure => simp [intOf]; omega
      · go_wp2_with fail
        go_end0
        obtain rfl : k = n := by omega
        exact ⟨rfl, vk, hpk, hfr⟩

set_option maxRecDepth 20000 in
/-- A number that has no such size, or does not fit. -/
theorem num_bad (g : Nat) (V n : Int) (w : World) (_hV0 : 0 ≤ V) (_hV64 : V < 18446744073709551616)
    (hn : szB n = false ∨ (n < 8 ∧ 256 ^ n.toNat ≤ V)) :
    Calls Try.prog 52 #[.pointer (some ⟨g, 0, none⟩), .int .u64 V, .int .i64 n] w fun e w' => e = .panicked [{ v := .iface 28 (.int .i64 11), recovered := false }] ∧ w = w' := by
  have Hn := Lib.hid hn
  clear hn
  go_enter Try.func52, Try.ntmps52
  go_upto_region 0 with (fail)
  go_cut [20] (fun v wc => v = .bool true ∧ w = wc)
  case first =>
    by_cases hs : szB n = true
    · have hn := (szB_iff _).1 hs
      have hn8 : n < 8 := by rcases Hn.out with h | h <;> simp_all
      obtain ⟨k, rfl⟩ := Int.eq_ofNat_of_zero_le (show 0 ≤ n by omega)
      have hk : 256 ^ k ≤ V := by rcases Hn.out with h | h <;> simp_all
      have Hk := Lib.hid hk
      have Hs := Lib.hid hs
      clear hk hs Hn hn
      go_wp2_with (go_at_call 75; refine (size_calls _ _).mono ?_; rintro e w' ⟨rfl, rfl⟩; rw [Hs.out])
      all_goals go_meet
      refine ⟨?_, rfl⟩
      have e : (2 : Int) ^ (8 * k) = 256 ^ k := by rw [show (256 : Int) = 2 ^ 8 from rfl, ← Int.pow_mul]
      have h0 : V / 2 ^ (8 * k) ≠ 0 := by
        rw [e]
        have hp : (0 : Int) < 256 ^ k := Int.pow_pos (by omega)
        have := Int.ediv_le_ediv hp Hk.out
        rw [Int.ediv_self (by omega)] at this
        omega
      simp [h0]
    · have Hs := Lib.hid (by simpa using hs : szB n = false)
      clear hs Hn
      go_wp2_with (go_at_call 75; refine (size_calls _ _).mono ?_; rintro e w' ⟨rfl, rfl⟩; rw [Hs.out])
      all_goals go_meet
      all_goals exact ⟨rfl, rfl⟩
  case rest =>
    obtain ⟨rfl, rfl⟩ := hcut
    go_wp2_with fail
    exact ⟨rfl, rfl, rfl⟩
end Go.Proofs.Ytadcpdpcpecooaa.Pk
