/- The reference's hex. (Printed by gen_t1.py.) -/
import Derived.Test.YtkcjgmicoifhcaaGreatDoorM10
import Derived.Test.YtkcjgmicoifhcaaGreatDoorM14
import Derived.Test.YtkcjgmicoifhcaaGreatDoorM0
namespace Go.Proofs.YtkcjgmicoifhcaaGreatDoor.Cn
open Go.RowKit Go.Sort Go.Lib Go.Shelf
open Vw (Tab str Blk)
attribute [local go_sem ↓] Go.wp_at_zero Go.wp_at_succ

theorem info5 : (Tryz.prog.info? 5).map (fun i => (i.zero, i.size, i.bytes)) = some (some (.int .u8 0), 1, 1) := by kernel_rfl
theorem make16 (W : World) : (Instr.makeSlice 76 (.int .i64 16) (.int .i64 16)).run Tryz.prog W = .ok (.slice (some ⟨W.heap.size, 0, none⟩) 16 16) (W.alloc (.cells #[.int .u8 0, .int .u8 0, .int .u8 0, .int .u8 0, .int .u8 0, .int .u8 0, .int .u8 0, .int .u8 0, .int .u8 0, .int .u8 0, .int .u8 0, .int .u8 0, .int .u8 0, .int .u8 0, .int .u8 0, .int .u8 0] 5)) := by
  obtain ⟨i0, hi, hz0, hz1, hz2⟩ := info_parts info5
  have h := run_make (P := Tryz.prog) W 76 5 i0 (.int .u8 0) Tryz.underlying76 hi hz0 .i64 .i64 16 16 (by omega) (by omega) (by rw [hz2]; omega) (by omega)
  rw [hz1] at h
  have em : madeCells (Value.int .u8 0).cells (Int.toNat 16 * 1) = #[.int .u8 0, .int .u8 0, .int .u8 0, .int .u8 0, .int .u8 0, .int .u8 0, .int .u8 0, .int .u8 0, .int .u8 0, .int .u8 0, .int .u8 0, .int .u8 0, .int .u8 0, .int .u8 0, .int .u8 0, .int .u8 0] := by kernel_rfl
  rw [h, em]
  rfl
theorem hexAt16_fin : ∀ d : Fin 16, (((⟨#[48, 49, 50, 51, 52, 53, 54, 55, 56, 57, 97, 98, 99, 100, 101, 102]⟩ : ByteArray)[d.val]?).map (·.toNat)) = some (hx d.val).toNat := by decide +kernel
theorem hexAt16 (d : Nat) (hd : d < 16) (h : d < (⟨#[48, 49, 50, 51, 52, 53, 54, 55, 56, 57, 97, 98, 99, 100, 101, 102]⟩ : ByteArray).size) : ((⟨#[48, 49, 50, 51, 52, 53, 54, 55, 56, 57, 97, 98, 99, 100, 101, 102]⟩ : ByteArray)[d]'h).toNat = (hx d).toNat := by
  have := hexAt16_fin ⟨d, hd⟩
  rw [ByteArray.getElem?_lt' _ _ h] at this
  exact Option.some.inj this
/-- The digits' cells: noughts, then digits. -/
structure Dh (w : World) (g : Nat) (L : List UInt8) : Prop where
  blk : ∃ cs, Blk w g 5 cs ∧ cs.size = 16 ∧ L.length ≤ 16 ∧ ∀ (j : Nat) (x : UInt8), L[j]? = some x → cs[16 - L.length + j]? = some (.int .u8 (x.toNat : Int))
theorem Dh.put {w : World} {g : Nat} {L : List UInt8} (h : Dh w g L) (c : UInt8) (hl : L.length < 16) : Dh (w.setCell ⟨g, 15 - L.length, none⟩ (.int .u8 (c.toNat : Int))) g (c :: L) := by
  obtain ⟨cs, h1, h2, h3, h4⟩ := h.blk
  refine ⟨_, h1.set_ (15 - L.length) (.int .u8 (c.toNat : Int)), by rw [Array.size_setIfInBounds, h2], by simp; omega, fun j x hx => ?_⟩
  rw [List.length_cons]
  rw [Array.getElem?_setIfInBounds]
  cases j with
  | zero =>
    obtain rfl : c = x := by simpa using hx
    rw [if_pos (by omega), if_pos (by omega)]
  | succ j =>
    rw [if_neg (by omega), show 16 - (L.length + 1) + (j + 1) = 16 - L.length + j by omega]
    exact h4 j x (by simpa using hx)
theorem Dh.cell {w : World} {g : Nat} {L : List UInt8} (h : Dh w g L) (i : Nat) (hi : i < 16) : ∃ v, w.cell? ⟨g, i, none⟩ = some v := by
  obtain ⟨cs, h1, h2, _, _⟩ := h.blk
  exact ⟨cs[i]'(by omega), by rw [h1.cell i, Array.getElem?_eq_getElem]⟩
theorem Dh.frozen {w : World} {g : Nat} {L : List UInt8} (h : Dh w g L) (i : Nat) : w.frozen? ⟨g, i, none⟩ = false := by
  obtain ⟨cs, h1, _, _, _⟩ := h.blk
  exact h1.frozen i
theorem Dh.digit {w : World} {g : Nat} {L : List UInt8} (h : Dh w g L) (j : Nat) (x : UInt8) (hx : L[j]? = some x) : w.cell? ⟨g, 16 - L.length + j, none⟩ = some (.int .u8 (x.toNat : Int)) := by
  obtain ⟨cs, h1, _, _, h4⟩ := h.blk
  rw [h1.cell]
  exact h4 j x hx
set_option maxRecDepth 100000 in
set_option maxHeartbeats 8000000 in
theorem rhex_calls (x : Nat) (hx64 : x < 18446744073709551616) (w : World) :
    Calls Tryz.prog 32 #[.float .f64 x] w fun e w' => e = .returned (.string (str (hexT (bitU x)))) ∧ Below w.heap.size w w' := by
  have hal := (Below.refl w.heap.size w).alloc (Nat.le_refl _) (.cells #[.int .u8 0, .int .u8 0, .int .u8 0, .int .u8 0, .int .u8 0, .int .u8 0, .int .u8 0, .int .u8 0, .int .u8 0, .int .u8 0, .int .u8 0, .int .u8 0, .int .u8 0, .int .u8 0, .int .u8 0, .int .u8 0] 5)
  have hD0 : Dh (w.alloc (.cells #[.int .u8 0, .int .u8 0, .int .u8 0, .int .u8 0, .int .u8 0, .int .u8 0, .int .u8 0, .int .u8 0, .int .u8 0, .int .u8 0, .int .u8 0, .int .u8 0, .int .u8 0, .int .u8 0, .int .u8 0, .int .u8 0] 5)) w.heap.size [] := ⟨_, Blk.new w 5 #[.int .u8 0, .int .u8 0, .int .u8 0, .int .u8 0, .int .u8 0, .int .u8 0, .int .u8 0, .int .u8 0, .int .u8 0, .int .u8 0, .int .u8 0, .int .u8 0, .int .u8 0, .int .u8 0, .int .u8 0, .int .u8 0], rfl, by simp, fun j x hx => by simp at hx⟩
  have HD0 := Lib.hid hD0
  have HB0 := Lib.hid hal
  have hmk := make16
  have HBi := Lib.hid (Re.rbits_calls x w)
  obtain ⟨u, hu⟩ : ∃ u, bitU x = u := ⟨_, rfl⟩
  rw [← bitU_eq x, hu] at HBi
  have hu64 : u < 18446744073709551616 := by rw [← hu]; exact bitU_lt x hx64
  have HU := Lib.hid hu64
  rw [hu]
  clear hal hD0 hu hx64 hu64
  go_enter Tryz.func32, Tryz.ntmps32
  go_wp2_with fail
  refine HBi.out.mono ?_
  rintro e w0 ⟨rfl, rfl⟩
  go_wp2_with fail
  generalize w0.alloc (.cells #[.int .u8 0, .int .u8 0, .int .u8 0, .int .u8 0, .int .u8 0, .int .u8 0, .int .u8 0, .int .u8 0, .int .u8 0, .int .u8 0, .int .u8 0, .int .u8 0, .int .u8 0, .int .u8 0, .int .u8 0, .int .u8 0] 5) = w1 at *
  obtain ⟨g, hg⟩ : ∃ g, w0.heap.size = g := ⟨_, rfl⟩
  have HG := Lib.hid hg
  rw [hg] at HD0
  rw [hg]
  clear hg hmk
  go_loopw [3, 5] (fun vu vi wr => ∃ (L : List UInt8) (v n : Nat) (a i : Int), vu = .int .u64 a ∧ vi = .int .i64 i ∧ Dh wr g L ∧ Below w0.heap.size w0 wr ∧ Hid (a = (v : Int) ∧ v < 18446744073709551616 ∧ i + 1 = (n : Int) ∧ n + L.length = 16 ∧ hexL u 16 = hexL v n ++ L)) (fun _ vi _ => (RowKit.intOf vi + 1).toNat)
  case atStart => exact ⟨[], u, 16, u, 15, rfl, rfl, HD0.out, HB0.out, rfl, HU.out, rfl, rfl, by simp⟩
  case round =>
    obtain ⟨L, v, n, a, i, rfl, rfl, hD, hB, hh⟩ := hrel
    have HD := Lib.hid hD
    have HB := Lib.hid hB
    obtain ⟨ha, hv, hi, hn, hE⟩ := hh.out
    by_cases h0 : n = 0
    · have hi0 : i < 0 := by omega
      have hiN : ¬ 0 ≤ i := by omega
      have HRes : Hid (hexL u 16 = L) := Lib.hid (by rw [hE, h0]; rfl)
      have hlen : 16 = L.length := by omega
      have hcv : (convert 76 9 (.slice (some ⟨g, 0, none⟩) 16 16)).run Tryz.prog wr = .ok (.string (str L)) wr := by
        have := run_convert_bytes_back (P := Tryz.prog) wr 76 9 5 ⟨g, 0, none⟩ 16 L Tryz.underlying76 Tryz.underlying5 Tryz.underlying9 (fun j hj => by
          have := hD.digit j _ (List.getElem?_eq_getElem hj)
          rw [show 16 - L.length = 0 by omega] at this
          rw [Lib.add_plain]
          exact this)
        rw [← hlen] at this
        exact this
      clear hh ha hn hE hD hB hi hlen
      go_wp2_with fail
      go_ret
      exact ⟨by unfold hexT; rw [HRes.out]; rfl, HB.out⟩
    · obtain ⟨k, rfl⟩ : ∃ k, n = k + 1 := ⟨n - 1, by omega⟩
      obtain rfl : i = (k : Int) := by omega
      have hk : k = 15 - L.length := by omega
      obtain ⟨val, hval⟩ := hD.cell k (by omega)
      have hfr := hD.frozen k
      have hk1 : (k : Int) < 16 := by omega
      have hk0 : (0 : Int) ≤ (k : Int) := by omega
      have ha0 : 0 ≤ a := by omega
      have ha64 : a < 18446744073709551616 := by omega
      obtain ⟨m, hm⟩ : ∃ m, v % 16 = m := ⟨_, rfl⟩
      have hm16 : m < 16 := by omega
      have hmA : a % 16 = (m : Int) := by omega
      have hmI : (m : Int) < 16 := by omega
      have HNx : Hid (a / 16 = ((v / 16 : Nat) : Int) ∧ v / 16 < 18446744073709551616 ∧ (k : Int) - 1 + 1 = (k : Int) ∧ k + (hx m :: L).length = 16 ∧ hexL u 16 = hexL (v / 16) k ++ (hx m :: L)) := Lib.hid ⟨by omega, by omega, by omega, by rw [List.length_cons]; omega, by rw [hE, hexL, hm, List.append_assoc]; rfl⟩
      have HP := Lib.hid (hD.put (hx m) (by omega))
      rw [← hk] at HP
      clear hh ha hv hn hE hD hB hm hk h0 hi
      go_wp2_with fail
      go_roundw
      case rel => exact ⟨hx m :: L, v / 16, k, a / 16, (k : Int) - 1, by rfl, by rfl, Eq.mpr (congrArg (fun z : Nat => Dh (wr.setCell ⟨g, k, none⟩ (.int .u8 (z : Int))) g (hx m :: L)) (hexAt16 m hm16 (by show m < 16; omega))) HP.out, HB.out.setCell (p := ⟨g, k, none⟩) (by rw [HG.out]; exact Nat.le_refl _) _, HNx⟩
      case measure => simp [RowKit.intOf]
end Go.Proofs.YtkcjgmicoifhcaaGreatDoor.Cn
