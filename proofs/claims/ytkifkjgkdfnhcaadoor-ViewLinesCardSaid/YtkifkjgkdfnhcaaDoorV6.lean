/- Words of both: Itoa, Whole, word, Status. -/
import Derived.Test.YtkifkjgkdfnhcaaDoorV5
import Derived.Lib.ItoaLen
namespace Go.Proofs.YtkifkjgkdfnhcaaDoor.Vw
open Go.RowKit Go.Sort Go.Lib Go.Shelf
attribute [local go_sem ↓] Go.wp_at_zero Go.wp_at_succ

theorem itoa_calls (n : Int) (h0 : -9223372036854775808 ≤ n) (h1 : n ≤ 9223372036854775807) (w : World) (htab : Tab w) :
    Calls Tryd.prog 26 #[.int .i64 n] w fun e w' => e = .returned (.string (str (Lib.itoa n))) ∧ Below w.heap.size w w' :=
  (Tryd.strconv_Itoa n h0 h1 w htab).mono fun e w' ⟨h, k, os, hw⟩ => by
    subst hw
    exact ⟨h, (below_drewN (Below.refl w.heap.size w) k).trans (below_grow (w.drewN k) os)⟩
def wholeN (m : Int) : Int := max m 0 / 1000000
set_option maxRecDepth 20000 in
theorem whole_calls (m : Int) (h0 : -9223372036854775808 ≤ m) (h1 : m ≤ 9223372036854775807) (w : World) : Calls Tryd.prog 28 #[.int .i64 m] w fun e w' => e = .returned (.int .i64 (wholeN m)) ∧ w' = w := by
  have HW : Hid (wholeN m = max m 0 / 1000000) := Lib.hid rfl
  have hm : 0 ≤ max m 0 ∧ max m 0 ≤ 9223372036854775807 := by omega
  go_enter Tryd.func28, Tryd.ntmps28
  go_wp2_with fail
  go_ret
  exact ⟨by rw [HW.out]; rfl, rfl⟩
set_option maxRecDepth 20000 in
theorem rwhole_calls (m : Int) (h0 : -9223372036854775808 ≤ m) (h1 : m ≤ 9223372036854775807) (w : World) : Calls Tryd.prog 31 #[.int .i64 m] w fun e w' => e = .returned (.int .i64 (wholeN m)) ∧ w' = w := by
  by_cases h : m < 0
  · have HW : Hid (wholeN m = 0) := Lib.hid (by unfold wholeN; omega)
    go_enter Tryd.func31, Tryd.ntmps31
    go_wp2_with fail
    go_ret
    exact ⟨by rw [HW.out]; rfl, rfl⟩
  · have HW : Hid (wholeN m = m / 1000000) := Lib.hid (by unfold wholeN; omega)
    go_enter Tryd.func31, Tryd.ntmps31
    go_wp2_with fail
    go_ret
    exact ⟨by rw [HW.out]; rfl, rfl⟩
/-- One of some words; '?' of none. -/
def wordL (ss : List (List UInt8)) (i : Int) : List UInt8 := if i < 0 ∨ (ss.length : Int) ≤ i then [63] else if ss.getD i.toNat [] = [] then [63] else ss.getD i.toNat []
abbrev strs (ss : List (List UInt8)) : Array Value := (ss.map fun l => Value.string (str l)).toArray
set_option maxRecDepth 20000 in
set_option maxHeartbeats 1000000 in
theorem word_calls (b n : Nat) (ss : List (List UInt8)) (i : Int) (t : TypeId) (w : World) (hB : Blk w b t (strs ss)) (hn : ss.length = n) (h100 : n ≤ 100) :
    Calls Tryd.prog 27 #[.slice (some ⟨b, 0, none⟩) n n, .int .i64 i] w fun e w' => e = .returned (.string (str (wordL ss i))) ∧ w' = w := by
  by_cases h1 : i < 0
  · have HW : Hid (wordL ss i = [63]) := Lib.hid (by unfold wordL; rw [if_pos (.inl h1)])
    clear hB
    go_enter Tryd.func27, Tryd.ntmps27
    go_wp2_with fail
    go_ret
    exact ⟨by rw [HW.out]; rfl, rfl⟩
  · by_cases h2 : (n : Int) ≤ i
    · have HW : Hid (wordL ss i = [63]) := Lib.hid (by unfold wordL; rw [if_pos (.inr (by rw [hn]; exact h2))])
      clear hB hn
      go_enter Tryd.func27, Tryd.ntmps27
      go_wp2_with fail
      go_ret
      exact ⟨by rw [HW.out]; rfl, rfl⟩
    · obtain ⟨j, rfl⟩ : ∃ j : Nat, i = (j : Int) := ⟨i.toNat, by omega⟩
      have hj : j < n := by omega
      have hc := hB.cell j
      have hx : (strs ss)[j]? = some (.string (str (ss.getD j []))) := by
        have hj2 : j < ss.length := by omega
        simp [strs, hj2]
      rw [hx] at hc
      have HW : Hid (wordL ss (j : Int) = if ss.getD j [] = [] then [63] else ss.getD j []) := Lib.hid (by
        unfold wordL
        rw [if_neg (by omega), Int.toNat_natCast])
      generalize ss.getD j [] = x at *
      clear hB hn hx
      have hj0 : (0 : Int) ≤ (j : Int) := by omega
      have hj1 : (j : Int) < (n : Int) := by omega
      cases x with
      | nil =>
        have hs : (str []).toList = [] := by rw [Lib.toList_data]
        go_enter Tryd.func27, Tryd.ntmps27
        go_wp2_with fail
        go_ret
        exact ⟨by rw [HW.out]; rfl, rfl⟩
      | cons a r =>
        have hs : (str (a :: r)).toList.isEmpty = false := by
          rw [Lib.toList_data]
          rfl
        go_enter Tryd.func27, Tryd.ntmps27
        go_wp2_with fail
        go_ret
        exact ⟨by rw [HW.out]; rfl, rfl⟩
def statusW : List (List UInt8) := [[], [115, 99, 104, 111, 111, 108], [103, 114, 97, 99, 101], [100, 101, 102, 101, 114, 109, 101, 110, 116], [102, 111, 114, 98, 101, 97, 114], [114, 101, 112, 97, 121]]
def closedW : List (List UInt8) := [[111, 112, 101, 110], [112, 97, 105, 100], [102, 111, 114, 103, 105, 118, 101, 110], [100, 105, 115, 99, 104, 97, 114, 103, 101, 100], [99, 111, 110, 115, 111, 108, 105, 100, 97, 116, 101, 100]]
set_option maxRecDepth 20000 in
set_option maxHeartbeats 4000000 in
theorem status_calls (i : Int) (w : World) : Calls Tryd.prog 30 #[.int .i64 i] w fun e w' => e = .returned (.string (str (wordL statusW i))) ∧ Below w.heap.size w w' := by
  by_cases h1 : i < 1
  · have HW : Hid (wordL statusW i = [63]) := Lib.hid (by
      unfold wordL
      by_cases h : i < 0
      · rw [if_pos (.inl h)]
      · obtain rfl : i = 0 := by omega
        rfl)
    go_enter Tryd.func30, Tryd.ntmps30
    go_wp2_with fail
    go_ret
    exact ⟨by rw [HW.out]; rfl, Below.refl _ _⟩
  · by_cases h2 : 5 < i
    · have HW : Hid (wordL statusW i = [63]) := Lib.hid (by
        unfold wordL
        rw [if_pos (.inr (by show (6 : Int) ≤ i; omega))])
      go_enter Tryd.func30, Tryd.ntmps30
      go_wp2_with fail
      go_ret
      exact ⟨by rw [HW.out]; rfl, Below.refl _ _⟩
    · have h5 : i = 1 ∨ i = 2 ∨ i = 3 ∨ i = 4 ∨ i = 5 := by omega
      have HB := Lib.hid ((Below.refl w.heap.size w).alloc (Nat.le_refl _) (.cells #[.string (str [115, 99, 104, 111, 111, 108]), .string (str [103, 114, 97, 99, 101]), .string (str [100, 101, 102, 101, 114, 109, 101, 110, 116]), .string (str [102, 111, 114, 98, 101, 97, 114]), .string (str [114, 101, 112, 97, 121])] 9))
      clear h1 h2
      rcases h5 with rfl | rfl | rfl | rfl | rfl <;>
        (go_enter Tryd.func30, Tryd.ntmps30
         go_wp2_with fail
         go_ret
         exact ⟨rfl, HB.out⟩)
end Go.Proofs.YtkifkjgkdfnhcaaDoor.Vw
