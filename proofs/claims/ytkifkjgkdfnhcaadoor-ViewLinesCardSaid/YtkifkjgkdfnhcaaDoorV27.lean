/- annuitykeep.Large: is a state too large to be gone through? -/
import Derived.Test.YtkifkjgkdfnhcaaDoorV25
namespace Go.Proofs.YtkifkjgkdfnhcaaDoor.Vw
open Go.RowKit Go.Sort Go.Lib Go.Shelf
attribute [local go_sem ↓] Go.wp_at_zero Go.wp_at_succ

/-- Not too large. -/
def Small (s : St) : Prop := s.loans.length ≤ 100 ∧ s.bills.length ≤ 400 ∧ ∀ x ∈ s.bills, x.sn ≤ 100
def LargeE (s : St) (e : Ending) : Prop := ∃ b : Bool, e = .returned (.bool b) ∧ (b = false → Small s)
set_option maxRecDepth 20000 in
set_option maxHeartbeats 8000000 in
theorem large_calls (s : St) (w : World) (hS : StIn w s) : Calls Tryd.prog 16 #[s.v] w fun e w' => LargeE s e ∧ Below w.heap.size w w' := by
  have hal := (Below.refl w.heap.size w).alloc (Nat.le_refl _) (.cells s.cells 41)
  have hx1 := Blk.new w 41 s.cells
  have hs1 := hS.below hal
  have HX := Lib.hid hx1
  have HS := Lib.hid hs1.bills
  have HB := Lib.hid hal
  clear hal hx1 hs1 hS
  by_cases q0 : (100 : Int) < (s.loans.length : Int)
  · have d0 : decide ((100 : Int) < (s.loans.length : Int)) = true := decide_eq_true q0
    go_enter Tryd.func16, Tryd.ntmps16
    go_upto_region 1 with fail
    generalize w.alloc (.cells s.cells 41) = w1 at *
    have x1 : w1.cell? ⟨w.heap.size, 1, none⟩ = some (.slice s.lp s.loans.length s.lc) := HX.out.cell 1
    go_wp2_with fail
    go_ret
    exact ⟨⟨true, rfl, fun h => by cases h⟩, HB.out⟩
  · have d0 : decide ((100 : Int) < (s.loans.length : Int)) = false := decide_eq_false q0
    by_cases q1 : (400 : Int) < (s.bills.length : Int)
    · have d1 : decide ((400 : Int) < (s.bills.length : Int)) = true := decide_eq_true q1
      go_enter Tryd.func16, Tryd.ntmps16
      go_upto_region 1 with fail
      generalize w.alloc (.cells s.cells 41) = w1 at *
      have x1 : w1.cell? ⟨w.heap.size, 1, none⟩ = some (.slice s.lp s.loans.length s.lc) := HX.out.cell 1
      have x6 : w1.cell? ⟨w.heap.size, 6, none⟩ = some (.slice s.bp s.bills.length s.bc) := HX.out.cell 6
      go_wp2_with fail
      go_ret
      exact ⟨⟨true, rfl, fun h => by cases h⟩, HB.out⟩
    · have d1 : decide ((400 : Int) < (s.bills.length : Int)) = false := decide_eq_false q1
      have HQ0 := Lib.hid q0
      have HQ1 := Lib.hid q1
      clear q0 q1
      go_enter Tryd.func16, Tryd.ntmps16
      go_upto_region 1 with fail
      generalize w.alloc (.cells s.cells 41) = w1 at *
      have x1 : w1.cell? ⟨w.heap.size, 1, none⟩ = some (.slice s.lp s.loans.length s.lc) := HX.out.cell 1
      have x6 : w1.cell? ⟨w.heap.size, 6, none⟩ = some (.slice s.bp s.bills.length s.bc) := HX.out.cell 6
      go_wp2_with fail
      go_loop [3] (fun i => ∃ k : Nat, k ≤ s.bills.length ∧ i = .int .i64 (k : Int) ∧ ∀ j x, j < k → s.bills[j]? = some x → x.sn ≤ 100) (fun i => s.bills.length - (RowKit.intOf i).toNat)
      case atStart => exact ⟨0, Nat.zero_le _, rfl, fun j x hj => by omega⟩
      case round =>
        obtain ⟨k, hk, rfl, hall⟩ := hrel
        have HA := Lib.hid hall
        have hlen : s.bills.length ≤ 400 := by have := HQ1.out; omega
        clear hall
        by_cases h2 : k < s.bills.length
        · obtain ⟨x, hx⟩ : ∃ x, s.bills[k]? = some x := ⟨s.bills[k], by rw [List.getElem?_eq_getElem h2]⟩
          obtain ⟨b, off, hp, hb, hc⟩ := HS.out.at (i := k) (by simpa using h2)
          have a5 : w1.cell? ⟨b, off + k * 6 + 5, none⟩ = some (.slice x.sp x.sn x.sc) := hc k x.cells (by rw [List.getElem?_map, hx]; rfl) 5 (by decide)
          have HXk := Lib.hid hx
          have hk0 : (0 : Int) ≤ (k : Int) := by omega
          have hk1 : (k : Int) < (s.bills.length : Int) := by omega
          clear hc hx hb
          rw [hp] at x6
          by_cases q3 : (100 : Int) < (x.sn : Int)
          · have d3 : decide ((100 : Int) < (x.sn : Int)) = true := decide_eq_true q3
            clear q3
            go_wp2_with fail
            go_ret
            exact ⟨⟨true, rfl, fun h => by cases h⟩, HB.out⟩
          · have d3 : decide ((100 : Int) < (x.sn : Int)) = false := decide_eq_false q3
            have HQ3 := Lib.hid q3
            clear q3
            go_wp2_with fail
            go_round
            case rel => exact ⟨k + 1, by omega, by go_num, fun j y hj hy => by
              rcases Nat.lt_succ_iff_lt_or_eq.1 hj with h | rfl
              · exact HA.out j y h hy
              · have := HQ3.out
                rw [HXk.out] at hy
                obtain rfl := Option.some.inj hy
                omega⟩
            case measure => simp [RowKit.intOf]; omega
        · go_wp2_with fail
          go_ret
          exact ⟨⟨false, rfl, fun _ => ⟨by have := HQ0.out; omega, by have := HQ1.out; omega, fun x hx => by
            obtain ⟨j, hj, rfl⟩ := List.mem_iff_getElem.1 hx
            exact HA.out j _ (by omega) (List.getElem?_eq_getElem hj)⟩⟩, HB.out⟩
end Go.Proofs.YtkifkjgkdfnhcaaDoor.Vw
