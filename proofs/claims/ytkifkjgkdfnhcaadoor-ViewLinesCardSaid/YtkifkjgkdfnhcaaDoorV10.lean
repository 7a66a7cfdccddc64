/- loan.Good. (Printed by gen_v10.py.) -/
import Derived.Test.YtkifkjgkdfnhcaaDoorV9
import Derived.Test.YtkifkjgkdfnhcaaDoorV7
namespace Go.Proofs.YtkifkjgkdfnhcaaDoor.Vw
open Go.RowKit Go.Sort Go.Lib Go.Shelf

def centsB (xs : List Int) : Bool := xs.all fun a => decide (0 ≤ a) && goodM a
set_option maxRecDepth 20000 in
set_option maxHeartbeats 4000000 in
theorem cents_calls (xs : List Int) (bk off cap : Nat) (w : World) (hc : ∀ j x, xs[j]? = some x → w.cell? ⟨bk, off + j, none⟩ = some (.int .i64 x)) (hlen : xs.length ≤ 1000000) (hcap : xs.length ≤ cap) :
    Calls Tryd.prog 84 #[.slice (some ⟨bk, off, none⟩) xs.length cap] w fun e w' => e = .returned (.bool (centsB xs)) ∧ w = w' := by
  have HC := Lib.hid hc
  have HM := Lib.hid (fun a W => mgood_calls a W)
  clear hc
  go_enter Tryd.func84, Tryd.ntmps84
  go_wp2_with fail
  go_loop [7] (fun i => ∃ k : Nat, k ≤ xs.length ∧ i = .int .i64 (k : Int) ∧ centsB (xs.take k) = true) (fun i => xs.length - (RowKit.intOf i).toNat)
  case atStart => exact ⟨0, Nat.zero_le _, rfl, rfl⟩
  case round =>
    obtain ⟨k, hk, rfl, hg⟩ := hrel
    have Hg := Lib.hid hg
    clear hg
    by_cases h2 : k < xs.length
    · obtain ⟨x, hx⟩ : ∃ x, xs[k]? = some x := ⟨xs[k], by rw [List.getElem?_eq_getElem h2]⟩
      have hcell := HC.out k x hx
      have HX := Lib.hid hx
      have hk0 : (0 : Int) ≤ (k : Int) := by omega
      have hk1 : (k : Int) < (xs.length : Int) := by omega
      have HNo : Hid ((decide (0 ≤ x) && goodM x) = false → centsB xs = false) := Lib.hid (fun h => by
        refine Bool.eq_false_iff.2 fun hall => ?_
        have := List.all_eq_true.1 hall x (List.mem_of_getElem? HX.out)
        rw [h] at this
        cases this)
      have HYes : Hid ((decide (0 ≤ x) && goodM x) = true → centsB (xs.take (k + 1)) = true) := Lib.hid (fun h => by
        unfold centsB
        rw [List.take_add_one, HX.out, List.all_append]
        have := Hg.out
        unfold centsB at this
        rw [this]
        simpa using h)
      clear hx
      by_cases hneg : x < 0
      · have HN := Lib.hid (HNo.out (by rw [decide_eq_false (by omega)]; rfl))
        go_wp2_with fail
        go_ret
        exact ⟨by rw [HN.out]; rfl, rfl⟩
      · have hp : decide (0 ≤ x) = true := decide_eq_true (by omega)
        rw [hp] at HNo HYes
        obtain ⟨g, hgx⟩ : ∃ g, goodM x = g := ⟨_, rfl⟩
        have HMx := Lib.hid (HM.out x)
        rw [hgx] at HNo HYes HMx
        clear hgx hp
        cases g with
        | false =>
          have HN := Lib.hid (HNo.out rfl)
          go_wp2_with fail
          refine (HMx.out _).mono ?_
          rintro e w1 ⟨rfl, rfl⟩
          go_wp2_with fail
          go_ret
          exact ⟨by rw [HN.out]; rfl, rfl⟩
        | true =>
          have HN := Lib.hid (HYes.out rfl)
          clear HNo HYes
          go_wp2_with fail
          refine (HMx.out _).mono ?_
          rintro e w1 ⟨rfl, rfl⟩
          go_wp2_with fail
          go_round
          case rel => exact ⟨k + 1, by omega, by go_num, HN.out⟩
          case measure => simp [RowKit.intOf]; omega
    · have hke : k = xs.length := by omega
      have HN : Hid (centsB xs = true) := Lib.hid (by have := Hg.out; rw [hke, List.take_length] at this; exact this)
      go_wp2_with fail
      go_ret
      exact ⟨by rw [HN.out]; rfl, rfl⟩
end Go.Proofs.YtkifkjgkdfnhcaaDoor.Vw
