/- bill.Open, bill.Late, view.Late: some number. -/
import Derived.Test.YtkifkjgkdfnhcaaDoorV23
namespace Go.Proofs.YtkifkjgkdfnhcaaDoor.Vw
open Go.RowKit Go.Sort Go.Lib Go.Shelf

set_option maxRecDepth 20000 in
theorem opened_calls (x : Bl) (w : World) : Calls Tryd.prog 82 #[x.v] w fun e w' => e = .returned (.bool (decide (0 < x.left))) ∧ Below w.heap.size w w' := by
  have HX := Lib.hid (Blk.new w 26 x.cells)
  have HB := Lib.hid ((Below.refl w.heap.size w).alloc (Nat.le_refl _) (.cells x.cells 26))
  go_enter Tryd.func82, Tryd.ntmps82
  go_upto_region 1 with fail
  generalize w.alloc (.cells x.cells 26) = w1 at *
  have k2 : w1.cell? ⟨w.heap.size, 2, none⟩ = some (.int .i64 x.left) := HX.out.cell 2
  go_wp2_with fail
  go_ret
  exact ⟨rfl, HB.out⟩
/-- A place in a list, or -1. -/
def IdxOf (n : Nat) (e : Ending) : Prop := ∃ i : Int, e = .returned (.int .i64 i) ∧ (i = -1 ∨ (0 ≤ i ∧ i < n))
set_option maxRecDepth 20000 in
set_option maxHeartbeats 8000000 in
theorem index_calls (L : List Bl) (p : Option Addr) (cap : Nat) (w : World) (hS : Sl w p 6 (L.map Bl.cells) cap) (h64 : L.length ≤ 100000) :
    Calls Tryd.prog 81 #[.slice p L.length cap, .func (.func 82) #[] #[]] w fun e w' => IdxOf L.length e ∧ Below w.heap.size w w' := by
  have HS := Lib.hid hS
  have he : ∀ (v : Value) (W : World), (callFunc 82 #[v]).run Tryd.prog W = .ok (.enter 82 #[v]) W := fun v => enters_of Tryd.func82 (by kernel_rfl) rfl _
  clear hS
  go_enter Tryd.func81, Tryd.ntmps81
  go_wp2_with fail
  go_loopw [8] (fun i wr => ∃ (k : Nat), k ≤ L.length ∧ i = .int .i64 (k : Int) ∧ Below w.heap.size w wr) (fun i _ => L.length - (RowKit.intOf i).toNat)
  case atStart => exact ⟨0, Nat.zero_le _, rfl, Below.refl _ _⟩
  case round =>
    obtain ⟨k, hk, rfl, hB⟩ := hrel
    have HB := Lib.hid hB
    by_cases h2 : k < L.length
    · obtain ⟨x, hx⟩ : ∃ x, L[k]? = some x := ⟨L[k], by rw [List.getElem?_eq_getElem h2]⟩
      obtain ⟨b, off, rfl, hb, hc⟩ := (HS.out.below hB).at (i := k) (by simpa using h2)
      have hcell : ∀ j, j < 6 → wr.cell? ⟨b, off + k * 6 + j, none⟩ = x.cells[j]? := fun j hj => hc k x.cells (by rw [List.getElem?_map, hx]; rfl) j hj
      have a0 : wr.cell? ⟨b, off + k * 6, none⟩ = some (.int .i64 x.month) := hcell 0 (by decide)
      have a1 : wr.cell? ⟨b, off + k * 6 + 1, none⟩ = some (.int .i64 x.amount) := hcell 1 (by decide)
      have a2 : wr.cell? ⟨b, off + k * 6 + 2, none⟩ = some (.int .i64 x.left) := hcell 2 (by decide)
      have a3 : wr.cell? ⟨b, off + k * 6 + 3, none⟩ = some (.int .i64 x.covered) := hcell 3 (by decide)
      have a4 : wr.cell? ⟨b, off + k * 6 + 4, none⟩ = some (.int .i64 x.plan) := hcell 4 (by decide)
      have a5 : wr.cell? ⟨b, off + k * 6 + 5, none⟩ = some (.slice x.sp x.sn x.sc) := hcell 5 (by decide)
      have hk0 : (0 : Int) ≤ (k : Int) := by omega
      have hk1 : (k : Int) < (L.length : Int) := by omega
      have HO := Lib.hid (fun W => opened_calls x W)
      clear hcell hx hc hB hb
      have he' := he x.v
      cases hq : decide (0 < x.left) with
      | true =>
        rw [hq] at HO
        clear hq
        go_wp2_with fail
        refine (HO.out _).mono ?_
        rintro e w2 ⟨rfl, hb2⟩
        have HB2 := Lib.hid (HB.out.trans (hb2.mono HB.out.size))
        clear hb2
        go_wp2_with fail
        go_ret
        exact ⟨⟨_, rfl, .inr ⟨by omega, by omega⟩⟩, HB2.out⟩
      | false =>
        rw [hq] at HO
        clear hq
        go_wp2_with fail
        refine (HO.out _).mono ?_
        rintro e w2 ⟨rfl, hb2⟩
        have HB2 := Lib.hid (HB.out.trans (hb2.mono HB.out.size))
        clear hb2
        go_wp2_with fail
        go_roundw
        case rel => exact ⟨k + 1, by omega, by go_num, HB2.out⟩
        case measure => simp [RowKit.intOf]; omega
    · go_wp2_with fail
      go_ret
      exact ⟨⟨-1, rfl, .inl rfl⟩, HB.out⟩
set_option maxRecDepth 20000 in
theorem open_calls (L : List Bl) (p : Option Addr) (cap : Nat) (w : World) (hS : Sl w p 6 (L.map Bl.cells) cap) (h64 : L.length ≤ 100000) :
    Calls Tryd.prog 64 #[.slice p L.length cap] w fun e w' => IdxOf L.length e ∧ Below w.heap.size w w' := by
  have HG := Lib.hid (fun W (hB : Below w.heap.size w W) => bgood_calls L p cap W (hS.below hB) h64)
  have HI := Lib.hid (fun W (hB : Below w.heap.size w W) => index_calls L p cap W (hS.below hB) h64)
  clear hS
  go_enter Tryd.func64, Tryd.ntmps64
  go_wp2_with fail
  refine (HG.out _ (Below.refl _ _)).mono ?_
  rintro e w1 ⟨⟨b, rfl⟩, hb1⟩
  have HB1 := Lib.hid hb1
  clear hb1
  cases b with
  | false =>
    go_wp2_with fail
    go_ret
    exact ⟨⟨-1, rfl, .inl rfl⟩, HB1.out⟩
  | true =>
    go_wp2_with fail
    refine (HI.out _ HB1.out).mono ?_
    rintro e w2 ⟨⟨i, rfl, hi⟩, hb2⟩
    have HB2 := Lib.hid (HB1.out.trans (hb2.mono HB1.out.size))
    clear hb2
    go_wp2_with fail
    go_ret
    exact ⟨⟨i, rfl, hi⟩, HB2.out⟩
/-- Some number is given back. -/
def IsN (e : Ending) : Prop := ∃ i : Int, e = .returned (.int .i64 i) ∧ -9223372036854775808 ≤ i ∧ i ≤ 9223372036854775807
set_option maxRecDepth 20000 in
set_option maxHeartbeats 8000000 in
theorem blate_calls (L : List Bl) (p : Option Addr) (cap : Nat) (day : Int) (w : World) (hS : Sl w p 6 (L.map Bl.cells) cap) (h64 : L.length ≤ 100000) :
    Calls Tryd.prog 48 #[.slice p L.length cap, .int .i64 day] w fun e w' => IsN e ∧ Below w.heap.size w w' := by
  have HS := Lib.hid hS
  have HO := Lib.hid (open_calls L p cap w hS h64)
  have HG := Lib.hid (fun W => gday_calls day W)
  clear hS
  go_enter Tryd.func48, Tryd.ntmps48
  go_wp2_with fail
  refine HO.out.mono ?_
  rintro e w1 ⟨⟨i, rfl, hi⟩, hb1⟩
  have HB1 := Lib.hid hb1
  clear hb1
  by_cases h0 : i < 0
  · clear hi
    go_wp2_with fail
    go_ret
    exact ⟨⟨0, rfl, by decide, by decide⟩, HB1.out⟩
  · obtain ⟨k, rfl⟩ : ∃ k : Nat, i = (k : Int) := ⟨i.toNat, by omega⟩
    have h2 : k < L.length := by omega
    obtain ⟨x, hx⟩ : ∃ x, L[k]? = some x := ⟨L[k], by rw [List.getElem?_eq_getElem h2]⟩
    obtain ⟨b, off, rfl, hb, hc⟩ := (HS.out.below HB1.out).at (i := k) (by simpa using h2)
    have a0 : w1.cell? ⟨b, off + k * 6, none⟩ = some (.int .i64 x.month) := hc k x.cells (by rw [List.getElem?_map, hx]; rfl) 0 (by decide)
    have hk0 : (0 : Int) ≤ (k : Int) := by omega
    have hk1 : (k : Int) < (L.length : Int) := by omega
    have HF := Lib.hid (fun W => first_calls x.month W)
    clear hc hx hb hi
    cases hg : goodD day with
    | false =>
      rw [hg] at HG
      clear hg
      go_wp2_with fail
      refine (HG.out _).mono ?_
      rintro e w2 ⟨rfl, rfl⟩
      go_wp2_with fail
      go_ret
      exact ⟨⟨0, rfl, by decide, by decide⟩, HB1.out⟩
    | true =>
      rw [hg] at HG
      have hdb : 0 ≤ day ∧ day ≤ 87658 := by unfold goodD at hg; simpa using hg
      clear hg
      go_wp2_with fail
      refine (HG.out _).mono ?_
      rintro e w2 ⟨rfl, rfl⟩
      go_wp2_with fail
      refine (HF.out _).mono ?_
      rintro e w3 ⟨⟨a, b3, ha, rfl⟩, rfl⟩
      go_wp2_with fail
      go_ret
      exact ⟨⟨_, rfl, by omega, by omega⟩, HB1.out⟩
end Go.Proofs.YtkifkjgkdfnhcaaDoor.Vw
