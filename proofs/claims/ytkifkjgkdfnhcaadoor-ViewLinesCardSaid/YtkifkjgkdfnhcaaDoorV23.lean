/- Bills in memory; bill.Good, Open, Late: some answer, whatever it is. -/
import Derived.Test.YtkifkjgkdfnhcaaDoorV9
import Derived.Test.YtkifkjgkdfnhcaaDoorV22
import Derived.WalkMore
namespace Go.Proofs.YtkifkjgkdfnhcaaDoor.Vw
open Go.RowKit Go.Sort Go.Lib Go.Shelf

/-- A slice's rows in memory, each of so many cells. -/
structure Sl (w : World) (p : Option Addr) (ec : Nat) (rows : List (Array Value)) (cap : Nat) : Prop where
  cap : rows.length ≤ cap
  lies : rows = [] ∨ ∃ b off, p = some ⟨b, off, none⟩ ∧ b < w.heap.size ∧ ∀ (i : Nat) (r : Array Value), rows[i]? = some r → ∀ j : Nat, j < ec → w.cell? ⟨b, off + i * ec + j, none⟩ = r[j]?
theorem Sl.below {w w1 : World} {p : Option Addr} {ec : Nat} {rows : List (Array Value)} {cap : Nat} (h : Sl w p ec rows cap) (hb : Below w.heap.size w w1) : Sl w1 p ec rows cap := by
  refine ⟨h.cap, ?_⟩
  rcases h.lies with h1 | ⟨b, off, rfl, h2, h3⟩
  · exact .inl h1
  · exact .inr ⟨b, off, rfl, Nat.lt_of_lt_of_le h2 hb.size, fun i r hr j hj => (hb.cell (show b < _ from h2)).trans (h3 i r hr j hj)⟩
theorem Sl.at {w : World} {p : Option Addr} {ec : Nat} {rows : List (Array Value)} {cap : Nat} (h : Sl w p ec rows cap) {i : Nat} (hi : i < rows.length) : ∃ b off, p = some ⟨b, off, none⟩ ∧ b < w.heap.size ∧ ∀ (i : Nat) (r : Array Value), rows[i]? = some r → ∀ j : Nat, j < ec → w.cell? ⟨b, off + i * ec + j, none⟩ = r[j]? := by
  rcases h.lies with h1 | h1
  · subst h1
    simp at hi
  · exact h1
/-- A bill's fields; its loans' slice by its address, length and capacity. -/
structure Bl where
  month : Int
  amount : Int
  left : Int
  covered : Int
  plan : Int
  sp : Option Addr
  sn : Nat
  sc : Nat
abbrev Bl.cells (b : Bl) : Array Value := #[.int .i64 b.month, .int .i64 b.amount, .int .i64 b.left, .int .i64 b.covered, .int .i64 b.plan, .slice b.sp b.sn b.sc]
abbrev Bl.v (b : Bl) : Value := .agg b.cells
structure OkBl (b : Bl) : Prop where
  month : -9223372036854775808 ≤ b.month ∧ b.month ≤ 9223372036854775807
  amount : -9223372036854775808 ≤ b.amount ∧ b.amount ≤ 9223372036854775807
  left : -9223372036854775808 ≤ b.left ∧ b.left ≤ 9223372036854775807
/-- Some truth value is given back. -/
def IsB (e : Ending) : Prop := ∃ b : Bool, e = .returned (.bool b)
/-- A truth value. -/
def IsBv (v : Value) : Prop := ∃ b : Bool, v = .bool b
set_option maxRecDepth 20000 in
theorem bcents_calls (a : Int) (w : World) : Calls Tryd.prog 91 #[.int .i64 a] w fun e w' => IsB e ∧ w = w' := by
  have HM := Lib.hid (fun W => mgood_calls a W)
  by_cases h : 0 ≤ a
  · go_enter Tryd.func91, Tryd.ntmps91
    go_wp2_with fail
    refine (HM.out _).mono ?_
    rintro e w1 ⟨rfl, rfl⟩
    go_wp2_with fail
    go_ret
    exact ⟨⟨_, rfl⟩, rfl⟩
  · go_enter Tryd.func91, Tryd.ntmps91
    go_wp2_with fail
    go_ret
    exact ⟨⟨_, rfl⟩, rfl⟩
set_option maxRecDepth 20000 in
set_option maxHeartbeats 8000000 in
theorem bgood_calls (L : List Bl) (p : Option Addr) (cap : Nat) (w : World) (hS : Sl w p 6 (L.map Bl.cells) cap) (h64 : L.length ≤ 100000) :
    Calls Tryd.prog 80 #[.slice p L.length cap] w fun e w' => IsB e ∧ Below w.heap.size w w' := by
  have HS := Lib.hid hS
  by_cases hbig : (2880 : Int) < (L.length : Int)
  · clear hS
    go_enter Tryd.func80, Tryd.ntmps80
    go_wp2_with fail
    go_step3
    go_wp2_with fail
    rw [Exit.noGoto_ret]
    go_ret
    exact ⟨⟨_, rfl⟩, Below.refl _ _⟩
  · clear hS
    go_enter Tryd.func80, Tryd.ntmps80
    go_wp2_with fail
    go_step3
    go_wp2_with fail
    go_step3
    go_wp2_with fail
    go_loopw [3, 12] (fun v i wr => ∃ (k : Nat) (m : Int), k ≤ L.length ∧ v = .int .i64 m ∧ i = .int .i64 (k : Int) ∧ Below w.heap.size w wr) (fun _ i _ => L.length - (RowKit.intOf i).toNat)
    case atStart => exact ⟨0, -1, Nat.zero_le _, rfl, rfl, Below.refl _ _⟩
    case round =>
      obtain ⟨k, m, hk, rfl, rfl, hB⟩ := hrel
      have HB := Lib.hid hB
      by_cases h2 : k < L.length
      · obtain ⟨x, hx⟩ : ∃ x, L[k]? = some x := ⟨L[k], by rw [List.getElem?_eq_getElem h2]⟩
        obtain ⟨b, off, rfl, hb, hc⟩ := (HS.out.below hB).at (i := k) (by simpa using h2)
        have hcell : ∀ j, j < 6 → wr.cell? ⟨b, off + k * 6 + j, none⟩ = x.cells[j]? := fun j hj => hc k x.cells (by rw [List.getElem?_map, hx]; rfl) j hj
        have a0 : wr.cell? ⟨b, off + k * 6, none⟩ = some (.int .i64 x.month) := hcell 0 (by decide)
        have a1 : wr.cell? ⟨b, off + k * 6 + 1, none⟩ = some (.int .i64 x.amount) := hcell 1 (by decide)
        have a2 : wr.cell? ⟨b, off + k * 6 + 2, none⟩ = some (.int .i64 x.left) := hcell 2 (by decide)
        have a3 : wr.cell? ⟨b, off + k * 6 + 3, none⟩ = some (.int .i64 x.covered) := hcell 3 (by decide)
        have a4 : wr.cell? ⟨b, off + k * 6 + 4, none⟩ = some (.int .i64 x.plan) := hcell 4 (by decide)
        have a5 : wr.cell? ⟨b, off + k * 6 + 5, none⟩ = some (.slice x.sp x.sn x.sc) := hcell 5 (by decide)
        have hk0 : (0 : Int) ≤ (k : Int) := by omega
        have hk1 : (k : Int) < (L.length : Int) := by omega
        have HX := Lib.hid (Blk.new wr 26 x.cells)
        have hal := (Below.refl wr.heap.size wr).alloc (Nat.le_refl _) (.cells x.cells 26)
        have HB1 := Lib.hid (hB.trans (hal.mono hB.size))
        have HG := Lib.hid (fun W => gday_calls x.covered W)
        have HCe := Lib.hid (fun W => bcents_calls x.amount W)
        clear hal hcell hx hc hB hb
        go_upto_region 7 with fail
        clear a0 a1 a2 a3 a4 a5
        generalize wr.alloc (.cells x.cells 26) = w2 at *
        generalize wr.heap.size = g6 at *
        have k0 : w2.cell? ⟨g6, 0, none⟩ = some (.int .i64 x.month) := HX.out.cell 0
        have k1 : w2.cell? ⟨g6, 1, none⟩ = some (.int .i64 x.amount) := HX.out.cell 1
        have k2 : w2.cell? ⟨g6, 2, none⟩ = some (.int .i64 x.left) := HX.out.cell 2
        have k3 : w2.cell? ⟨g6, 3, none⟩ = some (.int .i64 x.covered) := HX.out.cell 3
        go_cut [6] from 16 to 33 (fun v W => IsBv v ∧ w2 = W)
        case first =>
          by_cases q0 : x.left = 0
          · have e0 : (x.left == 0) = true := by rw [q0]; rfl
            have e1 : decide (0 < x.left) = false := by rw [q0]; rfl
            clear q0
            cases hgd : goodD x.covered with
            | true =>
              rw [hgd] at HG
              clear hgd
              go_wp2_with fail
              refine (HG.out _).mono ?_
              rintro e w3 ⟨rfl, rfl⟩
              go_wp2_with fail
              go_meet
              exact ⟨⟨_, rfl⟩, rfl⟩
            | false =>
              rw [hgd] at HG
              clear hgd
              go_wp2_with fail
              refine (HG.out _).mono ?_
              rintro e w3 ⟨rfl, rfl⟩
              go_wp2_with fail
              go_meet
              exact ⟨⟨_, rfl⟩, rfl⟩
          · have e0 : (x.left == 0) = false := by simpa using q0
            clear q0
            by_cases q1 : 0 < x.left
            · have e1 : decide (0 < x.left) = true := decide_eq_true q1
              clear q1
              go_wp2_with fail
              go_meet
              exact ⟨⟨_, rfl⟩, rfl⟩
            · have e1 : decide (0 < x.left) = false := decide_eq_false q1
              clear q1
              go_wp2_with fail
              go_meet
              exact ⟨⟨_, rfl⟩, rfl⟩
        case rest =>
          obtain ⟨⟨b6, rfl⟩, rfl⟩ := hcut
          go_upto_region 8 with fail
          go_cut [62] from 34 to 61 (fun v W => IsBv v ∧ w2 = W)
          case first =>
            by_cases q0 : m < x.month
            · have d0 : decide (m < x.month) = true := decide_eq_true q0
              clear q0
              by_cases q1 : x.month < 2880
              · have d1 : decide (x.month < 2880) = true := decide_eq_true q1
                clear q1
                go_wp2_with fail
                refine (HCe.out _).mono ?_
                rintro e w3 ⟨⟨bc, rfl⟩, rfl⟩
                cases bc with
                | true =>
                  by_cases q2 : 0 ≤ x.left
                  · have d2 : decide (0 ≤ x.left) = true := decide_eq_true q2
                    clear q2
                    by_cases q3 : x.left ≤ x.amount
                    · have d3 : decide (x.left ≤ x.amount) = true := decide_eq_true q3
                      clear q3
                      go_wp2_with fail
                      go_meet
                      exact ⟨⟨_, rfl⟩, rfl⟩
                    · have d3 : decide (x.left ≤ x.amount) = false := decide_eq_false q3
                      clear q3
                      go_wp2_with fail
                      go_meet
                      exact ⟨⟨_, rfl⟩, rfl⟩
                  · have d2 : decide (0 ≤ x.left) = false := decide_eq_false q2
                    clear q2
                    go_wp2_with fail
                    go_meet
                    exact ⟨⟨_, rfl⟩, rfl⟩
                | false =>
                  go_wp2_with fail
                  go_meet
                  exact ⟨⟨_, rfl⟩, rfl⟩
              · have d1 : decide (x.month < 2880) = false := decide_eq_false q1
                clear q1
                go_wp2_with fail
                go_meet
                exact ⟨⟨_, rfl⟩, rfl⟩
            · have d0 : decide (m < x.month) = false := decide_eq_false q0
              clear q0
              go_wp2_with fail
              go_meet
              exact ⟨⟨_, rfl⟩, rfl⟩
          case rest =>
            obtain ⟨⟨b8, rfl⟩, rfl⟩ := hcut
            cases b8 with
            | true =>
              go_wp2_with fail
              go_roundw
              case rel => exact ⟨k + 1, x.month, by omega, rfl, by go_num, HB1.out⟩
              case measure => simp [RowKit.intOf]; omega
            | false =>
              go_wp2_with fail
              rw [Exit.noGoto_ret]
              go_ret
              exact ⟨⟨_, rfl⟩, HB1.out⟩
      · go_wp2_with fail
        rw [Exit.noGoto_ret]
        go_ret
        exact ⟨⟨_, rfl⟩, HB.out⟩
end Go.Proofs.YtkifkjgkdfnhcaaDoor.Vw
