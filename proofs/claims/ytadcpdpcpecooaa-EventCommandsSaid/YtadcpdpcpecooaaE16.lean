/- Commands; event.Fine. -/
import Derived.Test.YtadcpdpcpecooaaE15
import Derived.Test.YtadcpdpcpecooaaE12
namespace Go.Proofs.Ytadcpdpcpecooaa.Ev
open Go.RowKit Go.Proofs.Ytadcpdpcpecooaa.Pk Go.Proofs.Ytadcpdpcpecooaa.Re

/-- A command. -/
structure C where
  undo : Bool
  key : Int
  e : E
  of : Int
  deriving DecidableEq
abbrev C.cells (c : C) : Array Value := #[.bool c.undo, .int .u32 c.key, .int .i64 c.e.kind, .int .i64 c.e.day, .int .u32 c.e.key, .int .i64 c.e.loan, .int .i64 c.e.amount, .float .f64 c.e.rate, .float .f64 c.e.income, .bool c.e.sub, .int .i64 c.e.status, .int .i64 c.e.plan, .int .i64 c.e.family, .int .u32 c.of]
abbrev C.v (c : C) : Value := .agg #[.bool c.undo, .int .u32 c.key, .int .i64 c.e.kind, .int .i64 c.e.day, .int .u32 c.e.key, .int .i64 c.e.loan, .int .i64 c.e.amount, .float .f64 c.e.rate, .float .f64 c.e.income, .bool c.e.sub, .int .i64 c.e.status, .int .i64 c.e.plan, .int .i64 c.e.family, .int .u32 c.of]
/-- A command in memory. -/
structure Cx (w : World) (g : Nat) (c : C) : Prop where
  c0 : w.cell? ⟨g, 0, none⟩ = some (.bool c.undo)
  c1 : w.cell? ⟨g, 1, none⟩ = some (.int .u32 c.key)
  c2 : w.cell? ⟨g, 2, none⟩ = some (.int .i64 c.e.kind)
  c3 : w.cell? ⟨g, 3, none⟩ = some (.int .i64 c.e.day)
  c4 : w.cell? ⟨g, 4, none⟩ = some (.int .u32 c.e.key)
  c5 : w.cell? ⟨g, 5, none⟩ = some (.int .i64 c.e.loan)
  c6 : w.cell? ⟨g, 6, none⟩ = some (.int .i64 c.e.amount)
  c7 : w.cell? ⟨g, 7, none⟩ = some (.float .f64 c.e.rate)
  c8 : w.cell? ⟨g, 8, none⟩ = some (.float .f64 c.e.income)
  c9 : w.cell? ⟨g, 9, none⟩ = some (.bool c.e.sub)
  c10 : w.cell? ⟨g, 10, none⟩ = some (.int .i64 c.e.status)
  c11 : w.cell? ⟨g, 11, none⟩ = some (.int .i64 c.e.plan)
  c12 : w.cell? ⟨g, 12, none⟩ = some (.int .i64 c.e.family)
  c13 : w.cell? ⟨g, 13, none⟩ = some (.int .u32 c.of)
theorem cx_of {w : World} {g : Nat} {c : C} (h : Blk w g 27 c.cells) : Cx w g c :=
  ⟨h.cell 0, h.cell 1, h.cell 2, h.cell 3, h.cell 4, h.cell 5, h.cell 6, h.cell 7, h.cell 8, h.cell 9, h.cell 10, h.cell 11, h.cell 12, h.cell 13⟩
/-- Has a command a form? -/
def fineC (c : C) : Bool := if c.undo then decide (c.e = zeroE) else c.of == 0 && (goodE c.e && c.e.key == c.key)
set_option maxRecDepth 20000 in
set_option maxHeartbeats 4000000 in
theorem fine_calls (c : C) (w : World) (hr : c.e.rate < 18446744073709551616) (hi : c.e.income < 18446744073709551616) :
    Calls Try.prog 23 #[c.v] w fun r w' => r = .returned (.bool (fineC c)) ∧ Below w.heap.size w w' := by
  have hb := Blk.new w 27 c.cells
  have HB := Lib.hid ((Below.refl w.heap.size w).alloc (Nat.le_refl _) (.cells c.cells 27))
  have HBk := Lib.hid hb
  have HG := Lib.hid (fun W => good_calls c.e W hr hi)
  have HS := Lib.hid (fun W => same_calls c.e zeroE W)
  obtain ⟨k0, k1, k2, k3, k4, k5, k6, k7, k8, k9, k10, k11, k12, k13⟩ := cx_of hb
  clear hb
  unfold fineC
  obtain ⟨u, hu⟩ : ∃ u, c.undo = u := ⟨_, rfl⟩
  obtain ⟨g1, hg1⟩ : ∃ u, goodE c.e = u := ⟨_, rfl⟩
  obtain ⟨g2, hg2⟩ : ∃ u, decide (c.e = zeroE) = u := ⟨_, rfl⟩
  rw [hg1] at HG ⊢
  rw [hg2] at HS ⊢
  obtain ⟨q, hq⟩ : ∃ q, (c.of == 0) = q := ⟨_, rfl⟩
  obtain ⟨q2, hq2⟩ : ∃ q, (c.e.key == c.key) = q := ⟨_, rfl⟩
  rw [hu, hq, hq2]
  have HU := Lib.hid hu
  have HQ := Lib.hid hq
  have HQ2 := Lib.hid hq2
  clear hg1 hg2 hu hq hq2
  go_enter Try.func23, Try.ntmps23
  go_upto_region 1 with fail
  generalize w.alloc (.cells c.cells 27) = W1 at *
  rw [HU.out] at k0
  have hq := HQ.out
  have hq2 := HQ2.out
  cases u with
  | true =>
    go_wp2_with fail
    refine (HS.out _).mono ?_
    rintro r w2 ⟨rfl, b2⟩
    have HB2 := Lib.hid (HB.out.trans (b2.mono HB.out.size))
    clear b2
    go_wp2_with fail
    go_ret
    exact ⟨rfl, HB2.out⟩
  | false =>
    cases q with
    | false =>
      go_wp2_with fail
      go_ret
      exact ⟨rfl, HB.out⟩
    | true =>
      go_wp2_with fail
      refine (HG.out _).mono ?_
      rintro r w2 ⟨rfl, b2⟩
      have HB2 := Lib.hid (HB.out.trans (b2.mono HB.out.size))
      have HK2 := Lib.hid (HBk.out.below b2)
      clear b2 k0 k1 k2 k3 k4 k5 k6 k7 k8 k9 k10 k11 k12 k13
      obtain ⟨k0, k1, k2, k3, k4, k5, k6, k7, k8, k9, k10, k11, k12, k13⟩ := cx_of HK2.out
      cases g1 with
      | false =>
        go_wp2_with fail
        go_ret
        exact ⟨rfl, HB2.out⟩
      | true =>
        go_wp2_with fail
        go_ret
        exact ⟨ret_bool (by simp), HB2.out⟩
end Go.Proofs.Ytadcpdpcpecooaa.Ev
