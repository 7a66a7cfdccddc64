/- money.Sum of nothing. -/
import Derived.Test.YtkifkjgkdfnhcaaDoorV9
namespace Go.Proofs.YtkifkjgkdfnhcaaDoor.Vw
open Go.RowKit Go.Sort Go.Lib Go.Shelf

set_option maxRecDepth 20000 in
set_option maxHeartbeats 4000000 in
theorem msum_nil (w : World) : Calls Tryd.prog 36 #[.slice none 0 0] w fun e w' => e = .returned (.tuple #[.int .i64 0, .int .i64 0]) ∧ Below w.heap.size w w' := by
  have hmf : ∀ (fn : Fn) (first cap : Array Value) (w : World), (Instr.makeFunc fn first cap).run Tryd.prog w = .ok (.func fn first cap) w := fun _ _ _ _ => rfl
  have b1 := Blk.new w 2 #[.int .i64 0]
  have hb1 := (Below.refl w.heap.size w).alloc (Nat.le_refl _) (.cells #[.int .i64 0] 2)
  have b2 := Blk.new (w.alloc (.cells #[.int .i64 0] 2)) 46 #[.int .i64 0]
  have hz : (w.alloc (.cells #[.int .i64 0] 2)).heap.size = w.heap.size + 1 := by simp
  have b1' := b1.below ((Below.refl _ _).alloc (Nat.le_refl _) (.cells #[.int .i64 0] 46))
  have hb2 := hb1.alloc hb1.size (.cells #[.int .i64 0] 46)
  rw [hz] at b2
  have HA := Lib.hid b1'
  have HB := Lib.hid b2
  have HBB := Lib.hid hb2
  clear b1 hb1 b2 hz b1' hb2
  go_enter_defers Tryd.func36, Tryd.ntmps36
  go_upto_region 1 with fail
  generalize (w.alloc (.cells #[.int .i64 0] 2)).alloc (.cells #[.int .i64 0] 46) = w1 at *
  generalize hgb : w.heap.size + 1 = gb at *
  have HGB := Lib.hid hgb
  clear hgb
  go_wp2_with fail
  have HLT : Hid (w.heap.size < gb) := Lib.hid (by have := HGB.out; omega)
  go_loopw [9] (fun i wr => i = .int .i64 0 ∧ Blk wr w.heap.size 2 #[.int .i64 0] ∧ Blk wr gb 46 #[.int .i64 0] ∧ Below w.heap.size w wr) (fun _ _ => 0)
  case atStart => exact ⟨rfl, HA.out, HB.out, HBB.out⟩
  case round =>
    obtain ⟨rfl, ha, hb, hB⟩ := hrel
    have Ha := Lib.hid ha
    have Hb := Lib.hid hb
    have HBr := Lib.hid hB
    have c0 : wr.cell? ⟨w.heap.size, 0, none⟩ = some (.int .i64 0) := ha.cell 0
    have f0 := ha.frozen 0
    have c1 : wr.cell? ⟨gb, 0, none⟩ = some (.int .i64 0) := hb.cell 0
    have f1 := hb.frozen 0
    have hne : gb ≠ w.heap.size := by have := HLT.out; omega
    clear ha hb hB
    go_wp2_with fail
    have s1 := Ha.out.set_ 0 (.int .i64 0)
    have s1' : Blk ((wr.setCell ⟨w.heap.size, 0, none⟩ (.int .i64 0)).setCell ⟨gb, 0, none⟩ (.int .i64 0)) w.heap.size 2 #[.int .i64 0] := ⟨(Below.heap_setCell _ _ _ _ (show w.heap.size ≠ gb from hne.symm)).trans s1.heap⟩
    have s2 : Blk (wr.setCell ⟨w.heap.size, 0, none⟩ (.int .i64 0)) gb 46 #[.int .i64 0] := ⟨(Below.heap_setCell _ _ _ _ (show gb ≠ w.heap.size from hne)).trans Hb.out.heap⟩
    have s2' := s2.set_ 0 (.int .i64 0)
    have hbs := (HBr.out.setCell (p := ⟨w.heap.size, 0, none⟩) (Nat.le_refl _) (.int .i64 0)).setCell (p := ⟨gb, 0, none⟩) (show w.heap.size ≤ gb from Nat.le_of_lt HLT.out) (.int .i64 0)
    generalize (wr.setCell ⟨w.heap.size, 0, none⟩ (.int .i64 0)).setCell ⟨gb, 0, none⟩ (.int .i64 0) = W9 at *
    have d0 : W9.cell? ⟨w.heap.size, 0, none⟩ = some (.int .i64 0) := s1'.cell 0
    have d1 : W9.cell? ⟨gb, 0, none⟩ = some (.int .i64 0) := s2'.cell 0
    refine leaves_cons (f := 52) (args := #[.pointer (some ⟨w.heap.size, 0, none⟩), .pointer (some ⟨gb, 0, none⟩)]) (by simp) (by simp [go_sem]) ?_
    refine (sum_idle w.heap.size gb W9).mono ?_
    rintro e u' w'' ⟨rfl, rfl, rfl⟩
    exact ⟨.tuple #[.int .i64 0, .int .i64 0], by simp [results, Tryd.results36, go_sem, d0, d1], rfl, hbs⟩
end Go.Proofs.YtkifkjgkdfnhcaaDoor.Vw
