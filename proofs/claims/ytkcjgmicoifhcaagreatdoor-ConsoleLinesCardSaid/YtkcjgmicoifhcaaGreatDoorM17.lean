/- Texts joined: R8. -/
import Derived.Test.YtkcjgmicoifhcaaGreatDoorM13
import Derived.Test.YtkcjgmicoifhcaaGreatDoorM16

/- R8: The reference's event: the other kinds. (Printed by gen_r7.py.) -/
namespace Go.Proofs.YtkcjgmicoifhcaaGreatDoor.Cn
open Go.RowKit Go.Sort Go.Lib Go.Shelf
open Vw (Tab str Blk)
open Ev (E)
attribute [local go_sem ↓] Go.wp_at_zero Go.wp_at_succ

def gv6 (e : E) (Y : List (List UInt8)) : E × List (List UInt8) × Bool := (e, Y, true)
def gv0 (e : E) (Y : List (List UInt8)) : E × List (List UInt8) × Bool := (e, Y, false)
theorem flag_two {x : List UInt8} (h : ¬ fnd x 0 flagL = 0) : x = [48] ∨ x = [49] := by
  simp only [fnd, flagL] at h
  by_cases h0 : x = [48]
  · exact .inl h0
  · by_cases h1 : x = [49]
    · exact .inr h1
    · rw [if_neg (fun h => h0 h.symm), if_neg (fun h => h1 h.symm)] at h
      exact absurd rfl h
set_option maxRecDepth 40000 in
set_option maxHeartbeats 32000000 in
theorem revent_6 (day key : Int) (Y : List (List UInt8)) (hl : ∀ x ∈ Y, x.length ≤ 1000000) (hY : Y.length ≤ 1000000) (p : Option Addr) (c g : Nat) (w : World) (hw : Ws w g p Y c) :
    Calls Tryz.prog 55 #[.agg #[.int .i64 6, .int .i64 day, .int .u32 key, .int .i64 0, .int .i64 0, .float .f64 0, .float .f64 0, .bool false, .int .i64 0, .int .i64 0, .int .i64 0], .slice p Y.length c] w fun r w' => REv (gv6 ⟨6, day, key, 0, 0, 0, 0, false, 0, 0, 0⟩ Y) r ∧ Below w.heap.size w w' := by
  have hB1 := (Below.refl w.heap.size w).alloc (Nat.le_refl _) (.cells #[.int .i64 6, .int .i64 day, .int .u32 key, .int .i64 0, .int .i64 0, .float .f64 0, .float .f64 0, .bool false, .int .i64 0, .int .i64 0, .int .i64 0] 25)
  have hE1 := Blk.new w 25 #[.int .i64 6, .int .i64 day, .int .u32 key, .int .i64 0, .int .i64 0, .float .f64 0, .float .f64 0, .bool false, .int .i64 0, .int .i64 0, .int .i64 0]
  obtain ⟨w1, hw1⟩ : ∃ w1, w.alloc (.cells #[.int .i64 6, .int .i64 day, .int .u32 key, .int .i64 0, .int .i64 0, .float .f64 0, .float .f64 0, .bool false, .int .i64 0, .int .i64 0, .int .i64 0] 25) = w1 := ⟨_, rfl⟩
  rw [hw1] at hB1 hE1
  have hal := (Below.refl w1.heap.size w1).alloc (Nat.le_refl _) (.cells #[.int .i64 0, .int .i64 0, .int .u32 0, .int .i64 0, .int .i64 0, .float .f64 0, .float .f64 0, .bool false, .int .i64 0, .int .i64 0, .int .i64 0] 25)
  have hZ2 := Blk.new w1 25 #[.int .i64 0, .int .i64 0, .int .u32 0, .int .i64 0, .int .i64 0, .float .f64 0, .float .f64 0, .bool false, .int .i64 0, .int .i64 0, .int .i64 0]
  have hE2 := hE1.below hal
  have hB2 := hB1.trans (hal.mono hB1.size)
  have hlt := hE1.lt
  obtain ⟨w2, hw2⟩ : ∃ w2, w1.alloc (.cells #[.int .i64 0, .int .i64 0, .int .u32 0, .int .i64 0, .int .i64 0, .float .f64 0, .float .f64 0, .bool false, .int .i64 0, .int .i64 0, .int .i64 0] 25) = w2 := ⟨_, rfl⟩
  rw [hw2] at hZ2 hE2 hB2
  have hal := (Below.refl w2.heap.size w2).alloc (Nat.le_refl _) (.cells #[.int .i64 0, .int .i64 0] 2)
  have hN3 := Blk.new w2 2 #[.int .i64 0, .int .i64 0]
  have hE3 := hE2.below hal
  have hZ3 := hZ2.below hal
  have hB3 := hB2.trans (hal.mono hB2.size)
  have hlt2 := hZ2.lt
  obtain ⟨w3, hw3⟩ : ∃ w3, w2.alloc (.cells #[.int .i64 0, .int .i64 0] 2) = w3 := ⟨_, rfl⟩
  rw [hw3] at hN3 hE3 hZ3 hB3
  obtain ⟨ge, hge⟩ : ∃ ge, w.heap.size = ge := ⟨_, rfl⟩
  obtain ⟨g0, hg0⟩ : ∃ g0, w1.heap.size = g0 := ⟨_, rfl⟩
  obtain ⟨gn, hgn⟩ : ∃ gn, w2.heap.size = gn := ⟨_, rfl⟩
  have HG0 : Hid (w.heap.size ≤ g0) := Lib.hid (by omega)
  have HGe : Hid (w.heap.size ≤ ge ∧ ge < g0 ∧ g0 < gn) := Lib.hid (by omega)
  rw [hg0] at hZ3
  rw [hge] at hE3
  rw [hgn] at hN3
  have HZ3 : Hid (Blk w3 g0 25 (⟨0, 0, 0, 0, 0, 0, 0, false, 0, 0, 0⟩ : E).cells) := Lib.hid hZ3
  have HE3 : Hid (Blk w3 ge 25 (⟨6, day, key, 0, 0, 0, 0, false, 0, 0, 0⟩ : E).cells) := Lib.hid hE3
  have HN3 := Lib.hid hN3
  have HB3 := Lib.hid hB3
  have hmk := make2
  have hst0 := st_f64
  clear hB1 hE1 hal hZ2 hE2 hB2 hlt hN3 hE3 hZ3 hB3 hlt2
  obtain ⟨n, hn⟩ : ∃ n, Y.length = n := ⟨_, rfl⟩
  have hcap : n ≤ c := hn ▸ hw.cap
  rw [hn]
  by_cases hq : n = 0
  · subst hq
    have hY0 : Y = [] := List.length_eq_zero_iff.1 hn
    subst hY0
    go_enter Tryz.func55, Tryz.ntmps55
    go_upto_region 3 with fail
    clear hw1 hw2 hw3 hge hg0 hgn hmk
    have q0 : w3.cell? ⟨ge, 0, none⟩ = some (.int .i64 6) := HE3.out.cell 0
    obtain ⟨k0, k1, k2, k3, k4, k5, k6, k7, k8, k9, k10⟩ := ev_cells HE3.out
    obtain ⟨z0, z1, z2, z3, z4, z5, z6, z7, z8, z9, z10⟩ := ev_cells HZ3.out
    obtain ⟨r0, r1, r2, r3, r4, r5, r6, r7, r8, r9, r10⟩ := ev_frozen HZ3.out
    go_wp2_with fail
    have hA := set_ev ⟨6, day, key, 0, 0, 0, 0, false, 0, 0, 0⟩ HZ3.out
    have hAb := set_ev_below ⟨6, day, key, 0, 0, 0, 0, false, 0, 0, 0⟩ HG0.out HB3.out
    (try simp only [Exit.inBlock, Exit.then])
    refine bodyPost_ret (Vw.results_cell_row2 (p := 4) (u := 5) (ty := 25) rfl _ _ g0 25 _ _ _ rfl hA.heap Tryz.underlying25 rfl (by kernel_rfl)) rfl ?_
    exact ⟨rev_is _ _ rfl (fun _ => rfl), hAb⟩
  · have HYe : Hid (Y.isEmpty = false) := Lib.hid (by
      cases Y with
      | nil => exact absurd hn (fun h => hq h.symm)
      | cons _ _ => rfl)
    have hq2 : ¬ (n : Int) = 0 := by omega
    have hq3 : ((n : Int) == 0) = false := beq_eq_false_iff_ne.2 hq2
    go_enter Tryz.func55, Tryz.ntmps55
    go_upto_region 3 with fail
    clear hw1 hw2 hw3 hge hg0 hgn hmk
    have q0 : w3.cell? ⟨ge, 0, none⟩ = some (.int .i64 6) := HE3.out.cell 0
    obtain ⟨k0, k1, k2, k3, k4, k5, k6, k7, k8, k9, k10⟩ := ev_cells HE3.out
    obtain ⟨z0, z1, z2, z3, z4, z5, z6, z7, z8, z9, z10⟩ := ev_cells HZ3.out
    obtain ⟨r0, r1, r2, r3, r4, r5, r6, r7, r8, r9, r10⟩ := ev_frozen HZ3.out
    go_wp2_with fail
    have hA := set_ev ⟨6, day, key, 0, 0, 0, 0, false, 0, 0, 0⟩ HZ3.out
    have hAb := set_ev_below ⟨6, day, key, 0, 0, 0, 0, false, 0, 0, 0⟩ HG0.out HB3.out
    (try simp only [Exit.inBlock, Exit.then])
    refine bodyPost_ret (Vw.results_cell_row2 (p := 4) (u := 5) (ty := 25) rfl _ _ g0 25 _ _ _ rfl hA.heap Tryz.underlying25 rfl (by kernel_rfl)) rfl ?_
    exact ⟨rev_no (by show (true && Y.isEmpty) = false; rw [HYe.out]; rfl) _, hAb⟩
set_option maxRecDepth 40000 in
set_option maxHeartbeats 32000000 in
theorem revent_0 (day key : Int) (Y : List (List UInt8)) (_hl : ∀ x ∈ Y, x.length ≤ 1000000) (_hY : Y.length ≤ 1000000) (p : Option Addr) (c g : Nat) (w : World) (hw : Ws w g p Y c) :
    Calls Tryz.prog 55 #[.agg #[.int .i64 0, .int .i64 day, .int .u32 key, .int .i64 0, .int .i64 0, .float .f64 0, .float .f64 0, .bool false, .int .i64 0, .int .i64 0, .int .i64 0], .slice p Y.length c] w fun r w' => REv (gv0 ⟨0, day, key, 0, 0, 0, 0, false, 0, 0, 0⟩ Y) r ∧ Below w.heap.size w w' := by
  have hB1 := (Below.refl w.heap.size w).alloc (Nat.le_refl _) (.cells #[.int .i64 0, .int .i64 day, .int .u32 key, .int .i64 0, .int .i64 0, .float .f64 0, .float .f64 0, .bool false, .int .i64 0, .int .i64 0, .int .i64 0] 25)
  have hE1 := Blk.new w 25 #[.int .i64 0, .int .i64 day, .int .u32 key, .int .i64 0, .int .i64 0, .float .f64 0, .float .f64 0, .bool false, .int .i64 0, .int .i64 0, .int .i64 0]
  obtain ⟨w1, hw1⟩ : ∃ w1, w.alloc (.cells #[.int .i64 0, .int .i64 day, .int .u32 key, .int .i64 0, .int .i64 0, .float .f64 0, .float .f64 0, .bool false, .int .i64 0, .int .i64 0, .int .i64 0] 25) = w1 := ⟨_, rfl⟩
  rw [hw1] at hB1 hE1
  have hal := (Below.refl w1.heap.size w1).alloc (Nat.le_refl _) (.cells #[.int .i64 0, .int .i64 0, .int .u32 0, .int .i64 0, .int .i64 0, .float .f64 0, .float .f64 0, .bool false, .int .i64 0, .int .i64 0, .int .i64 0] 25)
  have hZ2 := Blk.new w1 25 #[.int .i64 0, .int .i64 0, .int .u32 0, .int .i64 0, .int .i64 0, .float .f64 0, .float .f64 0, .bool false, .int .i64 0, .int .i64 0, .int .i64 0]
  have hE2 := hE1.below hal
  have hB2 := hB1.trans (hal.mono hB1.size)
  have hlt := hE1.lt
  obtain ⟨w2, hw2⟩ : ∃ w2, w1.alloc (.cells #[.int .i64 0, .int .i64 0, .int .u32 0, .int .i64 0, .int .i64 0, .float .f64 0, .float .f64 0, .bool false, .int .i64 0, .int .i64 0, .int .i64 0] 25) = w2 := ⟨_, rfl⟩
  rw [hw2] at hZ2 hE2 hB2
  have hal := (Below.refl w2.heap.size w2).alloc (Nat.le_refl _) (.cells #[.int .i64 0, .int .i64 0] 2)
  have hN3 := Blk.new w2 2 #[.int .i64 0, .int .i64 0]
  have hE3 := hE2.below hal
  have hZ3 := hZ2.below hal
  have hB3 := hB2.trans (hal.mono hB2.size)
  have hlt2 := hZ2.lt
  obtain ⟨w3, hw3⟩ : ∃ w3, w2.alloc (.cells #[.int .i64 0, .int .i64 0] 2) = w3 := ⟨_, rfl⟩
  rw [hw3] at hN3 hE3 hZ3 hB3
  obtain ⟨ge, hge⟩ : ∃ ge, w.heap.size = ge := ⟨_, rfl⟩
  obtain ⟨g0, hg0⟩ : ∃ g0, w1.heap.size = g0 := ⟨_, rfl⟩
  obtain ⟨gn, hgn⟩ : ∃ gn, w2.heap.size = gn := ⟨_, rfl⟩
  have HG0 : Hid (w.heap.size ≤ g0) := Lib.hid (by omega)
  have HGe : Hid (w.heap.size ≤ ge ∧ ge < g0 ∧ g0 < gn) := Lib.hid (by omega)
  rw [hg0] at hZ3
  rw [hge] at hE3
  rw [hgn] at hN3
  have HZ3 : Hid (Blk w3 g0 25 (⟨0, 0, 0, 0, 0, 0, 0, false, 0, 0, 0⟩ : E).cells) := Lib.hid hZ3
  have HE3 : Hid (Blk w3 ge 25 (⟨0, day, key, 0, 0, 0, 0, false, 0, 0, 0⟩ : E).cells) := Lib.hid hE3
  have HN3 := Lib.hid hN3
  have HB3 := Lib.hid hB3
  have hmk := make2
  have hst0 := st_f64
  clear hB1 hE1 hal hZ2 hE2 hB2 hlt hN3 hE3 hZ3 hB3 hlt2
  obtain ⟨n, hn⟩ : ∃ n, Y.length = n := ⟨_, rfl⟩
  have hcap : n ≤ c := hn ▸ hw.cap
  rw [hn]
  go_enter Tryz.func55, Tryz.ntmps55
  go_upto_region 3 with fail
  clear hw1 hw2 hw3 hge hg0 hgn hmk
  have q0 : w3.cell? ⟨ge, 0, none⟩ = some (.int .i64 0) := HE3.out.cell 0
  obtain ⟨k0, k1, k2, k3, k4, k5, k6, k7, k8, k9, k10⟩ := ev_cells HE3.out
  obtain ⟨z0, z1, z2, z3, z4, z5, z6, z7, z8, z9, z10⟩ := ev_cells HZ3.out
  obtain ⟨r0, r1, r2, r3, r4, r5, r6, r7, r8, r9, r10⟩ := ev_frozen HZ3.out
  go_wp2_with fail
  have hA := set_ev ⟨0, day, key, 0, 0, 0, 0, false, 0, 0, 0⟩ HZ3.out
  have hAb := set_ev_below ⟨0, day, key, 0, 0, 0, 0, false, 0, 0, 0⟩ HG0.out HB3.out
  (try simp only [Exit.inBlock, Exit.then])
  refine bodyPost_ret (Vw.results_cell_row2 (p := 4) (u := 5) (ty := 25) rfl _ _ g0 25 _ _ _ rfl hA.heap Tryz.underlying25 rfl (by kernel_rfl)) rfl ?_
  exact ⟨rev_no rfl _, hAb⟩
set_option maxRecDepth 40000 in
set_option maxHeartbeats 32000000 in
theorem revent_5 (day key : Int) (Y : List (List UInt8)) (hl : ∀ x ∈ Y, x.length ≤ 1000000) (hY : Y.length ≤ 1000000) (p : Option Addr) (c g : Nat) (w : World) (hw : Ws w g p Y c) :
    Calls Tryz.prog 55 #[.agg #[.int .i64 5, .int .i64 day, .int .u32 key, .int .i64 0, .int .i64 0, .float .f64 0, .float .f64 0, .bool false, .int .i64 0, .int .i64 0, .int .i64 0], .slice p Y.length c] w fun r w' => REv (enG ⟨5, day, key, 0, 0, 0, 0, false, 0, 0, 0⟩ Y) r ∧ Below w.heap.size w w' := by
  have hB1 := (Below.refl w.heap.size w).alloc (Nat.le_refl _) (.cells #[.int .i64 5, .int .i64 day, .int .u32 key, .int .i64 0, .int .i64 0, .float .f64 0, .float .f64 0, .bool false, .int .i64 0, .int .i64 0, .int .i64 0] 25)
  have hE1 := Blk.new w 25 #[.int .i64 5, .int .i64 day, .int .u32 key, .int .i64 0, .int .i64 0, .float .f64 0, .float .f64 0, .bool false, .int .i64 0, .int .i64 0, .int .i64 0]
  obtain ⟨w1, hw1⟩ : ∃ w1, w.alloc (.cells #[.int .i64 5, .int .i64 day, .int .u32 key, .int .i64 0, .int .i64 0, .float .f64 0, .float .f64 0, .bool false, .int .i64 0, .int .i64 0, .int .i64 0] 25) = w1 := ⟨_, rfl⟩
  rw [hw1] at hB1 hE1
  have hal := (Below.refl w1.heap.size w1).alloc (Nat.le_refl _) (.cells #[.int .i64 0, .int .i64 0, .int .u32 0, .int .i64 0, .int .i64 0, .float .f64 0, .float .f64 0, .bool false, .int .i64 0, .int .i64 0, .int .i64 0] 25)
  have hZ2 := Blk.new w1 25 #[.int .i64 0, .int .i64 0, .int .u32 0, .int .i64 0, .int .i64 0, .float .f64 0, .float .f64 0, .bool false, .int .i64 0, .int .i64 0, .int .i64 0]
  have hE2 := hE1.below hal
  have hB2 := hB1.trans (hal.mono hB1.size)
  have hlt := hE1.lt
  obtain ⟨w2, hw2⟩ : ∃ w2, w1.alloc (.cells #[.int .i64 0, .int .i64 0, .int .u32 0, .int .i64 0, .int .i64 0, .float .f64 0, .float .f64 0, .bool false, .int .i64 0, .int .i64 0, .int .i64 0] 25) = w2 := ⟨_, rfl⟩
  rw [hw2] at hZ2 hE2 hB2
  have hal := (Below.refl w2.heap.size w2).alloc (Nat.le_refl _) (.cells #[.int .i64 0, .int .i64 0] 2)
  have hN3 := Blk.new w2 2 #[.int .i64 0, .int .i64 0]
  have hE3 := hE2.below hal
  have hZ3 := hZ2.below hal
  have hB3 := hB2.trans (hal.mono hB2.size)
  have hlt2 := hZ2.lt
  obtain ⟨w3, hw3⟩ : ∃ w3, w2.alloc (.cells #[.int .i64 0, .int .i64 0] 2) = w3 := ⟨_, rfl⟩
  rw [hw3] at hN3 hE3 hZ3 hB3
  obtain ⟨ge, hge⟩ : ∃ ge, w.heap.size = ge := ⟨_, rfl⟩
  obtain ⟨g0, hg0⟩ : ∃ g0, w1.heap.size = g0 := ⟨_, rfl⟩
  obtain ⟨gn, hgn⟩ : ∃ gn, w2.heap.size = gn := ⟨_, rfl⟩
  have HG0 : Hid (w.heap.size ≤ g0) := Lib.hid (by omega)
  have HGe : Hid (w.heap.size ≤ ge ∧ ge < g0 ∧ g0 < gn) := Lib.hid (by omega)
  rw [hg0] at hZ3
  rw [hge] at hE3
  rw [hgn] at hN3
  have HZ3 : Hid (Blk w3 g0 25 (⟨0, 0, 0, 0, 0, 0, 0, false, 0, 0, 0⟩ : E).cells) := Lib.hid hZ3
  have HE3 : Hid (Blk w3 ge 25 (⟨5, day, key, 0, 0, 0, 0, false, 0, 0, 0⟩ : E).cells) := Lib.hid hE3
  have HN3 := Lib.hid hN3
  have HB3 := Lib.hid hB3
  have hmk := make2
  have hst0 := st_f64
  clear hB1 hE1 hal hZ2 hE2 hB2 hlt hN3 hE3 hZ3 hB3 hlt2
  obtain ⟨n, hn⟩ : ∃ n, Y.length = n := ⟨_, rfl⟩
  have hcap : n ≤ c := hn ▸ hw.cap
  rw [hn]
  have hW3 : Ws w3 g p Y c := hw.fr (P := fun _ => False) (Fr.of HB3.out) fun k hk => hk.elim
  have HEn := Lib.hid (renroll_calls day key Y hl hY p c g w3 hW3)
  rw [hn] at HEn
  clear hW3 hw
  go_enter Tryz.func55, Tryz.ntmps55
  go_upto_region 3 with fail
  clear hw1 hw2 hw3 hge hg0 hgn hmk
  have q0 : w3.cell? ⟨ge, 0, none⟩ = some (.int .i64 5) := HE3.out.cell 0
  obtain ⟨k0, k1, k2, k3, k4, k5, k6, k7, k8, k9, k10⟩ := ev_cells HE3.out
  go_wp2_with fail
  refine HEn.out.mono ?_
  rintro r w4 ⟨⟨e1, fb, rfl, hr1, hr2⟩, hb4⟩
  have HR1 := Lib.hid hr1
  have HR2 := Lib.hid hr2
  have HZ4 := Lib.hid (HZ3.out.below hb4)
  have HB4 := Lib.hid (HB3.out.trans (hb4.mono HB3.out.size))
  clear hr1 hr2 hb4 q0 k0 k1 k2 k3 k4 k5 k6 k7 k8 k9 k10
  obtain ⟨e2, he2⟩ : ∃ e2, e2 = e1 := ⟨_, rfl⟩
  have HE2 := Lib.hid he2
  clear he2
  obtain ⟨kd, dy, ek, ln, am, rt, ic, sb, st, pl, fm⟩ := e1
  obtain ⟨z0, z1, z2, z3, z4, z5, z6, z7, z8, z9, z10⟩ := ev_cells HZ4.out
  obtain ⟨r0, r1, r2, r3, r4, r5, r6, r7, r8, r9, r10⟩ := ev_frozen HZ4.out
  go_wp2_with fail
  have hA := set_ev ⟨kd, dy, ek, ln, am, rt, ic, sb, st, pl, fm⟩ HZ4.out
  have hAb := set_ev_below ⟨kd, dy, ek, ln, am, rt, ic, sb, st, pl, fm⟩ HG0.out HB4.out
  (try simp only [Exit.inBlock, Exit.then])
  refine bodyPost_ret (Vw.results_cell_row2 (p := 4) (u := 5) (ty := 25) rfl _ _ g0 25 _ _ _ rfl hA.heap Tryz.underlying25 rfl (by kernel_rfl)) rfl ?_
  exact ⟨rev_is _ _ HR1.out HR2.out, hAb⟩
set_option maxRecDepth 40000 in
set_option maxHeartbeats 32000000 in
theorem revent_2 (day key : Int) (Y : List (List UInt8)) (hl : ∀ x ∈ Y, x.length ≤ 1000000) (hY : Y.length ≤ 1000000) (p : Option Addr) (c g : Nat) (w : World) (hw : Ws w g p Y c) :
    Calls Tryz.prog 55 #[.agg #[.int .i64 2, .int .i64 day, .int .u32 key, .int .i64 0, .int .i64 0, .float .f64 0, .float .f64 0, .bool false, .int .i64 0, .int .i64 0, .int .i64 0], .slice p Y.length c] w fun r w' => REv (gv2 ⟨2, day, key, 0, 0, 0, 0, false, 0, 0, 0⟩ Y) r ∧ Below w.heap.size w w' := by
  have hB1 := (Below.refl w.heap.size w).alloc (Nat.le_refl _) (.cells #[.int .i64 2, .int .i64 day, .int .u32 key, .int .i64 0, .int .i64 0, .float .f64 0, .float .f64 0, .bool false, .int .i64 0, .int .i64 0, .int .i64 0] 25)
  have hE1 := Blk.new w 25 #[.int .i64 2, .int .i64 day, .int .u32 key, .int .i64 0, .int .i64 0, .float .f64 0, .float .f64 0, .bool false, .int .i64 0, .int .i64 0, .int .i64 0]
  obtain ⟨w1, hw1⟩ : ∃ w1, w.alloc (.cells #[.int .i64 2, .int .i64 day, .int .u32 key, .int .i64 0, .int .i64 0, .float .f64 0, .float .f64 0, .bool false, .int .i64 0, .int .i64 0, .int .i64 0] 25) = w1 := ⟨_, rfl⟩
  rw [hw1] at hB1 hE1
  have hal := (Below.refl w1.heap.size w1).alloc (Nat.le_refl _) (.cells #[.int .i64 0, .int .i64 0, .int .u32 0, .int .i64 0, .int .i64 0, .float .f64 0, .float .f64 0, .bool false, .int .i64 0, .int .i64 0, .int .i64 0] 25)
  have hZ2 := Blk.new w1 25 #[.int .i64 0, .int .i64 0, .int .u32 0, .int .i64 0, .int .i64 0, .float .f64 0, .float .f64 0, .bool false, .int .i64 0, .int .i64 0, .int .i64 0]
  have hE2 := hE1.below hal
  have hB2 := hB1.trans (hal.mono hB1.size)
  have hlt := hE1.lt
  obtain ⟨w2, hw2⟩ : ∃ w2, w1.alloc (.cells #[.int .i64 0, .int .i64 0, .int .u32 0, .int .i64 0, .int .i64 0, .float .f64 0, .float .f64 0, .bool false, .int .i64 0, .int .i64 0, .int .i64 0] 25) = w2 := ⟨_, rfl⟩
  rw [hw2] at hZ2 hE2 hB2
  have hal := (Below.refl w2.heap.size w2).alloc (Nat.le_refl _) (.cells #[.int .i64 0, .int .i64 0] 2)
  have hN3 := Blk.new w2 2 #[.int .i64 0, .int .i64 0]
  have hE3 := hE2.below hal
  have hZ3 := hZ2.below hal
  have hB3 := hB2.trans (hal.mono hB2.size)
  have hlt2 := hZ2.lt
  obtain ⟨w3, hw3⟩ : ∃ w3, w2.alloc (.cells #[.int .i64 0, .int .i64 0] 2) = w3 := ⟨_, rfl⟩
  rw [hw3] at hN3 hE3 hZ3 hB3
  obtain ⟨ge, hge⟩ : ∃ ge, w.heap.size = ge := ⟨_, rfl⟩
  obtain ⟨g0, hg0⟩ : ∃ g0, w1.heap.size = g0 := ⟨_, rfl⟩
  obtain ⟨gn, hgn⟩ : ∃ gn, w2.heap.size = gn := ⟨_, rfl⟩
  have HG0 : Hid (w.heap.size ≤ g0) := Lib.hid (by omega)
  have HGe : Hid (w.heap.size ≤ ge ∧ ge < g0 ∧ g0 < gn) := Lib.hid (by omega)
  rw [hg0] at hZ3
  rw [hge] at hE3
  rw [hgn] at hN3
  have HZ3 : Hid (Blk w3 g0 25 (⟨0, 0, 0, 0, 0, 0, 0, false, 0, 0, 0⟩ : E).cells) := Lib.hid hZ3
  have HE3 : Hid (Blk w3 ge 25 (⟨2, day, key, 0, 0, 0, 0, false, 0, 0, 0⟩ : E).cells) := Lib.hid hE3
  have HN3 := Lib.hid hN3
  have HB3 := Lib.hid hB3
  have hmk := make2
  have hst0 := st_f64
  clear hB1 hE1 hal hZ2 hE2 hB2 hlt hN3 hE3 hZ3 hB3 hlt2
  obtain ⟨n, hn⟩ : ∃ n, Y.length = n := ⟨_, rfl⟩
  have hcap : n ≤ c := hn ▸ hw.cap
  rw [hn]
  by_cases hq : n = 2
  · subst hq
    obtain ⟨y0, y1, rfl⟩ : ∃ y0 y1, Y = [y0, y1] := by
      match Y, hn with
      | [y0, y1], _ => exact ⟨y0, y1, rfl⟩
    rcases hw.lies with h1 | ⟨b, off, rfl, _, hbw, hc⟩
    · cases h1
    have HC := Lib.hid hc
    have HBw := Lib.hid hbw
    clear hw hc hbw
    go_enter Tryz.func55, Tryz.ntmps55
    go_upto_region 3 with fail
    clear hw1 hw2 hw3 hge hg0 hgn hmk
    have q0 : w3.cell? ⟨ge, 0, none⟩ = some (.int .i64 2) := HE3.out.cell 0
    have hx : w3.cell? ⟨b, off + 1, none⟩ = some (.string (str y1)) := (HB3.out.cell (p := ⟨b, off + 1, none⟩) HBw.out).trans (HC.out 1 y1 rfl)
    obtain ⟨st, hst⟩ : ∃ st, fnd y1 0 statL = st := ⟨_, rfl⟩
    have HSt := Lib.hid (hst.symm.trans (stat_fnd y1))
    go_wp2_with fail
    go_region_with (first
        | (go_at_call 33
           refine (stats_calls _).mono ?_
           rintro r w4 ⟨rfl, hw4⟩
           have hb4 : Below w.heap.size w w4 := by rw [hw4]; exact HB3.out.drew.alloc HB3.out.drew.size _
           have hE4 : Blk w4 ge 25 (⟨2, day, key, 0, 0, 0, 0, false, 0, 0, 0⟩ : E).cells := by rw [hw4]; exact (blk_drew HE3.out).below ((Below.refl _ _).alloc (Nat.le_refl _) _)
           have hZ4 : Blk w4 g0 25 (⟨0, 0, 0, 0, 0, 0, 0, false, 0, 0, 0⟩ : E).cells := by rw [hw4]; exact (blk_drew HZ3.out).below ((Below.refl _ _).alloc (Nat.le_refl _) _)
           have hN4 : Blk w4 gn 2 #[.int .i64 0, .int .i64 0] := by rw [hw4]; exact (blk_drew HN3.out).below ((Below.refl _ _).alloc (Nat.le_refl _) _)
           have hws : Ws w4 w4.heap.size (some ⟨w3.drew.heap.size, 0, none⟩) statL 5 := by rw [hw4]; exact ws_made _ statL 5 rfl
           have hx4 : w4.cell? ⟨b, off + 1, none⟩ = some (.string (str y1)) := (hb4.cell (p := ⟨b, off + 1, none⟩) HBw.out).trans (HC.out 1 y1 rfl)
           have e8 : w4.cell? ⟨ge, 8, none⟩ = some (.int .i64 0) := hE4.cell 8
           have f8 := hE4.frozen 8
           have HE4 := Lib.hid hE4
           have HZ4 := Lib.hid hZ4
           have HN4 := Lib.hid hN4
           have HB4 := Lib.hid hb4
           clear hb4 hE4 hZ4 hN4 hw4)
        | (go_at_call 54
           refine (rfind5 y1 (by first | exact hws | exact ws_drew hws)).mono ?_
           rintro r w5 ⟨rfl, rfl⟩))
    all_goals
      have HE7 : Hid (Blk (w5.setCell ⟨ge, 8, none⟩ (.int .i64 st)) ge 25 (⟨2, day, key, 0, 0, 0, 0, false, st, 0, 0⟩ : E).cells) := Lib.hid (HE4.out.set_ 8 _)
      have HZ7 : Hid (Blk (w5.setCell ⟨ge, 8, none⟩ (.int .i64 st)) g0 25 (⟨0, 0, 0, 0, 0, 0, 0, false, 0, 0, 0⟩ : E).cells) := Lib.hid (blk_at HZ4.out (by have := HGe.out; omega))
      have HN7 : Hid (Blk (w5.setCell ⟨ge, 8, none⟩ (.int .i64 st)) gn 2 #[.int .i64 0, .int .i64 0]) := Lib.hid (blk_at HN4.out (by have := HGe.out; omega))
      have HB7 : Hid (Below w.heap.size w (w5.setCell ⟨ge, 8, none⟩ (.int .i64 st))) := Lib.hid (below_set HB4.out HGe.out.1 8 _)
      clear e8 f8 hx4 hx q0
      generalize w5.setCell ⟨ge, 8, none⟩ (.int .i64 st) = w7 at *
      go_wp2_with fail
      go_loopw [10] (fun vi wr => ∃ (i : Nat) (a b2 : Int), i ≤ 1 ∧ vi = .int .i64 (i : Int) ∧ Blk wr ge 25 (⟨2, day, key, 0, 0, 0, 0, false, st, 0, 0⟩ : E).cells ∧ Blk wr g0 25 (⟨0, 0, 0, 0, 0, 0, 0, false, 0, 0, 0⟩ : E).cells ∧ Blk wr gn 2 #[.int .i64 a, .int .i64 b2] ∧ Below w.heap.size w wr ∧ Hid ((1 ≤ i → numB y0 = true ∧ a = max (numP y0) 0) ∧ (2 ≤ i → numB y0 = true ∧ b2 = max (numP y0) 0) ∧ (i ≤ 1 → b2 = 0))) (fun vi _ => 1 - (RowKit.intOf vi).toNat)
      case atStart => exact ⟨0, 0, 0, by decide, rfl, HE7.out, HZ7.out, HN7.out, HB7.out, Lib.hid ⟨fun h => absurd h (by decide), fun h => absurd h (by decide), fun _ => rfl⟩⟩
      case round =>
        obtain ⟨i, a, b2, hi, rfl, he, hz, hnn, hb, hh⟩ := hrel
        have HEr := Lib.hid he
        have HZr := Lib.hid hz
        have HNr := Lib.hid hnn
        have HBr := Lib.hid hb
        have n0 : wr.cell? ⟨gn, 0, none⟩ = some (.int .i64 a) := hnn.cell 0
        have n1 : wr.cell? ⟨gn, 1, none⟩ = some (.int .i64 b2) := hnn.cell 1
        have fn0 := hnn.frozen 0
        have fn1 := hnn.frozen 1
        have q0 : wr.cell? ⟨ge, 0, none⟩ = some (.int .i64 2) := he.cell 0
        have hc : i = 0 ∨ i = 1 := by omega
        clear he hz hnn hb
        rcases hc with rfl | rfl
        · skip
          have cy0 : wr.cell? ⟨b, off, none⟩ = some (.string (str y0)) := (HBr.out.cell (p := ⟨b, off, none⟩) HBw.out).trans (HC.out 0 y0 rfl)
          have HNu := Lib.hid (rnum_calls y0 (hl y0 (by simp)) wr)
          obtain ⟨m, hm⟩ : ∃ m, max (numP y0) 0 = m := ⟨_, rfl⟩
          have HM := Lib.hid hm
          rw [hm] at HNu
          clear hm
          rcases (show numB y0 = false ∨ numB y0 = true by cases numB y0 <;> simp) with hnb | hnb
          · skip
            rw [hnb] at HNu
            have HNb := Lib.hid hnb
            clear hnb hh fn0 fn1
            go_wp2_with fail
            refine HNu.out.mono ?_
            rintro r w6 ⟨rfl, rfl⟩
            clear n0 n1 q0 cy0
            obtain ⟨k0, k1, k2, k3, k4, k5, k6, k7, k8, k9, k10⟩ := ev_cells HEr.out
            obtain ⟨z0, z1, z2, z3, z4, z5, z6, z7, z8, z9, z10⟩ := ev_cells HZr.out
            obtain ⟨r0, r1, r2, r3, r4, r5, r6, r7, r8, r9, r10⟩ := ev_frozen HZr.out
            go_wp2_with fail
            have hA := set_ev ⟨2, day, key, 0, 0, 0, 0, false, st, 0, 0⟩ HZr.out
            have hAb := set_ev_below ⟨2, day, key, 0, 0, 0, 0, false, st, 0, 0⟩ HG0.out HBr.out
            (try simp only [Exit.inBlock, Exit.then])
            refine bodyPost_ret (Vw.results_cell_row2 (p := 4) (u := 5) (ty := 25) rfl _ _ g0 25 _ _ _ rfl hA.heap Tryz.underlying25 rfl (by kernel_rfl)) rfl ?_
            exact ⟨rev_no (by show (numB y0 && _) = false; rw [HNb.out]; rfl) _, hAb⟩
          · skip
            rw [hnb] at HNu
            have HNb := Lib.hid hnb
            clear hnb
            go_wp2_with fail
            refine HNu.out.mono ?_
            rintro r w6 ⟨rfl, rfl⟩
            have hne : ¬ ge = gn := by have := HGe.out; omega
            have hne2 : ¬ g0 = gn := by have := HGe.out; omega
            go_wp2_with fail
            go_roundw
            case rel => exact ⟨1, m, b2, by decide, by go_num, blk_at HEr.out hne, blk_at HZr.out hne2, HNr.out.set_ 0 _, below_set HBr.out (by have := HGe.out; omega) 0 _, Lib.hid ⟨fun _ => ⟨HNb.out, HM.out.symm⟩, fun h => absurd h (by decide), fun _ => hh.out.2.2 (by decide)⟩⟩
            all_goals (simp [RowKit.intOf])
        · obtain ⟨v0, rfl⟩ := hh.out.1 (by decide)
          obtain rfl := hh.out.2.2 (by decide)
          have HV0 := Lib.hid v0
          clear hh fn0 fn1 v0
          obtain ⟨m0, hm0⟩ : ∃ m, max (numP y0) 0 = m := ⟨_, rfl⟩
          have HM0 := Lib.hid hm0
          rw [hm0] at n0
          clear hm0
          have q3 : wr.cell? ⟨ge, 3, none⟩ = some (.int .i64 0) := HEr.out.cell 3
          have fq3 := HEr.out.frozen 3
          have q4 : wr.cell? ⟨ge, 4, none⟩ = some (.int .i64 0) := HEr.out.cell 4
          have fq4 := HEr.out.frozen 4
          have hne : ¬ ge = gn := by have := HGe.out; omega
          have hne2 : ¬ gn = ge := by omega
          go_wp2_with fail
          go_region
          have HEq : Hid (Blk ((wr.setCell ⟨ge, 3, none⟩ (.int .i64 m0)).setCell ⟨ge, 4, none⟩ (.int .i64 0)).drew ge 25 (⟨2, day, key, m0, 0, 0, 0, false, st, 0, 0⟩ : E).cells) := Lib.hid (blk_drew ((HEr.out.set_ 3 _).set_ 4 _))
          have HZq := Lib.hid (blk_drew (blk_at (i := 4) (v := .int .i64 0) (blk_at (i := 3) (v := .int .i64 m0) HZr.out (show g0 ≠ ge by have := HGe.out; omega)) (show g0 ≠ ge by have := HGe.out; omega)))
          have HBq := Lib.hid (below_set (below_set HBr.out HGe.out.1 3 (.int .i64 m0)) HGe.out.1 4 (.int .i64 0)).drew
          clear q3 fq3 q4 fq4 n0 n1 q0
          generalize ((wr.setCell ⟨ge, 3, none⟩ (.int .i64 m0)).setCell ⟨ge, 4, none⟩ (.int .i64 0)).drew = wq at *
          obtain ⟨k0, k1, k2, k3, k4, k5, k6, k7, k8, k9, k10⟩ := ev_cells HEq.out
          obtain ⟨z0, z1, z2, z3, z4, z5, z6, z7, z8, z9, z10⟩ := ev_cells HZq.out
          obtain ⟨r0, r1, r2, r3, r4, r5, r6, r7, r8, r9, r10⟩ := ev_frozen HZq.out
          go_wp2_with fail
          have hA := set_ev ⟨2, day, key, m0, 0, 0, 0, false, st, 0, 0⟩ HZq.out
          have hAb := set_ev_below ⟨2, day, key, m0, 0, 0, 0, false, st, 0, 0⟩ HG0.out HBq.out
          (try simp only [Exit.inBlock, Exit.then])
          refine bodyPost_ret (Vw.results_cell_row2 (p := 4) (u := 5) (ty := 25) rfl _ _ g0 25 _ _ _ rfl hA.heap Tryz.underlying25 rfl (by kernel_rfl)) rfl ?_
          exact ⟨rev_is _ _ (by show _ = (numB y0 && true); rw [HV0.out]; rfl) (fun _ => by show _ = (⟨2, day, key, max (numP y0) 0, 0, 0, 0, false, stN y1, 0, 0⟩ : E); rw [HM0.out, ← HSt.out]), hAb⟩
  · have HG := Lib.hid (gv2_no ⟨2, day, key, 0, 0, 0, 0, false, 0, 0, 0⟩ (Y := Y) (by rw [hn]; exact hq))
    have hq2 : ¬ (n : Int) = 2 := by omega
    have hq3 : ((n : Int) == 2) = false := beq_eq_false_iff_ne.2 hq2
    go_enter Tryz.func55, Tryz.ntmps55
    go_upto_region 3 with fail
    clear hw1 hw2 hw3 hge hg0 hgn hmk
    have q0 : w3.cell? ⟨ge, 0, none⟩ = some (.int .i64 2) := HE3.out.cell 0
    obtain ⟨k0, k1, k2, k3, k4, k5, k6, k7, k8, k9, k10⟩ := ev_cells HE3.out
    obtain ⟨z0, z1, z2, z3, z4, z5, z6, z7, z8, z9, z10⟩ := ev_cells HZ3.out
    obtain ⟨r0, r1, r2, r3, r4, r5, r6, r7, r8, r9, r10⟩ := ev_frozen HZ3.out
    go_wp2_with fail
    have hA := set_ev ⟨2, day, key, 0, 0, 0, 0, false, 0, 0, 0⟩ HZ3.out
    have hAb := set_ev_below ⟨2, day, key, 0, 0, 0, 0, false, 0, 0, 0⟩ HG0.out HB3.out
    (try simp only [Exit.inBlock, Exit.then])
    refine bodyPost_ret (Vw.results_cell_row2 (p := 4) (u := 5) (ty := 25) rfl _ _ g0 25 _ _ _ rfl hA.heap Tryz.underlying25 rfl (by kernel_rfl)) rfl ?_
    exact ⟨rev_no (by rw [HG.out]; rfl) _, hAb⟩
set_option maxRecDepth 40000 in
set_option maxHeartbeats 32000000 in
theorem revent_1 (day key : Int) (Y : List (List UInt8)) (hl : ∀ x ∈ Y, x.length ≤ 1000000) (hY : Y.length ≤ 1000000) (p : Option Addr) (c g : Nat) (w : World) (hw : Ws w g p Y c) :
    Calls Tryz.prog 55 #[.agg #[.int .i64 1, .int .i64 day, .int .u32 key, .int .i64 0, .int .i64 0, .float .f64 0, .float .f64 0, .bool false, .int .i64 0, .int .i64 0, .int .i64 0], .slice p Y.length c] w fun r w' => REv (gv1 ⟨1, day, key, 0, 0, 0, 0, false, 0, 0, 0⟩ Y) r ∧ Below w.heap.size w w' := by
  have hB1 := (Below.refl w.heap.size w).alloc (Nat.le_refl _) (.cells #[.int .i64 1, .int .i64 day, .int .u32 key, .int .i64 0, .int .i64 0, .float .f64 0, .float .f64 0, .bool false, .int .i64 0, .int .i64 0, .int .i64 0] 25)
  have hE1 := Blk.new w 25 #[.int .i64 1, .int .i64 day, .int .u32 key, .int .i64 0, .int .i64 0, .float .f64 0, .float .f64 0, .bool false, .int .i64 0, .int .i64 0, .int .i64 0]
  obtain ⟨w1, hw1⟩ : ∃ w1, w.alloc (.cells #[.int .i64 1, .int .i64 day, .int .u32 key, .int .i64 0, .int .i64 0, .float .f64 0, .float .f64 0, .bool false, .int .i64 0, .int .i64 0, .int .i64 0] 25) = w1 := ⟨_, rfl⟩
  rw [hw1] at hB1 hE1
  have hal := (Below.refl w1.heap.size w1).alloc (Nat.le_refl _) (.cells #[.int .i64 0, .int .i64 0, .int .u32 0, .int .i64 0, .int .i64 0, .float .f64 0, .float .f64 0, .bool false, .int .i64 0, .int .i64 0, .int .i64 0] 25)
  have hZ2 := Blk.new w1 25 #[.int .i64 0, .int .i64 0, .int .u32 0, .int .i64 0, .int .i64 0, .float .f64 0, .float .f64 0, .bool false, .int .i64 0, .int .i64 0, .int .i64 0]
  have hE2 := hE1.below hal
  have hB2 := hB1.trans (hal.mono hB1.size)
  have hlt := hE1.lt
  obtain ⟨w2, hw2⟩ : ∃ w2, w1.alloc (.cells #[.int .i64 0, .int .i64 0, .int .u32 0, .int .i64 0, .int .i64 0, .float .f64 0, .float .f64 0, .bool false, .int .i64 0, .int .i64 0, .int .i64 0] 25) = w2 := ⟨_, rfl⟩
  rw [hw2] at hZ2 hE2 hB2
  have hal := (Below.refl w2.heap.size w2).alloc (Nat.le_refl _) (.cells #[.int .i64 0, .int .i64 0] 2)
  have hN3 := Blk.new w2 2 #[.int .i64 0, .int .i64 0]
  have hE3 := hE2.below hal
  have hZ3 := hZ2.below hal
  have hB3 := hB2.trans (hal.mono hB2.size)
  have hlt2 := hZ2.lt
  obtain ⟨w3, hw3⟩ : ∃ w3, w2.alloc (.cells #[.int .i64 0, .int .i64 0] 2) = w3 := ⟨_, rfl⟩
  rw [hw3] at hN3 hE3 hZ3 hB3
  obtain ⟨ge, hge⟩ : ∃ ge, w.heap.size = ge := ⟨_, rfl⟩
  obtain ⟨g0, hg0⟩ : ∃ g0, w1.heap.size = g0 := ⟨_, rfl⟩
  obtain ⟨gn, hgn⟩ : ∃ gn, w2.heap.size = gn := ⟨_, rfl⟩
  have HG0 : Hid (w.heap.size ≤ g0) := Lib.hid (by omega)
  have HGe : Hid (w.heap.size ≤ ge ∧ ge < g0 ∧ g0 < gn) := Lib.hid (by omega)
  rw [hg0] at hZ3
  rw [hge] at hE3
  rw [hgn] at hN3
  have HZ3 : Hid (Blk w3 g0 25 (⟨0, 0, 0, 0, 0, 0, 0, false, 0, 0, 0⟩ : E).cells) := Lib.hid hZ3
  have HE3 : Hid (Blk w3 ge 25 (⟨1, day, key, 0, 0, 0, 0, false, 0, 0, 0⟩ : E).cells) := Lib.hid hE3
  have HN3 := Lib.hid hN3
  have HB3 := Lib.hid hB3
  have hmk := make2
  have hst0 := st_f64
  clear hB1 hE1 hal hZ2 hE2 hB2 hlt hN3 hE3 hZ3 hB3 hlt2
  obtain ⟨n, hn⟩ : ∃ n, Y.length = n := ⟨_, rfl⟩
  have hcap : n ≤ c := hn ▸ hw.cap
  rw [hn]
  by_cases hq : n = 4
  · subst hq
    obtain ⟨y0, y1, y2, y3, rfl⟩ : ∃ y0 y1 y2 y3, Y = [y0, y1, y2, y3] := by
      match Y, hn with
      | [y0, y1, y2, y3], _ => exact ⟨y0, y1, y2, y3, rfl⟩
    rcases hw.lies with h1 | ⟨b, off, rfl, _, hbw, hc⟩
    · cases h1
    have HC := Lib.hid hc
    have HBw := Lib.hid hbw
    clear hw hc hbw
    go_enter Tryz.func55, Tryz.ntmps55
    go_upto_region 3 with fail
    clear hw1 hw2 hw3 hge hg0 hgn hmk
    have q0 : w3.cell? ⟨ge, 0, none⟩ = some (.int .i64 1) := HE3.out.cell 0
    have cx3 : w3.cell? ⟨b, off + 3, none⟩ = some (.string (str y3)) := (HB3.out.cell (p := ⟨b, off + 3, none⟩) HBw.out).trans (HC.out 3 y3 rfl)
    have hal := (Below.refl w3.heap.size w3).alloc (Nat.le_refl _) (.cells #[.string ⟨#[48]⟩, .string ⟨#[49]⟩] 9)
    have HWf : Hid (Ws (w3.alloc (.cells #[.string ⟨#[48]⟩, .string ⟨#[49]⟩] 9)) (w3.alloc (.cells #[.string ⟨#[48]⟩, .string ⟨#[49]⟩] 9)).heap.size (some ⟨w3.heap.size, 0, none⟩) flagL 2) := Lib.hid (ws_made w3 flagL 2 rfl)
    have HE4 := Lib.hid (HE3.out.below hal)
    have HZ4 := Lib.hid (HZ3.out.below hal)
    have HN4 := Lib.hid (HN3.out.below hal)
    have HB4 := Lib.hid (HB3.out.trans (hal.mono HB3.out.size))
    have cx4 : (w3.alloc (.cells #[.string ⟨#[48]⟩, .string ⟨#[49]⟩] 9)).cell? ⟨b, off + 3, none⟩ = some (.string (str y3)) := (HB4.out.cell (p := ⟨b, off + 3, none⟩) HBw.out).trans (HC.out 3 y3 rfl)
    obtain ⟨w4, hw4⟩ : ∃ w4, w3.alloc (.cells #[.string ⟨#[48]⟩, .string ⟨#[49]⟩] 9) = w4 := ⟨_, rfl⟩
    rw [hw4] at HWf HE4 HZ4 HN4 HB4 cx4
    have HFd := Lib.hid (rfind2 y3 HWf.out)
    obtain ⟨fl, hfl⟩ : ∃ fl, fnd y3 0 flagL = fl := ⟨_, rfl⟩
    have HFl := Lib.hid hfl
    rw [hfl] at HFd
    clear hal hfl
    by_cases hf0 : fl = 0
    · subst hf0
      have HNo := Lib.hid ((flag_fnd y3).1.1 HFl.out)
      go_wp2_with fail
      refine HFd.out.mono ?_
      rintro r w5 ⟨rfl, rfl⟩
      clear cx3 cx4 q0
      obtain ⟨k0, k1, k2, k3, k4, k5, k6, k7, k8, k9, k10⟩ := ev_cells HE4.out
      obtain ⟨z0, z1, z2, z3, z4, z5, z6, z7, z8, z9, z10⟩ := ev_cells HZ4.out
      obtain ⟨r0, r1, r2, r3, r4, r5, r6, r7, r8, r9, r10⟩ := ev_frozen HZ4.out
      go_wp2_with fail
      have hA := set_ev ⟨1, day, key, 0, 0, 0, 0, false, 0, 0, 0⟩ HZ4.out
      have hAb := set_ev_below ⟨1, day, key, 0, 0, 0, 0, false, 0, 0, 0⟩ HG0.out HB4.out
      (try simp only [Exit.inBlock, Exit.then])
      refine bodyPost_ret (Vw.results_cell_row2 (p := 4) (u := 5) (ty := 25) rfl _ _ g0 25 _ _ _ rfl hA.heap Tryz.underlying25 rfl (by kernel_rfl)) rfl ?_
      exact ⟨rev_no (by show (((numB y0 && numB y1) && realB y2) && (numB y3 && _) && _) = false; rw [HNo.out, Bool.and_false]; rfl) _, hAb⟩
    · have hfl3 : (fl == 0) = false := beq_eq_false_iff_ne.2 hf0
      go_upto_region 8 with (go_at_call 54; refine HFd.out.mono ?_; rintro r w4 ⟨rfl, rfl⟩)
      clear cx3 cx4
      rcases flag_two (fun h => hf0 (HFl.out.symm.trans h)) with rfl | rfl
      · skip
        have cy2 : w4.cell? ⟨b, off + 2, none⟩ = some (.string (str y2)) := (HB4.out.cell (p := ⟨b, off + 2, none⟩) HBw.out).trans (HC.out 2 y2 rfl)
        have HF := Lib.hid (rfloat_calls y2 (hl y2 (by simp)) w4)
        obtain ⟨rb, hrb⟩ : ∃ rb, realB y2 = rb := ⟨_, rfl⟩
        have HRb := Lib.hid hrb
        go_wp2_with fail
        refine HF.out.mono ?_
        rintro r w5 ⟨⟨fv, rfl, hfy, hf64⟩, hb5⟩
        have HFy := Lib.hid hfy
        have HE5 := Lib.hid (HE4.out.below hb5)
        have HZ5 := Lib.hid (HZ4.out.below hb5)
        have HN5 := Lib.hid (HN4.out.below hb5)
        have HB5 := Lib.hid (HB4.out.trans (hb5.mono HB4.out.size))
        clear hfy hf64 hb5 cy2
        have cy3 : w5.cell? ⟨b, off + 3, none⟩ = some (.string ⟨#[48]⟩) := (HB5.out.cell (p := ⟨b, off + 3, none⟩) HBw.out).trans (HC.out 3 [48] rfl)
        have e5 : w5.cell? ⟨ge, 5, none⟩ = some (.float .f64 0) := HE5.out.cell 5
        have f5 := HE5.out.frozen 5
        have e7 : w5.cell? ⟨ge, 7, none⟩ = some (.bool false) := HE5.out.cell 7
        have f7 := HE5.out.frozen 7
        have hbne : ¬ b = ge := by have := HGe.out; have := HBw.out; omega
        have hbne2 : ¬ ge = b := fun h => hbne h.symm
        go_upto_region 9 with fail
        go_cut [7] from 38 to 44 (fun v7 W => v7 = .int .i64 2 ∧ Blk W ge 25 (⟨1, day, key, 0, 0, fv, 0, false, 0, 0, 0⟩ : E).cells ∧ Blk W g0 25 (⟨0, 0, 0, 0, 0, 0, 0, false, 0, 0, 0⟩ : E).cells ∧ Blk W gn 2 #[.int .i64 0, .int .i64 0] ∧ Below w.heap.size w W)
        case first =>
          go_region
          all_goals (go_wp2_with fail)
          all_goals go_meet
          all_goals case rel => exact ⟨rfl, blk_drew ((HE5.out.set_ 5 _).set_ 7 _), blk_drew (blk_at (blk_at HZ5.out (show g0 ≠ ge by have := HGe.out; omega)) (show g0 ≠ ge by have := HGe.out; omega)), blk_drew (blk_at (blk_at HN5.out (show gn ≠ ge by have := HGe.out; omega)) (show gn ≠ ge by have := HGe.out; omega)), (below_set (below_set HB5.out HGe.out.1 5 _) HGe.out.1 7 _).drew⟩
        case rest =>
          obtain ⟨rfl, hE6, hZ6, hN6, hB6⟩ := hcut
          have HE6 := Lib.hid hE6
          have HZ6 := Lib.hid hZ6
          have HN6 := Lib.hid hN6
          have HB6 := Lib.hid hB6
          clear hE6 hZ6 hN6 hB6 cy3 e5 f5 e7 f7
          generalize wc = w6 at *
          cases rb with
          | false =>
            obtain ⟨k0, k1, k2, k3, k4, k5, k6, k7, k8, k9, k10⟩ := ev_cells HE6.out
            obtain ⟨z0, z1, z2, z3, z4, z5, z6, z7, z8, z9, z10⟩ := ev_cells HZ6.out
            obtain ⟨r0, r1, r2, r3, r4, r5, r6, r7, r8, r9, r10⟩ := ev_frozen HZ6.out
            go_wp2_with fail
            have hA := set_ev ⟨1, day, key, 0, 0, fv, 0, false, 0, 0, 0⟩ HZ6.out
            have hAb := set_ev_below ⟨1, day, key, 0, 0, fv, 0, false, 0, 0, 0⟩ HG0.out HB6.out
            (try simp only [Exit.inBlock, Exit.then])
            refine bodyPost_ret (Vw.results_cell_row2 (p := 4) (u := 5) (ty := 25) rfl _ _ g0 25 _ _ _ rfl hA.heap Tryz.underlying25 rfl (by kernel_rfl)) rfl ?_
            exact ⟨rev_no (by show (((numB y0 && numB y1) && realB y2) && (numB [48] && _) && _) = false; rw [HRb.out, Bool.and_false]; rfl) _, hAb⟩
          | true =>
            go_wp2_with fail
            go_loopw [10] (fun vi wr => ∃ (i : Nat) (a b2 : Int), i ≤ 2 ∧ vi = .int .i64 (i : Int) ∧ Blk wr ge 25 (⟨1, day, key, 0, 0, fv, 0, false, 0, 0, 0⟩ : E).cells ∧ Blk wr g0 25 (⟨0, 0, 0, 0, 0, 0, 0, false, 0, 0, 0⟩ : E).cells ∧ Blk wr gn 2 #[.int .i64 a, .int .i64 b2] ∧ Below w.heap.size w wr ∧ Hid ((1 ≤ i → numB y0 = true ∧ a = max (numP y0) 0) ∧ (2 ≤ i → numB y1 = true ∧ b2 = max (numP y1) 0) ∧ (i ≤ 1 → b2 = 0))) (fun vi _ => 2 - (RowKit.intOf vi).toNat)
            case atStart => exact ⟨0, 0, 0, by decide, rfl, HE6.out, HZ6.out, HN6.out, HB6.out, Lib.hid ⟨fun h => absurd h (by decide), fun h => absurd h (by decide), fun _ => rfl⟩⟩
            case round =>
              obtain ⟨i, a, b2, hi, rfl, he, hz, hnn, hb, hh⟩ := hrel
              have HEr := Lib.hid he
              have HZr := Lib.hid hz
              have HNr := Lib.hid hnn
              have HBr := Lib.hid hb
              have n0 : wr.cell? ⟨gn, 0, none⟩ = some (.int .i64 a) := hnn.cell 0
              have n1 : wr.cell? ⟨gn, 1, none⟩ = some (.int .i64 b2) := hnn.cell 1
              have fn0 := hnn.frozen 0
              have fn1 := hnn.frozen 1
              have q0 : wr.cell? ⟨ge, 0, none⟩ = some (.int .i64 1) := he.cell 0
              have hc : i = 0 ∨ i = 1 ∨ i = 2 := by omega
              clear he hz hnn hb
              rcases hc with rfl | rfl | rfl
              · skip
                have cy0 : wr.cell? ⟨b, off, none⟩ = some (.string (str y0)) := (HBr.out.cell (p := ⟨b, off, none⟩) HBw.out).trans (HC.out 0 y0 rfl)
                have HNu := Lib.hid (rnum_calls y0 (hl y0 (by simp)) wr)
                obtain ⟨m, hm⟩ : ∃ m, max (numP y0) 0 = m := ⟨_, rfl⟩
                have HM := Lib.hid hm
                rw [hm] at HNu
                clear hm
                rcases (show numB y0 = false ∨ numB y0 = true by cases numB y0 <;> simp) with hnb | hnb
                · skip
                  rw [hnb] at HNu
                  have HNb := Lib.hid hnb
                  clear hnb hh fn0 fn1
                  go_wp2_with fail
                  refine HNu.out.mono ?_
                  rintro r w6 ⟨rfl, rfl⟩
                  clear n0 n1 q0 cy0
                  obtain ⟨k0, k1, k2, k3, k4, k5, k6, k7, k8, k9, k10⟩ := ev_cells HEr.out
                  obtain ⟨z0, z1, z2, z3, z4, z5, z6, z7, z8, z9, z10⟩ := ev_cells HZr.out
                  obtain ⟨r0, r1, r2, r3, r4, r5, r6, r7, r8, r9, r10⟩ := ev_frozen HZr.out
                  go_wp2_with fail
                  have hA := set_ev ⟨1, day, key, 0, 0, fv, 0, false, 0, 0, 0⟩ HZr.out
                  have hAb := set_ev_below ⟨1, day, key, 0, 0, fv, 0, false, 0, 0, 0⟩ HG0.out HBr.out
                  (try simp only [Exit.inBlock, Exit.then])
                  refine bodyPost_ret (Vw.results_cell_row2 (p := 4) (u := 5) (ty := 25) rfl _ _ g0 25 _ _ _ rfl hA.heap Tryz.underlying25 rfl (by kernel_rfl)) rfl ?_
                  exact ⟨rev_no (by show (((numB y0 && numB y1) && realB y2) && (numB [48] && _) && _) = false; rw [HNb.out]; rfl) _, hAb⟩
                · skip
                  rw [hnb] at HNu
                  have HNb := Lib.hid hnb
                  clear hnb
                  go_wp2_with fail
                  refine HNu.out.mono ?_
                  rintro r w6 ⟨rfl, rfl⟩
                  have hne : ¬ ge = gn := by have := HGe.out; omega
                  have hne2 : ¬ g0 = gn := by have := HGe.out; omega
                  go_wp2_with fail
                  go_roundw
                  case rel => exact ⟨1, m, b2, by decide, by go_num, blk_at HEr.out hne, blk_at HZr.out hne2, HNr.out.set_ 0 _, below_set HBr.out (by have := HGe.out; omega) 0 _, Lib.hid ⟨fun _ => ⟨HNb.out, HM.out.symm⟩, fun h => absurd h (by decide), fun _ => hh.out.2.2 (by decide)⟩⟩
                  all_goals (simp [RowKit.intOf])
              · skip
                have cy1 : wr.cell? ⟨b, off + 1, none⟩ = some (.string (str y1)) := (HBr.out.cell (p := ⟨b, off + 1, none⟩) HBw.out).trans (HC.out 1 y1 rfl)
                have HNu := Lib.hid (rnum_calls y1 (hl y1 (by simp)) wr)
                obtain ⟨m, hm⟩ : ∃ m, max (numP y1) 0 = m := ⟨_, rfl⟩
                have HM := Lib.hid hm
                rw [hm] at HNu
                clear hm
                rcases (show numB y1 = false ∨ numB y1 = true by cases numB y1 <;> simp) with hnb | hnb
                · skip
                  rw [hnb] at HNu
                  have HNb := Lib.hid hnb
                  clear hnb hh fn0 fn1
                  go_wp2_with fail
                  refine HNu.out.mono ?_
                  rintro r w6 ⟨rfl, rfl⟩
                  clear n0 n1 q0 cy1
                  obtain ⟨k0, k1, k2, k3, k4, k5, k6, k7, k8, k9, k10⟩ := ev_cells HEr.out
                  obtain ⟨z0, z1, z2, z3, z4, z5, z6, z7, z8, z9, z10⟩ := ev_cells HZr.out
                  obtain ⟨r0, r1, r2, r3, r4, r5, r6, r7, r8, r9, r10⟩ := ev_frozen HZr.out
                  go_wp2_with fail
                  have hA := set_ev ⟨1, day, key, 0, 0, fv, 0, false, 0, 0, 0⟩ HZr.out
                  have hAb := set_ev_below ⟨1, day, key, 0, 0, fv, 0, false, 0, 0, 0⟩ HG0.out HBr.out
                  (try simp only [Exit.inBlock, Exit.then])
                  refine bodyPost_ret (Vw.results_cell_row2 (p := 4) (u := 5) (ty := 25) rfl _ _ g0 25 _ _ _ rfl hA.heap Tryz.underlying25 rfl (by kernel_rfl)) rfl ?_
                  exact ⟨rev_no (by show (((numB y0 && numB y1) && realB y2) && (numB [48] && _) && _) = false; rw [HNb.out, Bool.and_false]; rfl) _, hAb⟩
                · skip
                  rw [hnb] at HNu
                  have HNb := Lib.hid hnb
                  clear hnb
                  go_wp2_with fail
                  refine HNu.out.mono ?_
                  rintro r w6 ⟨rfl, rfl⟩
                  have hne : ¬ ge = gn := by have := HGe.out; omega
                  have hne2 : ¬ g0 = gn := by have := HGe.out; omega
                  go_wp2_with fail
                  go_roundw
                  case rel => exact ⟨2, a, m, by decide, by go_num, blk_at HEr.out hne, blk_at HZr.out hne2, HNr.out.set_ 1 _, below_set HBr.out (by have := HGe.out; omega) 1 _, Lib.hid ⟨fun _ => hh.out.1 (by decide), fun _ => ⟨HNb.out, HM.out.symm⟩, fun h => absurd h (by decide)⟩⟩
                  all_goals (simp [RowKit.intOf])
              · obtain ⟨v0, rfl⟩ := hh.out.1 (by decide)
                obtain ⟨v1, rfl⟩ := hh.out.2.1 (by decide)
                have HV0 := Lib.hid v0
                have HV1 := Lib.hid v1
                clear hh fn0 fn1 v0 v1
                obtain ⟨m0, hm0⟩ : ∃ m, max (numP y0) 0 = m := ⟨_, rfl⟩
                have HM0 := Lib.hid hm0
                rw [hm0] at n0
                obtain ⟨m1, hm1⟩ : ∃ m, max (numP y1) 0 = m := ⟨_, rfl⟩
                have HM1 := Lib.hid hm1
                rw [hm1] at n1
                clear hm0 hm1
                have q3 : wr.cell? ⟨ge, 3, none⟩ = some (.int .i64 0) := HEr.out.cell 3
                have fq3 := HEr.out.frozen 3
                have q4 : wr.cell? ⟨ge, 4, none⟩ = some (.int .i64 0) := HEr.out.cell 4
                have fq4 := HEr.out.frozen 4
                have hne : ¬ ge = gn := by have := HGe.out; omega
                have hne2 : ¬ gn = ge := by omega
                go_wp2_with fail
                go_region
                have HEq : Hid (Blk ((wr.setCell ⟨ge, 3, none⟩ (.int .i64 m0)).setCell ⟨ge, 4, none⟩ (.int .i64 m1)).drew ge 25 (⟨1, day, key, m0, m1, fv, 0, false, 0, 0, 0⟩ : E).cells) := Lib.hid (blk_drew ((HEr.out.set_ 3 _).set_ 4 _))
                have HZq := Lib.hid (blk_drew (blk_at (i := 4) (v := .int .i64 m1) (blk_at (i := 3) (v := .int .i64 m0) HZr.out (show g0 ≠ ge by have := HGe.out; omega)) (show g0 ≠ ge by have := HGe.out; omega)))
                have HBq := Lib.hid (below_set (below_set HBr.out HGe.out.1 3 (.int .i64 m0)) HGe.out.1 4 (.int .i64 m1)).drew
                clear q3 fq3 q4 fq4 n0 n1 q0
                generalize ((wr.setCell ⟨ge, 3, none⟩ (.int .i64 m0)).setCell ⟨ge, 4, none⟩ (.int .i64 m1)).drew = wq at *
                obtain ⟨k0, k1, k2, k3, k4, k5, k6, k7, k8, k9, k10⟩ := ev_cells HEq.out
                obtain ⟨z0, z1, z2, z3, z4, z5, z6, z7, z8, z9, z10⟩ := ev_cells HZq.out
                obtain ⟨r0, r1, r2, r3, r4, r5, r6, r7, r8, r9, r10⟩ := ev_frozen HZq.out
                go_wp2_with fail
                have hA := set_ev ⟨1, day, key, m0, m1, fv, 0, false, 0, 0, 0⟩ HZq.out
                have hAb := set_ev_below ⟨1, day, key, m0, m1, fv, 0, false, 0, 0, 0⟩ HG0.out HBq.out
                (try simp only [Exit.inBlock, Exit.then])
                refine bodyPost_ret (Vw.results_cell_row2 (p := 4) (u := 5) (ty := 25) rfl _ _ g0 25 _ _ _ rfl hA.heap Tryz.underlying25 rfl (by kernel_rfl)) rfl ?_
                exact ⟨rev_is _ _ (by show _ = (((numB y0 && numB y1) && realB y2) && (numB [48] && decide (max (numP [48]) 0 ≤ 1)) && true); rw [HV0.out, HV1.out, HRb.out]; decide) (fun _ => by show _ = (⟨1, day, key, max (numP y0) 0, max (numP y1) 0, realU y2, 0, max (numP [48]) 0 == 1, 0, 0, 0⟩ : E); rw [HM0.out, HM1.out, HFy.out HRb.out, show (max (numP [48]) 0 == 1) = false by decide]), hAb⟩
      · skip
        have cy2 : w4.cell? ⟨b, off + 2, none⟩ = some (.string (str y2)) := (HB4.out.cell (p := ⟨b, off + 2, none⟩) HBw.out).trans (HC.out 2 y2 rfl)
        have HF := Lib.hid (rfloat_calls y2 (hl y2 (by simp)) w4)
        obtain ⟨rb, hrb⟩ : ∃ rb, realB y2 = rb := ⟨_, rfl⟩
        have HRb := Lib.hid hrb
        go_wp2_with fail
        refine HF.out.mono ?_
        rintro r w5 ⟨⟨fv, rfl, hfy, hf64⟩, hb5⟩
        have HFy := Lib.hid hfy
        have HE5 := Lib.hid (HE4.out.below hb5)
        have HZ5 := Lib.hid (HZ4.out.below hb5)
        have HN5 := Lib.hid (HN4.out.below hb5)
        have HB5 := Lib.hid (HB4.out.trans (hb5.mono HB4.out.size))
        clear hfy hf64 hb5 cy2
        have cy3 : w5.cell? ⟨b, off + 3, none⟩ = some (.string ⟨#[49]⟩) := (HB5.out.cell (p := ⟨b, off + 3, none⟩) HBw.out).trans (HC.out 3 [49] rfl)
        have e5 : w5.cell? ⟨ge, 5, none⟩ = some (.float .f64 0) := HE5.out.cell 5
        have f5 := HE5.out.frozen 5
        have e7 : w5.cell? ⟨ge, 7, none⟩ = some (.bool false) := HE5.out.cell 7
        have f7 := HE5.out.frozen 7
        have hbne : ¬ b = ge := by have := HGe.out; have := HBw.out; omega
        have hbne2 : ¬ ge = b := fun h => hbne h.symm
        go_upto_region 9 with fail
        go_cut [7] from 38 to 44 (fun v7 W => v7 = .int .i64 2 ∧ Blk W ge 25 (⟨1, day, key, 0, 0, fv, 0, true, 0, 0, 0⟩ : E).cells ∧ Blk W g0 25 (⟨0, 0, 0, 0, 0, 0, 0, false, 0, 0, 0⟩ : E).cells ∧ Blk W gn 2 #[.int .i64 0, .int .i64 0] ∧ Below w.heap.size w W)
        case first =>
          go_region
          all_goals (go_wp2_with fail)
          all_goals go_meet
          all_goals case rel => exact ⟨rfl, blk_drew ((HE5.out.set_ 5 _).set_ 7 _), blk_drew (blk_at (blk_at HZ5.out (show g0 ≠ ge by have := HGe.out; omega)) (show g0 ≠ ge by have := HGe.out; omega)), blk_drew (blk_at (blk_at HN5.out (show gn ≠ ge by have := HGe.out; omega)) (show gn ≠ ge by have := HGe.out; omega)), (below_set (below_set HB5.out HGe.out.1 5 _) HGe.out.1 7 _).drew⟩
        case rest =>
          obtain ⟨rfl, hE6, hZ6, hN6, hB6⟩ := hcut
          have HE6 := Lib.hid hE6
          have HZ6 := Lib.hid hZ6
          have HN6 := Lib.hid hN6
          have HB6 := Lib.hid hB6
          clear hE6 hZ6 hN6 hB6 cy3 e5 f5 e7 f7
          generalize wc = w6 at *
          cases rb with
          | false =>
            obtain ⟨k0, k1, k2, k3, k4, k5, k6, k7, k8, k9, k10⟩ := ev_cells HE6.out
            obtain ⟨z0, z1, z2, z3, z4, z5, z6, z7, z8, z9, z10⟩ := ev_cells HZ6.out
            obtain ⟨r0, r1, r2, r3, r4, r5, r6, r7, r8, r9, r10⟩ := ev_frozen HZ6.out
            go_wp2_with fail
            have hA := set_ev ⟨1, day, key, 0, 0, fv, 0, true, 0, 0, 0⟩ HZ6.out
            have hAb := set_ev_below ⟨1, day, key, 0, 0, fv, 0, true, 0, 0, 0⟩ HG0.out HB6.out
            (try simp only [Exit.inBlock, Exit.then])
            refine bodyPost_ret (Vw.results_cell_row2 (p := 4) (u := 5) (ty := 25) rfl _ _ g0 25 _ _ _ rfl hA.heap Tryz.underlying25 rfl (by kernel_rfl)) rfl ?_
            exact ⟨rev_no (by show (((numB y0 && numB y1) && realB y2) && (numB [49] && _) && _) = false; rw [HRb.out, Bool.and_false]; rfl) _, hAb⟩
          | true =>
            go_wp2_with fail
            go_loopw [10] (fun vi wr => ∃ (i : Nat) (a b2 : Int), i ≤ 2 ∧ vi = .int .i64 (i : Int) ∧ Blk wr ge 25 (⟨1, day, key, 0, 0, fv, 0, true, 0, 0, 0⟩ : E).cells ∧ Blk wr g0 25 (⟨0, 0, 0, 0, 0, 0, 0, false, 0, 0, 0⟩ : E).cells ∧ Blk wr gn 2 #[.int .i64 a, .int .i64 b2] ∧ Below w.heap.size w wr ∧ Hid ((1 ≤ i → numB y0 = true ∧ a = max (numP y0) 0) ∧ (2 ≤ i → numB y1 = true ∧ b2 = max (numP y1) 0) ∧ (i ≤ 1 → b2 = 0))) (fun vi _ => 2 - (RowKit.intOf vi).toNat)
            case atStart => exact ⟨0, 0, 0, by decide, rfl, HE6.out, HZ6.out, HN6.out, HB6.out, Lib.hid ⟨fun h => absurd h (by decide), fun h => absurd h (by decide), fun _ => rfl⟩⟩
            case round =>
              obtain ⟨i, a, b2, hi, rfl, he, hz, hnn, hb, hh⟩ := hrel
              have HEr := Lib.hid he
              have HZr := Lib.hid hz
              have HNr := Lib.hid hnn
              have HBr := Lib.hid hb
              have n0 : wr.cell? ⟨gn, 0, none⟩ = some (.int .i64 a) := hnn.cell 0
              have n1 : wr.cell? ⟨gn, 1, none⟩ = some (.int .i64 b2) := hnn.cell 1
              have fn0 := hnn.frozen 0
              have fn1 := hnn.frozen 1
              have q0 : wr.cell? ⟨ge, 0, none⟩ = some (.int .i64 1) := he.cell 0
              have hc : i = 0 ∨ i = 1 ∨ i = 2 := by omega
              clear he hz hnn hb
              rcases hc with rfl | rfl | rfl
              · skip
                have cy0 : wr.cell? ⟨b, off, none⟩ = some (.string (str y0)) := (HBr.out.cell (p := ⟨b, off, none⟩) HBw.out).trans (HC.out 0 y0 rfl)
                have HNu := Lib.hid (rnum_calls y0 (hl y0 (by simp)) wr)
                obtain ⟨m, hm⟩ : ∃ m, max (numP y0) 0 = m := ⟨_, rfl⟩
                have HM := Lib.hid hm
                rw [hm] at HNu
                clear hm
                rcases (show numB y0 = false ∨ numB y0 = true by cases numB y0 <;> simp) with hnb | hnb
                · skip
                  rw [hnb] at HNu
                  have HNb := Lib.hid hnb
                  clear hnb hh fn0 fn1
                  go_wp2_with fail
                  refine HNu.out.mono ?_
                  rintro r w6 ⟨rfl, rfl⟩
                  clear n0 n1 q0 cy0
                  obtain ⟨k0, k1, k2, k3, k4, k5, k6, k7, k8, k9, k10⟩ := ev_cells HEr.out
                  obtain ⟨z0, z1, z2, z3, z4, z5, z6, z7, z8, z9, z10⟩ := ev_cells HZr.out
                  obtain ⟨r0, r1, r2, r3, r4, r5, r6, r7, r8, r9, r10⟩ := ev_frozen HZr.out
                  go_wp2_with fail
                  have hA := set_ev ⟨1, day, key, 0, 0, fv, 0, true, 0, 0, 0⟩ HZr.out
                  have hAb := set_ev_below ⟨1, day, key, 0, 0, fv, 0, true, 0, 0, 0⟩ HG0.out HBr.out
                  (try simp only [Exit.inBlock, Exit.then])
                  refine bodyPost_ret (Vw.results_cell_row2 (p := 4) (u := 5) (ty := 25) rfl _ _ g0 25 _ _ _ rfl hA.heap Tryz.underlying25 rfl (by kernel_rfl)) rfl ?_
                  exact ⟨rev_no (by show (((numB y0 && numB y1) && realB y2) && (numB [49] && _) && _) = false; rw [HNb.out]; rfl) _, hAb⟩
                · skip
                  rw [hnb] at HNu
                  have HNb := Lib.hid hnb
                  clear hnb
                  go_wp2_with fail
                  refine HNu.out.mono ?_
                  rintro r w6 ⟨rfl, rfl⟩
                  have hne : ¬ ge = gn := by have := HGe.out; omega
                  have hne2 : ¬ g0 = gn := by have := HGe.out; omega
                  go_wp2_with fail
                  go_roundw
                  case rel => exact ⟨1, m, b2, by decide, by go_num, blk_at HEr.out hne, blk_at HZr.out hne2, HNr.out.set_ 0 _, below_set HBr.out (by have := HGe.out; omega) 0 _, Lib.hid ⟨fun _ => ⟨HNb.out, HM.out.symm⟩, fun h => absurd h (by decide), fun _ => hh.out.2.2 (by decide)⟩⟩
                  all_goals (simp [RowKit.intOf])
              · skip
                have cy1 : wr.cell? ⟨b, off + 1, none⟩ = some (.string (str y1)) := (HBr.out.cell (p := ⟨b, off + 1, none⟩) HBw.out).trans (HC.out 1 y1 rfl)
                have HNu := Lib.hid (rnum_calls y1 (hl y1 (by simp)) wr)
                obtain ⟨m, hm⟩ : ∃ m, max (numP y1) 0 = m := ⟨_, rfl⟩
                have HM := Lib.hid hm
                rw [hm] at HNu
                clear hm
                rcases (show numB y1 = false ∨ numB y1 = true by cases numB y1 <;> simp) with hnb | hnb
                · skip
                  rw [hnb] at HNu
                  have HNb := Lib.hid hnb
                  clear hnb hh fn0 fn1
                  go_wp2_with fail
                  refine HNu.out.mono ?_
                  rintro r w6 ⟨rfl, rfl⟩
                  clear n0 n1 q0 cy1
                  obtain ⟨k0, k1, k2, k3, k4, k5, k6, k7, k8, k9, k10⟩ := ev_cells HEr.out
                  obtain ⟨z0, z1, z2, z3, z4, z5, z6, z7, z8, z9, z10⟩ := ev_cells HZr.out
                  obtain ⟨r0, r1, r2, r3, r4, r5, r6, r7, r8, r9, r10⟩ := ev_frozen HZr.out
                  go_wp2_with fail
                  have hA := set_ev ⟨1, day, key, 0, 0, fv, 0, true, 0, 0, 0⟩ HZr.out
                  have hAb := set_ev_below ⟨1, day, key, 0, 0, fv, 0, true, 0, 0, 0⟩ HG0.out HBr.out
                  (try simp only [Exit.inBlock, Exit.then])
                  refine bodyPost_ret (Vw.results_cell_row2 (p := 4) (u := 5) (ty := 25) rfl _ _ g0 25 _ _ _ rfl hA.heap Tryz.underlying25 rfl (by kernel_rfl)) rfl ?_
                  exact ⟨rev_no (by show (((numB y0 && numB y1) && realB y2) && (numB [49] && _) && _) = false; rw [HNb.out, Bool.and_false]; rfl) _, hAb⟩
                · skip
                  rw [hnb] at HNu
                  have HNb := Lib.hid hnb
                  clear hnb
                  go_wp2_with fail
                  refine HNu.out.mono ?_
                  rintro r w6 ⟨rfl, rfl⟩
                  have hne : ¬ ge = gn := by have := HGe.out; omega
                  have hne2 : ¬ g0 = gn := by have := HGe.out; omega
                  go_wp2_with fail
                  go_roundw
                  case rel => exact ⟨2, a, m, by decide, by go_num, blk_at HEr.out hne, blk_at HZr.out hne2, HNr.out.set_ 1 _, below_set HBr.out (by have := HGe.out; omega) 1 _, Lib.hid ⟨fun _ => hh.out.1 (by decide), fun _ => ⟨HNb.out, HM.out.symm⟩, fun h => absurd h (by decide)⟩⟩
                  all_goals (simp [RowKit.intOf])
              · obtain ⟨v0, rfl⟩ := hh.out.1 (by decide)
                obtain ⟨v1, rfl⟩ := hh.out.2.1 (by decide)
                have HV0 := Lib.hid v0
                have HV1 := Lib.hid v1
                clear hh fn0 fn1 v0 v1
                obtain ⟨m0, hm0⟩ : ∃ m, max (numP y0) 0 = m := ⟨_, rfl⟩
                have HM0 := Lib.hid hm0
                rw [hm0] at n0
                obtain ⟨m1, hm1⟩ : ∃ m, max (numP y1) 0 = m := ⟨_, rfl⟩
                have HM1 := Lib.hid hm1
                rw [hm1] at n1
                clear hm0 hm1
                have q3 : wr.cell? ⟨ge, 3, none⟩ = some (.int .i64 0) := HEr.out.cell 3
                have fq3 := HEr.out.frozen 3
                have q4 : wr.cell? ⟨ge, 4, none⟩ = some (.int .i64 0) := HEr.out.cell 4
                have fq4 := HEr.out.frozen 4
                have hne : ¬ ge = gn := by have := HGe.out; omega
                have hne2 : ¬ gn = ge := by omega
                go_wp2_with fail
                go_region
                have HEq : Hid (Blk ((wr.setCell ⟨ge, 3, none⟩ (.int .i64 m0)).setCell ⟨ge, 4, none⟩ (.int .i64 m1)).drew ge 25 (⟨1, day, key, m0, m1, fv, 0, true, 0, 0, 0⟩ : E).cells) := Lib.hid (blk_drew ((HEr.out.set_ 3 _).set_ 4 _))
                have HZq := Lib.hid (blk_drew (blk_at (i := 4) (v := .int .i64 m1) (blk_at (i := 3) (v := .int .i64 m0) HZr.out (show g0 ≠ ge by have := HGe.out; omega)) (show g0 ≠ ge by have := HGe.out; omega)))
                have HBq := Lib.hid (below_set (below_set HBr.out HGe.out.1 3 (.int .i64 m0)) HGe.out.1 4 (.int .i64 m1)).drew
                clear q3 fq3 q4 fq4 n0 n1 q0
                generalize ((wr.setCell ⟨ge, 3, none⟩ (.int .i64 m0)).setCell ⟨ge, 4, none⟩ (.int .i64 m1)).drew = wq at *
                obtain ⟨k0, k1, k2, k3, k4, k5, k6, k7, k8, k9, k10⟩ := ev_cells HEq.out
                obtain ⟨z0, z1, z2, z3, z4, z5, z6, z7, z8, z9, z10⟩ := ev_cells HZq.out
                obtain ⟨r0, r1, r2, r3, r4, r5, r6, r7, r8, r9, r10⟩ := ev_frozen HZq.out
                go_wp2_with fail
                have hA := set_ev ⟨1, day, key, m0, m1, fv, 0, true, 0, 0, 0⟩ HZq.out
                have hAb := set_ev_below ⟨1, day, key, m0, m1, fv, 0, true, 0, 0, 0⟩ HG0.out HBq.out
                (try simp only [Exit.inBlock, Exit.then])
                refine bodyPost_ret (Vw.results_cell_row2 (p := 4) (u := 5) (ty := 25) rfl _ _ g0 25 _ _ _ rfl hA.heap Tryz.underlying25 rfl (by kernel_rfl)) rfl ?_
                exact ⟨rev_is _ _ (by show _ = (((numB y0 && numB y1) && realB y2) && (numB [49] && decide (max (numP [49]) 0 ≤ 1)) && true); rw [HV0.out, HV1.out, HRb.out]; decide) (fun _ => by show _ = (⟨1, day, key, max (numP y0) 0, max (numP y1) 0, realU y2, 0, max (numP [49]) 0 == 1, 0, 0, 0⟩ : E); rw [HM0.out, HM1.out, HFy.out HRb.out, show (max (numP [49]) 0 == 1) = true by decide]), hAb⟩
  · have HG := Lib.hid (gv1_no ⟨1, day, key, 0, 0, 0, 0, false, 0, 0, 0⟩ (Y := Y) (by rw [hn]; exact hq))
    have hq2 : ¬ (n : Int) = 4 := by omega
    have hq3 : ((n : Int) == 4) = false := beq_eq_false_iff_ne.2 hq2
    go_enter Tryz.func55, Tryz.ntmps55
    go_upto_region 3 with fail
    clear hw1 hw2 hw3 hge hg0 hgn hmk
    have q0 : w3.cell? ⟨ge, 0, none⟩ = some (.int .i64 1) := HE3.out.cell 0
    obtain ⟨k0, k1, k2, k3, k4, k5, k6, k7, k8, k9, k10⟩ := ev_cells HE3.out
    obtain ⟨z0, z1, z2, z3, z4, z5, z6, z7, z8, z9, z10⟩ := ev_cells HZ3.out
    obtain ⟨r0, r1, r2, r3, r4, r5, r6, r7, r8, r9, r10⟩ := ev_frozen HZ3.out
    go_wp2_with fail
    have hA := set_ev ⟨1, day, key, 0, 0, 0, 0, false, 0, 0, 0⟩ HZ3.out
    have hAb := set_ev_below ⟨1, day, key, 0, 0, 0, 0, false, 0, 0, 0⟩ HG0.out HB3.out
    (try simp only [Exit.inBlock, Exit.then])
    refine bodyPost_ret (Vw.results_cell_row2 (p := 4) (u := 5) (ty := 25) rfl _ _ g0 25 _ _ _ rfl hA.heap Tryz.underlying25 rfl (by kernel_rfl)) rfl ?_
    exact ⟨rev_no (by rw [HG.out]; rfl) _, hAb⟩
end Go.Proofs.YtkcjgmicoifhcaaGreatDoor.Cn
