/- Texts joined: R7. -/
import Derived.Test.YtkcjgmicoifhcaaGreatDoorM13
import Derived.Test.YtkcjgmicoifhcaaGreatDoorM15

/- R7: The reference's event. (Printed by gen_r7.py.) -/
namespace Go.Proofs.YtkcjgmicoifhcaaGreatDoor.Cn
open Go.RowKit Go.Sort Go.Lib Go.Shelf
open Vw (Tab str Blk)
open Ev (E)
attribute [local go_sem ↓] Go.wp_at_zero Go.wp_at_succ

/-- What the words behind a kind's say, kind by kind. -/
def gv1 (e : E) : List (List UInt8) → E × List (List UInt8) × Bool
  | [a, b, c, d] => ({ e with loan := max (numP a) 0, amount := max (numP b) 0, rate := realU c, sub := max (numP d) 0 == 1 }, [], ((numB a && numB b) && realB c) && (numB d && decide (max (numP d) 0 ≤ 1)))
  | _ => (e, [], false)
def gv2 (e : E) : List (List UInt8) → E × List (List UInt8) × Bool
  | [a, b] => ({ e with loan := max (numP a) 0, status := stN b }, [], numB a)
  | _ => (e, [], false)
def gv3 (e : E) : List (List UInt8) → E × List (List UInt8) × Bool
  | [a] => ({ e with amount := max (numP a) 0 }, [], numB a)
  | _ => (e, [], false)
def gv4 (e : E) : List (List UInt8) → E × List (List UInt8) × Bool
  | [a, b] => ({ e with loan := max (numP a) 0, amount := max (numP b) 0 }, [], numB a && numB b)
  | _ => (e, [], false)
def gv7 (e : E) : List (List UInt8) → E × List (List UInt8) × Bool
  | [a] => ({ e with loan := max (numP a) 0 }, [], numB a)
  | _ => (e, [], false)
theorem gv1_no (e : E) {Y : List (List UInt8)} (h : ¬ Y.length = 4) : gv1 e Y = (e, [], false) := by
  unfold gv1
  split
  · simp at h
  · rfl
theorem gv2_no (e : E) {Y : List (List UInt8)} (h : ¬ Y.length = 2) : gv2 e Y = (e, [], false) := by
  unfold gv2
  split
  · simp at h
  · rfl
theorem gv3_no (e : E) {Y : List (List UInt8)} (h : ¬ Y.length = 1) : gv3 e Y = (e, [], false) := by
  unfold gv3
  split
  · simp at h
  · rfl
theorem gv4_no (e : E) {Y : List (List UInt8)} (h : ¬ Y.length = 2) : gv4 e Y = (e, [], false) := by
  unfold gv4
  split
  · simp at h
  · rfl
theorem gv7_no (e : E) {Y : List (List UInt8)} (h : ¬ Y.length = 1) : gv7 e Y = (e, [], false) := by
  unfold gv7
  split
  · simp at h
  · rfl
set_option maxRecDepth 40000 in
set_option maxHeartbeats 32000000 in
theorem revent_3 (day key : Int) (Y : List (List UInt8)) (hl : ∀ x ∈ Y, x.length ≤ 1000000) (hY : Y.length ≤ 1000000) (p : Option Addr) (c g : Nat) (w : World) (hw : Ws w g p Y c) :
    Calls Tryz.prog 55 #[.agg #[.int .i64 3, .int .i64 day, .int .u32 key, .int .i64 0, .int .i64 0, .float .f64 0, .float .f64 0, .bool false, .int .i64 0, .int .i64 0, .int .i64 0], .slice p Y.length c] w fun r w' => REv (gv3 ⟨3, day, key, 0, 0, 0, 0, false, 0, 0, 0⟩ Y) r ∧ Below w.heap.size w w' := by
  have hB1 := (Below.refl w.heap.size w).alloc (Nat.le_refl _) (.cells #[.int .i64 3, .int .i64 day, .int .u32 key, .int .i64 0, .int .i64 0, .float .f64 0, .float .f64 0, .bool false, .int .i64 0, .int .i64 0, .int .i64 0] 25)
  have hE1 := Blk.new w 25 #[.int .i64 3, .int .i64 day, .int .u32 key, .int .i64 0, .int .i64 0, .float .f64 0, .float .f64 0, .bool false, .int .i64 0, .int .i64 0, .int .i64 0]
  obtain ⟨w1, hw1⟩ : ∃ w1, w.alloc (.cells #[.int .i64 3, .int .i64 day, .int .u32 key, .int .i64 0, .int .i64 0, .float .f64 0, .float .f64 0, .bool false, .int .i64 0, .int .i64 0, .int .i64 0] 25) = w1 := ⟨_, rfl⟩
  rw [hw1] at hB1 hE1
  have hal := (Below.refl w1.heap.size w1).alloc (Nat.le_refl _) (.cells #[.int .i64 0, .int .i64 0, .int .u32 0, .int .i64 0, .int .i64 0, .float .f64 0, .float .f64 0, .bool false, .int .i64 0, .int .i64 0, .int .i64 0] 25)
  have hZ2 := Blk.new w1 25 #[.int .i64 0, .int .i64 0, .int .u32 0, .int .i64 0, .int .i64 0, .float .f64 0, .float .f64 0, .bool false, .int .i64 0, .int .i64 0, .int .i64 0]
  have hE2 := hE1.below hal
  have hB2 := hB1.trans (hal.mono hB1.size)
  have hlt := hE1.lt
  obtain ⟨w2, hw2⟩ : ∃ w2, w1.alloc (.cells #[.int .i64 0, .int .i64 0, .int .u32 0, .int .i64 0, .int .i64 0, .float .f64 0, .float .f64 0, .bool false, .int .i64 0, .int .i64 0, .int .i64 0] 25) = w2 := ⟨_, rfl⟩
  rw [hw2] at hZ2 hE2 hB2
  have hal := (Below.refl w2.heap.size w2).alloc (Nat.le_refl _) (.cells #[.int .i64 0, .int .i64 0] 2)
  have hN3 := Blk.new w2 2 #[.int .i64 0, .int .i64 0]
  have hE3 := hE2.below hal
  have hZ3 := hZ2.below hal
  have hB3 := hB2.trans (hal.mono hB2.size)
  have hlt2 := hZ2.lt
  obtain ⟨w3, hw3⟩ : ∃ w3, w2.alloc (.cells #[.int .i64 0, .int .i64 0] 2) = w3 := ⟨_, rfl⟩
  rw [hw3] at hN3 hE3 hZ3 hB3
  obtain ⟨ge, hge⟩ : ∃ ge, w.heap.size = ge := ⟨_, rfl⟩
  obtain ⟨g0, hg0⟩ : ∃ g0, w1.heap.size = g0 := ⟨_, rfl⟩
  obtain ⟨gn, hgn⟩ : ∃ gn, w2.heap.size = gn := ⟨_, rfl⟩
  have HG0 : Hid (w.heap.size ≤ g0) := Lib.hid (by omega)
  have HGe : Hid (w.heap.size ≤ ge ∧ ge < g0 ∧ g0 < gn) := Lib.hid (by omega)
  rw [hg0] at hZ3
  rw [hge] at hE3
  rw [hgn] at hN3
  have HZ3 : Hid (Blk w3 g0 25 (⟨0, 0, 0, 0, 0, 0, 0, false, 0, 0, 0⟩ : E).cells) := Lib.hid hZ3
  have HE3 : Hid (Blk w3 ge 25 (⟨3, day, key, 0, 0, 0, 0, false, 0, 0, 0⟩ : E).cells) := Lib.hid hE3
  have HN3 := Lib.hid hN3
  have HB3 := Lib.hid hB3
  have hmk := make2
  have hst0 := st_f64
  clear hB1 hE1 hal hZ2 hE2 hB2 hlt hN3 hE3 hZ3 hB3 hlt2
  obtain ⟨n, hn⟩ : ∃ n, Y.length = n := ⟨_, rfl⟩
  have hcap : n ≤ c := hn ▸ hw.cap
  rw [hn]
  by_cases hq : n = 1
  · subst hq
    obtain ⟨y0, rfl⟩ : ∃ y0, Y = [y0] := by
      match Y, hn with
      | [y0], _ => exact ⟨y0, rfl⟩
    rcases hw.lies with h1 | ⟨b, off, rfl, _, hbw, hc⟩
    · cases h1
    have HC := Lib.hid hc
    have HBw := Lib.hid hbw
    clear hw hc hbw
    go_enter Tryz.func55, Tryz.ntmps55
    go_upto_region 3 with fail
    clear hw1 hw2 hw3 hge hg0 hgn hmk
    have q0 : w3.cell? ⟨ge, 0, none⟩ = some (.int .i64 3) := HE3.out.cell 0
    go_wp2_with fail
    go_loopw [10] (fun vi wr => ∃ (i : Nat) (a b2 : Int), i ≤ 1 ∧ vi = .int .i64 (i : Int) ∧ Blk wr ge 25 (⟨3, day, key, 0, 0, 0, 0, false, 0, 0, 0⟩ : E).cells ∧ Blk wr g0 25 (⟨0, 0, 0, 0, 0, 0, 0, false, 0, 0, 0⟩ : E).cells ∧ Blk wr gn 2 #[.int .i64 a, .int .i64 b2] ∧ Below w.heap.size w wr ∧ Hid ((1 ≤ i → numB y0 = true ∧ a = max (numP y0) 0) ∧ (2 ≤ i → numB y0 = true ∧ b2 = max (numP y0) 0) ∧ (i ≤ 1 → b2 = 0))) (fun vi _ => 1 - (RowKit.intOf vi).toNat)
    case atStart => exact ⟨0, 0, 0, by decide, rfl, HE3.out, HZ3.out, HN3.out, HB3.out, Lib.hid ⟨fun h => absurd h (by decide), fun h => absurd h (by decide), fun _ => rfl⟩⟩
    case round =>
      obtain ⟨i, a, b2, hi, rfl, he, hz, hnn, hb, hh⟩ := hrel
      have HEr := Lib.hid he
      have HZr := Lib.hid hz
      have HNr := Lib.hid hnn
      have HBr := Lib.hid hb
      have n0 : wr.cell? ⟨gn, 0, none⟩ = some (.int .i64 a) := hnn.cell 0
      have n1 : wr.cell? ⟨gn, 1, none⟩ = some (.int .i64 b2) := hnn.cell 1
      have fn0 := hnn.frozen 0
      have fn1 := hnn.frozen 1
      have q0 : wr.cell? ⟨ge, 0, none⟩ = some (.int .i64 3) := he.cell 0
      have hc : i = 0 ∨ i = 1 := by omega
      clear he hz hnn hb
      rcases hc with rfl | rfl
      · skip
        have cy0 : wr.cell? ⟨b, off, none⟩ = some (.string (str y0)) := (HBr.out.cell (p := ⟨b, off, none⟩) HBw.out).trans (HC.out 0 y0 rfl)
        have HNu := Lib.hid (rnum_calls y0 (hl y0 (by simp)) wr)
        obtain ⟨m, hm⟩ : ∃ m, max (numP y0) 0 = m := ⟨_, rfl⟩
        have HM := Lib.hid hm
        rw [hm] at HNu
        clear hm
        rcases (show numB y0 = false ∨ numB y0 = true by cases numB y0 <;> simp) with hnb | hnb
        · skip
          rw [hnb] at HNu
          have HNb := Lib.hid hnb
          clear hnb hh fn0 fn1
          go_wp2_with fail
          refine HNu.out.mono ?_
          rintro r w6 ⟨rfl, rfl⟩
          clear n0 n1 q0 cy0
          obtain ⟨k0, k1, k2, k3, k4, k5, k6, k7, k8, k9, k10⟩ := ev_cells HEr.out
          obtain ⟨z0, z1, z2, z3, z4, z5, z6, z7, z8, z9, z10⟩ := ev_cells HZr.out
          obtain ⟨r0, r1, r2, r3, r4, r5, r6, r7, r8, r9, r10⟩ := ev_frozen HZr.out
          go_wp2_with fail
          have hA := set_ev ⟨3, day, key, 0, 0, 0, 0, false, 0, 0, 0⟩ HZr.out
          have hAb := set_ev_below ⟨3, day, key, 0, 0, 0, 0, false, 0, 0, 0⟩ HG0.out HBr.out
          (try simp only [Exit.inBlock, Exit.then])
          refine bodyPost_ret (Vw.results_cell_row2 (p := 4) (u := 5) (ty := 25) rfl _ _ g0 25 _ _ _ rfl hA.heap Tryz.underlying25 rfl (by kernel_rfl)) rfl ?_
          exact ⟨rev_no (by show (numB y0 && _) = false; rw [HNb.out]; rfl) _, hAb⟩
        · skip
          rw [hnb] at HNu
          have HNb := Lib.hid hnb
          clear hnb
          go_wp2_with fail
          refine HNu.out.mono ?_
          rintro r w6 ⟨rfl, rfl⟩
          have hne : ¬ ge = gn := by have := HGe.out; omega
          have hne2 : ¬ g0 = gn := by have := HGe.out; omega
          go_wp2_with fail
          go_roundw
          case rel => exact ⟨1, m, b2, by decide, by go_num, blk_at HEr.out hne, blk_at HZr.out hne2, HNr.out.set_ 0 _, below_set HBr.out (by have := HGe.out; omega) 0 _, Lib.hid ⟨fun _ => ⟨HNb.out, HM.out.symm⟩, fun h => absurd h (by decide), fun _ => hh.out.2.2 (by decide)⟩⟩
          all_goals (simp [RowKit.intOf])
      · obtain ⟨v0, rfl⟩ := hh.out.1 (by decide)
        obtain rfl := hh.out.2.2 (by decide)
        have HV0 := Lib.hid v0
        clear hh fn0 fn1 v0
        obtain ⟨m0, hm0⟩ : ∃ m, max (numP y0) 0 = m := ⟨_, rfl⟩
        have HM0 := Lib.hid hm0
        rw [hm0] at n0
        clear hm0
        have q4 : wr.cell? ⟨ge, 4, none⟩ = some (.int .i64 0) := HEr.out.cell 4
        have fq4 := HEr.out.frozen 4
        go_upto_region 40 with fail
        have HEq : Hid (Blk (wr.setCell ⟨ge, 4, none⟩ (.int .i64 m0)) ge 25 (⟨3, day, key, 0, m0, 0, 0, false, 0, 0, 0⟩ : E).cells) := Lib.hid (HEr.out.set_ 4 _)
        have HZq := Lib.hid (blk_at (i := 4) (v := .int .i64 m0) HZr.out (show g0 ≠ ge by have := HGe.out; omega))
        have HBq := Lib.hid (below_set HBr.out HGe.out.1 4 (.int .i64 m0))
        clear q4 fq4 n0 n1 q0
        generalize wr.setCell ⟨ge, 4, none⟩ (.int .i64 m0) = wq at *
        obtain ⟨k0, k1, k2, k3, k4, k5, k6, k7, k8, k9, k10⟩ := ev_cells HEq.out
        obtain ⟨z0, z1, z2, z3, z4, z5, z6, z7, z8, z9, z10⟩ := ev_cells HZq.out
        obtain ⟨r0, r1, r2, r3, r4, r5, r6, r7, r8, r9, r10⟩ := ev_frozen HZq.out
        go_wp2_with fail
        have hA := set_ev ⟨3, day, key, 0, m0, 0, 0, false, 0, 0, 0⟩ HZq.out
        have hAb := set_ev_below ⟨3, day, key, 0, m0, 0, 0, false, 0, 0, 0⟩ HG0.out HBq.out
        (try simp only [Exit.inBlock, Exit.then])
        refine bodyPost_ret (Vw.results_cell_row2 (p := 4) (u := 5) (ty := 25) rfl _ _ g0 25 _ _ _ rfl hA.heap Tryz.underlying25 rfl (by kernel_rfl)) rfl ?_
        exact ⟨rev_is _ _ (by show _ = (numB y0 && true); rw [HV0.out]; rfl) (fun _ => by show _ = (⟨3, day, key, 0, max (numP y0) 0, 0, 0, false, 0, 0, 0⟩ : E); rw [HM0.out]), hAb⟩
  · have HG := Lib.hid (gv3_no ⟨3, day, key, 0, 0, 0, 0, false, 0, 0, 0⟩ (Y := Y) (by rw [hn]; exact hq))
    have hq2 : ¬ (n : Int) = 1 := by omega
    have hq3 : ((n : Int) == 1) = false := beq_eq_false_iff_ne.2 hq2
    go_enter Tryz.func55, Tryz.ntmps55
    go_upto_region 3 with fail
    clear hw1 hw2 hw3 hge hg0 hgn hmk
    have q0 : w3.cell? ⟨ge, 0, none⟩ = some (.int .i64 3) := HE3.out.cell 0
    obtain ⟨k0, k1, k2, k3, k4, k5, k6, k7, k8, k9, k10⟩ := ev_cells HE3.out
    obtain ⟨z0, z1, z2, z3, z4, z5, z6, z7, z8, z9, z10⟩ := ev_cells HZ3.out
    obtain ⟨r0, r1, r2, r3, r4, r5, r6, r7, r8, r9, r10⟩ := ev_frozen HZ3.out
    go_wp2_with fail
    have hA := set_ev ⟨3, day, key, 0, 0, 0, 0, false, 0, 0, 0⟩ HZ3.out
    have hAb := set_ev_below ⟨3, day, key, 0, 0, 0, 0, false, 0, 0, 0⟩ HG0.out HB3.out
    (try simp only [Exit.inBlock, Exit.then])
    refine bodyPost_ret (Vw.results_cell_row2 (p := 4) (u := 5) (ty := 25) rfl _ _ g0 25 _ _ _ rfl hA.heap Tryz.underlying25 rfl (by kernel_rfl)) rfl ?_
    exact ⟨rev_no (by rw [HG.out]; rfl) _, hAb⟩
set_option maxRecDepth 40000 in
set_option maxHeartbeats 32000000 in
theorem revent_7 (day key : Int) (Y : List (List UInt8)) (hl : ∀ x ∈ Y, x.length ≤ 1000000) (hY : Y.length ≤ 1000000) (p : Option Addr) (c g : Nat) (w : World) (hw : Ws w g p Y c) :
    Calls Tryz.prog 55 #[.agg #[.int .i64 7, .int .i64 day, .int .u32 key, .int .i64 0, .int .i64 0, .float .f64 0, .float .f64 0, .bool false, .int .i64 0, .int .i64 0, .int .i64 0], .slice p Y.length c] w fun r w' => REv (gv7 ⟨7, day, key, 0, 0, 0, 0, false, 0, 0, 0⟩ Y) r ∧ Below w.heap.size w w' := by
  have hB1 := (Below.refl w.heap.size w).alloc (Nat.le_refl _) (.cells #[.int .i64 7, .int .i64 day, .int .u32 key, .int .i64 0, .int .i64 0, .float .f64 0, .float .f64 0, .bool false, .int .i64 0, .int .i64 0, .int .i64 0] 25)
  have hE1 := Blk.new w 25 #[.int .i64 7, .int .i64 day, .int .u32 key, .int .i64 0, .int .i64 0, .float .f64 0, .float .f64 0, .bool false, .int .i64 0, .int .i64 0, .int .i64 0]
  obtain ⟨w1, hw1⟩ : ∃ w1, w.alloc (.cells #[.int .i64 7, .int .i64 day, .int .u32 key, .int .i64 0, .int .i64 0, .float .f64 0, .float .f64 0, .bool false, .int .i64 0, .int .i64 0, .int .i64 0] 25) = w1 := ⟨_, rfl⟩
  rw [hw1] at hB1 hE1
  have hal := (Below.refl w1.heap.size w1).alloc (Nat.le_refl _) (.cells #[.int .i64 0, .int .i64 0, .int .u32 0, .int .i64 0, .int .i64 0, .float .f64 0, .float .f64 0, .bool false, .int .i64 0, .int .i64 0, .int .i64 0] 25)
  have hZ2 := Blk.new w1 25 #[.int .i64 0, .int .i64 0, .int .u32 0, .int .i64 0, .int .i64 0, .float .f64 0, .float .f64 0, .bool false, .int .i64 0, .int .i64 0, .int .i64 0]
  have hE2 := hE1.below hal
  have hB2 := hB1.trans (hal.mono hB1.size)
  have hlt := hE1.lt
  obtain ⟨w2, hw2⟩ : ∃ w2, w1.alloc (.cells #[.int .i64 0, .int .i64 0, .int .u32 0, .int .i64 0, .int .i64 0, .float .f64 0, .float .f64 0, .bool false, .int .i64 0, .int .i64 0, .int .i64 0] 25) = w2 := ⟨_, rfl⟩
  rw [hw2] at hZ2 hE2 hB2
  have hal := (Below.refl w2.heap.size w2).alloc (Nat.le_refl _) (.cells #[.int .i64 0, .int .i64 0] 2)
  have hN3 := Blk.new w2 2 #[.int .i64 0, .int .i64 0]
  have hE3 := hE2.below hal
  have hZ3 := hZ2.below hal
  have hB3 := hB2.trans (hal.mono hB2.size)
  have hlt2 := hZ2.lt
  obtain ⟨w3, hw3⟩ : ∃ w3, w2.alloc (.cells #[.int .i64 0, .int .i64 0] 2) = w3 := ⟨_, rfl⟩
  rw [hw3] at hN3 hE3 hZ3 hB3
  obtain ⟨ge, hge⟩ : ∃ ge, w.heap.size = ge := ⟨_, rfl⟩
  obtain ⟨g0, hg0⟩ : ∃ g0, w1.heap.size = g0 := ⟨_, rfl⟩
  obtain ⟨gn, hgn⟩ : ∃ gn, w2.heap.size = gn := ⟨_, rfl⟩
  have HG0 : Hid (w.heap.size ≤ g0) := Lib.hid (by omega)
  have HGe : Hid (w.heap.size ≤ ge ∧ ge < g0 ∧ g0 < gn) := Lib.hid (by omega)
  rw [hg0] at hZ3
  rw [hge] at hE3
  rw [hgn] at hN3
  have HZ3 : Hid (Blk w3 g0 25 (⟨0, 0, 0, 0, 0, 0, 0, false, 0, 0, 0⟩ : E).cells) := Lib.hid hZ3
  have HE3 : Hid (Blk w3 ge 25 (⟨7, day, key, 0, 0, 0, 0, false, 0, 0, 0⟩ : E).cells) := Lib.hid hE3
  have HN3 := Lib.hid hN3
  have HB3 := Lib.hid hB3
  have hmk := make2
  have hst0 := st_f64
  clear hB1 hE1 hal hZ2 hE2 hB2 hlt hN3 hE3 hZ3 hB3 hlt2
  obtain ⟨n, hn⟩ : ∃ n, Y.length = n := ⟨_, rfl⟩
  have hcap : n ≤ c := hn ▸ hw.cap
  rw [hn]
  by_cases hq : n = 1
  · subst hq
    obtain ⟨y0, rfl⟩ : ∃ y0, Y = [y0] := by
      match Y, hn with
      | [y0], _ => exact ⟨y0, rfl⟩
    rcases hw.lies with h1 | ⟨b, off, rfl, _, hbw, hc⟩
    · cases h1
    have HC := Lib.hid hc
    have HBw := Lib.hid hbw
    clear hw hc hbw
    go_enter Tryz.func55, Tryz.ntmps55
    go_upto_region 3 with fail
    clear hw1 hw2 hw3 hge hg0 hgn hmk
    have q0 : w3.cell? ⟨ge, 0, none⟩ = some (.int .i64 7) := HE3.out.cell 0
    go_wp2_with fail
    go_loopw [10] (fun vi wr => ∃ (i : Nat) (a b2 : Int), i ≤ 1 ∧ vi = .int .i64 (i : Int) ∧ Blk wr ge 25 (⟨7, day, key, 0, 0, 0, 0, false, 0, 0, 0⟩ : E).cells ∧ Blk wr g0 25 (⟨0, 0, 0, 0, 0, 0, 0, false, 0, 0, 0⟩ : E).cells ∧ Blk wr gn 2 #[.int .i64 a, .int .i64 b2] ∧ Below w.heap.size w wr ∧ Hid ((1 ≤ i → numB y0 = true ∧ a = max (numP y0) 0) ∧ (2 ≤ i → numB y0 = true ∧ b2 = max (numP y0) 0) ∧ (i ≤ 1 → b2 = 0))) (fun vi _ => 1 - (RowKit.intOf vi).toNat)
    case atStart => exact ⟨0, 0, 0, by decide, rfl, HE3.out, HZ3.out, HN3.out, HB3.out, Lib.hid ⟨fun h => absurd h (by decide), fun h => absurd h (by decide), fun _ => rfl⟩⟩
    case round =>
      obtain ⟨i, a, b2, hi, rfl, he, hz, hnn, hb, hh⟩ := hrel
      have HEr := Lib.hid he
      have HZr := Lib.hid hz
      have HNr := Lib.hid hnn
      have HBr := Lib.hid hb
      have n0 : wr.cell? ⟨gn, 0, none⟩ = some (.int .i64 a) := hnn.cell 0
      have n1 : wr.cell? ⟨gn, 1, none⟩ = some (.int .i64 b2) := hnn.cell 1
      have fn0 := hnn.frozen 0
      have fn1 := hnn.frozen 1
      have q0 : wr.cell? ⟨ge, 0, none⟩ = some (.int .i64 7) := he.cell 0
      have hc : i = 0 ∨ i = 1 := by omega
      clear he hz hnn hb
      rcases hc with rfl | rfl
      · skip
        have cy0 : wr.cell? ⟨b, off, none⟩ = some (.string (str y0)) := (HBr.out.cell (p := ⟨b, off, none⟩) HBw.out).trans (HC.out 0 y0 rfl)
        have HNu := Lib.hid (rnum_calls y0 (hl y0 (by simp)) wr)
        obtain ⟨m, hm⟩ : ∃ m, max (numP y0) 0 = m := ⟨_, rfl⟩
        have HM := Lib.hid hm
        rw [hm] at HNu
        clear hm
        rcases (show numB y0 = false ∨ numB y0 = true by cases numB y0 <;> simp) with hnb | hnb
        · skip
          rw [hnb] at HNu
          have HNb := Lib.hid hnb
          clear hnb hh fn0 fn1
          go_wp2_with fail
          refine HNu.out.mono ?_
          rintro r w6 ⟨rfl, rfl⟩
          clear n0 n1 q0 cy0
          obtain ⟨k0, k1, k2, k3, k4, k5, k6, k7, k8, k9, k10⟩ := ev_cells HEr.out
          obtain ⟨z0, z1, z2, z3, z4, z5, z6, z7, z8, z9, z10⟩ := ev_cells HZr.out
          obtain ⟨r0, r1, r2, r3, r4, r5, r6, r7, r8, r9, r10⟩ := ev_frozen HZr.out
          go_wp2_with fail
          have hA := set_ev ⟨7, day, key, 0, 0, 0, 0, false, 0, 0, 0⟩ HZr.out
          have hAb := set_ev_below ⟨7, day, key, 0, 0, 0, 0, false, 0, 0, 0⟩ HG0.out HBr.out
          (try simp only [Exit.inBlock, Exit.then])
          refine bodyPost_ret (Vw.results_cell_row2 (p := 4) (u := 5) (ty := 25) rfl _ _ g0 25 _ _ _ rfl hA.heap Tryz.underlying25 rfl (by kernel_rfl)) rfl ?_
          exact ⟨rev_no (by show (numB y0 && _) = false; rw [HNb.out]; rfl) _, hAb⟩
        · skip
          rw [hnb] at HNu
          have HNb := Lib.hid hnb
          clear hnb
          go_wp2_with fail
          refine HNu.out.mono ?_
          rintro r w6 ⟨rfl, rfl⟩
          have hne : ¬ ge = gn := by have := HGe.out; omega
          have hne2 : ¬ g0 = gn := by have := HGe.out; omega
          go_wp2_with fail
          go_roundw
          case rel => exact ⟨1, m, b2, by decide, by go_num, blk_at HEr.out hne, blk_at HZr.out hne2, HNr.out.set_ 0 _, below_set HBr.out (by have := HGe.out; omega) 0 _, Lib.hid ⟨fun _ => ⟨HNb.out, HM.out.symm⟩, fun h => absurd h (by decide), fun _ => hh.out.2.2 (by decide)⟩⟩
          all_goals (simp [RowKit.intOf])
      · obtain ⟨v0, rfl⟩ := hh.out.1 (by decide)
        obtain rfl := hh.out.2.2 (by decide)
        have HV0 := Lib.hid v0
        clear hh fn0 fn1 v0
        obtain ⟨m0, hm0⟩ : ∃ m, max (numP y0) 0 = m := ⟨_, rfl⟩
        have HM0 := Lib.hid hm0
        rw [hm0] at n0
        clear hm0
        have q3 : wr.cell? ⟨ge, 3, none⟩ = some (.int .i64 0) := HEr.out.cell 3
        have fq3 := HEr.out.frozen 3
        have q4 : wr.cell? ⟨ge, 4, none⟩ = some (.int .i64 0) := HEr.out.cell 4
        have fq4 := HEr.out.frozen 4
        have hne : ¬ ge = gn := by have := HGe.out; omega
        have hne2 : ¬ gn = ge := by omega
        go_wp2_with fail
        go_region
        have HEq : Hid (Blk ((wr.setCell ⟨ge, 3, none⟩ (.int .i64 m0)).setCell ⟨ge, 4, none⟩ (.int .i64 0)).drew ge 25 (⟨7, day, key, m0, 0, 0, 0, false, 0, 0, 0⟩ : E).cells) := Lib.hid (blk_drew ((HEr.out.set_ 3 _).set_ 4 _))
        have HZq := Lib.hid (blk_drew (blk_at (i := 4) (v := .int .i64 0) (blk_at (i := 3) (v := .int .i64 m0) HZr.out (show g0 ≠ ge by have := HGe.out; omega)) (show g0 ≠ ge by have := HGe.out; omega)))
        have HBq := Lib.hid (below_set (below_set HBr.out HGe.out.1 3 (.int .i64 m0)) HGe.out.1 4 (.int .i64 0)).drew
        clear q3 fq3 q4 fq4 n0 n1 q0
        generalize ((wr.setCell ⟨ge, 3, none⟩ (.int .i64 m0)).setCell ⟨ge, 4, none⟩ (.int .i64 0)).drew = wq at *
        obtain ⟨k0, k1, k2, k3, k4, k5, k6, k7, k8, k9, k10⟩ := ev_cells HEq.out
        obtain ⟨z0, z1, z2, z3, z4, z5, z6, z7, z8, z9, z10⟩ := ev_cells HZq.out
        obtain ⟨r0, r1, r2, r3, r4, r5, r6, r7, r8, r9, r10⟩ := ev_frozen HZq.out
        go_wp2_with fail
        have hA := set_ev ⟨7, day, key, m0, 0, 0, 0, false, 0, 0, 0⟩ HZq.out
        have hAb := set_ev_below ⟨7, day, key, m0, 0, 0, 0, false, 0, 0, 0⟩ HG0.out HBq.out
        (try simp only [Exit.inBlock, Exit.then])
        refine bodyPost_ret (Vw.results_cell_row2 (p := 4) (u := 5) (ty := 25) rfl _ _ g0 25 _ _ _ rfl hA.heap Tryz.underlying25 rfl (by kernel_rfl)) rfl ?_
        exact ⟨rev_is _ _ (by show _ = (numB y0 && true); rw [HV0.out]; rfl) (fun _ => by show _ = (⟨7, day, key, max (numP y0) 0, 0, 0, 0, false, 0, 0, 0⟩ : E); rw [HM0.out]), hAb⟩
  · have HG := Lib.hid (gv7_no ⟨7, day, key, 0, 0, 0, 0, false, 0, 0, 0⟩ (Y := Y) (by rw [hn]; exact hq))
    have hq2 : ¬ (n : Int) = 1 := by omega
    have hq3 : ((n : Int) == 1) = false := beq_eq_false_iff_ne.2 hq2
    go_enter Tryz.func55, Tryz.ntmps55
    go_upto_region 3 with fail
    clear hw1 hw2 hw3 hge hg0 hgn hmk
    have q0 : w3.cell? ⟨ge, 0, none⟩ = some (.int .i64 7) := HE3.out.cell 0
    obtain ⟨k0, k1, k2, k3, k4, k5, k6, k7, k8, k9, k10⟩ := ev_cells HE3.out
    obtain ⟨z0, z1, z2, z3, z4, z5, z6, z7, z8, z9, z10⟩ := ev_cells HZ3.out
    obtain ⟨r0, r1, r2, r3, r4, r5, r6, r7, r8, r9, r10⟩ := ev_frozen HZ3.out
    go_wp2_with fail
    have hA := set_ev ⟨7, day, key, 0, 0, 0, 0, false, 0, 0, 0⟩ HZ3.out
    have hAb := set_ev_below ⟨7, day, key, 0, 0, 0, 0, false, 0, 0, 0⟩ HG0.out HB3.out
    (try simp only [Exit.inBlock, Exit.then])
    refine bodyPost_ret (Vw.results_cell_row2 (p := 4) (u := 5) (ty := 25) rfl _ _ g0 25 _ _ _ rfl hA.heap Tryz.underlying25 rfl (by kernel_rfl)) rfl ?_
    exact ⟨rev_no (by rw [HG.out]; rfl) _, hAb⟩
set_option maxRecDepth 40000 in
set_option maxHeartbeats 32000000 in
theorem revent_8 (day key : Int) (Y : List (List UInt8)) (hl : ∀ x ∈ Y, x.length ≤ 1000000) (hY : Y.length ≤ 1000000) (p : Option Addr) (c g : Nat) (w : World) (hw : Ws w g p Y c) :
    Calls Tryz.prog 55 #[.agg #[.int .i64 8, .int .i64 day, .int .u32 key, .int .i64 0, .int .i64 0, .float .f64 0, .float .f64 0, .bool false, .int .i64 0, .int .i64 0, .int .i64 0], .slice p Y.length c] w fun r w' => REv (gv7 ⟨8, day, key, 0, 0, 0, 0, false, 0, 0, 0⟩ Y) r ∧ Below w.heap.size w w' := by
  have hB1 := (Below.refl w.heap.size w).alloc (Nat.le_refl _) (.cells #[.int .i64 8, .int .i64 day, .int .u32 key, .int .i64 0, .int .i64 0, .float .f64 0, .float .f64 0, .bool false, .int .i64 0, .int .i64 0, .int .i64 0] 25)
  have hE1 := Blk.new w 25 #[.int .i64 8, .int .i64 day, .int .u32 key, .int .i64 0, .int .i64 0, .float .f64 0, .float .f64 0, .bool false, .int .i64 0, .int .i64 0, .int .i64 0]
  obtain ⟨w1, hw1⟩ : ∃ w1, w.alloc (.cells #[.int .i64 8, .int .i64 day, .int .u32 key, .int .i64 0, .int .i64 0, .float .f64 0, .float .f64 0, .bool false, .int .i64 0, .int .i64 0, .int .i64 0] 25) = w1 := ⟨_, rfl⟩
  rw [hw1] at hB1 hE1
  have hal := (Below.refl w1.heap.size w1).alloc (Nat.le_refl _) (.cells #[.int .i64 0, .int .i64 0, .int .u32 0, .int .i64 0, .int .i64 0, .float .f64 0, .float .f64 0, .bool false, .int .i64 0, .int .i64 0, .int .i64 0] 25)
  have hZ2 := Blk.new w1 25 #[.int .i64 0, .int .i64 0, .int .u32 0, .int .i64 0, .int .i64 0, .float .f64 0, .float .f64 0, .bool false, .int .i64 0, .int .i64 0, .int .i64 0]
  have hE2 := hE1.below hal
  have hB2 := hB1.trans (hal.mono hB1.size)
  have hlt := hE1.lt
  obtain ⟨w2, hw2⟩ : ∃ w2, w1.alloc (.cells #[.int .i64 0, .int .i64 0, .int .u32 0, .int .i64 0, .int .i64 0, .float .f64 0, .float .f64 0, .bool false, .int .i64 0, .int .i64 0, .int .i64 0] 25) = w2 := ⟨_, rfl⟩
  rw [hw2] at hZ2 hE2 hB2
  have hal := (Below.refl w2.heap.size w2).alloc (Nat.le_refl _) (.cells #[.int .i64 0, .int .i64 0] 2)
  have hN3 := Blk.new w2 2 #[.int .i64 0, .int .i64 0]
  have hE3 := hE2.below hal
  have hZ3 := hZ2.below hal
  have hB3 := hB2.trans (hal.mono hB2.size)
  have hlt2 := hZ2.lt
  obtain ⟨w3, hw3⟩ : ∃ w3, w2.alloc (.cells #[.int .i64 0, .int .i64 0] 2) = w3 := ⟨_, rfl⟩
  rw [hw3] at hN3 hE3 hZ3 hB3
  obtain ⟨ge, hge⟩ : ∃ ge, w.heap.size = ge := ⟨_, rfl⟩
  obtain ⟨g0, hg0⟩ : ∃ g0, w1.heap.size = g0 := ⟨_, rfl⟩
  obtain ⟨gn, hgn⟩ : ∃ gn, w2.heap.size = gn := ⟨_, rfl⟩
  have HG0 : Hid (w.heap.size ≤ g0) := Lib.hid (by omega)
  have HGe : Hid (w.heap.size ≤ ge ∧ ge < g0 ∧ g0 < gn) := Lib.hid (by omega)
  rw [hg0] at hZ3
  rw [hge] at hE3
  rw [hgn] at hN3
  have HZ3 : Hid (Blk w3 g0 25 (⟨0, 0, 0, 0, 0, 0, 0, false, 0, 0, 0⟩ : E).cells) := Lib.hid hZ3
  have HE3 : Hid (Blk w3 ge 25 (⟨8, day, key, 0, 0, 0, 0, false, 0, 0, 0⟩ : E).cells) := Lib.hid hE3
  have HN3 := Lib.hid hN3
  have HB3 := Lib.hid hB3
  have hmk := make2
  have hst0 := st_f64
  clear hB1 hE1 hal hZ2 hE2 hB2 hlt hN3 hE3 hZ3 hB3 hlt2
  obtain ⟨n, hn⟩ : ∃ n, Y.length = n := ⟨_, rfl⟩
  have hcap : n ≤ c := hn ▸ hw.cap
  rw [hn]
  by_cases hq : n = 1
  · subst hq
    obtain ⟨y0, rfl⟩ : ∃ y0, Y = [y0] := by
      match Y, hn with
      | [y0], _ => exact ⟨y0, rfl⟩
    rcases hw.lies with h1 | ⟨b, off, rfl, _, hbw, hc⟩
    · cases h1
    have HC := Lib.hid hc
    have HBw := Lib.hid hbw
    clear hw hc hbw
    go_enter Tryz.func55, Tryz.ntmps55
    go_upto_region 3 with fail
    clear hw1 hw2 hw3 hge hg0 hgn hmk
    have q0 : w3.cell? ⟨ge, 0, none⟩ = some (.int .i64 8) := HE3.out.cell 0
    go_wp2_with fail
    go_loopw [10] (fun vi wr => ∃ (i : Nat) (a b2 : Int), i ≤ 1 ∧ vi = .int .i64 (i : Int) ∧ Blk wr ge 25 (⟨8, day, key, 0, 0, 0, 0, false, 0, 0, 0⟩ : E).cells ∧ Blk wr g0 25 (⟨0, 0, 0, 0, 0, 0, 0, false, 0, 0, 0⟩ : E).cells ∧ Blk wr gn 2 #[.int .i64 a, .int .i64 b2] ∧ Below w.heap.size w wr ∧ Hid ((1 ≤ i → numB y0 = true ∧ a = max (numP y0) 0) ∧ (2 ≤ i → numB y0 = true ∧ b2 = max (numP y0) 0) ∧ (i ≤ 1 → b2 = 0))) (fun vi _ => 1 - (RowKit.intOf vi).toNat)
    case atStart => exact ⟨0, 0, 0, by decide, rfl, HE3.out, HZ3.out, HN3.out, HB3.out, Lib.hid ⟨fun h => absurd h (by decide), fun h => absurd h (by decide), fun _ => rfl⟩⟩
    case round =>
      obtain ⟨i, a, b2, hi, rfl, he, hz, hnn, hb, hh⟩ := hrel
      have HEr := Lib.hid he
      have HZr := Lib.hid hz
      have HNr := Lib.hid hnn
      have HBr := Lib.hid hb
      have n0 : wr.cell? ⟨gn, 0, none⟩ = some (.int .i64 a) := hnn.cell 0
      have n1 : wr.cell? ⟨gn, 1, none⟩ = some (.int .i64 b2) := hnn.cell 1
      have fn0 := hnn.frozen 0
      have fn1 := hnn.frozen 1
      have q0 : wr.cell? ⟨ge, 0, none⟩ = some (.int .i64 8) := he.cell 0
      have hc : i = 0 ∨ i = 1 := by omega
      clear he hz hnn hb
      rcases hc with rfl | rfl
      · skip
        have cy0 : wr.cell? ⟨b, off, none⟩ = some (.string (str y0)) := (HBr.out.cell (p := ⟨b, off, none⟩) HBw.out).trans (HC.out 0 y0 rfl)
        have HNu := Lib.hid (rnum_calls y0 (hl y0 (by simp)) wr)
        obtain ⟨m, hm⟩ : ∃ m, max (numP y0) 0 = m := ⟨_, rfl⟩
        have HM := Lib.hid hm
        rw [hm] at HNu
        clear hm
        rcases (show numB y0 = false ∨ numB y0 = true by cases numB y0 <;> simp) with hnb | hnb
        · skip
          rw [hnb] at HNu
          have HNb := Lib.hid hnb
          clear hnb hh fn0 fn1
          go_wp2_with fail
          refine HNu.out.mono ?_
          rintro r w6 ⟨rfl, rfl⟩
          clear n0 n1 q0 cy0
          obtain ⟨k0, k1, k2, k3, k4, k5, k6, k7, k8, k9, k10⟩ := ev_cells HEr.out
          obtain ⟨z0, z1, z2, z3, z4, z5, z6, z7, z8, z9, z10⟩ := ev_cells HZr.out
          obtain ⟨r0, r1, r2, r3, r4, r5, r6, r7, r8, r9, r10⟩ := ev_frozen HZr.out
          go_wp2_with fail
          have hA := set_ev ⟨8, day, key, 0, 0, 0, 0, false, 0, 0, 0⟩ HZr.out
          have hAb := set_ev_below ⟨8, day, key, 0, 0, 0, 0, false, 0, 0, 0⟩ HG0.out HBr.out
          (try simp only [Exit.inBlock, Exit.then])
          refine bodyPost_ret (Vw.results_cell_row2 (p := 4) (u := 5) (ty := 25) rfl _ _ g0 25 _ _ _ rfl hA.heap Tryz.underlying25 rfl (by kernel_rfl)) rfl ?_
          exact ⟨rev_no (by show (numB y0 && _) = false; rw [HNb.out]; rfl) _, hAb⟩
        · skip
          rw [hnb] at HNu
          have HNb := Lib.hid hnb
          clear hnb
          go_wp2_with fail
          refine HNu.out.mono ?_
          rintro r w6 ⟨rfl, rfl⟩
          have hne : ¬ ge = gn := by have := HGe.out; omega
          have hne2 : ¬ g0 = gn := by have := HGe.out; omega
          go_wp2_with fail
          go_roundw
          case rel => exact ⟨1, m, b2, by decide, by go_num, blk_at HEr.out hne, blk_at HZr.out hne2, HNr.out.set_ 0 _, below_set HBr.out (by have := HGe.out; omega) 0 _, Lib.hid ⟨fun _ => ⟨HNb.out, HM.out.symm⟩, fun h => absurd h (by decide), fun _ => hh.out.2.2 (by decide)⟩⟩
          all_goals (simp [RowKit.intOf])
      · obtain ⟨v0, rfl⟩ := hh.out.1 (by decide)
        obtain rfl := hh.out.2.2 (by decide)
        have HV0 := Lib.hid v0
        clear hh fn0 fn1 v0
        obtain ⟨m0, hm0⟩ : ∃ m, max (numP y0) 0 = m := ⟨_, rfl⟩
        have HM0 := Lib.hid hm0
        rw [hm0] at n0
        clear hm0
        have q3 : wr.cell? ⟨ge, 3, none⟩ = some (.int .i64 0) := HEr.out.cell 3
        have fq3 := HEr.out.frozen 3
        have q4 : wr.cell? ⟨ge, 4, none⟩ = some (.int .i64 0) := HEr.out.cell 4
        have fq4 := HEr.out.frozen 4
        have hne : ¬ ge = gn := by have := HGe.out; omega
        have hne2 : ¬ gn = ge := by omega
        go_wp2_with fail
        go_region
        have HEq : Hid (Blk ((wr.setCell ⟨ge, 3, none⟩ (.int .i64 m0)).setCell ⟨ge, 4, none⟩ (.int .i64 0)).drew ge 25 (⟨8, day, key, m0, 0, 0, 0, false, 0, 0, 0⟩ : E).cells) := Lib.hid (blk_drew ((HEr.out.set_ 3 _).set_ 4 _))
        have HZq := Lib.hid (blk_drew (blk_at (i := 4) (v := .int .i64 0) (blk_at (i := 3) (v := .int .i64 m0) HZr.out (show g0 ≠ ge by have := HGe.out; omega)) (show g0 ≠ ge by have := HGe.out; omega)))
        have HBq := Lib.hid (below_set (below_set HBr.out HGe.out.1 3 (.int .i64 m0)) HGe.out.1 4 (.int .i64 0)).drew
        clear q3 fq3 q4 fq4 n0 n1 q0
        generalize ((wr.setCell ⟨ge, 3, none⟩ (.int .i64 m0)).setCell ⟨ge, 4, none⟩ (.int .i64 0)).drew = wq at *
        obtain ⟨k0, k1, k2, k3, k4, k5, k6, k7, k8, k9, k10⟩ := ev_cells HEq.out
        obtain ⟨z0, z1, z2, z3, z4, z5, z6, z7, z8, z9, z10⟩ := ev_cells HZq.out
        obtain ⟨r0, r1, r2, r3, r4, r5, r6, r7, r8, r9, r10⟩ := ev_frozen HZq.out
        go_wp2_with fail
        have hA := set_ev ⟨8, day, key, m0, 0, 0, 0, false, 0, 0, 0⟩ HZq.out
        have hAb := set_ev_below ⟨8, day, key, m0, 0, 0, 0, false, 0, 0, 0⟩ HG0.out HBq.out
        (try simp only [Exit.inBlock, Exit.then])
        refine bodyPost_ret (Vw.results_cell_row2 (p := 4) (u := 5) (ty := 25) rfl _ _ g0 25 _ _ _ rfl hA.heap Tryz.underlying25 rfl (by kernel_rfl)) rfl ?_
        exact ⟨rev_is _ _ (by show _ = (numB y0 && true); rw [HV0.out]; rfl) (fun _ => by show _ = (⟨8, day, key, max (numP y0) 0, 0, 0, 0, false, 0, 0, 0⟩ : E); rw [HM0.out]), hAb⟩
  · have HG := Lib.hid (gv7_no ⟨8, day, key, 0, 0, 0, 0, false, 0, 0, 0⟩ (Y := Y) (by rw [hn]; exact hq))
    have hq2 : ¬ (n : Int) = 1 := by omega
    have hq3 : ((n : Int) == 1) = false := beq_eq_false_iff_ne.2 hq2
    go_enter Tryz.func55, Tryz.ntmps55
    go_upto_region 3 with fail
    clear hw1 hw2 hw3 hge hg0 hgn hmk
    have q0 : w3.cell? ⟨ge, 0, none⟩ = some (.int .i64 8) := HE3.out.cell 0
    obtain ⟨k0, k1, k2, k3, k4, k5, k6, k7, k8, k9, k10⟩ := ev_cells HE3.out
    obtain ⟨z0, z1, z2, z3, z4, z5, z6, z7, z8, z9, z10⟩ := ev_cells HZ3.out
    obtain ⟨r0, r1, r2, r3, r4, r5, r6, r7, r8, r9, r10⟩ := ev_frozen HZ3.out
    go_wp2_with fail
    have hA := set_ev ⟨8, day, key, 0, 0, 0, 0, false, 0, 0, 0⟩ HZ3.out
    have hAb := set_ev_below ⟨8, day, key, 0, 0, 0, 0, false, 0, 0, 0⟩ HG0.out HB3.out
    (try simp only [Exit.inBlock, Exit.then])
    refine bodyPost_ret (Vw.results_cell_row2 (p := 4) (u := 5) (ty := 25) rfl _ _ g0 25 _ _ _ rfl hA.heap Tryz.underlying25 rfl (by kernel_rfl)) rfl ?_
    exact ⟨rev_no (by rw [HG.out]; rfl) _, hAb⟩
set_option maxRecDepth 40000 in
set_option maxHeartbeats 32000000 in
theorem revent_4 (day key : Int) (Y : List (List UInt8)) (hl : ∀ x ∈ Y, x.length ≤ 1000000) (hY : Y.length ≤ 1000000) (p : Option Addr) (c g : Nat) (w : World) (hw : Ws w g p Y c) :
    Calls Tryz.prog 55 #[.agg #[.int .i64 4, .int .i64 day, .int .u32 key, .int .i64 0, .int .i64 0, .float .f64 0, .float .f64 0, .bool false, .int .i64 0, .int .i64 0, .int .i64 0], .slice p Y.length c] w fun r w' => REv (gv4 ⟨4, day, key, 0, 0, 0, 0, false, 0, 0, 0⟩ Y) r ∧ Below w.heap.size w w' := by
  have hB1 := (Below.refl w.heap.size w).alloc (Nat.le_refl _) (.cells #[.int .i64 4, .int .i64 day, .int .u32 key, .int .i64 0, .int .i64 0, .float .f64 0, .float .f64 0, .bool false, .int .i64 0, .int .i64 0, .int .i64 0] 25)
  have hE1 := Blk.new w 25 #[.int .i64 4, .int .i64 day, .int .u32 key, .int .i64 0, .int .i64 0, .float .f64 0, .float .f64 0, .bool false, .int .i64 0, .int .i64 0, .int .i64 0]
  obtain ⟨w1, hw1⟩ : ∃ w1, w.alloc (.cells #[.int .i64 4, .int .i64 day, .int .u32 key, .int .i64 0, .int .i64 0, .float .f64 0, .float .f64 0, .bool false, .int .i64 0, .int .i64 0, .int .i64 0] 25) = w1 := ⟨_, rfl⟩
  rw [hw1] at hB1 hE1
  have hal := (Below.refl w1.heap.size w1).alloc (Nat.le_refl _) (.cells #[.int .i64 0, .int .i64 0, .int .u32 0, .int .i64 0, .int .i64 0, .float .f64 0, .float .f64 0, .bool false, .int .i64 0, .int .i64 0, .int .i64 0] 25)
  have hZ2 := Blk.new w1 25 #[.int .i64 0, .int .i64 0, .int .u32 0, .int .i64 0, .int .i64 0, .float .f64 0, .float .f64 0, .bool false, .int .i64 0, .int .i64 0, .int .i64 0]
  have hE2 := hE1.below hal
  have hB2 := hB1.trans (hal.mono hB1.size)
  have hlt := hE1.lt
  obtain ⟨w2, hw2⟩ : ∃ w2, w1.alloc (.cells #[.int .i64 0, .int .i64 0, .int .u32 0, .int .i64 0, .int .i64 0, .float .f64 0, .float .f64 0, .bool false, .int .i64 0, .int .i64 0, .int .i64 0] 25) = w2 := ⟨_, rfl⟩
  rw [hw2] at hZ2 hE2 hB2
  have hal := (Below.refl w2.heap.size w2).alloc (Nat.le_refl _) (.cells #[.int .i64 0, .int .i64 0] 2)
  have hN3 := Blk.new w2 2 #[.int .i64 0, .int .i64 0]
  have hE3 := hE2.below hal
  have hZ3 := hZ2.below hal
  have hB3 := hB2.trans (hal.mono hB2.size)
  have hlt2 := hZ2.lt
  obtain ⟨w3, hw3⟩ : ∃ w3, w2.alloc (.cells #[.int .i64 0, .int .i64 0] 2) = w3 := ⟨_, rfl⟩
  rw [hw3] at hN3 hE3 hZ3 hB3
  obtain ⟨ge, hge⟩ : ∃ ge, w.heap.size = ge := ⟨_, rfl⟩
  obtain ⟨g0, hg0⟩ : ∃ g0, w1.heap.size = g0 := ⟨_, rfl⟩
  obtain ⟨gn, hgn⟩ : ∃ gn, w2.heap.size = gn := ⟨_, rfl⟩
  have HG0 : Hid (w.heap.size ≤ g0) := Lib.hid (by omega)
  have HGe : Hid (w.heap.size ≤ ge ∧ ge < g0 ∧ g0 < gn) := Lib.hid (by omega)
  rw [hg0] at hZ3
  rw [hge] at hE3
  rw [hgn] at hN3
  have HZ3 : Hid (Blk w3 g0 25 (⟨0, 0, 0, 0, 0, 0, 0, false, 0, 0, 0⟩ : E).cells) := Lib.hid hZ3
  have HE3 : Hid (Blk w3 ge 25 (⟨4, day, key, 0, 0, 0, 0, false, 0, 0, 0⟩ : E).cells) := Lib.hid hE3
  have HN3 := Lib.hid hN3
  have HB3 := Lib.hid hB3
  have hmk := make2
  have hst0 := st_f64
  clear hB1 hE1 hal hZ2 hE2 hB2 hlt hN3 hE3 hZ3 hB3 hlt2
  obtain ⟨n, hn⟩ : ∃ n, Y.length = n := ⟨_, rfl⟩
  have hcap : n ≤ c := hn ▸ hw.cap
  rw [hn]
  by_cases hq : n = 2
  · subst hq
    obtain ⟨y0, y1, rfl⟩ : ∃ y0 y1, Y = [y0, y1] := by
      match Y, hn with
      | [y0, y1], _ => exact ⟨y0, y1, rfl⟩
    rcases hw.lies with h1 | ⟨b, off, rfl, _, hbw, hc⟩
    · cases h1
    have HC := Lib.hid hc
    have HBw := Lib.hid hbw
    clear hw hc hbw
    go_enter Tryz.func55, Tryz.ntmps55
    go_upto_region 3 with fail
    clear hw1 hw2 hw3 hge hg0 hgn hmk
    have q0 : w3.cell? ⟨ge, 0, none⟩ = some (.int .i64 4) := HE3.out.cell 0
    go_wp2_with fail
    go_loopw [10] (fun vi wr => ∃ (i : Nat) (a b2 : Int), i ≤ 2 ∧ vi = .int .i64 (i : Int) ∧ Blk wr ge 25 (⟨4, day, key, 0, 0, 0, 0, false, 0, 0, 0⟩ : E).cells ∧ Blk wr g0 25 (⟨0, 0, 0, 0, 0, 0, 0, false, 0, 0, 0⟩ : E).cells ∧ Blk wr gn 2 #[.int .i64 a, .int .i64 b2] ∧ Below w.heap.size w wr ∧ Hid ((1 ≤ i → numB y0 = true ∧ a = max (numP y0) 0) ∧ (2 ≤ i → numB y1 = true ∧ b2 = max (numP y1) 0) ∧ (i ≤ 1 → b2 = 0))) (fun vi _ => 2 - (RowKit.intOf vi).toNat)
    case atStart => exact ⟨0, 0, 0, by decide, rfl, HE3.out, HZ3.out, HN3.out, HB3.out, Lib.hid ⟨fun h => absurd h (by decide), fun h => absurd h (by decide), fun _ => rfl⟩⟩
    case round =>
      obtain ⟨i, a, b2, hi, rfl, he, hz, hnn, hb, hh⟩ := hrel
      have HEr := Lib.hid he
      have HZr := Lib.hid hz
      have HNr := Lib.hid hnn
      have HBr := Lib.hid hb
      have n0 : wr.cell? ⟨gn, 0, none⟩ = some (.int .i64 a) := hnn.cell 0
      have n1 : wr.cell? ⟨gn, 1, none⟩ = some (.int .i64 b2) := hnn.cell 1
      have fn0 := hnn.frozen 0
      have fn1 := hnn.frozen 1
      have q0 : wr.cell? ⟨ge, 0, none⟩ = some (.int .i64 4) := he.cell 0
      have hc : i = 0 ∨ i = 1 ∨ i = 2 := by omega
      clear he hz hnn hb
      rcases hc with rfl | rfl | rfl
      · skip
        have cy0 : wr.cell? ⟨b, off, none⟩ = some (.string (str y0)) := (HBr.out.cell (p := ⟨b, off, none⟩) HBw.out).trans (HC.out 0 y0 rfl)
        have HNu := Lib.hid (rnum_calls y0 (hl y0 (by simp)) wr)
        obtain ⟨m, hm⟩ : ∃ m, max (numP y0) 0 = m := ⟨_, rfl⟩
        have HM := Lib.hid hm
        rw [hm] at HNu
        clear hm
        rcases (show numB y0 = false ∨ numB y0 = true by cases numB y0 <;> simp) with hnb | hnb
        · skip
          rw [hnb] at HNu
          have HNb := Lib.hid hnb
          clear hnb hh fn0 fn1
          go_wp2_with fail
          refine HNu.out.mono ?_
          rintro r w6 ⟨rfl, rfl⟩
          clear n0 n1 q0 cy0
          obtain ⟨k0, k1, k2, k3, k4, k5, k6, k7, k8, k9, k10⟩ := ev_cells HEr.out
          obtain ⟨z0, z1, z2, z3, z4, z5, z6, z7, z8, z9, z10⟩ := ev_cells HZr.out
          obtain ⟨r0, r1, r2, r3, r4, r5, r6, r7, r8, r9, r10⟩ := ev_frozen HZr.out
          go_wp2_with fail
          have hA := set_ev ⟨4, day, key, 0, 0, 0, 0, false, 0, 0, 0⟩ HZr.out
          have hAb := set_ev_below ⟨4, day, key, 0, 0, 0, 0, false, 0, 0, 0⟩ HG0.out HBr.out
          (try simp only [Exit.inBlock, Exit.then])
          refine bodyPost_ret (Vw.results_cell_row2 (p := 4) (u := 5) (ty := 25) rfl _ _ g0 25 _ _ _ rfl hA.heap Tryz.underlying25 rfl (by kernel_rfl)) rfl ?_
          exact ⟨rev_no (by show ((numB y0 && numB y1) && _) = false; rw [HNb.out]; rfl) _, hAb⟩
        · skip
          rw [hnb] at HNu
          have HNb := Lib.hid hnb
          clear hnb
          go_wp2_with fail
          refine HNu.out.mono ?_
          rintro r w6 ⟨rfl, rfl⟩
          have hne : ¬ ge = gn := by have := HGe.out; omega
          have hne2 : ¬ g0 = gn := by have := HGe.out; omega
          go_wp2_with fail
          go_roundw
          case rel => exact ⟨1, m, b2, by decide, by go_num, blk_at HEr.out hne, blk_at HZr.out hne2, HNr.out.set_ 0 _, below_set HBr.out (by have := HGe.out; omega) 0 _, Lib.hid ⟨fun _ => ⟨HNb.out, HM.out.symm⟩, fun h => absurd h (by decide), fun _ => hh.out.2.2 (by decide)⟩⟩
          all_goals (simp [RowKit.intOf])
      · skip
        have cy1 : wr.cell? ⟨b, off + 1, none⟩ = some (.string (str y1)) := (HBr.out.cell (p := ⟨b, off + 1, none⟩) HBw.out).trans (HC.out 1 y1 rfl)
        have HNu := Lib.hid (rnum_calls y1 (hl y1 (by simp)) wr)
        obtain ⟨m, hm⟩ : ∃ m, max (numP y1) 0 = m := ⟨_, rfl⟩
        have HM := Lib.hid hm
        rw [hm] at HNu
        clear hm
        rcases (show numB y1 = false ∨ numB y1 = true by cases numB y1 <;> simp) with hnb | hnb
        · skip
          rw [hnb] at HNu
          have HNb := Lib.hid hnb
          clear hnb hh fn0 fn1
          go_wp2_with fail
          refine HNu.out.mono ?_
          rintro r w6 ⟨rfl, rfl⟩
          clear n0 n1 q0 cy1
          obtain ⟨k0, k1, k2, k3, k4, k5, k6, k7, k8, k9, k10⟩ := ev_cells HEr.out
          obtain ⟨z0, z1, z2, z3, z4, z5, z6, z7, z8, z9, z10⟩ := ev_cells HZr.out
          obtain ⟨r0, r1, r2, r3, r4, r5, r6, r7, r8, r9, r10⟩ := ev_frozen HZr.out
          go_wp2_with fail
          have hA := set_ev ⟨4, day, key, 0, 0, 0, 0, false, 0, 0, 0⟩ HZr.out
          have hAb := set_ev_below ⟨4, day, key, 0, 0, 0, 0, false, 0, 0, 0⟩ HG0.out HBr.out
          (try simp only [Exit.inBlock, Exit.then])
          refine bodyPost_ret (Vw.results_cell_row2 (p := 4) (u := 5) (ty := 25) rfl _ _ g0 25 _ _ _ rfl hA.heap Tryz.underlying25 rfl (by kernel_rfl)) rfl ?_
          exact ⟨rev_no (by show ((numB y0 && numB y1) && _) = false; rw [HNb.out, Bool.and_false]; rfl) _, hAb⟩
        · skip
          rw [hnb] at HNu
          have HNb := Lib.hid hnb
          clear hnb
          go_wp2_with fail
          refine HNu.out.mono ?_
          rintro r w6 ⟨rfl, rfl⟩
          have hne : ¬ ge = gn := by have := HGe.out; omega
          have hne2 : ¬ g0 = gn := by have := HGe.out; omega
          go_wp2_with fail
          go_roundw
          case rel => exact ⟨2, a, m, by decide, by go_num, blk_at HEr.out hne, blk_at HZr.out hne2, HNr.out.set_ 1 _, below_set HBr.out (by have := HGe.out; omega) 1 _, Lib.hid ⟨fun _ => hh.out.1 (by decide), fun _ => ⟨HNb.out, HM.out.symm⟩, fun h => absurd h (by decide)⟩⟩
          all_goals (simp [RowKit.intOf])
      · obtain ⟨v0, rfl⟩ := hh.out.1 (by decide)
        obtain ⟨v1, rfl⟩ := hh.out.2.1 (by decide)
        have HV0 := Lib.hid v0
        have HV1 := Lib.hid v1
        clear hh fn0 fn1 v0 v1
        obtain ⟨m0, hm0⟩ : ∃ m, max (numP y0) 0 = m := ⟨_, rfl⟩
        have HM0 := Lib.hid hm0
        rw [hm0] at n0
        obtain ⟨m1, hm1⟩ : ∃ m, max (numP y1) 0 = m := ⟨_, rfl⟩
        have HM1 := Lib.hid hm1
        rw [hm1] at n1
        clear hm0 hm1
        have q3 : wr.cell? ⟨ge, 3, none⟩ = some (.int .i64 0) := HEr.out.cell 3
        have fq3 := HEr.out.frozen 3
        have q4 : wr.cell? ⟨ge, 4, none⟩ = some (.int .i64 0) := HEr.out.cell 4
        have fq4 := HEr.out.frozen 4
        have hne : ¬ ge = gn := by have := HGe.out; omega
        have hne2 : ¬ gn = ge := by omega
        go_wp2_with fail
        go_region
        have HEq : Hid (Blk ((wr.setCell ⟨ge, 3, none⟩ (.int .i64 m0)).setCell ⟨ge, 4, none⟩ (.int .i64 m1)).drew ge 25 (⟨4, day, key, m0, m1, 0, 0, false, 0, 0, 0⟩ : E).cells) := Lib.hid (blk_drew ((HEr.out.set_ 3 _).set_ 4 _))
        have HZq := Lib.hid (blk_drew (blk_at (i := 4) (v := .int .i64 m1) (blk_at (i := 3) (v := .int .i64 m0) HZr.out (show g0 ≠ ge by have := HGe.out; omega)) (show g0 ≠ ge by have := HGe.out; omega)))
        have HBq := Lib.hid (below_set (below_set HBr.out HGe.out.1 3 (.int .i64 m0)) HGe.out.1 4 (.int .i64 m1)).drew
        clear q3 fq3 q4 fq4 n0 n1 q0
        generalize ((wr.setCell ⟨ge, 3, none⟩ (.int .i64 m0)).setCell ⟨ge, 4, none⟩ (.int .i64 m1)).drew = wq at *
        obtain ⟨k0, k1, k2, k3, k4, k5, k6, k7, k8, k9, k10⟩ := ev_cells HEq.out
        obtain ⟨z0, z1, z2, z3, z4, z5, z6, z7, z8, z9, z10⟩ := ev_cells HZq.out
        obtain ⟨r0, r1, r2, r3, r4, r5, r6, r7, r8, r9, r10⟩ := ev_frozen HZq.out
        go_wp2_with fail
        have hA := set_ev ⟨4, day, key, m0, m1, 0, 0, false, 0, 0, 0⟩ HZq.out
        have hAb := set_ev_below ⟨4, day, key, m0, m1, 0, 0, false, 0, 0, 0⟩ HG0.out HBq.out
        (try simp only [Exit.inBlock, Exit.then])
        refine bodyPost_ret (Vw.results_cell_row2 (p := 4) (u := 5) (ty := 25) rfl _ _ g0 25 _ _ _ rfl hA.heap Tryz.underlying25 rfl (by kernel_rfl)) rfl ?_
        exact ⟨rev_is _ _ (by show _ = ((numB y0 && numB y1) && true); rw [HV0.out, HV1.out]; rfl) (fun _ => by show _ = (⟨4, day, key, max (numP y0) 0, max (numP y1) 0, 0, 0, false, 0, 0, 0⟩ : E); rw [HM0.out, HM1.out]), hAb⟩
  · have HG := Lib.hid (gv4_no ⟨4, day, key, 0, 0, 0, 0, false, 0, 0, 0⟩ (Y := Y) (by rw [hn]; exact hq))
    have hq2 : ¬ (n : Int) = 2 := by omega
    have hq3 : ((n : Int) == 2) = false := beq_eq_false_iff_ne.2 hq2
    go_enter Tryz.func55, Tryz.ntmps55
    go_upto_region 3 with fail
    clear hw1 hw2 hw3 hge hg0 hgn hmk
    have q0 : w3.cell? ⟨ge, 0, none⟩ = some (.int .i64 4) := HE3.out.cell 0
    obtain ⟨k0, k1, k2, k3, k4, k5, k6, k7, k8, k9, k10⟩ := ev_cells HE3.out
    obtain ⟨z0, z1, z2, z3, z4, z5, z6, z7, z8, z9, z10⟩ := ev_cells HZ3.out
    obtain ⟨r0, r1, r2, r3, r4, r5, r6, r7, r8, r9, r10⟩ := ev_frozen HZ3.out
    go_wp2_with fail
    have hA := set_ev ⟨4, day, key, 0, 0, 0, 0, false, 0, 0, 0⟩ HZ3.out
    have hAb := set_ev_below ⟨4, day, key, 0, 0, 0, 0, false, 0, 0, 0⟩ HG0.out HB3.out
    (try simp only [Exit.inBlock, Exit.then])
    refine bodyPost_ret (Vw.results_cell_row2 (p := 4) (u := 5) (ty := 25) rfl _ _ g0 25 _ _ _ rfl hA.heap Tryz.underlying25 rfl (by kernel_rfl)) rfl ?_
    exact ⟨rev_no (by rw [HG.out]; rfl) _, hAb⟩
end Go.Proofs.YtkcjgmicoifhcaaGreatDoor.Cn
