/- loan.Owes, whole. -/
import Derived.Test.YtkifkjgkdfnhcaaDoorV20
namespace Go.Proofs.YtkifkjgkdfnhcaaDoor.Vw
open Go.RowKit Go.Sort Go.Lib Go.Shelf

set_option maxRecDepth 20000 in
set_option maxHeartbeats 8000000 in
theorem does_bad1 (l : Ln) (hg : goodLn l = false) (n : Nat) (w : World) (hN : Blk w n 2 #[.int .i64 0]) :
    Calls Tryd.prog 49 #[l.v, .func (.func 50) #[] #[.pointer (some ⟨n, 0, none⟩)]] w fun e w' => e = .returned (.tuple #[zeroLn.v, .int .i64 1]) ∧ Blk w' n 2 #[.int .i64 0] ∧ Below n w w' := by
  have hmf : ∀ (fn : Fn) (first cap : Array Value) (w : World), (Instr.makeFunc fn first cap).run Tryd.prog w = .ok (.func fn first cap) w := fun _ _ _ _ => rfl
  have z1 : (w.alloc (.cells l.cells 23)).heap.size = w.heap.size + 1 := by simp
  have z2 : ((w.alloc (.cells l.cells 23)).alloc (.cells zeroLn.cells 23)).heap.size = w.heap.size + 1 + 1 := by simp
  have b1 := Blk.new w 23 l.cells
  have b2 := Blk.new (w.alloc (.cells l.cells 23)) 23 zeroLn.cells
  have b3 := Blk.new ((w.alloc (.cells l.cells 23)).alloc (.cells zeroLn.cells 23)) 46 #[.int .i64 0]
  rw [z1] at b2
  rw [z2] at b3
  have a1 := (Below.refl w.heap.size w).alloc (Nat.le_refl _) (.cells l.cells 23)
  have a2 := (Below.refl _ (w.alloc (.cells l.cells 23))).alloc (Nat.le_refl _) (.cells zeroLn.cells 23)
  have a3 := (Below.refl _ ((w.alloc (.cells l.cells 23)).alloc (.cells zeroLn.cells 23))).alloc (Nat.le_refl _) (.cells #[.int .i64 0] 46)
  have HL := Lib.hid ((b1.below a2).below a3)
  have HZ := Lib.hid (b2.below a3)
  have HE := Lib.hid b3
  have HNn := Lib.hid (((hN.below a1).below a2).below a3)
  have hnl := hN.lt
  have HB := Lib.hid ((((a1.mono (Nat.le_of_lt hnl)).trans (a2.mono (by rw [z1]; omega))).trans (a3.mono (by rw [z2]; omega))))
  have HG := Lib.hid (fun W => lgood_calls l W)
  rw [hg] at HG
  have HLT : Hid (n < w.heap.size) := Lib.hid hnl
  clear b1 b2 b3 a1 a2 a3 z1 z2 hN hg hnl
  go_enter_defers Tryd.func49, Tryd.ntmps49
  go_upto_region 1 with fail
  generalize ((w.alloc (.cells l.cells 23)).alloc (.cells zeroLn.cells 23)).alloc (.cells #[.int .i64 0] 46) = w1 at *
  go_upto_region 2 with fail
  have k0 : w1.cell? ⟨w.heap.size, 0, none⟩ = some (.int .i64 l.id) := HL.out.cell 0
  have k1 : w1.cell? ⟨w.heap.size, 1, none⟩ = some (.int .i64 l.principal) := HL.out.cell 1
  have k2 : w1.cell? ⟨w.heap.size, 2, none⟩ = some (.int .i64 l.interest) := HL.out.cell 2
  have k3 : w1.cell? ⟨w.heap.size, 3, none⟩ = some (.int .i64 l.subsidy) := HL.out.cell 3
  have k4 : w1.cell? ⟨w.heap.size, 4, none⟩ = some (.int .i64 l.fees) := HL.out.cell 4
  have k5 : w1.cell? ⟨w.heap.size, 5, none⟩ = some (.int .i64 l.ppm) := HL.out.cell 5
  have k6 : w1.cell? ⟨w.heap.size, 6, none⟩ = some (.bool l.sub) := HL.out.cell 6
  have k7 : w1.cell? ⟨w.heap.size, 7, none⟩ = some (.int .i64 l.status) := HL.out.cell 7
  have k8 : w1.cell? ⟨w.heap.size, 8, none⟩ = some (.int .i64 l.closed) := HL.out.cell 8
  have k9 : w1.cell? ⟨w.heap.size, 9, none⟩ = some (.int .i64 l.entered) := HL.out.cell 9
  have k10 : w1.cell? ⟨w.heap.size, 10, none⟩ = some (.int .i64 l.level) := HL.out.cell 10
  have k11 : w1.cell? ⟨w.heap.size, 11, none⟩ = some (.int .i64 l.far) := HL.out.cell 11
  have k12 : w1.cell? ⟨w.heap.size, 12, none⟩ = some (.int .i64 l.count) := HL.out.cell 12
  go_wp2_with fail
  refine (HG.out _).mono ?_
  rintro e w2 ⟨rfl, hb⟩
  have HL2 := Lib.hid (HL.out.below hb)
  have HZ2 := Lib.hid (HZ.out.below hb)
  have HE2 := Lib.hid (HE.out.below hb)
  have HN2 := Lib.hid (HNn.out.below hb)
  have HB2 := Lib.hid (HB.out.trans (hb.mono (Nat.le_trans (Nat.le_of_lt HLT.out) (by have := HL.out.lt; omega))))
  clear hb k0 k1 k2 k3 k4 k5 k6 k7 k8 k9 k10 k11 k12 HL HZ HE HNn HB
  go_wp2_with fail
  refine (stop_yes 1 (.inl rfl) _).mono ?_
  rintro e w2' ⟨rfl, rfl⟩
  have HZ9 := HZ2
  have HE9 := HE2
  have HN9 := HN2
  have HB9 := HB2
  have hlt := HLT.out
  have hne : w.heap.size + 1 ≠ w.heap.size + 1 + 1 := by omega
  refine leaves_cons (f := 66) (args := #[.pointer (some ⟨w.heap.size + 1, 0, none⟩), .pointer (some ⟨w.heap.size + 1 + 1, 0, none⟩)]) (by simp) (by simp [go_sem]) ?_
  refine (does_catch 1 (w.heap.size + 1) (w.heap.size + 1 + 1) _ HZ9.out HE9.out hne).mono ?_
  rintro e u' w'' ⟨rfl, rfl, q1, q2, w4, i1, i2⟩
  have d1 : w''.cell? ⟨w.heap.size + 1 + 1, 0, none⟩ = some (.int .i64 1) := q2.cell 0
  have N1 := i2.blk (i1.blk HN9.out (show n ≠ w.heap.size + 1 by omega)) (show n ≠ w.heap.size + 1 + 1 by omega)
  have B1 := i2.2 n (by omega) w (i1.2 n (by omega) w HB9.out)
  simp only [Leaves, settle, List.dropWhile_nil]
  exact ⟨_, results_row_cell (p := 4) (u := 5) (ty := 23) (t2 := 46) rfl _ w'' (w.heap.size + 1) (w.heap.size + 1 + 1) 23 zeroLn.cells _ _ (.int .i64 1) rfl q1.heap Tryd.underlying23 rfl (by kernel_rfl) rfl (by simp [go_sem, d1]), rfl, N1, B1⟩
set_option maxRecDepth 20000 in
set_option maxHeartbeats 8000000 in
theorem does_bad2 (l : Ln) (ho : OkLn l) (hg : goodLn l = true) (hs : owesO l = none) (n : Nat) (w : World) (hN : Blk w n 2 #[.int .i64 0]) :
    Calls Tryd.prog 49 #[l.v, .func (.func 50) #[] #[.pointer (some ⟨n, 0, none⟩)]] w fun e w' => e = .returned (.tuple #[zeroLn.v, .int .i64 14]) ∧ Blk w' n 2 #[.int .i64 0] ∧ Below n w w' := by
  have hmf : ∀ (fn : Fn) (first cap : Array Value) (w : World), (Instr.makeFunc fn first cap).run Tryd.prog w = .ok (.func fn first cap) w := fun _ _ _ _ => rfl
  have he : ∀ W, (callFunc 50 #[.pointer (some ⟨w.heap.size, 0, none⟩), .pointer (some ⟨n, 0, none⟩)]).run Tryd.prog W = .ok (.enter 50 #[.pointer (some ⟨w.heap.size, 0, none⟩), .pointer (some ⟨n, 0, none⟩)]) W := enters_of Tryd.func50 (by kernel_rfl) rfl _
  have z1 : (w.alloc (.cells l.cells 23)).heap.size = w.heap.size + 1 := by simp
  have z2 : ((w.alloc (.cells l.cells 23)).alloc (.cells zeroLn.cells 23)).heap.size = w.heap.size + 1 + 1 := by simp
  have b1 := Blk.new w 23 l.cells
  have b2 := Blk.new (w.alloc (.cells l.cells 23)) 23 zeroLn.cells
  have b3 := Blk.new ((w.alloc (.cells l.cells 23)).alloc (.cells zeroLn.cells 23)) 46 #[.int .i64 0]
  rw [z1] at b2
  rw [z2] at b3
  have a1 := (Below.refl w.heap.size w).alloc (Nat.le_refl _) (.cells l.cells 23)
  have a2 := (Below.refl _ (w.alloc (.cells l.cells 23))).alloc (Nat.le_refl _) (.cells zeroLn.cells 23)
  have a3 := (Below.refl _ ((w.alloc (.cells l.cells 23)).alloc (.cells zeroLn.cells 23))).alloc (Nat.le_refl _) (.cells #[.int .i64 0] 46)
  have HL := Lib.hid ((b1.below a2).below a3)
  have HZ := Lib.hid (b2.below a3)
  have HE := Lib.hid b3
  have HNn := Lib.hid (((hN.below a1).below a2).below a3)
  have hnl := hN.lt
  have HB := Lib.hid ((((a1.mono (Nat.le_of_lt hnl)).trans (a2.mono (by rw [z1]; omega))).trans (a3.mono (by rw [z2]; omega))))
  have HG := Lib.hid (fun W => lgood_calls l W)
  rw [hg] at HG
  have HCl := Lib.hid (fun W (hK : Blk W w.heap.size 23 l.cells) => clos_bad l ho w.heap.size n W hK hs)
  have HLT : Hid (n < w.heap.size) := Lib.hid hnl
  clear b1 b2 b3 a1 a2 a3 z1 z2 hN hg hs ho hnl
  go_enter_defers Tryd.func49, Tryd.ntmps49
  go_upto_region 1 with fail
  generalize ((w.alloc (.cells l.cells 23)).alloc (.cells zeroLn.cells 23)).alloc (.cells #[.int .i64 0] 46) = w1 at *
  go_upto_region 2 with fail
  have k0 : w1.cell? ⟨w.heap.size, 0, none⟩ = some (.int .i64 l.id) := HL.out.cell 0
  have k1 : w1.cell? ⟨w.heap.size, 1, none⟩ = some (.int .i64 l.principal) := HL.out.cell 1
  have k2 : w1.cell? ⟨w.heap.size, 2, none⟩ = some (.int .i64 l.interest) := HL.out.cell 2
  have k3 : w1.cell? ⟨w.heap.size, 3, none⟩ = some (.int .i64 l.subsidy) := HL.out.cell 3
  have k4 : w1.cell? ⟨w.heap.size, 4, none⟩ = some (.int .i64 l.fees) := HL.out.cell 4
  have k5 : w1.cell? ⟨w.heap.size, 5, none⟩ = some (.int .i64 l.ppm) := HL.out.cell 5
  have k6 : w1.cell? ⟨w.heap.size, 6, none⟩ = some (.bool l.sub) := HL.out.cell 6
  have k7 : w1.cell? ⟨w.heap.size, 7, none⟩ = some (.int .i64 l.status) := HL.out.cell 7
  have k8 : w1.cell? ⟨w.heap.size, 8, none⟩ = some (.int .i64 l.closed) := HL.out.cell 8
  have k9 : w1.cell? ⟨w.heap.size, 9, none⟩ = some (.int .i64 l.entered) := HL.out.cell 9
  have k10 : w1.cell? ⟨w.heap.size, 10, none⟩ = some (.int .i64 l.level) := HL.out.cell 10
  have k11 : w1.cell? ⟨w.heap.size, 11, none⟩ = some (.int .i64 l.far) := HL.out.cell 11
  have k12 : w1.cell? ⟨w.heap.size, 12, none⟩ = some (.int .i64 l.count) := HL.out.cell 12
  go_wp2_with fail
  refine (HG.out _).mono ?_
  rintro e w2 ⟨rfl, hb⟩
  have HL2 := Lib.hid (HL.out.below hb)
  have HZ2 := Lib.hid (HZ.out.below hb)
  have HE2 := Lib.hid (HE.out.below hb)
  have HN2 := Lib.hid (HNn.out.below hb)
  have HB2 := Lib.hid (HB.out.trans (hb.mono (Nat.le_trans (Nat.le_of_lt HLT.out) (by have := HL.out.lt; omega))))
  clear hb k0 k1 k2 k3 k4 k5 k6 k7 k8 k9 k10 k11 k12 HL HZ HE HNn HB
  go_wp2_with fail
  refine (stop_no 1 (.inl rfl) _).mono ?_
  rintro e w2' ⟨rfl, rfl⟩
  have he' := he
  go_wp2_with fail
  refine (HCl.out w2 HL2.out).mono ?_
  rintro e w3 ⟨rfl, hb3⟩
  have HZ9 := Lib.hid (HZ2.out.below hb3)
  have HE9 := Lib.hid (HE2.out.below hb3)
  have HN9 := Lib.hid (HN2.out.below hb3)
  have HB9 := Lib.hid (HB2.out.trans (hb3.mono (by have := HN2.out.lt; omega)))
  have hlt := HLT.out
  have hne : w.heap.size + 1 ≠ w.heap.size + 1 + 1 := by omega
  refine leaves_cons (f := 66) (args := #[.pointer (some ⟨w.heap.size + 1, 0, none⟩), .pointer (some ⟨w.heap.size + 1 + 1, 0, none⟩)]) (by simp) (by simp [go_sem]) ?_
  refine (does_catch 14 (w.heap.size + 1) (w.heap.size + 1 + 1) _ HZ9.out HE9.out hne).mono ?_
  rintro e u' w'' ⟨rfl, rfl, q1, q2, w4, i1, i2⟩
  have d1 : w''.cell? ⟨w.heap.size + 1 + 1, 0, none⟩ = some (.int .i64 14) := q2.cell 0
  have N1 := i2.blk (i1.blk HN9.out (show n ≠ w.heap.size + 1 by omega)) (show n ≠ w.heap.size + 1 + 1 by omega)
  have B1 := i2.2 n (by omega) w (i1.2 n (by omega) w HB9.out)
  simp only [Leaves, settle, List.dropWhile_nil]
  exact ⟨_, results_row_cell (p := 4) (u := 5) (ty := 23) (t2 := 46) rfl _ w'' (w.heap.size + 1) (w.heap.size + 1 + 1) 23 zeroLn.cells _ _ (.int .i64 14) rfl q1.heap Tryd.underlying23 rfl (by kernel_rfl) rfl (by simp [go_sem, d1]), rfl, N1, B1⟩
set_option maxRecDepth 20000 in
set_option maxHeartbeats 8000000 in
theorem lowes_bad (l : Ln) (er : Int) (hd : ∀ (n : Nat) (w : World), Blk w n 2 #[.int .i64 0] → Calls Tryd.prog 49 #[l.v, .func (.func 50) #[] #[.pointer (some ⟨n, 0, none⟩)]] w fun e w' => e = .returned (.tuple #[zeroLn.v, .int .i64 er]) ∧ Blk w' n 2 #[.int .i64 0] ∧ Below n w w') (w : World) :
    Calls Tryd.prog 35 #[l.v] w fun e w' => e = .returned (.tuple #[.int .i64 0, .int .i64 er]) ∧ Below w.heap.size w w' := by
  have hmf : ∀ (fn : Fn) (first cap : Array Value) (w : World), (Instr.makeFunc fn first cap).run Tryd.prog w = .ok (.func fn first cap) w := fun _ _ _ _ => rfl
  have z1 : (w.alloc (.cells l.cells 23)).heap.size = w.heap.size + 1 := by simp
  have b1 := Blk.new w 23 l.cells
  have b2 := Blk.new (w.alloc (.cells l.cells 23)) 2 #[.int .i64 0]
  rw [z1] at b2
  have a1 := (Below.refl w.heap.size w).alloc (Nat.le_refl _) (.cells l.cells 23)
  have a2 := (Below.refl _ (w.alloc (.cells l.cells 23))).alloc (Nat.le_refl _) (.cells #[.int .i64 0] 2)
  have HL := Lib.hid (b1.below a2)
  have HN := Lib.hid b2
  have HB := Lib.hid (a1.trans (a2.mono (by rw [z1]; omega)))
  have HD := Lib.hid (fun W (hN : Blk W (w.heap.size + 1) 2 #[.int .i64 0]) => hd (w.heap.size + 1) W hN)
  clear b1 b2 a1 a2 z1 hd
  go_enter Tryd.func35, Tryd.ntmps35
  go_upto_region 2 with fail
  generalize (w.alloc (.cells l.cells 23)).alloc (.cells #[.int .i64 0] 2) = w1 at *
  obtain ⟨n, hn⟩ : ∃ n, w.heap.size + 1 = n := ⟨_, rfl⟩
  rw [hn] at HD HN
  have HNL : Hid (w.heap.size ≤ n) := Lib.hid (by omega)
  have HNN := Lib.hid hn
  clear hn
  rw [HNN.out]
  have k0 : w1.cell? ⟨w.heap.size, 0, none⟩ = some (.int .i64 l.id) := HL.out.cell 0
  have k1 : w1.cell? ⟨w.heap.size, 1, none⟩ = some (.int .i64 l.principal) := HL.out.cell 1
  have k2 : w1.cell? ⟨w.heap.size, 2, none⟩ = some (.int .i64 l.interest) := HL.out.cell 2
  have k3 : w1.cell? ⟨w.heap.size, 3, none⟩ = some (.int .i64 l.subsidy) := HL.out.cell 3
  have k4 : w1.cell? ⟨w.heap.size, 4, none⟩ = some (.int .i64 l.fees) := HL.out.cell 4
  have k5 : w1.cell? ⟨w.heap.size, 5, none⟩ = some (.int .i64 l.ppm) := HL.out.cell 5
  have k6 : w1.cell? ⟨w.heap.size, 6, none⟩ = some (.bool l.sub) := HL.out.cell 6
  have k7 : w1.cell? ⟨w.heap.size, 7, none⟩ = some (.int .i64 l.status) := HL.out.cell 7
  have k8 : w1.cell? ⟨w.heap.size, 8, none⟩ = some (.int .i64 l.closed) := HL.out.cell 8
  have k9 : w1.cell? ⟨w.heap.size, 9, none⟩ = some (.int .i64 l.entered) := HL.out.cell 9
  have k10 : w1.cell? ⟨w.heap.size, 10, none⟩ = some (.int .i64 l.level) := HL.out.cell 10
  have k11 : w1.cell? ⟨w.heap.size, 11, none⟩ = some (.int .i64 l.far) := HL.out.cell 11
  have k12 : w1.cell? ⟨w.heap.size, 12, none⟩ = some (.int .i64 l.count) := HL.out.cell 12
  go_wp2_with fail
  refine (HD.out _ HN.out).mono ?_
  rintro e w2 ⟨rfl, hn2, hb2⟩
  have hal := (Below.refl w2.heap.size w2).alloc (Nat.le_refl _) (.cells zeroLn.cells 23)
  have HN2 := Lib.hid (hn2.below hal)
  have hB2 := HB.out.trans (hb2.mono HNL.out)
  have HB2 := Lib.hid (hB2.trans (hal.mono hB2.size))
  clear hn2 hb2 hal hB2 k0 k1 k2 k3 k4 k5 k6 k7 k8 k9 k10 k11 k12
  go_upto_region 3 with fail
  generalize w2.alloc (.cells zeroLn.cells 23) = w3 at *
  have c0 : w3.cell? ⟨n, 0, none⟩ = some (.int .i64 0) := HN2.out.cell 0
  go_wp2_with fail
  go_ret2
  exact ⟨rfl, HB2.out⟩
/-- What loan.Owes answers: the number and the error. -/
def lowesR (l : Ln) : Int × Int := if goodLn l then (match owesO l with | some s => (s, 0) | none => (0, 14)) else (0, 1)
theorem lowes_calls (l : Ln) (ho : OkLn l) (w : World) :
    Calls Tryd.prog 35 #[l.v] w fun e w' => e = .returned (.tuple #[.int .i64 (lowesR l).1, .int .i64 (lowesR l).2]) ∧ Below w.heap.size w w' := by
  unfold lowesR
  cases hg : goodLn l with
  | false => exact lowes_bad l 1 (fun n w hN => does_bad1 l hg n w hN) w
  | true =>
    cases hs : owesO l with
    | none => exact lowes_bad l 14 (fun n w hN => does_bad2 l ho hg hs n w hN) w
    | some s => exact lowes_ok l ho hg s hs w
end Go.Proofs.YtkifkjgkdfnhcaaDoor.Vw
