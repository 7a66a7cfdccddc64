/- wakes of the laws over numbers with a point; the walk of RealTells. -/
import Derived.Test.YticgmjnilpmkpaaF4
namespace Go.Proofs.Yticgmjnilpmkpaa.Re
open Go.RowKit

set_option maxHeartbeats 2000000 in
theorem wakes_calls (w : World) : Calls Try.prog 12 #[] w fun e w' => e = .returned (.bool true) ∧ w' = w := by
  have H1 := Lib.hid (cents_1 w)
  have H2 := Lib.hid (nan_calls w)
  have H3 := Lib.hid (cents_nan w)
  have H4 := Lib.hid (ppm_2 w)
  have H5 := Lib.hid (copy_calls 13830554455654793216 w (by kernel_rfl))
  have H6 := Lib.hid (cents_neg0 w)
  have H7 := Lib.hid (dol_calls 5 w)
  rw [dol5] at H7
  have he : (FloatKind.f64.format.order 4587366580439587226 4587366580439587226 == some Ordering.eq) = true := by kernel_rfl
  go_enter Try.func12, Try.ntmps12
  go_wp2_with fail
  refine H1.out.mono ?_
  rintro e w1 ⟨rfl, rfl⟩
  go_wp2_with fail
  refine H2.out.mono ?_
  rintro e w2 ⟨rfl, rfl⟩
  go_wp2_with fail
  refine H3.out.mono ?_
  rintro e w3 ⟨rfl, rfl⟩
  go_wp2_with fail
  refine H4.out.mono ?_
  rintro e w4 ⟨rfl, rfl⟩
  go_wp2_with fail
  refine H5.out.mono ?_
  rintro e w5 ⟨rfl, rfl⟩
  go_wp2_with fail
  refine H6.out.mono ?_
  rintro e w6 ⟨rfl, rfl⟩
  go_wp2_with fail
  refine H7.out.mono ?_
  rintro e w7 ⟨rfl, rfl⟩
  go_wp2_with fail
  go_ret
  exact ⟨rfl, rfl⟩
theorem pw_below_drewN' {B : Nat} {w W : World} (h : Below B w W) : ∀ n, Below B w (W.drewN n)
  | 0 => h
  | n + 1 => by
    have := (pw_below_drewN' h n).drew
    exact this
set_option maxHeartbeats 4000000 in
theorem tells_walk (c p : Int) (x : Nat) (u : Int) (w : World) :
    Calls Try.prog 5 #[.agg #[.int .i64 c, .int .i64 p], .float .f64 x, .int .u64 u] w fun e w' => e = .returned (.bool true) ∧ Below w.heap.size w w' := by
  have hnew : (w.alloc (.cells #[.int .i64 c, .int .i64 p] 41)).heap[w.heap.size]? = some (.cells #[.int .i64 c, .int .i64 p] 41 (0, 0)) := heap_alloc_new w _
  have hba : Below w.heap.size w (w.alloc (.cells #[.int .i64 c, .int .i64 p] 41)) := (Below.refl _ _).alloc (Nat.le_refl _) _
  have HO := Lib.hid (fun W => of_calls u W)
  have HR := Lib.hid (fun W => rof_calls u W)
  have c0 : (w.alloc (.cells #[.int .i64 c, .int .i64 p] 41)).cell? ⟨w.heap.size, 0, none⟩ = some (.int .i64 c) := cell_of_row _ _ 0 _ _ _ hnew
  have c1 : (w.alloc (.cells #[.int .i64 c, .int .i64 p] 41)).cell? ⟨w.heap.size, 1, none⟩ = some (.int .i64 p) := cell_of_row _ _ 1 _ _ _ hnew
  have HB0 := Lib.hid hba
  have HD1 := Lib.hid (fun W => dol_calls c W)
  have HD2 := Lib.hid (fun W => rdol_calls c W)
  have HP1 := Lib.hid (fun W => pct_calls p W)
  have HP2 := Lib.hid (fun W => rpct_calls p W)
  have HB1 := Lib.hid (fun W => bits_calls x W)
  have HB2 := Lib.hid (fun W => rbits_calls x W)
  generalize dolN c = dN at *
  generalize pctN p = pN at *
  generalize bitsN x = bN at *
  generalize ofN u = oN at *
  generalize ofB u = oB at *
  have HF1 := Lib.hid (fun W => float_calls dN dN W)
  have HF2 := Lib.hid (fun W => float_calls pN pN W)
  have HF3 := Lib.hid (fun W => float_calls oN oN W)
  rw [show ((dN : Int) == (dN : Int)) = true by simp] at HF1
  rw [show ((pN : Int) == (pN : Int)) = true by simp] at HF2
  rw [show ((oN : Int) == (oN : Int)) = true by simp] at HF3
  have hbb : (oB == oB) = true := by simp
  have hnn : (bN == bN) = true := by simp
  clear hnew hba
  go_enter Try.func5, Try.ntmps5
  go_wp2_with fail
  go_quiet (fail)
  generalize hW : World.drewN _ _ = w1
  have HK1 : Hid (Below w.heap.size w w1) := Lib.hid (by rw [← hW]; exact pw_below_drewN' HB0.out _)
  clear hW c0 c1
  go_wp2_with fail
  refine (HO.out _).mono ?_
  rintro e w2 ⟨rfl, rfl⟩
  go_wp2_with fail
  refine (HR.out _).mono ?_
  rintro e w3 ⟨rfl, b3⟩
  have HK3 := Lib.hid (HK1.out.trans (b3.mono HK1.out.size))
  clear b3
  have hn4 : (w3.alloc (.cells #[.float .f64 0, .bool false] 46)).heap[w3.heap.size]? = some (.cells #[.float .f64 0, .bool false] 46 (0, 0)) := heap_alloc_new w3 _
  have z0 : (w3.alloc (.cells #[.float .f64 0, .bool false] 46)).cell? ⟨w3.heap.size, 0, none⟩ = some (.float .f64 0) := cell_of_row _ _ 0 _ _ _ hn4
  have z1 : (w3.alloc (.cells #[.float .f64 0, .bool false] 46)).cell? ⟨w3.heap.size, 1, none⟩ = some (.bool false) := cell_of_row _ _ 1 _ _ _ hn4
  have y0 : (w3.alloc (.cells #[.float .f64 0, .bool false] 46)).frozen? ⟨w3.heap.size, 0, none⟩ = false := frozen_of_row _ _ 0 _ _ hn4
  have y1 : (w3.alloc (.cells #[.float .f64 0, .bool false] 46)).frozen? ⟨w3.heap.size, 1, none⟩ = false := frozen_of_row _ _ 1 _ _ hn4
  have hst := fun (a : Addr) (n : Nat) (W : World) => run_store Try.prog W a (.float .f64 n) .plain rfl
  have hs4 : (((w3.alloc (.cells #[.float .f64 0, .bool false] 46)).setCell ⟨w3.heap.size, 0, none⟩ (.float .f64 oN)).setCell ⟨w3.heap.size, 1, none⟩ (.bool oB)).heap[w3.heap.size]? = some (.cells #[.float .f64 oN, .bool oB] 46 (0, 0)) :=
    heap_setCell_same _ _ 1 _ 46 _ (heap_setCell_same _ _ 0 _ 46 _ hn4)
  have k0 : (((w3.alloc (.cells #[.float .f64 0, .bool false] 46)).setCell ⟨w3.heap.size, 0, none⟩ (.float .f64 oN)).setCell ⟨w3.heap.size, 1, none⟩ (.bool oB)).cell? ⟨w3.heap.size, 0, none⟩ = some (.float .f64 oN) := cell_of_row _ _ 0 _ _ _ hs4
  have k1 : (((w3.alloc (.cells #[.float .f64 0, .bool false] 46)).setCell ⟨w3.heap.size, 0, none⟩ (.float .f64 oN)).setCell ⟨w3.heap.size, 1, none⟩ (.bool oB)).cell? ⟨w3.heap.size, 1, none⟩ = some (.bool oB) := cell_of_row _ _ 1 _ _ _ hs4
  have HK4 := Lib.hid (HK3.out.trans ((below_set2 ((Below.refl w3.heap.size w3).alloc (Nat.le_refl _) (.cells #[.float .f64 0, .bool false] 46)) (Nat.le_refl _) 0 1 (.float .f64 oN) (.bool oB)).mono HK3.out.size))
  have K0 := Lib.hid k0
  have K1 := Lib.hid k1
  clear hn4 hs4 k0 k1
  go_wp2_with fail
  clear z0 z1 y0 y1 hst
  have k0 := K0.out
  have k1 := K1.out
  generalize ((w3.alloc (.cells #[.float .f64 0, .bool false] 46)).setCell ⟨w3.heap.size, 0, none⟩ (.float .f64 oN)).setCell ⟨w3.heap.size, 1, none⟩ (.bool oB) = w4 at k0 k1 HK4 ⊢
  clear K0 K1
  refine (HD1.out _).mono ?_
  rintro e w5 ⟨rfl, rfl⟩
  go_wp2_with fail
  refine (HD2.out _).mono ?_
  rintro e w5 ⟨rfl, rfl⟩
  go_wp2_with fail
  refine (HF1.out _).mono ?_
  rintro e w5 ⟨rfl, rfl⟩
  go_wp2_with fail
  refine (HP1.out _).mono ?_
  rintro e w5 ⟨rfl, rfl⟩
  go_wp2_with fail
  refine (HP2.out _).mono ?_
  rintro e w5 ⟨rfl, rfl⟩
  go_wp2_with fail
  refine (HF2.out _).mono ?_
  rintro e w5 ⟨rfl, rfl⟩
  go_wp2_with fail
  refine (HB1.out _).mono ?_
  rintro e w5 ⟨rfl, rfl⟩
  go_wp2_with fail
  refine (HB2.out _).mono ?_
  rintro e w5 ⟨rfl, rfl⟩
  go_wp2_with fail
  refine (HF3.out _).mono ?_
  rintro e w5 ⟨rfl, rfl⟩
  go_wp2_with fail
  refine (wakes_calls _).mono ?_
  rintro e w6 ⟨rfl, rfl⟩
  go_wp2_with fail
  go_ret
  exact ⟨rfl, HK3.out.trans (((Below.refl w3.heap.size w3).alloc (Nat.le_refl _) _).mono HK3.out.size)⟩
end Go.Proofs.Yticgmjnilpmkpaa.Re
