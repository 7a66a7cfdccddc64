/- event.Open. (Printed by gen24.py.) -/
import Derived.Test.YtadcpdpcpecooaaE22
import Derived.Test.YtadcpdpcpecooaaE20
namespace Go.Proofs.Ytadcpdpcpecooaa.Ev
open Go.RowKit Go.Proofs.Ytadcpdpcpecooaa.Pk Go.Proofs.Ytadcpdpcpecooaa.Re

/-- A whole command stored, cell by cell. -/
theorem set_command {w : World} {g : Nat} {z : C} (n : C) (h : Blk w g 27 z.cells) : Blk ((((((((((((((w.setCell ⟨g, 0, none⟩ (.bool n.undo)).setCell ⟨g, 1, none⟩ (.int .u32 n.key)).setCell ⟨g, 2, none⟩ (.int .i64 n.e.kind)).setCell ⟨g, 3, none⟩ (.int .i64 n.e.day)).setCell ⟨g, 4, none⟩ (.int .u32 n.e.key)).setCell ⟨g, 5, none⟩ (.int .i64 n.e.loan)).setCell ⟨g, 6, none⟩ (.int .i64 n.e.amount)).setCell ⟨g, 7, none⟩ (.float .f64 n.e.rate)).setCell ⟨g, 8, none⟩ (.float .f64 n.e.income)).setCell ⟨g, 9, none⟩ (.bool n.e.sub)).setCell ⟨g, 10, none⟩ (.int .i64 n.e.status)).setCell ⟨g, 11, none⟩ (.int .i64 n.e.plan)).setCell ⟨g, 12, none⟩ (.int .i64 n.e.family)).setCell ⟨g, 13, none⟩ (.int .u32 n.of)) g 27 n.cells := by
  have e : ((((((((((((((z.cells.setIfInBounds 0 (.bool n.undo)).setIfInBounds 1 (.int .u32 n.key)).setIfInBounds 2 (.int .i64 n.e.kind)).setIfInBounds 3 (.int .i64 n.e.day)).setIfInBounds 4 (.int .u32 n.e.key)).setIfInBounds 5 (.int .i64 n.e.loan)).setIfInBounds 6 (.int .i64 n.e.amount)).setIfInBounds 7 (.float .f64 n.e.rate)).setIfInBounds 8 (.float .f64 n.e.income)).setIfInBounds 9 (.bool n.e.sub)).setIfInBounds 10 (.int .i64 n.e.status)).setIfInBounds 11 (.int .i64 n.e.plan)).setIfInBounds 12 (.int .i64 n.e.family)).setIfInBounds 13 (.int .u32 n.of)) = n.cells := by kernel_rfl
  rw [← e]
  exact ((((((((((((((h.set_ 0 (.bool n.undo)).set_ 1 (.int .u32 n.key)).set_ 2 (.int .i64 n.e.kind)).set_ 3 (.int .i64 n.e.day)).set_ 4 (.int .u32 n.e.key)).set_ 5 (.int .i64 n.e.loan)).set_ 6 (.int .i64 n.e.amount)).set_ 7 (.float .f64 n.e.rate)).set_ 8 (.float .f64 n.e.income)).set_ 9 (.bool n.e.sub)).set_ 10 (.int .i64 n.e.status)).set_ 11 (.int .i64 n.e.plan)).set_ 12 (.int .i64 n.e.family)).set_ 13 (.int .u32 n.of))
theorem set_command_below {w0 w : World} {B g : Nat} (n : C) (hg : B ≤ g) (h : Below B w0 w) : Below B w0 ((((((((((((((w.setCell ⟨g, 0, none⟩ (.bool n.undo)).setCell ⟨g, 1, none⟩ (.int .u32 n.key)).setCell ⟨g, 2, none⟩ (.int .i64 n.e.kind)).setCell ⟨g, 3, none⟩ (.int .i64 n.e.day)).setCell ⟨g, 4, none⟩ (.int .u32 n.e.key)).setCell ⟨g, 5, none⟩ (.int .i64 n.e.loan)).setCell ⟨g, 6, none⟩ (.int .i64 n.e.amount)).setCell ⟨g, 7, none⟩ (.float .f64 n.e.rate)).setCell ⟨g, 8, none⟩ (.float .f64 n.e.income)).setCell ⟨g, 9, none⟩ (.bool n.e.sub)).setCell ⟨g, 10, none⟩ (.int .i64 n.e.status)).setCell ⟨g, 11, none⟩ (.int .i64 n.e.plan)).setCell ⟨g, 12, none⟩ (.int .i64 n.e.family)).setCell ⟨g, 13, none⟩ (.int .u32 n.of)) :=
  ((((((((((((((h.setCell (p := ⟨g, 0, none⟩) hg (.bool n.undo)).setCell (p := ⟨g, 1, none⟩) hg (.int .u32 n.key)).setCell (p := ⟨g, 2, none⟩) hg (.int .i64 n.e.kind)).setCell (p := ⟨g, 3, none⟩) hg (.int .i64 n.e.day)).setCell (p := ⟨g, 4, none⟩) hg (.int .u32 n.e.key)).setCell (p := ⟨g, 5, none⟩) hg (.int .i64 n.e.loan)).setCell (p := ⟨g, 6, none⟩) hg (.int .i64 n.e.amount)).setCell (p := ⟨g, 7, none⟩) hg (.float .f64 n.e.rate)).setCell (p := ⟨g, 8, none⟩) hg (.float .f64 n.e.income)).setCell (p := ⟨g, 9, none⟩) hg (.bool n.e.sub)).setCell (p := ⟨g, 10, none⟩) hg (.int .i64 n.e.status)).setCell (p := ⟨g, 11, none⟩) hg (.int .i64 n.e.plan)).setCell (p := ⟨g, 12, none⟩) hg (.int .i64 n.e.family)).setCell (p := ⟨g, 13, none⟩) hg (.int .u32 n.of))
/-- An event stored in a command. -/
theorem set_inner {w : World} {g : Nat} {z : C} (n : E) (h : Blk w g 27 z.cells) : Blk (((((((((((w.setCell ⟨g, 2, none⟩ (.int .i64 n.kind)).setCell ⟨g, 3, none⟩ (.int .i64 n.day)).setCell ⟨g, 4, none⟩ (.int .u32 n.key)).setCell ⟨g, 5, none⟩ (.int .i64 n.loan)).setCell ⟨g, 6, none⟩ (.int .i64 n.amount)).setCell ⟨g, 7, none⟩ (.float .f64 n.rate)).setCell ⟨g, 8, none⟩ (.float .f64 n.income)).setCell ⟨g, 9, none⟩ (.bool n.sub)).setCell ⟨g, 10, none⟩ (.int .i64 n.status)).setCell ⟨g, 11, none⟩ (.int .i64 n.plan)).setCell ⟨g, 12, none⟩ (.int .i64 n.family)) g 27 (⟨z.undo, z.key, n, z.of⟩ : C).cells := by
  have e : (((((((((((z.cells.setIfInBounds 2 (.int .i64 n.kind)).setIfInBounds 3 (.int .i64 n.day)).setIfInBounds 4 (.int .u32 n.key)).setIfInBounds 5 (.int .i64 n.loan)).setIfInBounds 6 (.int .i64 n.amount)).setIfInBounds 7 (.float .f64 n.rate)).setIfInBounds 8 (.float .f64 n.income)).setIfInBounds 9 (.bool n.sub)).setIfInBounds 10 (.int .i64 n.status)).setIfInBounds 11 (.int .i64 n.plan)).setIfInBounds 12 (.int .i64 n.family)) = (⟨z.undo, z.key, n, z.of⟩ : C).cells := by kernel_rfl
  rw [← e]
  exact (((((((((((h.set_ 2 (.int .i64 n.kind)).set_ 3 (.int .i64 n.day)).set_ 4 (.int .u32 n.key)).set_ 5 (.int .i64 n.loan)).set_ 6 (.int .i64 n.amount)).set_ 7 (.float .f64 n.rate)).set_ 8 (.float .f64 n.income)).set_ 9 (.bool n.sub)).set_ 10 (.int .i64 n.status)).set_ 11 (.int .i64 n.plan)).set_ 12 (.int .i64 n.family))
theorem set_inner_below {w0 w : World} {B g : Nat} (n : E) (hg : B ≤ g) (h : Below B w0 w) : Below B w0 (((((((((((w.setCell ⟨g, 2, none⟩ (.int .i64 n.kind)).setCell ⟨g, 3, none⟩ (.int .i64 n.day)).setCell ⟨g, 4, none⟩ (.int .u32 n.key)).setCell ⟨g, 5, none⟩ (.int .i64 n.loan)).setCell ⟨g, 6, none⟩ (.int .i64 n.amount)).setCell ⟨g, 7, none⟩ (.float .f64 n.rate)).setCell ⟨g, 8, none⟩ (.float .f64 n.income)).setCell ⟨g, 9, none⟩ (.bool n.sub)).setCell ⟨g, 10, none⟩ (.int .i64 n.status)).setCell ⟨g, 11, none⟩ (.int .i64 n.plan)).setCell ⟨g, 12, none⟩ (.int .i64 n.family)) :=
  (((((((((((h.setCell (p := ⟨g, 2, none⟩) hg (.int .i64 n.kind)).setCell (p := ⟨g, 3, none⟩) hg (.int .i64 n.day)).setCell (p := ⟨g, 4, none⟩) hg (.int .u32 n.key)).setCell (p := ⟨g, 5, none⟩) hg (.int .i64 n.loan)).setCell (p := ⟨g, 6, none⟩) hg (.int .i64 n.amount)).setCell (p := ⟨g, 7, none⟩) hg (.float .f64 n.rate)).setCell (p := ⟨g, 8, none⟩) hg (.float .f64 n.income)).setCell (p := ⟨g, 9, none⟩) hg (.bool n.sub)).setCell (p := ⟨g, 10, none⟩) hg (.int .i64 n.status)).setCell (p := ⟨g, 11, none⟩) hg (.int .i64 n.plan)).setCell (p := ⟨g, 12, none⟩) hg (.int .i64 n.family))
theorem set_inner_blk {w : World} {g g2 : Nat} {t : TypeId} {cs : Array Value} (n : E) (h : Blk w g2 t cs) (hne : g2 ≠ g) : Blk (((((((((((w.setCell ⟨g, 2, none⟩ (.int .i64 n.kind)).setCell ⟨g, 3, none⟩ (.int .i64 n.day)).setCell ⟨g, 4, none⟩ (.int .u32 n.key)).setCell ⟨g, 5, none⟩ (.int .i64 n.loan)).setCell ⟨g, 6, none⟩ (.int .i64 n.amount)).setCell ⟨g, 7, none⟩ (.float .f64 n.rate)).setCell ⟨g, 8, none⟩ (.float .f64 n.income)).setCell ⟨g, 9, none⟩ (.bool n.sub)).setCell ⟨g, 10, none⟩ (.int .i64 n.status)).setCell ⟨g, 11, none⟩ (.int .i64 n.plan)).setCell ⟨g, 12, none⟩ (.int .i64 n.family)) g2 t cs :=
  (blk_other (blk_other (blk_other (blk_other (blk_other (blk_other (blk_other (blk_other (blk_other (blk_other (blk_other h hne 2 (.int .i64 n.kind)) hne 3 (.int .i64 n.day)) hne 4 (.int .u32 n.key)) hne 5 (.int .i64 n.loan)) hne 6 (.int .i64 n.amount)) hne 7 (.float .f64 n.rate)) hne 8 (.float .f64 n.income)) hne 9 (.bool n.sub)) hne 10 (.int .i64 n.status)) hne 11 (.int .i64 n.plan)) hne 12 (.int .i64 n.family))
theorem set_inner_op {w : World} {base g g2 : Nat} {st : Option ByteArray} (n : E) (h : OpSt 92 w base g2 st) (hne : g2 ≠ g) : OpSt 92 (((((((((((w.setCell ⟨g, 2, none⟩ (.int .i64 n.kind)).setCell ⟨g, 3, none⟩ (.int .i64 n.day)).setCell ⟨g, 4, none⟩ (.int .u32 n.key)).setCell ⟨g, 5, none⟩ (.int .i64 n.loan)).setCell ⟨g, 6, none⟩ (.int .i64 n.amount)).setCell ⟨g, 7, none⟩ (.float .f64 n.rate)).setCell ⟨g, 8, none⟩ (.float .f64 n.income)).setCell ⟨g, 9, none⟩ (.bool n.sub)).setCell ⟨g, 10, none⟩ (.int .i64 n.status)).setCell ⟨g, 11, none⟩ (.int .i64 n.plan)).setCell ⟨g, 12, none⟩ (.int .i64 n.family)) base g2 st :=
  (op_set (i := 12) (u := (.int .i64 n.family)) (op_set (i := 11) (u := (.int .i64 n.plan)) (op_set (i := 10) (u := (.int .i64 n.status)) (op_set (i := 9) (u := (.bool n.sub)) (op_set (i := 8) (u := (.float .f64 n.income)) (op_set (i := 7) (u := (.float .f64 n.rate)) (op_set (i := 6) (u := (.int .i64 n.amount)) (op_set (i := 5) (u := (.int .i64 n.loan)) (op_set (i := 4) (u := (.int .u32 n.key)) (op_set (i := 3) (u := (.int .i64 n.day)) (op_set (i := 2) (u := (.int .i64 n.kind)) h hne) hne) hne) hne) hne) hne) hne) hne) hne) hne) hne)
theorem fro_below {w w1 : World} {base g : Nat} {W0 : World} {B : Nat} (h : FrO w w1 base g) (hB : B ≤ base) (h0 : Below B W0 w) : Below B W0 w1 := h0.trans (h.below.mono hB)
section
variable (base g : Nat) (b : ByteArray) (w : World)
theorem num0_calls (hp : OpSt 92 w base g (some b)) (hbase : base ≤ w.heap.size) : Calls Try.prog 47 #[.pointer (some ⟨g, 0, none⟩), .int .i64 1] w fun e w' => e = .returned (.int .u64 (o0 b)) ∧ OpSt 92 w' base g (st1 b) ∧ FrO w w' base g :=
  ONum_calls base g (some b) 1 w hp hbase
theorem num1_calls (hp : OpSt 92 w base g (st1 b)) (hbase : base ≤ w.heap.size) : Calls Try.prog 47 #[.pointer (some ⟨g, 0, none⟩), .int .i64 4] w fun e w' => e = .returned (.int .u64 (o1 b)) ∧ OpSt 92 w' base g (st2 b) ∧ FrO w w' base g :=
  ONum_calls base g (st1 b) 4 w hp hbase
theorem num2_calls (hp : OpSt 92 w base g (st2 b)) (hbase : base ≤ w.heap.size) : Calls Try.prog 47 #[.pointer (some ⟨g, 0, none⟩), .int .i64 4] w fun e w' => e = .returned (.int .u64 (o2 b)) ∧ OpSt 92 w' base g (numR (st2 b) 4).2 ∧ FrO w w' base g :=
  ONum_calls base g (st2 b) 4 w hp hbase
end
set_option maxRecDepth 20000 in
set_option maxHeartbeats 8000000 in
theorem open_calls (b : ByteArray) (w : World) (hb : b.size ≤ 9223372036854775807) : Calls Try.prog 20 #[.string b] w fun r w' => r = .returned (.tuple #[(openC b).v, .int .i64 (openX b)]) ∧ Below w.heap.size w w' := by
  have hst := fun (a : Addr) (n : Nat) (W : World) => run_store Try.prog W a (.float .f64 n) .plain rfl
  have HR0 := Lib.hid (Blk.new w 27 zeroC.cells)
  have HB0 := Lib.hid ((Below.refl w.heap.size w).alloc (Nat.le_refl _) (.cells zeroC.cells 27))
  have HOC := opC_ok b
  have HF := Lib.hid (fun W => fine_calls (opC b) W HOC.e.rate HOC.e.income)
  have r1 := o1_range b
  have r2 := o2_range b
  have r0 := Lib.hid (o0_range b)
  unfold openC openX openB
  obtain ⟨d, hd⟩ : ∃ x, doneB (opS b) = x := ⟨_, rfl⟩
  obtain ⟨p, hp⟩ : ∃ x, decide (1 < o0 b) = x := ⟨_, rfl⟩
  obtain ⟨f, hf⟩ : ∃ x, fineC (opC b) = x := ⟨_, rfl⟩
  obtain ⟨q, hq⟩ : ∃ x, (o0 b == 1) = x := ⟨_, rfl⟩
  rw [hf] at HF
  rw [hd, hp, hf]
  have HD := Lib.hid hd
  have HP := Lib.hid hp
  have HQ := Lib.hid hq
  clear HOC hd hp hf hq
  go_enter Try.func20, Try.ntmps20
  go_upto_region 1 with fail
  generalize w.alloc (.cells zeroC.cells 27) = W1 at *
  go_wp2_with fail
  refine (Open_calls b W1 hb).mono ?_
  rintro r W2 ⟨g, rfl, hop, b2⟩
  have HOp2 := Lib.hid hop
  have HR2 := Lib.hid (HR0.out.below b2)
  have HB2 := Lib.hid (HB0.out.trans (b2.mono HB0.out.size))
  have HG : Hid (W1.heap.size ≤ g) := Lib.hid (by cases hop.1.ge with | refl => exact Nat.le_refl _ | step h => exact Nat.le_succ_of_le h)
  have HS2 : Hid (W1.heap.size ≤ W2.heap.size) := Lib.hid b2.size
  have HS0 : Hid (w.heap.size ≤ W1.heap.size) := Lib.hid HB0.out.size
  have HLt : Hid (w.heap.size < W1.heap.size) := Lib.hid HR0.out.lt
  have HNe : Hid (w.heap.size ≠ g) := Lib.hid (by have := HG.out; have := HLt.out; omega)
  clear b2 hop
  go_wp2_with fail
  refine (num0_calls W1.heap.size g b W2 HOp2.out HS2.out).mono ?_
  rintro r W3 ⟨rfl, hop, hfr⟩
  have HOp3 := Lib.hid hop
  have HR3 := Lib.hid (fro_blk hfr HR2.out HNe.out)
  have HB3 := Lib.hid (fro_below hfr HS0.out HB2.out)
  have HS3 := Lib.hid (Nat.le_trans HS2.out hfr.below.size)
  clear hop hfr
  go_wp2_with fail
  refine (num1_calls W1.heap.size g b W3 HOp3.out HS3.out).mono ?_
  rintro r W4 ⟨rfl, hop, hfr⟩
  have HOp4 := Lib.hid hop
  have HR4 := Lib.hid (fro_blk hfr HR3.out HNe.out)
  have HB4 := Lib.hid (fro_below hfr HS0.out HB3.out)
  have HS4 := Lib.hid (Nat.le_trans HS3.out hfr.below.size)
  clear hop hfr
  go_upto_region 4 with fail
  have HC5 := Lib.hid (Blk.new W4 27 (⟨o0 b == 1, o1 b, zeroE, 0⟩ : C).cells)
  have hal := (Below.refl W4.heap.size W4).alloc (Nat.le_refl _) (.cells (⟨o0 b == 1, o1 b, zeroE, 0⟩ : C).cells 27)
  have HOp5 := Lib.hid (op_alloc HOp4.out hal)
  have HR5 := Lib.hid (HR4.out.below hal)
  have HB5 := Lib.hid (HB4.out.trans (hal.mono HB4.out.size))
  have HS5 := Lib.hid (Nat.le_trans HS4.out hal.size)
  have HGc : Hid (W4.heap.size ≠ g) := Lib.hid (by have := op_lt HOp4.out; omega)
  have HGr : Hid (w.heap.size ≠ W4.heap.size) := Lib.hid (by have := HR4.out.lt; omega)
  have HGw : Hid (w.heap.size ≤ W4.heap.size) := Lib.hid (Nat.le_trans HS0.out HS4.out)
  have HGb : Hid (W1.heap.size ≤ W4.heap.size) := HS4
  clear hal
  generalize W4.alloc (.cells (⟨o0 b == 1, o1 b, zeroE, 0⟩ : C).cells 27) = W5 at *
  generalize W4.heap.size = gc at *
  rw [HQ.out] at HC5
  obtain ⟨k0, k1, k2, k3, k4, k5, k6, k7, k8, k9, k10, k11, k12, k13⟩ := cx_of HC5.out
  cases q with
  | true =>
    have HCe : Hid ((⟨true, o1 b, zeroE, o2 b⟩ : C) = opC b) := Lib.hid (by unfold opC; rw [if_pos HQ.out])
    have HSe : Hid ((numR (st2 b) 4).2 = opS b) := Lib.hid (by unfold opS; rw [if_pos HQ.out])
    go_wp2_with fail
    refine (num2_calls W1.heap.size g b W5 HOp5.out HS5.out).mono ?_
    rintro r W6 ⟨rfl, hop, hfr⟩
    have HOp6 := Lib.hid hop
    have HR6 := Lib.hid (fro_blk hfr HR5.out HNe.out)
    have HC6 := Lib.hid (fro_blk hfr HC5.out HGc.out)
    have HB6 := Lib.hid (fro_below hfr HS0.out HB5.out)
    clear hop hfr k0 k1 k2 k3 k4 k5 k6 k7 k8 k9 k10 k11 k12 k13
    obtain ⟨k0, k1, k2, k3, k4, k5, k6, k7, k8, k9, k10, k11, k12, k13⟩ := cx_of HC6.out
    have f13 := HC6.out.frozen 13
    go_upto_region 7 with fail
    have HC7 : Hid (Blk (W6.setCell ⟨gc, 13, none⟩ (.int .u32 (o2 b))) gc 27 (opC b).cells) := Lib.hid (by rw [← HCe.out]; exact HC6.out.set_ 13 (.int .u32 (o2 b)))
    have HR7 := Lib.hid (blk_other HR6.out HGr.out 13 (.int .u32 (o2 b)))
    have HB7 := Lib.hid (HB6.out.setCell (p := ⟨gc, 13, none⟩) HGw.out (.int .u32 (o2 b)))
    have HOp7 := Lib.hid (op_set (i := 13) (u := .int .u32 (o2 b)) HOp6.out HGc.out.symm)
    rw [HSe.out] at HOp7
    clear k0 k1 k2 k3 k4 k5 k6 k7 k8 k9 k10 k11 k12 k13 f13
    generalize W6.setCell ⟨gc, 13, none⟩ (.int .u32 (o2 b)) = W7 at *
    go_wp2_with fail
    refine (ODone_calls _ g _ W7 HOp7.out).mono ?_
    rintro r W8 ⟨rfl, hw8⟩
    subst hw8
    rw [HD.out]
    cases d with
    | false =>
      obtain ⟨j0, j1, j2, j3, j4, j5, j6, j7, j8, j9, j10, j11, j12, j13⟩ := cx_of HR7.out
      have f0 := HR7.out.frozen 0
      have f1 := HR7.out.frozen 1
      have f2 := HR7.out.frozen 2
      have f3 := HR7.out.frozen 3
      have f4 := HR7.out.frozen 4
      have f5 := HR7.out.frozen 5
      have f6 := HR7.out.frozen 6
      have f7 := HR7.out.frozen 7
      have f8 := HR7.out.frozen 8
      have f9 := HR7.out.frozen 9
      have f10 := HR7.out.frozen 10
      have f11 := HR7.out.frozen 11
      have f12 := HR7.out.frozen 12
      have f13 := HR7.out.frozen 13
      go_wp2_with fail
      have S := set_command zeroC HR7.out
      have SB := set_command_below zeroC (Nat.le_refl w.heap.size) HB7.out
      (try simp only [Exit.inBlock, Exit.then])
      refine bodyPost_ret (results_cell_row2 (p := 2) (u := 3) (ty := 27) rfl _ _ w.heap.size 27 _ _ _ rfl S Try.underlying27 rfl (by kernel_rfl)) rfl ?_
      exact ⟨rfl, SB⟩
    | true =>
      cases p with
      | true =>
        have hp : 1 < o0 b := of_decide_eq_true HP.out
        obtain ⟨j0, j1, j2, j3, j4, j5, j6, j7, j8, j9, j10, j11, j12, j13⟩ := cx_of HR7.out
        have f0 := HR7.out.frozen 0
        have f1 := HR7.out.frozen 1
        have f2 := HR7.out.frozen 2
        have f3 := HR7.out.frozen 3
        have f4 := HR7.out.frozen 4
        have f5 := HR7.out.frozen 5
        have f6 := HR7.out.frozen 6
        have f7 := HR7.out.frozen 7
        have f8 := HR7.out.frozen 8
        have f9 := HR7.out.frozen 9
        have f10 := HR7.out.frozen 10
        have f11 := HR7.out.frozen 11
        have f12 := HR7.out.frozen 12
        have f13 := HR7.out.frozen 13
        go_wp2_with fail
        have S := set_command zeroC HR7.out
        have SB := set_command_below zeroC (Nat.le_refl w.heap.size) HB7.out
        (try simp only [Exit.inBlock, Exit.then])
        refine bodyPost_ret (results_cell_row2 (p := 2) (u := 3) (ty := 27) rfl _ _ w.heap.size 27 _ _ _ rfl S Try.underlying27 rfl (by kernel_rfl)) rfl ?_
        exact ⟨rfl, SB⟩
      | false =>
        have hp : ¬ 1 < o0 b := of_decide_eq_false HP.out
        obtain ⟨k0, k1, k2, k3, k4, k5, k6, k7, k8, k9, k10, k11, k12, k13⟩ := cx_of HC7.out
        go_wp2_with fail
        refine (HF.out _).mono ?_
        rintro r W9 ⟨rfl, b9⟩
        have HR9 := Lib.hid (HR7.out.below b9)
        have HC9 := Lib.hid (HC7.out.below b9)
        have HB9 := Lib.hid (HB7.out.trans (b9.mono HB7.out.size))
        clear b9 k0 k1 k2 k3 k4 k5 k6 k7 k8 k9 k10 k11 k12 k13
        cases f with
        | false =>
          obtain ⟨j0, j1, j2, j3, j4, j5, j6, j7, j8, j9, j10, j11, j12, j13⟩ := cx_of HR9.out
          have f0 := HR9.out.frozen 0
          have f1 := HR9.out.frozen 1
          have f2 := HR9.out.frozen 2
          have f3 := HR9.out.frozen 3
          have f4 := HR9.out.frozen 4
          have f5 := HR9.out.frozen 5
          have f6 := HR9.out.frozen 6
          have f7 := HR9.out.frozen 7
          have f8 := HR9.out.frozen 8
          have f9 := HR9.out.frozen 9
          have f10 := HR9.out.frozen 10
          have f11 := HR9.out.frozen 11
          have f12 := HR9.out.frozen 12
          have f13 := HR9.out.frozen 13
          go_wp2_with fail
          have S := set_command zeroC HR9.out
          have SB := set_command_below zeroC (Nat.le_refl w.heap.size) HB9.out
          (try simp only [Exit.inBlock, Exit.then])
          refine bodyPost_ret (results_cell_row2 (p := 2) (u := 3) (ty := 27) rfl _ _ w.heap.size 27 _ _ _ rfl S Try.underlying27 rfl (by kernel_rfl)) rfl ?_
          exact ⟨rfl, SB⟩
        | true =>
          obtain ⟨k0, k1, k2, k3, k4, k5, k6, k7, k8, k9, k10, k11, k12, k13⟩ := cx_of HC9.out
          obtain ⟨j0, j1, j2, j3, j4, j5, j6, j7, j8, j9, j10, j11, j12, j13⟩ := cx_of HR9.out
          have f0 := HR9.out.frozen 0
          have f1 := HR9.out.frozen 1
          have f2 := HR9.out.frozen 2
          have f3 := HR9.out.frozen 3
          have f4 := HR9.out.frozen 4
          have f5 := HR9.out.frozen 5
          have f6 := HR9.out.frozen 6
          have f7 := HR9.out.frozen 7
          have f8 := HR9.out.frozen 8
          have f9 := HR9.out.frozen 9
          have f10 := HR9.out.frozen 10
          have f11 := HR9.out.frozen 11
          have f12 := HR9.out.frozen 12
          have f13 := HR9.out.frozen 13
          go_wp2_with fail
          have S := set_command (opC b) HR9.out
          have SB := set_command_below (opC b) (Nat.le_refl w.heap.size) HB9.out
          (try simp only [Exit.inBlock, Exit.then])
          refine bodyPost_ret (results_cell_row2 (p := 2) (u := 3) (ty := 27) rfl _ _ w.heap.size 27 _ _ _ rfl S Try.underlying27 rfl (by kernel_rfl)) rfl ?_
          exact ⟨rfl, SB⟩
  | false =>
    have HCe : Hid ((⟨false, o1 b, getE (st2 b), 0⟩ : C) = opC b) := Lib.hid (by unfold opC; rw [if_neg (by rw [HQ.out]; decide)])
    have HSe : Hid (gs (st2 b) 11 = opS b) := Lib.hid (by unfold opS; rw [if_neg (by rw [HQ.out]; decide)])
    go_wp2_with fail
    refine (get_calls W1.heap.size g (st2 b) W5 HOp5.out HS5.out).mono ?_
    rintro r W6 ⟨rfl, hop, hfr⟩
    have HOp6 := Lib.hid hop
    have HR6 := Lib.hid (fro_blk hfr HR5.out HNe.out)
    have HC6 := Lib.hid (fro_blk hfr HC5.out HGc.out)
    have HB6 := Lib.hid (fro_below hfr HS0.out HB5.out)
    clear hop hfr k0 k1 k2 k3 k4 k5 k6 k7 k8 k9 k10 k11 k12 k13
    generalize getE (st2 b) = E0 at *
    obtain ⟨k0, k1, k2, k3, k4, k5, k6, k7, k8, k9, k10, k11, k12, k13⟩ := cx_of HC6.out
    have f2 := HC6.out.frozen 2
    have f3 := HC6.out.frozen 3
    have f4 := HC6.out.frozen 4
    have f5 := HC6.out.frozen 5
    have f6 := HC6.out.frozen 6
    have f7 := HC6.out.frozen 7
    have f8 := HC6.out.frozen 8
    have f9 := HC6.out.frozen 9
    have f10 := HC6.out.frozen 10
    have f11 := HC6.out.frozen 11
    have f12 := HC6.out.frozen 12
    go_upto_region 7 with fail
    have HC7 := Lib.hid (set_inner E0 HC6.out)
    rw [show (⟨(⟨false, o1 b, zeroE, 0⟩ : C).undo, (⟨false, o1 b, zeroE, 0⟩ : C).key, E0, (⟨false, o1 b, zeroE, 0⟩ : C).of⟩ : C) = opC b from HCe.out] at HC7
    have HR7 := Lib.hid (set_inner_blk E0 HR6.out HGr.out)
    have HB7 := Lib.hid (set_inner_below E0 HGw.out HB6.out)
    have HOp7 := Lib.hid (set_inner_op E0 HOp6.out HGc.out.symm)
    rw [HSe.out] at HOp7
    clear k0 k1 k2 k3 k4 k5 k6 k7 k8 k9 k10 k11 k12 k13 f2 f3 f4 f5 f6 f7 f8 f9 f10 f11 f12
    generalize (((((((((((W6.setCell ⟨gc, 2, none⟩ (.int .i64 E0.kind)).setCell ⟨gc, 3, none⟩ (.int .i64 E0.day)).setCell ⟨gc, 4, none⟩ (.int .u32 E0.key)).setCell ⟨gc, 5, none⟩ (.int .i64 E0.loan)).setCell ⟨gc, 6, none⟩ (.int .i64 E0.amount)).setCell ⟨gc, 7, none⟩ (.float .f64 E0.rate)).setCell ⟨gc, 8, none⟩ (.float .f64 E0.income)).setCell ⟨gc, 9, none⟩ (.bool E0.sub)).setCell ⟨gc, 10, none⟩ (.int .i64 E0.status)).setCell ⟨gc, 11, none⟩ (.int .i64 E0.plan)).setCell ⟨gc, 12, none⟩ (.int .i64 E0.family)) = W7 at *
    go_wp2_with fail
    refine (ODone_calls _ g _ W7 HOp7.out).mono ?_
    rintro r W8 ⟨rfl, hw8⟩
    subst hw8
    rw [HD.out]
    cases d with
    | false =>
      obtain ⟨j0, j1, j2, j3, j4, j5, j6, j7, j8, j9, j10, j11, j12, j13⟩ := cx_of HR7.out
      have f0 := HR7.out.frozen 0
      have f1 := HR7.out.frozen 1
      have f2 := HR7.out.frozen 2
      have f3 := HR7.out.frozen 3
      have f4 := HR7.out.frozen 4
      have f5 := HR7.out.frozen 5
      have f6 := HR7.out.frozen 6
      have f7 := HR7.out.frozen 7
      have f8 := HR7.out.frozen 8
      have f9 := HR7.out.frozen 9
      have f10 := HR7.out.frozen 10
      have f11 := HR7.out.frozen 11
      have f12 := HR7.out.frozen 12
      have f13 := HR7.out.frozen 13
      go_wp2_with fail
      have S := set_command zeroC HR7.out
      have SB := set_command_below zeroC (Nat.le_refl w.heap.size) HB7.out
      (try simp only [Exit.inBlock, Exit.then])
      refine bodyPost_ret (results_cell_row2 (p := 2) (u := 3) (ty := 27) rfl _ _ w.heap.size 27 _ _ _ rfl S Try.underlying27 rfl (by kernel_rfl)) rfl ?_
      exact ⟨rfl, SB⟩
    | true =>
      cases p with
      | true =>
        have hp : 1 < o0 b := of_decide_eq_true HP.out
        obtain ⟨j0, j1, j2, j3, j4, j5, j6, j7, j8, j9, j10, j11, j12, j13⟩ := cx_of HR7.out
        have f0 := HR7.out.frozen 0
        have f1 := HR7.out.frozen 1
        have f2 := HR7.out.frozen 2
        have f3 := HR7.out.frozen 3
        have f4 := HR7.out.frozen 4
        have f5 := HR7.out.frozen 5
        have f6 := HR7.out.frozen 6
        have f7 := HR7.out.frozen 7
        have f8 := HR7.out.frozen 8
        have f9 := HR7.out.frozen 9
        have f10 := HR7.out.frozen 10
        have f11 := HR7.out.frozen 11
        have f12 := HR7.out.frozen 12
        have f13 := HR7.out.frozen 13
        go_wp2_with fail
        have S := set_command zeroC HR7.out
        have SB := set_command_below zeroC (Nat.le_refl w.heap.size) HB7.out
        (try simp only [Exit.inBlock, Exit.then])
        refine bodyPost_ret (results_cell_row2 (p := 2) (u := 3) (ty := 27) rfl _ _ w.heap.size 27 _ _ _ rfl S Try.underlying27 rfl (by kernel_rfl)) rfl ?_
        exact ⟨rfl, SB⟩
      | false =>
        have hp : ¬ 1 < o0 b := of_decide_eq_false HP.out
        obtain ⟨k0, k1, k2, k3, k4, k5, k6, k7, k8, k9, k10, k11, k12, k13⟩ := cx_of HC7.out
        go_wp2_with fail
        refine (HF.out _).mono ?_
        rintro r W9 ⟨rfl, b9⟩
        have HR9 := Lib.hid (HR7.out.below b9)
        have HC9 := Lib.hid (HC7.out.below b9)
        have HB9 := Lib.hid (HB7.out.trans (b9.mono HB7.out.size))
        clear b9 k0 k1 k2 k3 k4 k5 k6 k7 k8 k9 k10 k11 k12 k13
        cases f with
        | false =>
          obtain ⟨j0, j1, j2, j3, j4, j5, j6, j7, j8, j9, j10, j11, j12, j13⟩ := cx_of HR9.out
          have f0 := HR9.out.frozen 0
          have f1 := HR9.out.frozen 1
          have f2 := HR9.out.frozen 2
          have f3 := HR9.out.frozen 3
          have f4 := HR9.out.frozen 4
          have f5 := HR9.out.frozen 5
          have f6 := HR9.out.frozen 6
          have f7 := HR9.out.frozen 7
          have f8 := HR9.out.frozen 8
          have f9 := HR9.out.frozen 9
          have f10 := HR9.out.frozen 10
          have f11 := HR9.out.frozen 11
          have f12 := HR9.out.frozen 12
          have f13 := HR9.out.frozen 13
          go_wp2_with fail
          have S := set_command zeroC HR9.out
          have SB := set_command_below zeroC (Nat.le_refl w.heap.size) HB9.out
          (try simp only [Exit.inBlock, Exit.then])
          refine bodyPost_ret (results_cell_row2 (p := 2) (u := 3) (ty := 27) rfl _ _ w.heap.size 27 _ _ _ rfl S Try.underlying27 rfl (by kernel_rfl)) rfl ?_
          exact ⟨rfl, SB⟩
        | true =>
          obtain ⟨k0, k1, k2, k3, k4, k5, k6, k7, k8, k9, k10, k11, k12, k13⟩ := cx_of HC9.out
          obtain ⟨j0, j1, j2, j3, j4, j5, j6, j7, j8, j9, j10, j11, j12, j13⟩ := cx_of HR9.out
          have f0 := HR9.out.frozen 0
          have f1 := HR9.out.frozen 1
          have f2 := HR9.out.frozen 2
          have f3 := HR9.out.frozen 3
          have f4 := HR9.out.frozen 4
          have f5 := HR9.out.frozen 5
          have f6 := HR9.out.frozen 6
          have f7 := HR9.out.frozen 7
          have f8 := HR9.out.frozen 8
          have f9 := HR9.out.frozen 9
          have f10 := HR9.out.frozen 10
          have f11 := HR9.out.frozen 11
          have f12 := HR9.out.frozen 12
          have f13 := HR9.out.frozen 13
          go_wp2_with fail
          have S := set_command (opC b) HR9.out
          have SB := set_command_below (opC b) (Nat.le_refl w.heap.size) HB9.out
          (try simp only [Exit.inBlock, Exit.then])
          refine bodyPost_ret (results_cell_row2 (p := 2) (u := 3) (ty := 27) rfl _ _ w.heap.size 27 _ _ _ rfl S Try.underlying27 rfl (by kernel_rfl)) rfl ?_
          exact ⟨rfl, SB⟩
end Go.Proofs.Ytadcpdpcpecooaa.Ev
