/- event.get. -/
import Derived.Test.YtadcpdpcpecooaaE5
namespace Go.Proofs.Ytadcpdpcpecooaa.Ev
open Go.RowKit Go.Proofs.Ytadcpdpcpecooaa.Pk Go.Proofs.Ytadcpdpcpecooaa.Re

/-- The opener behind each number. -/
def gs (st : Option ByteArray) : Nat → Option ByteArray
  | 0 => st
  | k + 1 => (numR (gs st k) ([1, 4, 4, 2, 8, 8, 8, 1, 1, 1, 1].getD k 1)).2
/-- The numbers. -/
def gv (st : Option ByteArray) (k : Nat) : Int := (numR (gs st k) ([1, 4, 4, 2, 8, 8, 8, 1, 1, 1, 1].getD k 1)).1
theorem num_range (st : Option ByteArray) (n : Nat) (_hn : n = 1 ∨ n = 2 ∨ n = 4 ∨ n = 8) : 0 ≤ (numR st (n : Int)).1 ∧ (numR st (n : Int)).1 < 256 ^ n := by
  have hp : (0 : Int) < 256 ^ n := Int.pow_pos (by decide)
  unfold numR
  cases st with
  | none => exact ⟨Int.le_refl _, hp⟩
  | some s =>
    simp only
    split
    · rename_i h
      have h1 := valOf_range (ints (s.extract 0 n)) (ints_range _)
      have h2 : (ints (s.extract 0 n)).length = n := by
        rw [ints_length]
        simp [ByteArray.size_extract]
        omega
      rw [h2] at h1
      simpa using h1
    · exact ⟨Int.le_refl _, hp⟩
theorem gv_range (st : Option ByteArray) : (0 ≤ gv st 0 ∧ gv st 0 < 256) ∧ (0 ≤ gv st 1 ∧ gv st 1 < 4294967296) ∧ (0 ≤ gv st 2 ∧ gv st 2 < 4294967296) ∧ (0 ≤ gv st 3 ∧ gv st 3 < 65536) ∧ (0 ≤ gv st 4 ∧ gv st 4 < 18446744073709551616) ∧
    (0 ≤ gv st 5 ∧ gv st 5 < 18446744073709551616) ∧ (0 ≤ gv st 6 ∧ gv st 6 < 18446744073709551616) ∧ (0 ≤ gv st 7 ∧ gv st 7 < 256) ∧ (0 ≤ gv st 8 ∧ gv st 8 < 256) ∧ (0 ≤ gv st 9 ∧ gv st 9 < 256) ∧ (0 ≤ gv st 10 ∧ gv st 10 < 256) := by
  refine ⟨num_range (gs st 0) 1 (by decide), num_range (gs st 1) 4 (by decide), num_range (gs st 2) 4 (by decide), num_range (gs st 3) 2 (by decide), num_range (gs st 4) 8 (by decide), num_range (gs st 5) 8 (by decide), num_range (gs st 6) 8 (by decide), num_range (gs st 7) 1 (by decide), num_range (gs st 8) 1 (by decide), num_range (gs st 9) 1 (by decide), num_range (gs st 10) 1 (by decide)⟩
/-- The event of an opener's numbers. -/
def getE (st : Option ByteArray) : E := ⟨if 1 < gv st 7 then 0 else gv st 0, gv st 1, gv st 2, gv st 3, wrap64 (gv st 4), (gv st 5).toNat, (gv st 6).toNat, gv st 7 == 1, gv st 8, gv st 9, gv st 10⟩
theorem step_calls (base g : Nat) (st : Option ByteArray) (k n : Nat) (hn : [1, 4, 4, 2, 8, 8, 8, 1, 1, 1, 1].getD k 1 = (n : Int)) (w : World) (hp : OpSt 92 w base g (gs st k)) (hbase : base ≤ w.heap.size) :
    Calls Try.prog 47 #[.pointer (some ⟨g, 0, none⟩), .int .i64 (n : Int)] w fun e w' => e = .returned (.int .u64 (gv st k)) ∧ OpSt 92 w' base g (gs st (k + 1)) ∧ FrO w w' base g := by
  have := ONum_calls base g (gs st k) (n : Int) w hp hbase
  rw [← hn] at this ⊢
  exact this
/-- What is kept beside an opener. -/
theorem fro_blk {w w1 : World} {base g b : Nat} {t : TypeId} {cs : Array Value} (hF : FrO w w1 base g) (hb : Blk w b t cs) (hg : b ≠ g) : Blk w1 b t cs :=
  hb.same (hF.same b hb.lt hg (by simp [Value.ownBlock]))
theorem op_alloc {w w1 : World} {base g : Nat} {st : Option ByteArray} (h : OpSt 92 w base g st) (hb : Below w.heap.size w w1) : OpSt 92 w1 base g st := by
  cases st with
  | some s => exact ⟨⟨h.1.blk.below hb, h.1.ge⟩, h.2⟩
  | none => obtain ⟨s, hs⟩ := h; exact ⟨s, hs.blk.below hb, hs.ge⟩
theorem op_set {w : World} {base g b i : Nat} {u : Value} {st : Option ByteArray} (h : OpSt 92 w base g st) (hne : g ≠ b) : OpSt 92 (w.setCell ⟨b, i, none⟩ u) base g st := by
  cases st with
  | some s => exact ⟨⟨blk_other h.1.blk hne i u, h.1.ge⟩, h.2⟩
  | none => obtain ⟨s, hs⟩ := h; exact ⟨s, blk_other hs.blk hne i u, hs.ge⟩
theorem op_lt {w : World} {base g : Nat} {st : Option ByteArray} (h : OpSt 92 w base g st) : g < w.heap.size := by
  cases st with
  | some s => exact h.1.blk.lt
  | none => obtain ⟨s, hs⟩ := h; exact hs.blk.lt
theorem fro_set {w w1 : World} {base g b i : Nat} {u : Value} (h : FrO w w1 base g) (hb : w.heap.size ≤ b) (hbase : base ≤ w.heap.size) : FrO w (w1.setCell ⟨b, i, none⟩ u) base g :=
  ⟨h.below.setCell (show base ≤ b by omega) u, fun k hk hg hv => (Below.heap_setCell _ _ _ _ (show k ≠ b by omega)).trans (h.same k hk hg hv), .inl rfl⟩
theorem op_event {w : World} {base g b : Nat} {st : Option ByteArray} (n : E) (h : OpSt 92 w base g st) (hne : g ≠ b) : OpSt 92 (((((((((((w.setCell ⟨b, 0, none⟩ (.int .i64 n.kind)).setCell ⟨b, 1, none⟩ (.int .i64 n.day)).setCell ⟨b, 2, none⟩ (.int .u32 n.key)).setCell ⟨b, 3, none⟩ (.int .i64 n.loan)).setCell ⟨b, 4, none⟩ (.int .i64 n.amount)).setCell ⟨b, 5, none⟩ (.float .f64 n.rate)).setCell ⟨b, 6, none⟩ (.float .f64 n.income)).setCell ⟨b, 7, none⟩ (.bool n.sub)).setCell ⟨b, 8, none⟩ (.int .i64 n.status)).setCell ⟨b, 9, none⟩ (.int .i64 n.plan)).setCell ⟨b, 10, none⟩ (.int .i64 n.family)) base g st :=
  (op_set (i := 10) (u := .int .i64 n.family) (op_set (i := 9) (u := .int .i64 n.plan) (op_set (i := 8) (u := .int .i64 n.status) (op_set (i := 7) (u := .bool n.sub) (op_set (i := 6) (u := .float .f64 n.income) (op_set (i := 5) (u := .float .f64 n.rate) (op_set (i := 4) (u := .int .i64 n.amount) (op_set (i := 3) (u := .int .i64 n.loan) (op_set (i := 2) (u := .int .u32 n.key) (op_set (i := 1) (u := .int .i64 n.day) (op_set (i := 0) (u := .int .i64 n.kind) h hne) hne) hne) hne) hne) hne) hne) hne) hne) hne) hne)
theorem fro_event {w0 w : World} {base g b : Nat} (n : E) (h : FrO w0 w base g) (hb : w0.heap.size ≤ b) (hbase : base ≤ w0.heap.size) : FrO w0 (((((((((((w.setCell ⟨b, 0, none⟩ (.int .i64 n.kind)).setCell ⟨b, 1, none⟩ (.int .i64 n.day)).setCell ⟨b, 2, none⟩ (.int .u32 n.key)).setCell ⟨b, 3, none⟩ (.int .i64 n.loan)).setCell ⟨b, 4, none⟩ (.int .i64 n.amount)).setCell ⟨b, 5, none⟩ (.float .f64 n.rate)).setCell ⟨b, 6, none⟩ (.float .f64 n.income)).setCell ⟨b, 7, none⟩ (.bool n.sub)).setCell ⟨b, 8, none⟩ (.int .i64 n.status)).setCell ⟨b, 9, none⟩ (.int .i64 n.plan)).setCell ⟨b, 10, none⟩ (.int .i64 n.family)) base g :=
  (fro_set (i := 10) (u := .int .i64 n.family) (fro_set (i := 9) (u := .int .i64 n.plan) (fro_set (i := 8) (u := .int .i64 n.status) (fro_set (i := 7) (u := .bool n.sub) (fro_set (i := 6) (u := .float .f64 n.income) (fro_set (i := 5) (u := .float .f64 n.rate) (fro_set (i := 4) (u := .int .i64 n.amount) (fro_set (i := 3) (u := .int .i64 n.loan) (fro_set (i := 2) (u := .int .u32 n.key) (fro_set (i := 1) (u := .int .i64 n.day) (fro_set (i := 0) (u := .int .i64 n.kind) h hb hbase) hb hbase) hb hbase) hb hbase) hb hbase) hb hbase) hb hbase) hb hbase) hb hbase) hb hbase) hb hbase)
set_option maxRecDepth 20000 in
set_option maxHeartbeats 8000000 in
theorem get_calls (base g : Nat) (st : Option ByteArray) (w : World) (hp : OpSt 92 w base g st) (hbase : base ≤ w.heap.size) :
    Calls Try.prog 31 #[.pointer (some ⟨g, 0, none⟩)] w fun r w' => r = .returned (getE st).v ∧ OpSt 92 w' base g (gs st 11) ∧ FrO w w' base g := by
  have hst := fun (a : Addr) (n : Nat) (W : World) => run_store Try.prog W a (.float .f64 n) .plain rfl
  have h2 := frombits_run
  have hgl := op_lt hp
  have hb2 := Blk.new w 25 (⟨0, 0, 0, 0, 0, 0, 0, false, 0, 0, 0⟩ : E).cells
  have hbel := (Below.refl w.heap.size w).alloc (Nat.le_refl _) (.cells (⟨0, 0, 0, 0, 0, 0, 0, false, 0, 0, 0⟩ : E).cells 25)
  have HF0 := Lib.hid (Fr.of_below (v := .bool false) (g := g) hbel hbase)
  have HP0 : Hid (OpSt 92 _ base g (gs st 0)) := Lib.hid (op_alloc hp hbel)
  have HR0 := Lib.hid hb2
  have HSZ : Hid ((w.alloc (.cells (⟨0, 0, 0, 0, 0, 0, 0, false, 0, 0, 0⟩ : E).cells 25)).heap.size = w.heap.size + 1) := Lib.hid (by simp)
  have HBase := Lib.hid hbase
  obtain ⟨r0, r1, r2, r3, r4, r5, r6, r7, r8, r9, r10⟩ := gv_range st
  clear hp hb2 hbel
  go_enter Try.func31, Try.ntmps31
  go_upto_region 1 with fail
  generalize w.alloc (.cells (⟨0, 0, 0, 0, 0, 0, 0, false, 0, 0, 0⟩ : E).cells 25) = w0 at *
  have HS0 : Hid (base ≤ w0.heap.size) := Lib.hid (by rw [HSZ.out]; omega)
  have hne2 : w.heap.size ≠ g := by omega

  go_wp2_with fail
  refine (step_calls base g st 0 1 rfl w0 HP0.out HS0.out).mono ?_
  rintro r v1 ⟨rfl, hp, hfr⟩
  have HP1a := Lib.hid hp
  have HF1a := Lib.hid (HF0.out.trans hfr)
  have HS1a := Lib.hid (Nat.le_trans HS0.out hfr.below.size)
  have HR1a := Lib.hid (fro_blk hfr HR0.out hne2)
  clear hp hfr HP0 HF0 HS0 HR0
  obtain ⟨w1, hwk⟩ : ∃ W, W = v1 := ⟨_, rfl⟩
  subst hwk
  have HP1 := HP1a
  have HF1 := HF1a
  have HS1 := HS1a
  have HR1 := HR1a
  clear HP1a HF1a HS1a HR1a
  go_wp2_with fail
  refine (step_calls base g st 1 4 rfl w1 HP1.out HS1.out).mono ?_
  rintro r v2 ⟨rfl, hp, hfr⟩
  have HP2a := Lib.hid hp
  have HF2a := Lib.hid (HF1.out.trans hfr)
  have HS2a := Lib.hid (Nat.le_trans HS1.out hfr.below.size)
  have HR2a := Lib.hid (fro_blk hfr HR1.out hne2)
  clear hp hfr HP1 HF1 HS1 HR1
  obtain ⟨w2, hwk⟩ : ∃ W, W = v2 := ⟨_, rfl⟩
  subst hwk
  have HP2 := HP2a
  have HF2 := HF2a
  have HS2 := HS2a
  have HR2 := HR2a
  clear HP2a HF2a HS2a HR2a
  go_wp2_with fail
  refine (step_calls base g st 2 4 rfl w2 HP2.out HS2.out).mono ?_
  rintro r v3 ⟨rfl, hp, hfr⟩
  have HP3a := Lib.hid hp
  have HF3a := Lib.hid (HF2.out.trans hfr)
  have HS3a := Lib.hid (Nat.le_trans HS2.out hfr.below.size)
  have HR3a := Lib.hid (fro_blk hfr HR2.out hne2)
  clear hp hfr HP2 HF2 HS2 HR2
  obtain ⟨w3, hwk⟩ : ∃ W, W = v3 := ⟨_, rfl⟩
  subst hwk
  have HP3 := HP3a
  have HF3 := HF3a
  have HS3 := HS3a
  have HR3 := HR3a
  clear HP3a HF3a HS3a HR3a
  go_wp2_with fail
  refine (step_calls base g st 3 2 rfl w3 HP3.out HS3.out).mono ?_
  rintro r v4 ⟨rfl, hp, hfr⟩
  have HP4a := Lib.hid hp
  have HF4a := Lib.hid (HF3.out.trans hfr)
  have HS4a := Lib.hid (Nat.le_trans HS3.out hfr.below.size)
  have HR4a := Lib.hid (fro_blk hfr HR3.out hne2)
  clear hp hfr HP3 HF3 HS3 HR3
  obtain ⟨w4, hwk⟩ : ∃ W, W = v4 := ⟨_, rfl⟩
  subst hwk
  have HP4 := HP4a
  have HF4 := HF4a
  have HS4 := HS4a
  have HR4 := HR4a
  clear HP4a HF4a HS4a HR4a
  go_wp2_with fail
  refine (step_calls base g st 4 8 rfl w4 HP4.out HS4.out).mono ?_
  rintro r v5 ⟨rfl, hp, hfr⟩
  have HP5a := Lib.hid hp
  have HF5a := Lib.hid (HF4.out.trans hfr)
  have HS5a := Lib.hid (Nat.le_trans HS4.out hfr.below.size)
  have HR5a := Lib.hid (fro_blk hfr HR4.out hne2)
  clear hp hfr HP4 HF4 HS4 HR4
  obtain ⟨w5, hwk⟩ : ∃ W, W = v5 := ⟨_, rfl⟩
  subst hwk
  have HP5 := HP5a
  have HF5 := HF5a
  have HS5 := HS5a
  have HR5 := HR5a
  clear HP5a HF5a HS5a HR5a
  have hz : (w5.alloc (.cells (⟨gv st 0, gv st 1, gv st 2, gv st 3, wrap64 (gv st 4), 0, 0, false, 0, 0, 0⟩ : E).cells 25)).heap.size = w5.heap.size + 1 := by simp
  have hbe := (Below.refl w5.heap.size w5).alloc (Nat.le_refl _) (.cells (⟨gv st 0, gv st 1, gv st 2, gv st 3, wrap64 (gv st 4), 0, 0, false, 0, 0, 0⟩ : E).cells 25)
  have HPx := Lib.hid (op_alloc HP5.out hbe)
  have HRx := Lib.hid (HR5.out.below hbe)
  have HEx := Lib.hid (Blk.new w5 25 (⟨gv st 0, gv st 1, gv st 2, gv st 3, wrap64 (gv st 4), 0, 0, false, 0, 0, 0⟩ : E).cells)
  have HFx := Lib.hid (HF5.out.trans (Fr.of_below (v := .bool false) (g := g) hbe HS5.out))
  have HSx : Hid (base ≤ (w5.alloc (.cells (⟨gv st 0, gv st 1, gv st 2, gv st 3, wrap64 (gv st 4), 0, 0, false, 0, 0, 0⟩ : E).cells 25)).heap.size) := Lib.hid (by rw [hz]; have := HS5.out; omega)
  have hne3 : w5.heap.size ≠ g := by
    have := op_lt HP5.out
    omega
  have hg3 : w.heap.size < w5.heap.size := HR5.out.lt
  clear hz hbe HP5 HR5 HF5 HS5
  go_upto_region 2 with fail
  generalize w5.alloc (.cells (⟨gv st 0, gv st 1, gv st 2, gv st 3, wrap64 (gv st 4), 0, 0, false, 0, 0, 0⟩ : E).cells 25) = w5x at *
  generalize w5.heap.size = g3 at *
  have HP5 := HPx
  have HF5 := HFx
  have HS5 := HSx
  have HR5 := HRx
  have HE5 := HEx
  clear HPx HFx HSx HRx HEx
  go_wp2_with fail
  refine (step_calls base g st 5 8 rfl w5x HP5.out HS5.out).mono ?_
  rintro r w6 ⟨rfl, hp, hfr⟩
  have HP6 := Lib.hid hp
  have HF6 := Lib.hid (HF5.out.trans hfr)
  have HS6 := Lib.hid (Nat.le_trans HS5.out hfr.below.size)
  have HR6 := Lib.hid (fro_blk hfr HR5.out hne2)
  have HE6 := Lib.hid (fro_blk hfr HE5.out hne3)
  clear hp hfr HP5 HF5 HS5 HR5 HE5
  have HP6x := Lib.hid (op_set (i := 5) (u := .float .f64 (gv st 5).toNat) HP6.out (fun h => hne3 h.symm))
  have HF6x := Lib.hid (fro_set (i := 5) (u := .float .f64 (gv st 5).toNat) HF6.out (Nat.le_of_lt hg3) HBase.out)
  have HR6x := Lib.hid (blk_other HR6.out (Nat.ne_of_lt hg3) 5 (.float .f64 (gv st 5).toNat))
  have HE6x : Hid (Blk (w6.setCell ⟨g3, 5, none⟩ (.float .f64 (gv st 5).toNat)) g3 25 (⟨gv st 0, gv st 1, gv st 2, gv st 3, wrap64 (gv st 4), (gv st 5).toNat, 0, false, 0, 0, 0⟩ : E).cells) := Lib.hid (HE6.out.set_ 5 (.float .f64 (gv st 5).toNat))
  have HS6x : Hid (base ≤ (w6.setCell ⟨g3, 5, none⟩ (.float .f64 (gv st 5).toNat)).heap.size) := Lib.hid (by simpa using HS6.out)
  have q5 := HE6.out.cell 5
  have f5 := HE6.out.frozen 5
  clear HP6 HF6 HR6 HE6 HS6
  go_upto_region 3 with fail
  generalize (w6.setCell ⟨g3, 5, none⟩ (.float .f64 (gv st 5).toNat)) = w6x at *
  clear q5 f5
  have HP6 := HP6x
  have HF6 := HF6x
  have HS6 := HS6x
  have HR6 := HR6x
  have HE6 := HE6x
  clear HP6x HF6x HS6x HR6x HE6x
  go_wp2_with fail
  refine (step_calls base g st 6 8 rfl w6x HP6.out HS6.out).mono ?_
  rintro r w7 ⟨rfl, hp, hfr⟩
  have HP7 := Lib.hid hp
  have HF7 := Lib.hid (HF6.out.trans hfr)
  have HS7 := Lib.hid (Nat.le_trans HS6.out hfr.below.size)
  have HR7 := Lib.hid (fro_blk hfr HR6.out hne2)
  have HE7 := Lib.hid (fro_blk hfr HE6.out hne3)
  clear hp hfr HP6 HF6 HS6 HR6 HE6
  have HP7x := Lib.hid (op_set (i := 6) (u := .float .f64 (gv st 6).toNat) HP7.out (fun h => hne3 h.symm))
  have HF7x := Lib.hid (fro_set (i := 6) (u := .float .f64 (gv st 6).toNat) HF7.out (Nat.le_of_lt hg3) HBase.out)
  have HR7x := Lib.hid (blk_other HR7.out (Nat.ne_of_lt hg3) 6 (.float .f64 (gv st 6).toNat))
  have HE7x : Hid (Blk (w7.setCell ⟨g3, 6, none⟩ (.float .f64 (gv st 6).toNat)) g3 25 (⟨gv st 0, gv st 1, gv st 2, gv st 3, wrap64 (gv st 4), (gv st 5).toNat, (gv st 6).toNat, false, 0, 0, 0⟩ : E).cells) := Lib.hid (HE7.out.set_ 6 (.float .f64 (gv st 6).toNat))
  have HS7x : Hid (base ≤ (w7.setCell ⟨g3, 6, none⟩ (.float .f64 (gv st 6).toNat)).heap.size) := Lib.hid (by simpa using HS7.out)
  have q6 := HE7.out.cell 6
  have f6 := HE7.out.frozen 6
  clear HP7 HF7 HR7 HE7 HS7
  go_upto_region 4 with fail
  generalize (w7.setCell ⟨g3, 6, none⟩ (.float .f64 (gv st 6).toNat)) = w7x at *
  clear q6 f6
  have HP7 := HP7x
  have HF7 := HF7x
  have HS7 := HS7x
  have HR7 := HR7x
  have HE7 := HE7x
  clear HP7x HF7x HS7x HR7x HE7x
  go_wp2_with fail
  refine (step_calls base g st 7 1 rfl w7x HP7.out HS7.out).mono ?_
  rintro r w8 ⟨rfl, hp, hfr⟩
  have HP8 := Lib.hid hp
  have HF8 := Lib.hid (HF7.out.trans hfr)
  have HS8 := Lib.hid (Nat.le_trans HS7.out hfr.below.size)
  have HR8 := Lib.hid (fro_blk hfr HR7.out hne2)
  have HE8 := Lib.hid (fro_blk hfr HE7.out hne3)
  clear hp hfr HP7 HF7 HS7 HR7 HE7
  have HP8x := Lib.hid (op_set (i := 7) (u := .bool (gv st 7 == 1)) HP8.out (fun h => hne3 h.symm))
  have HF8x := Lib.hid (fro_set (i := 7) (u := .bool (gv st 7 == 1)) HF8.out (Nat.le_of_lt hg3) HBase.out)
  have HR8x := Lib.hid (blk_other HR8.out (Nat.ne_of_lt hg3) 7 (.bool (gv st 7 == 1)))
  have HE8x : Hid (Blk (w8.setCell ⟨g3, 7, none⟩ (.bool (gv st 7 == 1))) g3 25 (⟨gv st 0, gv st 1, gv st 2, gv st 3, wrap64 (gv st 4), (gv st 5).toNat, (gv st 6).toNat, gv st 7 == 1, 0, 0, 0⟩ : E).cells) := Lib.hid (HE8.out.set_ 7 (.bool (gv st 7 == 1)))
  have HS8x : Hid (base ≤ (w8.setCell ⟨g3, 7, none⟩ (.bool (gv st 7 == 1))).heap.size) := Lib.hid (by simpa using HS8.out)
  have q7 := HE8.out.cell 7
  have f7 := HE8.out.frozen 7
  clear HP8 HF8 HR8 HE8 HS8
  go_upto_region 6 with fail
  generalize (w8.setCell ⟨g3, 7, none⟩ (.bool (gv st 7 == 1))) = w8x at *
  clear q7 f7
  have HP8 := HP8x
  have HF8 := HF8x
  have HS8 := HS8x
  have HR8 := HR8x
  have HE8 := HE8x
  clear HP8x HF8x HS8x HR8x HE8x
  go_wp2_with fail
  refine (step_calls base g st 8 1 rfl w8x HP8.out HS8.out).mono ?_
  rintro r w9 ⟨rfl, hp, hfr⟩
  have HP9 := Lib.hid hp
  have HF9 := Lib.hid (HF8.out.trans hfr)
  have HS9 := Lib.hid (Nat.le_trans HS8.out hfr.below.size)
  have HR9 := Lib.hid (fro_blk hfr HR8.out hne2)
  have HE9 := Lib.hid (fro_blk hfr HE8.out hne3)
  clear hp hfr HP8 HF8 HS8 HR8 HE8
  go_wp2_with fail
  refine (step_calls base g st 9 1 rfl w9 HP9.out HS9.out).mono ?_
  rintro r w10 ⟨rfl, hp, hfr⟩
  have HP10 := Lib.hid hp
  have HF10 := Lib.hid (HF9.out.trans hfr)
  have HS10 := Lib.hid (Nat.le_trans HS9.out hfr.below.size)
  have HR10 := Lib.hid (fro_blk hfr HR9.out hne2)
  have HE10 := Lib.hid (fro_blk hfr HE9.out hne3)
  clear hp hfr HP9 HF9 HS9 HR9 HE9
  go_wp2_with fail
  refine (step_calls base g st 10 1 rfl w10 HP10.out HS10.out).mono ?_
  rintro r w11 ⟨rfl, hp, hfr⟩
  have HP11 := Lib.hid hp
  have HF11 := Lib.hid (HF10.out.trans hfr)
  have HS11 := Lib.hid (Nat.le_trans HS10.out hfr.below.size)
  have HR11 := Lib.hid (fro_blk hfr HR10.out hne2)
  have HE11 := Lib.hid (fro_blk hfr HE10.out hne3)
  clear hp hfr HP10 HF10 HS10 HR10 HE10
  have HP11x := Lib.hid (op_set (i := 10) (u := .int .i64 (gv st 10)) (op_set (i := 9) (u := .int .i64 (gv st 9)) (op_set (i := 8) (u := .int .i64 (gv st 8)) HP11.out (fun h => hne3 h.symm)) (fun h => hne3 h.symm)) (fun h => hne3 h.symm))
  have HF11x := Lib.hid (fro_set (i := 10) (u := .int .i64 (gv st 10)) (fro_set (i := 9) (u := .int .i64 (gv st 9)) (fro_set (i := 8) (u := .int .i64 (gv st 8)) HF11.out (Nat.le_of_lt hg3) HBase.out) (Nat.le_of_lt hg3) HBase.out) (Nat.le_of_lt hg3) HBase.out)
  have HR11x := Lib.hid (blk_other (blk_other (blk_other HR11.out (Nat.ne_of_lt hg3) 8 (.int .i64 (gv st 8))) (Nat.ne_of_lt hg3) 9 (.int .i64 (gv st 9))) (Nat.ne_of_lt hg3) 10 (.int .i64 (gv st 10)))
  have HE11x : Hid (Blk (((w11.setCell ⟨g3, 8, none⟩ (.int .i64 (gv st 8))).setCell ⟨g3, 9, none⟩ (.int .i64 (gv st 9))).setCell ⟨g3, 10, none⟩ (.int .i64 (gv st 10))) g3 25 (⟨gv st 0, gv st 1, gv st 2, gv st 3, wrap64 (gv st 4), (gv st 5).toNat, (gv st 6).toNat, gv st 7 == 1, gv st 8, gv st 9, gv st 10⟩ : E).cells) := Lib.hid (((HE11.out.set_ 8 (.int .i64 (gv st 8))).set_ 9 (.int .i64 (gv st 9))).set_ 10 (.int .i64 (gv st 10)))
  have HS11x : Hid (base ≤ (((w11.setCell ⟨g3, 8, none⟩ (.int .i64 (gv st 8))).setCell ⟨g3, 9, none⟩ (.int .i64 (gv st 9))).setCell ⟨g3, 10, none⟩ (.int .i64 (gv st 10))).heap.size) := Lib.hid (by simpa using HS11.out)
  have q8 := HE11.out.cell 8
  have f8 := HE11.out.frozen 8
  have q9 := HE11.out.cell 9
  have f9 := HE11.out.frozen 9
  have q10 := HE11.out.cell 10
  have f10 := HE11.out.frozen 10
  clear HP11 HF11 HR11 HE11 HS11
  go_upto_region 7 with fail
  generalize (((w11.setCell ⟨g3, 8, none⟩ (.int .i64 (gv st 8))).setCell ⟨g3, 9, none⟩ (.int .i64 (gv st 9))).setCell ⟨g3, 10, none⟩ (.int .i64 (gv st 10))) = w11x at *
  clear q8 f8 q9 f9 q10 f10
  by_cases h7 : 1 < gv st 7
  · have hE : getE st = (⟨0, gv st 1, gv st 2, gv st 3, wrap64 (gv st 4), (gv st 5).toNat, (gv st 6).toNat, gv st 7 == 1, gv st 8, gv st 9, gv st 10⟩ : E) := by unfold getE; rw [if_pos h7]
    have XP := Lib.hid (op_set (i := 0) (u := .int .i64 0) HP11x.out (fun h => hne3 h.symm))
    have XF := Lib.hid (fro_set (i := 0) (u := .int .i64 0) HF11x.out (Nat.le_of_lt hg3) HBase.out)
    have XR := Lib.hid (blk_other HR11x.out (Nat.ne_of_lt hg3) 0 (.int .i64 0))
    have XE : Hid (Blk (w11x.setCell ⟨g3, 0, none⟩ (.int .i64 0)) g3 25 (getE st).cells) := Lib.hid (by rw [hE]; exact HE11x.out.set_ 0 (.int .i64 0))
    have q0 := HE11x.out.cell 0
    have f0 := HE11x.out.frozen 0
    clear HP11x HF11x HR11x HE11x HS11x hE
    go_upto_region 9 with fail
    generalize w11x.setCell ⟨g3, 0, none⟩ (.int .i64 0) = wz at *
    clear q0 f0
    obtain ⟨c0, c1, c2, c3, c4, c5, c6, c7, c8, c9, c10⟩ := bx_of XE.out
    obtain ⟨d0, d1, d2, d3, d4, d5, d6, d7, d8, d9, d10⟩ := bx_of XR.out
    have f0 := XR.out.frozen 0
    have f1 := XR.out.frozen 1
    have f2 := XR.out.frozen 2
    have f3 := XR.out.frozen 3
    have f4 := XR.out.frozen 4
    have f5 := XR.out.frozen 5
    have f6 := XR.out.frozen 6
    have f7 := XR.out.frozen 7
    have f8 := XR.out.frozen 8
    have f9 := XR.out.frozen 9
    have f10 := XR.out.frozen 10
    go_wp2_with fail
    have S := set_event (getE st) XR.out
    have SP := op_event (getE st) XP.out (fun h => hne2 h.symm)
    have SF := fro_event (getE st) XF.out (Nat.le_refl _) HBase.out
    (try simp only [Exit.inBlock, Exit.then])
    refine bodyPost_ret (results_cell_row (p := 2) (ty := 25) rfl _ _ w.heap.size 25 _ _ _ rfl S Try.underlying25 rfl (by kernel_rfl)) rfl ?_
    exact ⟨rfl, SP, SF⟩
  · have hE : getE st = (⟨gv st 0, gv st 1, gv st 2, gv st 3, wrap64 (gv st 4), (gv st 5).toNat, (gv st 6).toNat, gv st 7 == 1, gv st 8, gv st 9, gv st 10⟩ : E) := by unfold getE; rw [if_neg h7]
    have XP := HP11x
    have XF := HF11x
    have XR := HR11x
    have XE : Hid (Blk w11x g3 25 (getE st).cells) := Lib.hid (by rw [hE]; exact HE11x.out)
    clear HP11x HF11x HR11x HE11x HS11x hE
    go_upto_region 9 with fail
    obtain ⟨c0, c1, c2, c3, c4, c5, c6, c7, c8, c9, c10⟩ := bx_of XE.out
    obtain ⟨d0, d1, d2, d3, d4, d5, d6, d7, d8, d9, d10⟩ := bx_of XR.out
    have f0 := XR.out.frozen 0
    have f1 := XR.out.frozen 1
    have f2 := XR.out.frozen 2
    have f3 := XR.out.frozen 3
    have f4 := XR.out.frozen 4
    have f5 := XR.out.frozen 5
    have f6 := XR.out.frozen 6
    have f7 := XR.out.frozen 7
    have f8 := XR.out.frozen 8
    have f9 := XR.out.frozen 9
    have f10 := XR.out.frozen 10
    go_wp2_with fail
    have S := set_event (getE st) XR.out
    have SP := op_event (getE st) XP.out (fun h => hne2 h.symm)
    have SF := fro_event (getE st) XF.out (Nat.le_refl _) HBase.out
    (try simp only [Exit.inBlock, Exit.then])
    refine bodyPost_ret (results_cell_row (p := 2) (ty := 25) rfl _ _ w.heap.size 25 _ _ _ rfl S Try.underlying25 rfl (by kernel_rfl)) rfl ?_
    exact ⟨rfl, SP, SF⟩
end Go.Proofs.Ytadcpdpcpecooaa.Ev
