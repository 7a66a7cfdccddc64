/- The walks of (*Packer).put and of its deferred closure. -/
import Derived.Test.YtadcpdpcpecooaaPk1
import Derived.Defers
import Derived.Recover
namespace Go.Proofs.Ytadcpdpcpecooaa.Pk
open Go.RowKit

theorem catch_panicking (bx g : Nat) (vb : Value) (e0 er : Int) (w : World) (hb : Blk w bx 52 #[.pointer (some ⟨g, 0, none⟩)]) (hg : Blk w g 55 #[vb, .int .i64 e0]) :
    CallsD Try.prog 74 #[.pointer (some ⟨bx, 0, none⟩)] (.panicking [{ v := .iface 28 (.int .i64 er), recovered := false }]) w fun e u' w' =>
      e = .returned (.tuple #[]) ∧ u' = .panicking [{ v := .iface 28 (.int .i64 er), recovered := true }] ∧ w' = w.setCell ⟨g, 1, none⟩ (.int .i64 er) := by
  have h0 := hb.cell 0
  have h1 := hg.cell 1
  have hf := hg.frozen 1
  refine callsD_of_wpS Try.func74 rfl fun c₀ cs hu => ?_
  apply wpS_seq
  apply wpS_region
  simp only [Try.ntmps74, List.size_toArray, List.length_cons, List.length_nil, Nat.reduceAdd, Nat.reduceSub, Array.replicate_succ, Array.replicate_zero, List.push_toArray, List.append_toArray, List.nil_append, List.cons_append]
  simp [wpOpsS, go_sem, recoverD, hu, Exit.thenS]
  refine wpS_of_wp ?_
  clear hu
  have hta : ∀ w : World, (Instr.typeAssert (.iface 28 (.int .i64 er)) 20 28 true).run Try.prog w = .ok (.tuple #[.int .i64 er, .bool true]) w := fun w => by kernel_rfl
  go_wp2
  simp [bodyPostS, results, Try.results74, go_sem]

theorem catch_idle (bx : Nat) (w : World) :
    CallsD Try.prog 74 #[.pointer (some ⟨bx, 0, none⟩)] .returning w fun e u' w' =>
      e = .returned (.tuple #[]) ∧ u' = .returning ∧ w' = w := by
  refine callsD_of_wpS Try.func74 rfl fun c₀ cs hu => ?_
  apply wpS_seq
  apply wpS_region
  simp only [Try.ntmps74, List.size_toArray, List.length_cons, List.length_nil, Nat.reduceAdd, Nat.reduceSub, Array.replicate_succ, Array.replicate_zero, List.push_toArray, List.append_toArray, List.nil_append, List.cons_append]
  simp [wpOpsS, go_sem, recoverD, hu, Exit.thenS]
  refine wpS_of_wp ?_
  go_wp2
  cases c₀
  simp_all [bodyPostS, results, Try.results74]

/-- The box that 'put' makes for p. -/
def boxed (w : World) (g : Nat) : World := w.alloc (.cells #[.pointer (some ⟨g, 0, none⟩)] 52)

theorem boxed_below (w : World) (g : Nat) : Below w.heap.size w (boxed w g) := (Below.refl _ _).alloc (Nat.le_refl _) _
theorem boxed_blk {w w1 : World} {base g : Nat} {vb v1 : Value} {l : List Int} {e : Int} (hp : PkAt 55 5 w base g vb l e) (f : Fr (boxed w g) w1 base g vb v1) :
    Blk w1 w.heap.size 52 #[.pointer (some ⟨g, 0, none⟩)] := by
  have h0 : Blk (boxed w g) w.heap.size 52 #[.pointer (some ⟨g, 0, none⟩)] := Blk.new _ _ _
  have hgl := hp.blk.lt
  refine h0.same (f.same _ h0.lt (by omega) fun hh => ?_)
  have := (hp.row.lt _ hh).2
  omega

set_option maxRecDepth 20000 in
set_option maxHeartbeats 1000000 in
theorem put_ret (base g : Nat) (vb : Value) (l l' : List Int) (K : Nat) (caps : Array Value) (w : World) (hp : PkAt 55 5 w base g vb l 0) (hbase : base ≤ w.heap.size)
    (he : ∀ W, (callFunc K caps).run Try.prog W = .ok (.enter K caps) W)
    (hf : Calls Try.prog K caps (boxed w g) fun e w' => e = .returned (.tuple #[]) ∧ ∃ vb', PkAt 55 5 w' base g vb' l' 0 ∧ Fr (boxed w g) w' base g vb vb') :
    Calls Try.prog 50 #[.pointer (some ⟨g, 0, none⟩), .func (.func K) #[] caps] w fun e w' => e = .returned (.tuple #[]) ∧
      ∃ vb', PkAt 55 5 w' base g vb' l' (if 60000 < l'.length then 2 else 0) ∧ Fr w w' base g vb vb' := by
  have hmf : ∀ (fn : Fn) (first cap : Array Value) (w : World), (Instr.makeFunc fn first cap).run Try.prog w = .ok (.func fn first cap) w := fun _ _ _ _ => rfl
  have hg1 := hp.blk.cell 1
  have hgl := hp.blk.lt
  have hg1' : ∀ o, (w.alloc o).cell? ⟨g, 1, none⟩ = some (.int .i64 0) := fun o => (World.cell?_alloc_past _ _ _ hgl).trans hg1
  have HF := Lib.hid hf
  clear hf
  go_enter_defers Try.func50, Try.ntmps50
  go_wp2_with fail
  refine HF.out.mono ?_
  rintro e w1 ⟨rfl, v1, hp1, hfr1⟩
  have hbx := boxed_blk hp hfr1
  have hfr0 := (Fr.of_below (v := vb) (g := g) (boxed_below w g) hbase).trans hfr1
  have c0 := hbx.cell 0
  have d0 := hp1.blk.cell 0
  obtain ⟨A, cp, hv1⟩ := hp1.shape
  rw [hv1] at d0
  have Hv := Lib.hid hv1
  clear hv1 hg1 hg1'
  go_wp2_with fail
  · refine leaves_cons (f := 74) (args := #[.pointer (some ⟨w.heap.size, 0, none⟩)]) (by simp) (by simp [go_sem]) ?_
    refine (catch_panicking w.heap.size g v1 0 2 w1 hbx hp1.blk).mono ?_
    rintro e u' w'' ⟨rfl, rfl, rfl⟩
    have R := hp1.setErr (by decide) 2
    simp only [Leaves, settle, List.dropWhile_nil]
    exact ⟨_, results_none rfl _ _ _, rfl, v1, R.1, hfr0.trans R.2⟩
  · refine leaves_cons (f := 74) (args := #[.pointer (some ⟨w.heap.size, 0, none⟩)]) (by simp) (by simp [go_sem]) ?_
    refine (catch_idle w.heap.size w1).mono ?_
    rintro e u' w'' ⟨rfl, rfl, rfl⟩
    exact ⟨_, results_none rfl _ _ _, rfl, v1, hp1, hfr0⟩

set_option maxRecDepth 20000 in
set_option maxHeartbeats 1000000 in
theorem put_pan (base g : Nat) (vb : Value) (l l' : List Int) (er : Int) (K : Nat) (caps : Array Value) (w : World) (hp : PkAt 55 5 w base g vb l 0) (hbase : base ≤ w.heap.size)
    (he : ∀ W, (callFunc K caps).run Try.prog W = .ok (.enter K caps) W)
    (hf : Calls Try.prog K caps (boxed w g) fun e w' => e = .panicked [{ v := .iface 28 (.int .i64 er), recovered := false }] ∧ ∃ vb', PkAt 55 5 w' base g vb' l' 0 ∧ Fr (boxed w g) w' base g vb vb') :
    Calls Try.prog 50 #[.pointer (some ⟨g, 0, none⟩), .func (.func K) #[] caps] w fun e w' => e = .returned (.tuple #[]) ∧
      ∃ vb', PkAt 55 5 w' base g vb' l' er ∧ Fr w w' base g vb vb' := by
  have hmf : ∀ (fn : Fn) (first cap : Array Value) (w : World), (Instr.makeFunc fn first cap).run Try.prog w = .ok (.func fn first cap) w := fun _ _ _ _ => rfl
  have hg1 := hp.blk.cell 1
  have hgl := hp.blk.lt
  have hg1' : ∀ o, (w.alloc o).cell? ⟨g, 1, none⟩ = some (.int .i64 0) := fun o => (World.cell?_alloc_past _ _ _ hgl).trans hg1
  have HF := Lib.hid hf
  clear hf
  go_enter_defers Try.func50, Try.ntmps50
  go_wp2_with fail
  refine HF.out.mono ?_
  rintro e w1 ⟨rfl, v1, hp1, hfr1⟩
  have hbx := boxed_blk hp hfr1
  have hfr0 := (Fr.of_below (v := vb) (g := g) (boxed_below w g) hbase).trans hfr1
  clear hg1 hg1'
  refine leaves_cons (f := 74) (args := #[.pointer (some ⟨w.heap.size, 0, none⟩)]) (by simp) (by simp [go_sem]) ?_
  refine (catch_panicking w.heap.size g v1 0 er w1 hbx hp1.blk).mono ?_
  rintro e u' w'' ⟨rfl, rfl, rfl⟩
  have R := hp1.setErr (by decide) er
  simp only [Leaves, settle, List.dropWhile_nil]
  exact ⟨_, results_none rfl _ _ _, rfl, v1, R.1, hfr0.trans R.2⟩

set_option maxRecDepth 20000 in
/-- Behind an error nothing is done. -/
theorem put_skip (g : Nat) (vb : Value) (e0 : Int) (fv : Value) (w : World) (hp : Blk w g 55 #[vb, .int .i64 e0]) (h0 : e0 ≠ 0) :
    Calls Try.prog 50 #[.pointer (some ⟨g, 0, none⟩), fv] w fun e w' => e = .returned (.tuple #[]) ∧ boxed w g = w' := by
  have hg1 := hp.cell 1
  have hgl := hp.lt
  have hg1' : ∀ o, (w.alloc o).cell? ⟨g, 1, none⟩ = some (.int .i64 e0) := fun o => (World.cell?_alloc_past _ _ _ hgl).trans hg1
  have hb : (e0 != 0) = true := by simpa using h0
  go_enter_defers Try.func50, Try.ntmps50
  go_wp2_with fail
  exact ⟨_, results_none rfl _ _ _, rfl, rfl⟩
set_option maxRecDepth 20000 in
/-- .. nor of nobody's. -/
theorem put_nil (fv : Value) (w : World) :
    Calls Try.prog 50 #[.pointer none, fv] w fun e w' => e = .returned (.tuple #[]) ∧ w.alloc (.cells #[.pointer none] 52) = w' := by
  go_enter_defers Try.func50, Try.ntmps50
  go_wp2_with fail
  exact ⟨_, results_none rfl _ _ _, rfl, rfl⟩
end Go.Proofs.Ytadcpdpcpecooaa.Pk
