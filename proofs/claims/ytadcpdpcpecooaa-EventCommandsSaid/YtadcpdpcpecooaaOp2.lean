/- The walks of (*Opener).get, Num, Text, Done, Open. -/
import Derived.Test.YtadcpdpcpecooaaOp1
import Derived.Test.YtadcpdpcpecooaaPk2
namespace Go.Proofs.Ytadcpdpcpecooaa.Pk
open Go.RowKit

/-- What get's deferred closure leaves where it caught 'bad'. -/
def spoiltBy (w : World) (g : Nat) : World := (w.setCell ⟨g, 1, none⟩ (.bool true)).alloc (.cells #[] 109)

theorem ocatch_panicking (bx g : Nat) (s : ByteArray) (sp : Bool) (w : World) (hb : Blk w bx 62 #[.pointer (some ⟨g, 0, none⟩)]) (hg : Blk w g 92 #[.string s, .bool sp]) :
    CallsD Try.prog 80 #[.pointer (some ⟨bx, 0, none⟩)] (.panicking [{ v := .iface 109 (.agg #[]), recovered := false }]) w fun e u' w' =>
      e = .returned (.tuple #[]) ∧ u' = .panicking [{ v := .iface 109 (.agg #[]), recovered := true }] ∧ w' = spoiltBy w g := by
  have h0 := hb.cell 0
  have h1 := hg.cell 1
  have hf := hg.frozen 1
  have hbl := hb.lt
  have hgl := hg.lt
  have h0' : ∀ o, (w.alloc o).cell? ⟨bx, 0, none⟩ = some (.pointer (some ⟨g, 0, none⟩)) := fun o => (World.cell?_alloc_past _ _ _ hbl).trans h0
  have h1' : ∀ o, (w.alloc o).cell? ⟨g, 1, none⟩ = some (.bool sp) := fun o => (World.cell?_alloc_past _ _ _ hgl).trans h1
  have hf' : ∀ o, (w.alloc o).frozen? ⟨g, 1, none⟩ = false := fun o => (World.frozen?_alloc_past _ _ _ hgl).trans hf
  refine callsD_of_wpS Try.func80 rfl fun c₀ cs hu => ?_
  apply wpS_seq
  apply wpS_region
  simp only [Try.ntmps80, List.size_toArray, List.length_cons, List.length_nil, Nat.reduceAdd, Nat.reduceSub, Array.replicate_succ, Array.replicate_zero, List.push_toArray, List.append_toArray, List.nil_append, List.cons_append]
  simp [wpOpsS, go_sem, recoverD, hu, Exit.thenS]
  refine wpS_of_wp ?_
  clear hu
  have hta : ∀ w : World, (Instr.typeAssert (.iface 109 (.agg #[])) 20 109 true).run Try.prog w = .ok (.tuple #[.agg #[], .bool true]) w := fun w => by kernel_rfl
  go_wp2
  simp [bodyPostS, results, Try.results80, go_sem, spoiltBy]

theorem ocatch_idle (bx : Nat) (w : World) :
    CallsD Try.prog 80 #[.pointer (some ⟨bx, 0, none⟩)] .returning w fun e u' w' =>
      e = .returned (.tuple #[]) ∧ u' = .returning ∧ w' = w := by
  refine callsD_of_wpS Try.func80 rfl fun c₀ cs hu => ?_
  apply wpS_seq
  apply wpS_region
  simp only [Try.ntmps80, List.size_toArray, List.length_cons, List.length_nil, Nat.reduceAdd, Nat.reduceSub, Array.replicate_succ, Array.replicate_zero, List.push_toArray, List.append_toArray, List.nil_append, List.cons_append]
  simp [wpOpsS, go_sem, recoverD, hu, Exit.thenS]
  refine wpS_of_wp ?_
  go_wp2
  cases c₀
  simp_all [bodyPostS, results, Try.results80]

/-- The box that 'get' makes for o. -/
def oboxed (w : World) (g : Nat) : World := w.alloc (.cells #[.pointer (some ⟨g, 0, none⟩)] 62)

set_option maxRecDepth 20000 in
theorem get_ret (g : Nat) (s : ByteArray) (K : Nat) (caps : Array Value) (w : World) (G : World → Prop) (hp : Blk w g 92 #[.string s, .bool false])
    (he : ∀ W, (callFunc K caps).run Try.prog W = .ok (.enter K caps) W)
    (hf : Calls Try.prog K caps (oboxed w g) fun e w' => e = .returned (.tuple #[]) ∧ G w') :
    Calls Try.prog 71 #[.pointer (some ⟨g, 0, none⟩), .func (.func K) #[] caps] w fun e w' => e = .returned (.tuple #[]) ∧ G w' := by
  have hmf : ∀ (fn : Fn) (first cap : Array Value) (w : World), (Instr.makeFunc fn first cap).run Try.prog w = .ok (.func fn first cap) w := fun _ _ _ _ => rfl
  have hg1 := hp.cell 1
  have hgl := hp.lt
  have hg1' : ∀ o, (w.alloc o).cell? ⟨g, 1, none⟩ = some (.bool false) := fun o => (World.cell?_alloc_past _ _ _ hgl).trans hg1
  have HF := Lib.hid hf
  clear hf
  go_enter_defers Try.func71, Try.ntmps71
  go_wp2_with fail
  refine HF.out.mono ?_
  rintro e w1 ⟨rfl, hG⟩
  have HG := Lib.hid hG
  clear hG hg1 hg1'
  go_wp2_with fail
  refine leaves_cons (f := 80) (args := #[.pointer (some ⟨w.heap.size, 0, none⟩)]) (by simp) (by simp [go_sem]) ?_
  refine (ocatch_idle w.heap.size w1).mono ?_
  rintro e u' w'' ⟨rfl, rfl, rfl⟩
  exact ⟨_, results_none rfl _ _ _, rfl, HG.out⟩

set_option maxRecDepth 20000 in
theorem get_pan (g : Nat) (s : ByteArray) (K : Nat) (caps : Array Value) (w : World) (G : World → Prop) (hp : Blk w g 92 #[.string s, .bool false])
    (he : ∀ W, (callFunc K caps).run Try.prog W = .ok (.enter K caps) W)
    (hf : Calls Try.prog K caps (oboxed w g) fun e w' => e = .panicked [{ v := .iface 109 (.agg #[]), recovered := false }] ∧ G w' ∧
      Blk w' w.heap.size 62 #[.pointer (some ⟨g, 0, none⟩)] ∧ ∃ s', Blk w' g 92 #[.string s', .bool false]) :
    Calls Try.prog 71 #[.pointer (some ⟨g, 0, none⟩), .func (.func K) #[] caps] w fun e w' => e = .returned (.tuple #[]) ∧ ∃ w1, G w1 ∧ w' = spoiltBy w1 g := by
  have hmf : ∀ (fn : Fn) (first cap : Array Value) (w : World), (Instr.makeFunc fn first cap).run Try.prog w = .ok (.func fn first cap) w := fun _ _ _ _ => rfl
  have hg1 := hp.cell 1
  have hgl := hp.lt
  have hg1' : ∀ o, (w.alloc o).cell? ⟨g, 1, none⟩ = some (.bool false) := fun o => (World.cell?_alloc_past _ _ _ hgl).trans hg1
  have HF := Lib.hid hf
  clear hf
  go_enter_defers Try.func71, Try.ntmps71
  go_wp2_with fail
  refine HF.out.mono ?_
  rintro e w1 ⟨rfl, hG, hbx, s', hgs⟩
  clear hg1 hg1'
  refine leaves_cons (f := 80) (args := #[.pointer (some ⟨w.heap.size, 0, none⟩)]) (by simp) (by simp [go_sem]) ?_
  refine (ocatch_panicking w.heap.size g s' false w1 hbx hgs).mono ?_
  rintro e u' w'' ⟨rfl, rfl, rfl⟩
  simp only [Leaves, settle, List.dropWhile_nil]
  exact ⟨_, results_none rfl _ _ _, rfl, w1, hG, rfl⟩

set_option maxRecDepth 20000 in
theorem get_skip (g : Nat) (s : ByteArray) (fv : Value) (w : World) (hp : Blk w g 92 #[.string s, .bool true]) :
    Calls Try.prog 71 #[.pointer (some ⟨g, 0, none⟩), fv] w fun e w' => e = .returned (.tuple #[]) ∧ oboxed w g = w' := by
  have hg1 := hp.cell 1
  have hgl := hp.lt
  have hg1' : ∀ o, (w.alloc o).cell? ⟨g, 1, none⟩ = some (.bool true) := fun o => (World.cell?_alloc_past _ _ _ hgl).trans hg1
  go_enter_defers Try.func71, Try.ntmps71
  go_wp2_with fail
  exact ⟨_, results_none rfl _ _ _, rfl, rfl⟩
set_option maxRecDepth 20000 in
theorem get_nil (fv : Value) (w : World) :
    Calls Try.prog 71 #[.pointer none, fv] w fun e w' => e = .returned (.tuple #[]) ∧ w.alloc (.cells #[.pointer none] 62) = w' := by
  go_enter_defers Try.func71, Try.ntmps71
  go_wp2_with fail
  exact ⟨_, results_none rfl _ _ _, rfl, rfl⟩
end Go.Proofs.Ytadcpdpcpecooaa.Pk
