/- loan.Owes' failing ways. -/
import Derived.Test.YtkifkjgkdfnhcaaDoorV13
import Derived.Deep.RegionWith
namespace Go.Proofs.YtkifkjgkdfnhcaaDoor.Vw
open Go.RowKit Go.Sort Go.Lib Go.Shelf
attribute [local go_sem ↓] Go.wp_at_zero Go.wp_at_succ

/-- Inside a region that draws its order: where a callee throws, the way is at its end; the walk is handed an empty region to close. -/
theorem park {G : Prop} (w : World) (h : G) (_ : wpAny Tryd.prog .any #[] (fun _ _ _ => True) 0 #[] { tmps := #[], defers := [] } w) : G := h
set_option maxRecDepth 20000 in
set_option maxHeartbeats 4000000 in
theorem owes_bad (l : Ln) (ho : OkLn l) (g : Nat) (w : World) (hK : Blk w g 23 l.cells) (hs : owesO l = none) : Calls Tryd.prog 51 #[.pointer (some ⟨g, 0, none⟩)] w fun e w' => e = .panicked [{ v := .iface 46 (.int .i64 14), recovered := false }] ∧ Below w.heap.size w w' := by
  have HKE : Hid (∀ w' : World, Below w.heap.size w w' → (w'.cell? ⟨g, 1, none⟩ = some (.int .i64 l.principal) ∧ w'.cell? ⟨g, 2, none⟩ = some (.int .i64 l.interest) ∧ w'.cell? ⟨g, 4, none⟩ = some (.int .i64 l.fees))) := Lib.hid (fun w' hB => ⟨(hK.below hB).cell 1, (hK.below hB).cell 2, (hK.below hB).cell 4⟩)
  have H2 := Lib.hid (fun W => flip (whole_calls l.interest ho.interest.1 ho.interest.2 W))
  have e0 := (Below.refl w.heap.size w).drew
  unfold owesO at hs
  split at hs
  · rename_i a ha
    have H1 := Lib.hid (fun W => lsum_ok l.principal l.fees a ha W)
    have H3 := Lib.hid (fun W => lsum_bad a (wholeN l.interest) hs W)
    generalize wholeN l.interest = WI at *
    clear ha hs ho hK
    go_enter Tryd.func51, Tryd.ntmps51
    go_upto_region 1 with fail
    have hkk := HKE.out w (Below.refl _ _)
    obtain ⟨c1, c2, c4⟩ := hkk
    go_region_with (first
        | (go_at_call 69; have _t := tok; (with_reducible refine (H3.out _).mono ?_); rintro r p2 ⟨rfl, b2⟩; refine park w ⟨rfl, rfl, e1.trans (b2.mono e1.size)⟩ ?_)
        | (go_at_call 28; (with_reducible refine (H2.out _).mono ?_); rintro r pw ⟨rfl, rfl⟩; have tok : True := trivial)
        | (go_at_call 69; (with_reducible refine (H1.out _).mono ?_); rintro r p1 ⟨rfl, b1⟩; have e1 : Below w.heap.size w p1 := e0.trans (b1.mono e0.size); obtain ⟨d1, d2, d4⟩ := HKE.out p1 e1))
    all_goals trivial
  · rename_i ha
    have H1 := Lib.hid (fun W => lsum_bad l.principal l.fees ha W)
    clear ha ho hK
    generalize wholeN l.interest = WI at *
    go_enter Tryd.func51, Tryd.ntmps51
    go_upto_region 1 with fail
    have hkk := HKE.out w (Below.refl _ _)
    obtain ⟨c1, c2, c4⟩ := hkk
    go_region_with (first
        | (go_at_call 69; refine (H1.out _).mono ?_; rintro r p1 ⟨rfl, b1⟩; refine park w ⟨rfl, rfl, e0.trans (b1.mono e0.size)⟩ ?_)
        | (go_at_call 28; refine (H2.out _).mono ?_; rintro r pw ⟨rfl, rfl⟩))
    all_goals trivial
theorem clos_bad (l : Ln) (ho : OkLn l) (g n : Nat) (w : World) (hK : Blk w g 23 l.cells) (hs : owesO l = none) :
    Calls Tryd.prog 50 #[.pointer (some ⟨g, 0, none⟩), .pointer (some ⟨n, 0, none⟩)] w fun e w' => e = .panicked [{ v := .iface 46 (.int .i64 14), recovered := false }] ∧ Below w.heap.size w w' := by
  have HO := Lib.hid (owes_bad l ho g w hK hs)
  clear hK hs ho
  go_enter Tryd.func50, Tryd.ntmps50
  go_wp2_with fail
  refine HO.out.mono ?_
  rintro e w1 ⟨rfl, hb⟩
  go_wp2_with fail
  exact ⟨rfl, rfl, hb⟩
theorem clear_two (er : Int) {g h : Nat} {w : World} (hg : Blk w g 23 zeroLn.cells) (hh : Blk w h 46 #[.int .i64 0]) (hne : g ≠ h) : Blk ((((((((((((((w.setCell ⟨g, 0, none⟩ (.int .i64 0)).setCell ⟨g, 1, none⟩ (.int .i64 0)).setCell ⟨g, 2, none⟩ (.int .i64 0)).setCell ⟨g, 3, none⟩ (.int .i64 0)).setCell ⟨g, 4, none⟩ (.int .i64 0)).setCell ⟨g, 5, none⟩ (.int .i64 0)).setCell ⟨g, 6, none⟩ (.bool false)).setCell ⟨g, 7, none⟩ (.int .i64 0)).setCell ⟨g, 8, none⟩ (.int .i64 0)).setCell ⟨g, 9, none⟩ (.int .i64 0)).setCell ⟨g, 10, none⟩ (.int .i64 0)).setCell ⟨g, 11, none⟩ (.int .i64 0)).setCell ⟨g, 12, none⟩ (.int .i64 0)).setCell ⟨h, 0, none⟩ (.int .i64 er)) g 23 zeroLn.cells ∧ Blk ((((((((((((((w.setCell ⟨g, 0, none⟩ (.int .i64 0)).setCell ⟨g, 1, none⟩ (.int .i64 0)).setCell ⟨g, 2, none⟩ (.int .i64 0)).setCell ⟨g, 3, none⟩ (.int .i64 0)).setCell ⟨g, 4, none⟩ (.int .i64 0)).setCell ⟨g, 5, none⟩ (.int .i64 0)).setCell ⟨g, 6, none⟩ (.bool false)).setCell ⟨g, 7, none⟩ (.int .i64 0)).setCell ⟨g, 8, none⟩ (.int .i64 0)).setCell ⟨g, 9, none⟩ (.int .i64 0)).setCell ⟨g, 10, none⟩ (.int .i64 0)).setCell ⟨g, 11, none⟩ (.int .i64 0)).setCell ⟨g, 12, none⟩ (.int .i64 0)).setCell ⟨h, 0, none⟩ (.int .i64 er)) h 46 #[.int .i64 er] ∧ ∃ w1, SetIn g w w1 ∧ SetIn h w1 ((((((((((((((w.setCell ⟨g, 0, none⟩ (.int .i64 0)).setCell ⟨g, 1, none⟩ (.int .i64 0)).setCell ⟨g, 2, none⟩ (.int .i64 0)).setCell ⟨g, 3, none⟩ (.int .i64 0)).setCell ⟨g, 4, none⟩ (.int .i64 0)).setCell ⟨g, 5, none⟩ (.int .i64 0)).setCell ⟨g, 6, none⟩ (.bool false)).setCell ⟨g, 7, none⟩ (.int .i64 0)).setCell ⟨g, 8, none⟩ (.int .i64 0)).setCell ⟨g, 9, none⟩ (.int .i64 0)).setCell ⟨g, 10, none⟩ (.int .i64 0)).setCell ⟨g, 11, none⟩ (.int .i64 0)).setCell ⟨g, 12, none⟩ (.int .i64 0)).setCell ⟨h, 0, none⟩ (.int .i64 er)) := by
  have I1 : SetIn g w (((((((((((((w.setCell ⟨g, 0, none⟩ (.int .i64 0)).setCell ⟨g, 1, none⟩ (.int .i64 0)).setCell ⟨g, 2, none⟩ (.int .i64 0)).setCell ⟨g, 3, none⟩ (.int .i64 0)).setCell ⟨g, 4, none⟩ (.int .i64 0)).setCell ⟨g, 5, none⟩ (.int .i64 0)).setCell ⟨g, 6, none⟩ (.bool false)).setCell ⟨g, 7, none⟩ (.int .i64 0)).setCell ⟨g, 8, none⟩ (.int .i64 0)).setCell ⟨g, 9, none⟩ (.int .i64 0)).setCell ⟨g, 10, none⟩ (.int .i64 0)).setCell ⟨g, 11, none⟩ (.int .i64 0)).setCell ⟨g, 12, none⟩ (.int .i64 0)) := set_loan_in w g zeroLn
  have S1 : Blk (((((((((((((w.setCell ⟨g, 0, none⟩ (.int .i64 0)).setCell ⟨g, 1, none⟩ (.int .i64 0)).setCell ⟨g, 2, none⟩ (.int .i64 0)).setCell ⟨g, 3, none⟩ (.int .i64 0)).setCell ⟨g, 4, none⟩ (.int .i64 0)).setCell ⟨g, 5, none⟩ (.int .i64 0)).setCell ⟨g, 6, none⟩ (.bool false)).setCell ⟨g, 7, none⟩ (.int .i64 0)).setCell ⟨g, 8, none⟩ (.int .i64 0)).setCell ⟨g, 9, none⟩ (.int .i64 0)).setCell ⟨g, 10, none⟩ (.int .i64 0)).setCell ⟨g, 11, none⟩ (.int .i64 0)).setCell ⟨g, 12, none⟩ (.int .i64 0)) g 23 zeroLn.cells := set_loan zeroLn hg
  generalize (((((((((((((w.setCell ⟨g, 0, none⟩ (.int .i64 0)).setCell ⟨g, 1, none⟩ (.int .i64 0)).setCell ⟨g, 2, none⟩ (.int .i64 0)).setCell ⟨g, 3, none⟩ (.int .i64 0)).setCell ⟨g, 4, none⟩ (.int .i64 0)).setCell ⟨g, 5, none⟩ (.int .i64 0)).setCell ⟨g, 6, none⟩ (.bool false)).setCell ⟨g, 7, none⟩ (.int .i64 0)).setCell ⟨g, 8, none⟩ (.int .i64 0)).setCell ⟨g, 9, none⟩ (.int .i64 0)).setCell ⟨g, 10, none⟩ (.int .i64 0)).setCell ⟨g, 11, none⟩ (.int .i64 0)).setCell ⟨g, 12, none⟩ (.int .i64 0)) = W at *
  exact ⟨S1.other hne 0 _, (I1.blk hh hne.symm).set_ 0 _, W, I1, SetIn.one h 0 _ W⟩
theorem SetIn.below {B g : Nat} {w w' : World} (h : SetIn g w w') (hB : B ≤ g) : Below B w w' := h.2 B hB w (Below.refl _ _)
set_option maxRecDepth 20000 in
set_option maxHeartbeats 4000000 in
/-- does$1 at an error that was thrown. -/
theorem does_catch (er : Int) (g h : Nat) (w : World) (hg : Blk w g 23 zeroLn.cells) (hh : Blk w h 46 #[.int .i64 0]) (hne : g ≠ h) :
    CallsD Tryd.prog 66 #[.pointer (some ⟨g, 0, none⟩), .pointer (some ⟨h, 0, none⟩)] (.panicking [{ v := .iface 46 (.int .i64 er), recovered := false }]) w fun e u' w' =>
      e = .returned (.tuple #[]) ∧ u' = .panicking [{ v := .iface 46 (.int .i64 er), recovered := true }] ∧ Blk w' g 23 zeroLn.cells ∧ Blk w' h 46 #[.int .i64 er] ∧ ∃ w1, SetIn g w w1 ∧ SetIn h w1 w' := by
  have y0 := hg.frozen 0
  have y1 := hg.frozen 1
  have y2 := hg.frozen 2
  have y3 := hg.frozen 3
  have y4 := hg.frozen 4
  have y5 := hg.frozen 5
  have y6 := hg.frozen 6
  have y7 := hg.frozen 7
  have y8 := hg.frozen 8
  have y9 := hg.frozen 9
  have y10 := hg.frozen 10
  have y11 := hg.frozen 11
  have y12 := hg.frozen 12
  have z0 : w.cell? ⟨g, 0, none⟩ = some (.int .i64 0) := hg.cell 0
  have z1 : w.cell? ⟨g, 1, none⟩ = some (.int .i64 0) := hg.cell 1
  have z2 : w.cell? ⟨g, 2, none⟩ = some (.int .i64 0) := hg.cell 2
  have z3 : w.cell? ⟨g, 3, none⟩ = some (.int .i64 0) := hg.cell 3
  have z4 : w.cell? ⟨g, 4, none⟩ = some (.int .i64 0) := hg.cell 4
  have z5 : w.cell? ⟨g, 5, none⟩ = some (.int .i64 0) := hg.cell 5
  have z6 : w.cell? ⟨g, 6, none⟩ = some (.bool false) := hg.cell 6
  have z7 : w.cell? ⟨g, 7, none⟩ = some (.int .i64 0) := hg.cell 7
  have z8 : w.cell? ⟨g, 8, none⟩ = some (.int .i64 0) := hg.cell 8
  have z9 : w.cell? ⟨g, 9, none⟩ = some (.int .i64 0) := hg.cell 9
  have z10 : w.cell? ⟨g, 10, none⟩ = some (.int .i64 0) := hg.cell 10
  have z11 : w.cell? ⟨g, 11, none⟩ = some (.int .i64 0) := hg.cell 11
  have z12 : w.cell? ⟨g, 12, none⟩ = some (.int .i64 0) := hg.cell 12
  have c0 : w.cell? ⟨h, 0, none⟩ = some (.int .i64 0) := hh.cell 0
  have f0 := hh.frozen 0
  have HR := Lib.hid (clear_two er hg hh hne)
  clear hg hh
  have hz : ∀ w : World, (Instr.build 23 #[]).run Tryd.prog w = .ok (.agg zeroLn.cells) w := fun w => by kernel_rfl
  refine callsD_of_wpS Tryd.func66 rfl fun c₀ cs hu => ?_
  apply wpS_seq
  apply wpS_region
  simp only [Tryd.ntmps66, List.size_toArray, List.length_cons, List.length_nil, Nat.reduceAdd, Nat.reduceSub, Array.replicate_succ, Array.replicate_zero, List.push_toArray, List.append_toArray, List.nil_append, List.cons_append]
  simp [wpOpsS, go_sem, recoverD, hu, Exit.thenS]
  refine wpS_of_wp ?_
  clear hu
  have hta : ∀ w : World, (Instr.typeAssert (.iface 46 (.int .i64 er)) 20 46 true).run Tryd.prog w = .ok (.tuple #[.int .i64 er, .bool true]) w := fun w => by kernel_rfl
  go_wp2
  simp [bodyPostS, results, Tryd.results66, go_sem]
  exact HR.out
end Go.Proofs.YtkifkjgkdfnhcaaDoor.Vw
