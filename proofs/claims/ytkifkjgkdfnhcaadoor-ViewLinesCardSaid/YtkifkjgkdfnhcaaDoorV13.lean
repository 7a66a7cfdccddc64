/- What a loan owes. -/
import Derived.Test.YtkifkjgkdfnhcaaDoorV11
import Derived.Test.YtkifkjgkdfnhcaaDoorV12
import Derived.Test.YtkifkjgkdfnhcaaDoorV8
namespace Go.Proofs.YtkifkjgkdfnhcaaDoor.Vw
open Go.RowKit Go.Sort Go.Lib Go.Shelf
attribute [local go_sem ↓] Go.wp_at_zero Go.wp_at_succ

/-- What a loan owes, if that is money. -/
def owesO (l : Ln) : Option Int := match addV l.principal l.fees with
  | some a => addV a (wholeN l.interest)
  | none => none
set_option maxRecDepth 20000 in
set_option maxHeartbeats 4000000 in
theorem owes_ok (l : Ln) (ho : OkLn l) (g : Nat) (w : World) (hK : Blk w g 23 l.cells) (s : Int) (hs : owesO l = some s) : Calls Tryd.prog 51 #[.pointer (some ⟨g, 0, none⟩)] w fun e w' => e = .returned (.int .i64 s) ∧ Below w.heap.size w w' := by
  unfold owesO at hs
  split at hs
  · rename_i a ha
    have H1 := Lib.hid (fun W => lsum_ok l.principal l.fees a ha W)
    have H2 := Lib.hid (fun W => flip (whole_calls l.interest ho.interest.1 ho.interest.2 W))
    have H3 := Lib.hid (fun W => lsum_ok a (wholeN l.interest) s hs W)
    generalize wholeN l.interest = WI at *
    have HKE : Hid (∀ w' : World, Below w.heap.size w w' → (w'.cell? ⟨g, 1, none⟩ = some (.int .i64 l.principal) ∧ w'.cell? ⟨g, 2, none⟩ = some (.int .i64 l.interest) ∧ w'.cell? ⟨g, 4, none⟩ = some (.int .i64 l.fees))) := Lib.hid (fun w' hB => ⟨(hK.below hB).cell 1, (hK.below hB).cell 2, (hK.below hB).cell 4⟩)
    have e0 := (Below.refl w.heap.size w).drew
    clear ha hs ho hK
    go_enter Tryd.func51, Tryd.ntmps51
    go_upto_region 1 with fail
    have hkk := HKE.out w (Below.refl _ _)
    go_region_held3 (fun w' => w'.cell? ⟨g, 1, none⟩ = some (.int .i64 l.principal) ∧ w'.cell? ⟨g, 2, none⟩ = some (.int .i64 l.interest) ∧ w'.cell? ⟨g, 4, none⟩ = some (.int .i64 l.fees)) (first | exact HKE.out _ (by assumption) | go_keep)
      (first
        | ((go_at_call 69; have _t := tok; (with_reducible refine (H3.out p1).mono ?_); rintro r p2 ⟨rfl, b2⟩; have e2 : Below w.heap.size w p2 := e1.trans (b2.mono e1.size)))
        | ((go_at_call 28; (with_reducible refine (H2.out p1).mono ?_); rintro r pw ⟨rfl, rfl⟩; have tok : True := trivial))
        | ((go_at_call 69; (with_reducible refine (H1.out w.drew).mono ?_); rintro r p1 ⟨rfl, b1⟩; have e1 : Below w.heap.size w p1 := e0.trans (b1.mono e0.size))))
    go_wp2_with fail
    go_ret
    exact ⟨rfl, e2⟩
  · cases hs
set_option maxRecDepth 20000 in
theorem clos_ok (l : Ln) (ho : OkLn l) (g n : Nat) (v0 : Value) (w : World) (hK : Blk w g 23 l.cells) (hN : Blk w n 2 #[.int .i64 0]) (s : Int) (hs : owesO l = some s) :
    Calls Tryd.prog 50 #[.pointer (some ⟨g, 0, none⟩), .pointer (some ⟨n, 0, none⟩)] w fun e w' => e = .returned (.tuple #[]) ∧ ∃ w1, Below w.heap.size w w1 ∧ w' = w1.setCell ⟨n, 0, none⟩ (.int .i64 s) := by
  have HO := Lib.hid (owes_ok l ho g w hK s hs)
  have HN := Lib.hid hN
  clear hK hN hs ho
  go_enter Tryd.func50, Tryd.ntmps50
  go_wp2_with fail
  refine HO.out.mono ?_
  rintro e w1 ⟨rfl, hb⟩
  have hn1 := HN.out.below hb
  have c0 : w1.cell? ⟨n, 0, none⟩ = some (.int .i64 0) := hn1.cell 0
  have f0 := hn1.frozen 0
  have HB := Lib.hid hb
  clear hb hn1
  go_wp2_with fail
  go_end0
  exact ⟨rfl, w1, HB.out, rfl⟩
theorem does_idle (g h : Nat) (w : World) :
    CallsD Tryd.prog 66 #[.pointer (some ⟨g, 0, none⟩), .pointer (some ⟨h, 0, none⟩)] .returning w fun e u' w' =>
      e = .returned (.tuple #[]) ∧ u' = .returning ∧ w' = w := by
  refine callsD_of_wpS Tryd.func66 rfl fun c₀ cs hu => ?_
  apply wpS_seq
  apply wpS_region
  simp only [Tryd.ntmps66, List.size_toArray, List.length_cons, List.length_nil, Nat.reduceAdd, Nat.reduceSub, Array.replicate_succ, Array.replicate_zero, List.push_toArray, List.append_toArray, List.nil_append, List.cons_append]
  simp [wpOpsS, go_sem, recoverD, hu, Exit.thenS]
  refine wpS_of_wp ?_
  go_wp2
  cases c₀
  simp_all [bodyPostS, results, Tryd.results66]
abbrev zeroLn : Ln := ⟨0, 0, 0, 0, 0, 0, false, 0, 0, 0, 0, 0, 0⟩
theorem results_row_cell {P : Program} {fn : Func} {p u : Tmp} {ty t2 : TypeId} (h : fn.results = #[.cell p ty, .cell u t2]) (tmps : Array Value) (w : World) (g g2 : Nat) (t : TypeId) (cs : Array Value) (fr : Nat × Nat) (d : TypeDesc) (v : Value)
    (hp : tmps.getD p undef = .pointer (some ⟨g, 0, none⟩)) (hg : w.heap[g]? = some (.cells cs t fr))
    (hu : P.underlying ty = some d) (hd : (match d with | .struct _ | .array _ _ => true | _ => false) = true) (hi : (P.info? ty).map (·.size) = some cs.size)
    (hp2 : tmps.getD u undef = .pointer (some ⟨g2, 0, none⟩)) (h2 : (loadVar t2 ⟨g2, 0, none⟩).run P w = .ok v w) :
    (results fn tmps).run P w = .ok (.tuple #[.agg cs, v]) w := by
  have hp' : tmps[p]?.getD undef = .pointer (some ⟨g, 0, none⟩) := by simpa using hp
  have hp2' : tmps[u]?.getD undef = .pointer (some ⟨g2, 0, none⟩) := by simpa using hp2
  simp [results, h, hp', hp2', asAddr, run_loadVar_row w g t ty cs fr d hg hu hd hi, h2, Result.andThen]
/-- A whole loan stored, cell by cell. -/
theorem set_loan {w : World} {g : Nat} {z : Ln} (l : Ln) (h : Blk w g 23 z.cells) : Blk (((((((((((((w.setCell ⟨g, 0, none⟩ (.int .i64 l.id)).setCell ⟨g, 1, none⟩ (.int .i64 l.principal)).setCell ⟨g, 2, none⟩ (.int .i64 l.interest)).setCell ⟨g, 3, none⟩ (.int .i64 l.subsidy)).setCell ⟨g, 4, none⟩ (.int .i64 l.fees)).setCell ⟨g, 5, none⟩ (.int .i64 l.ppm)).setCell ⟨g, 6, none⟩ (.bool l.sub)).setCell ⟨g, 7, none⟩ (.int .i64 l.status)).setCell ⟨g, 8, none⟩ (.int .i64 l.closed)).setCell ⟨g, 9, none⟩ (.int .i64 l.entered)).setCell ⟨g, 10, none⟩ (.int .i64 l.level)).setCell ⟨g, 11, none⟩ (.int .i64 l.far)).setCell ⟨g, 12, none⟩ (.int .i64 l.count)) g 23 l.cells := by
  have e : (((((((((((((z.cells.setIfInBounds 0 (.int .i64 l.id)).setIfInBounds 1 (.int .i64 l.principal)).setIfInBounds 2 (.int .i64 l.interest)).setIfInBounds 3 (.int .i64 l.subsidy)).setIfInBounds 4 (.int .i64 l.fees)).setIfInBounds 5 (.int .i64 l.ppm)).setIfInBounds 6 (.bool l.sub)).setIfInBounds 7 (.int .i64 l.status)).setIfInBounds 8 (.int .i64 l.closed)).setIfInBounds 9 (.int .i64 l.entered)).setIfInBounds 10 (.int .i64 l.level)).setIfInBounds 11 (.int .i64 l.far)).setIfInBounds 12 (.int .i64 l.count)) = l.cells := by kernel_rfl
  rw [← e]
  exact ((((((((((((h.set_ 0 (.int .i64 l.id)).set_ 1 (.int .i64 l.principal)).set_ 2 (.int .i64 l.interest)).set_ 3 (.int .i64 l.subsidy)).set_ 4 (.int .i64 l.fees)).set_ 5 (.int .i64 l.ppm)).set_ 6 (.bool l.sub)).set_ 7 (.int .i64 l.status)).set_ 8 (.int .i64 l.closed)).set_ 9 (.int .i64 l.entered)).set_ 10 (.int .i64 l.level)).set_ 11 (.int .i64 l.far)).set_ 12 (.int .i64 l.count)
/-- Stores into one block leave the others. -/
def SetIn (g : Nat) (w w' : World) : Prop := (∀ b, b ≠ g → w'.heap[b]? = w.heap[b]?) ∧ ∀ B, B ≤ g → ∀ w0, Below B w0 w → Below B w0 w'
theorem SetIn.one (g i : Nat) (v : Value) (w : World) : SetIn g w (w.setCell ⟨g, i, none⟩ v) := ⟨fun b hb => Below.heap_setCell _ _ _ _ hb, fun B hB w0 h => h.setCell (p := ⟨g, i, none⟩) hB v⟩
theorem SetIn.trans {g : Nat} {a b c : World} (h1 : SetIn g a b) (h2 : SetIn g b c) : SetIn g a c := ⟨fun k hk => (h2.1 k hk).trans (h1.1 k hk), fun B hB w0 h => h2.2 B hB w0 (h1.2 B hB w0 h)⟩
theorem SetIn.blk {g b : Nat} {t : TypeId} {cs : Array Value} {w w' : World} (h : SetIn g w w') (hb : Blk w b t cs) (hne : b ≠ g) : Blk w' b t cs := ⟨(h.1 b hne).trans hb.heap⟩
theorem set_loan_in (w : World) (g : Nat) (l : Ln) : SetIn g w (((((((((((((w.setCell ⟨g, 0, none⟩ (.int .i64 l.id)).setCell ⟨g, 1, none⟩ (.int .i64 l.principal)).setCell ⟨g, 2, none⟩ (.int .i64 l.interest)).setCell ⟨g, 3, none⟩ (.int .i64 l.subsidy)).setCell ⟨g, 4, none⟩ (.int .i64 l.fees)).setCell ⟨g, 5, none⟩ (.int .i64 l.ppm)).setCell ⟨g, 6, none⟩ (.bool l.sub)).setCell ⟨g, 7, none⟩ (.int .i64 l.status)).setCell ⟨g, 8, none⟩ (.int .i64 l.closed)).setCell ⟨g, 9, none⟩ (.int .i64 l.entered)).setCell ⟨g, 10, none⟩ (.int .i64 l.level)).setCell ⟨g, 11, none⟩ (.int .i64 l.far)).setCell ⟨g, 12, none⟩ (.int .i64 l.count)) :=
  ((((((((((((SetIn.one g 0 (.int .i64 l.id) w).trans (SetIn.one g 1 (.int .i64 l.principal) _)).trans (SetIn.one g 2 (.int .i64 l.interest) _)).trans (SetIn.one g 3 (.int .i64 l.subsidy) _)).trans (SetIn.one g 4 (.int .i64 l.fees) _)).trans (SetIn.one g 5 (.int .i64 l.ppm) _)).trans (SetIn.one g 6 (.bool l.sub) _)).trans (SetIn.one g 7 (.int .i64 l.status) _)).trans (SetIn.one g 8 (.int .i64 l.closed) _)).trans (SetIn.one g 9 (.int .i64 l.entered) _)).trans (SetIn.one g 10 (.int .i64 l.level) _)).trans (SetIn.one g 11 (.int .i64 l.far) _)).trans (SetIn.one g 12 (.int .i64 l.count) _)
set_option maxRecDepth 20000 in
set_option maxHeartbeats 8000000 in
theorem does_ok (l : Ln) (ho : OkLn l) (hg : goodLn l = true) (s : Int) (hs : owesO l = some s) (n : Nat) (w : World) (hN : Blk w n 2 #[.int .i64 0]) :
    Calls Tryd.prog 49 #[l.v, .func (.func 50) #[] #[.pointer (some ⟨n, 0, none⟩)]] w fun e w' => e = .returned (.tuple #[l.v, .int .i64 0]) ∧ Blk w' n 2 #[.int .i64 s] ∧ Below n w w' := by
  have hmf : ∀ (fn : Fn) (first cap : Array Value) (w : World), (Instr.makeFunc fn first cap).run Tryd.prog w = .ok (.func fn first cap) w := fun _ _ _ _ => rfl
  have he : ∀ W, (callFunc 50 #[.pointer (some ⟨w.heap.size, 0, none⟩), .pointer (some ⟨n, 0, none⟩)]).run Tryd.prog W = .ok (.enter 50 #[.pointer (some ⟨w.heap.size, 0, none⟩), .pointer (some ⟨n, 0, none⟩)]) W := enters_of Tryd.func50 (by kernel_rfl) rfl _
  have z1 : (w.alloc (.cells l.cells 23)).heap.size = w.heap.size + 1 := by simp
  have z2 : ((w.alloc (.cells l.cells 23)).alloc (.cells zeroLn.cells 23)).heap.size = w.heap.size + 1 + 1 := by simp
  have b1 := Blk.new w 23 l.cells
  have b2 := Blk.new (w.alloc (.cells l.cells 23)) 23 zeroLn.cells
  have b3 := Blk.new ((w.alloc (.cells l.cells 23)).alloc (.cells zeroLn.cells 23)) 46 #[.int .i64 0]
  rw [z1] at b2
  rw [z2] at b3
  have a1 := (Below.refl w.heap.size w).alloc (Nat.le_refl _) (.cells l.cells 23)
  have a2 := (Below.refl _ (w.alloc (.cells l.cells 23))).alloc (Nat.le_refl _) (.cells zeroLn.cells 23)
  have a3 := (Below.refl _ ((w.alloc (.cells l.cells 23)).alloc (.cells zeroLn.cells 23))).alloc (Nat.le_refl _) (.cells #[.int .i64 0] 46)
  have HL := Lib.hid ((b1.below a2).below a3)
  have HZ := Lib.hid (b2.below a3)
  have HE := Lib.hid b3
  have HNn := Lib.hid (((hN.below a1).below a2).below a3)
  have hnl := hN.lt
  have HB := Lib.hid ((((a1.mono (Nat.le_of_lt hnl)).trans (a2.mono (by rw [z1]; omega))).trans (a3.mono (by rw [z2]; omega))))
  have HG := Lib.hid (fun W => lgood_calls l W)
  rw [hg] at HG
  have HCl := Lib.hid (fun W (hK : Blk W w.heap.size 23 l.cells) (hM : Blk W n 2 #[.int .i64 0]) => clos_ok l ho w.heap.size n (.int .i64 0) W hK hM s hs)
  have HLt : Hid (n < w.heap.size) := Lib.hid hnl
  clear b1 b2 b3 a1 a2 a3 z1 z2 hN hg hs ho hnl
  go_enter_defers Tryd.func49, Tryd.ntmps49
  go_upto_region 1 with fail
  generalize ((w.alloc (.cells l.cells 23)).alloc (.cells zeroLn.cells 23)).alloc (.cells #[.int .i64 0] 46) = w1 at *
  go_upto_region 2 with fail
  have k0 : w1.cell? ⟨w.heap.size, 0, none⟩ = some (.int .i64 l.id) := HL.out.cell 0
  have k1 : w1.cell? ⟨w.heap.size, 1, none⟩ = some (.int .i64 l.principal) := HL.out.cell 1
  have k2 : w1.cell? ⟨w.heap.size, 2, none⟩ = some (.int .i64 l.interest) := HL.out.cell 2
  have k3 : w1.cell? ⟨w.heap.size, 3, none⟩ = some (.int .i64 l.subsidy) := HL.out.cell 3
  have k4 : w1.cell? ⟨w.heap.size, 4, none⟩ = some (.int .i64 l.fees) := HL.out.cell 4
  have k5 : w1.cell? ⟨w.heap.size, 5, none⟩ = some (.int .i64 l.ppm) := HL.out.cell 5
  have k6 : w1.cell? ⟨w.heap.size, 6, none⟩ = some (.bool l.sub) := HL.out.cell 6
  have k7 : w1.cell? ⟨w.heap.size, 7, none⟩ = some (.int .i64 l.status) := HL.out.cell 7
  have k8 : w1.cell? ⟨w.heap.size, 8, none⟩ = some (.int .i64 l.closed) := HL.out.cell 8
  have k9 : w1.cell? ⟨w.heap.size, 9, none⟩ = some (.int .i64 l.entered) := HL.out.cell 9
  have k10 : w1.cell? ⟨w.heap.size, 10, none⟩ = some (.int .i64 l.level) := HL.out.cell 10
  have k11 : w1.cell? ⟨w.heap.size, 11, none⟩ = some (.int .i64 l.far) := HL.out.cell 11
  have k12 : w1.cell? ⟨w.heap.size, 12, none⟩ = some (.int .i64 l.count) := HL.out.cell 12
  go_wp2_with fail
  refine (HG.out _).mono ?_
  rintro e w2 ⟨rfl, hb⟩
  have HL2 := Lib.hid (HL.out.below hb)
  have HZ2 := Lib.hid (HZ.out.below hb)
  have HE2 := Lib.hid (HE.out.below hb)
  have HN2 := Lib.hid (HNn.out.below hb)
  have HB2 := Lib.hid (HB.out.trans (hb.mono (Nat.le_trans (Nat.le_of_lt HLt.out) (by have := HL.out.lt; omega))))
  clear hb k0 k1 k2 k3 k4 k5 k6 k7 k8 k9 k10 k11 k12 HL HZ HE HNn HB
  go_wp2_with fail
  refine (stop_no 1 (.inl rfl) _).mono ?_
  rintro e w2' ⟨rfl, rfl⟩
  have he' := he
  go_wp2_with fail
  refine (HCl.out w2 HL2.out HN2.out).mono ?_
  rintro e w3 ⟨rfl, w3', hb3, rfl⟩
  have hlt := HLt.out
  have HL3 := Lib.hid ((HL2.out.below hb3).other (show w.heap.size ≠ n by omega) 0 (.int .i64 s))
  have HZ3 := Lib.hid ((HZ2.out.below hb3).other (show w.heap.size + 1 ≠ n by omega) 0 (.int .i64 s))
  have HE3 := Lib.hid ((HE2.out.below hb3).other (show w.heap.size + 1 + 1 ≠ n by omega) 0 (.int .i64 s))
  have HN3 : Hid (Blk (w3'.setCell ⟨n, 0, none⟩ (.int .i64 s)) n 2 #[.int .i64 s]) := Lib.hid ((HN2.out.below hb3).set_ 0 (.int .i64 s))
  have HB3 := Lib.hid ((HB2.out.trans (hb3.mono (by have := HN2.out.lt; omega))).setCell (p := ⟨n, 0, none⟩) (Nat.le_refl _) (.int .i64 s))
  clear hb3 hlt HL2 HZ2 HE2 HN2 HB2
  generalize w3'.setCell ⟨n, 0, none⟩ (.int .i64 s) = W at *
  have HNE : Hid (w.heap.size + 1 ≠ w.heap.size + 1 + 1 ∧ n ≠ w.heap.size + 1 ∧ n ≠ w.heap.size + 1 + 1 ∧ n ≤ w.heap.size + 1 ∧ n ≤ w.heap.size + 1 + 1) := Lib.hid (by have := HLt.out; omega)
  obtain ⟨gl, hgl⟩ : ∃ x, w.heap.size = x := ⟨_, rfl⟩
  obtain ⟨gz, hgz⟩ : ∃ x, w.heap.size + 1 = x := ⟨_, rfl⟩
  obtain ⟨ge, hge⟩ : ∃ x, w.heap.size + 1 + 1 = x := ⟨_, rfl⟩
  rw [hge, hgz] at HNE
  rw [hge] at HE3
  rw [hgz] at HZ3
  rw [hgl] at HL3
  have HGL := Lib.hid hgl
  have HGZ := Lib.hid hgz
  have HGE := Lib.hid hge
  clear hgl hgz hge
  rw [HGE.out, HGZ.out, HGL.out]
  have k0 : W.cell? ⟨gl, 0, none⟩ = some (.int .i64 l.id) := HL3.out.cell 0
  have k1 : W.cell? ⟨gl, 1, none⟩ = some (.int .i64 l.principal) := HL3.out.cell 1
  have k2 : W.cell? ⟨gl, 2, none⟩ = some (.int .i64 l.interest) := HL3.out.cell 2
  have k3 : W.cell? ⟨gl, 3, none⟩ = some (.int .i64 l.subsidy) := HL3.out.cell 3
  have k4 : W.cell? ⟨gl, 4, none⟩ = some (.int .i64 l.fees) := HL3.out.cell 4
  have k5 : W.cell? ⟨gl, 5, none⟩ = some (.int .i64 l.ppm) := HL3.out.cell 5
  have k6 : W.cell? ⟨gl, 6, none⟩ = some (.bool l.sub) := HL3.out.cell 6
  have k7 : W.cell? ⟨gl, 7, none⟩ = some (.int .i64 l.status) := HL3.out.cell 7
  have k8 : W.cell? ⟨gl, 8, none⟩ = some (.int .i64 l.closed) := HL3.out.cell 8
  have k9 : W.cell? ⟨gl, 9, none⟩ = some (.int .i64 l.entered) := HL3.out.cell 9
  have k10 : W.cell? ⟨gl, 10, none⟩ = some (.int .i64 l.level) := HL3.out.cell 10
  have k11 : W.cell? ⟨gl, 11, none⟩ = some (.int .i64 l.far) := HL3.out.cell 11
  have k12 : W.cell? ⟨gl, 12, none⟩ = some (.int .i64 l.count) := HL3.out.cell 12
  have z0 : W.cell? ⟨gz, 0, none⟩ = some (.int .i64 0) := HZ3.out.cell 0
  have y0 := HZ3.out.frozen 0
  have z1 : W.cell? ⟨gz, 1, none⟩ = some (.int .i64 0) := HZ3.out.cell 1
  have y1 := HZ3.out.frozen 1
  have z2 : W.cell? ⟨gz, 2, none⟩ = some (.int .i64 0) := HZ3.out.cell 2
  have y2 := HZ3.out.frozen 2
  have z3 : W.cell? ⟨gz, 3, none⟩ = some (.int .i64 0) := HZ3.out.cell 3
  have y3 := HZ3.out.frozen 3
  have z4 : W.cell? ⟨gz, 4, none⟩ = some (.int .i64 0) := HZ3.out.cell 4
  have y4 := HZ3.out.frozen 4
  have z5 : W.cell? ⟨gz, 5, none⟩ = some (.int .i64 0) := HZ3.out.cell 5
  have y5 := HZ3.out.frozen 5
  have z6 : W.cell? ⟨gz, 6, none⟩ = some (.bool false) := HZ3.out.cell 6
  have y6 := HZ3.out.frozen 6
  have z7 : W.cell? ⟨gz, 7, none⟩ = some (.int .i64 0) := HZ3.out.cell 7
  have y7 := HZ3.out.frozen 7
  have z8 : W.cell? ⟨gz, 8, none⟩ = some (.int .i64 0) := HZ3.out.cell 8
  have y8 := HZ3.out.frozen 8
  have z9 : W.cell? ⟨gz, 9, none⟩ = some (.int .i64 0) := HZ3.out.cell 9
  have y9 := HZ3.out.frozen 9
  have z10 : W.cell? ⟨gz, 10, none⟩ = some (.int .i64 0) := HZ3.out.cell 10
  have y10 := HZ3.out.frozen 10
  have z11 : W.cell? ⟨gz, 11, none⟩ = some (.int .i64 0) := HZ3.out.cell 11
  have y11 := HZ3.out.frozen 11
  have z12 : W.cell? ⟨gz, 12, none⟩ = some (.int .i64 0) := HZ3.out.cell 12
  have y12 := HZ3.out.frozen 12
  have c0 : W.cell? ⟨ge, 0, none⟩ = some (.int .i64 0) := HE3.out.cell 0
  have f0 := HE3.out.frozen 0
  have hne := HNE.out.1.symm
  go_wp2_with fail
  have S1 := set_loan l HZ3.out
  have I1 := set_loan_in W gz l
  have hq := HNE.out
  have S1' := S1.other hq.1 0 (.int .i64 0)
  have E1 := (I1.blk HE3.out hq.1.symm).set_ 0 (.int .i64 0)
  have I2 := SetIn.one ge 0 (.int .i64 0) (((((((((((((W.setCell ⟨gz, 0, none⟩ (.int .i64 l.id)).setCell ⟨gz, 1, none⟩ (.int .i64 l.principal)).setCell ⟨gz, 2, none⟩ (.int .i64 l.interest)).setCell ⟨gz, 3, none⟩ (.int .i64 l.subsidy)).setCell ⟨gz, 4, none⟩ (.int .i64 l.fees)).setCell ⟨gz, 5, none⟩ (.int .i64 l.ppm)).setCell ⟨gz, 6, none⟩ (.bool l.sub)).setCell ⟨gz, 7, none⟩ (.int .i64 l.status)).setCell ⟨gz, 8, none⟩ (.int .i64 l.closed)).setCell ⟨gz, 9, none⟩ (.int .i64 l.entered)).setCell ⟨gz, 10, none⟩ (.int .i64 l.level)).setCell ⟨gz, 11, none⟩ (.int .i64 l.far)).setCell ⟨gz, 12, none⟩ (.int .i64 l.count))
  have N1 := I2.blk (I1.blk HN3.out hq.2.1) hq.2.2.1
  have B1 := I2.2 n hq.2.2.2.2 w (I1.2 n hq.2.2.2.1 w HB3.out)
  generalize (((((((((((((W.setCell ⟨gz, 0, none⟩ (.int .i64 l.id)).setCell ⟨gz, 1, none⟩ (.int .i64 l.principal)).setCell ⟨gz, 2, none⟩ (.int .i64 l.interest)).setCell ⟨gz, 3, none⟩ (.int .i64 l.subsidy)).setCell ⟨gz, 4, none⟩ (.int .i64 l.fees)).setCell ⟨gz, 5, none⟩ (.int .i64 l.ppm)).setCell ⟨gz, 6, none⟩ (.bool l.sub)).setCell ⟨gz, 7, none⟩ (.int .i64 l.status)).setCell ⟨gz, 8, none⟩ (.int .i64 l.closed)).setCell ⟨gz, 9, none⟩ (.int .i64 l.entered)).setCell ⟨gz, 10, none⟩ (.int .i64 l.level)).setCell ⟨gz, 11, none⟩ (.int .i64 l.far)).setCell ⟨gz, 12, none⟩ (.int .i64 l.count)).setCell ⟨ge, 0, none⟩ (.int .i64 0) = W9 at *
  have d1 : W9.cell? ⟨ge, 0, none⟩ = some (.int .i64 0) := E1.cell 0
  refine leaves_cons (f := 66) (args := #[.pointer (some ⟨gz, 0, none⟩), .pointer (some ⟨ge, 0, none⟩)]) (by simp) (by simp [go_sem]) ?_
  refine (does_idle gz ge W9).mono ?_
  rintro e u' w'' ⟨rfl, rfl, rfl⟩
  exact ⟨_, results_row_cell (p := 4) (u := 5) (ty := 23) (t2 := 46) rfl _ w'' gz ge 23 l.cells _ _ (.int .i64 0) rfl S1'.heap Tryd.underlying23 rfl (by kernel_rfl) rfl (by simp [go_sem, d1]), rfl, N1, B1⟩
set_option maxRecDepth 20000 in
set_option maxHeartbeats 8000000 in
theorem lowes_ok (l : Ln) (ho : OkLn l) (hg : goodLn l = true) (s : Int) (hs : owesO l = some s) (w : World) :
    Calls Tryd.prog 35 #[l.v] w fun e w' => e = .returned (.tuple #[.int .i64 s, .int .i64 0]) ∧ Below w.heap.size w w' := by
  have hmf : ∀ (fn : Fn) (first cap : Array Value) (w : World), (Instr.makeFunc fn first cap).run Tryd.prog w = .ok (.func fn first cap) w := fun _ _ _ _ => rfl
  have z1 : (w.alloc (.cells l.cells 23)).heap.size = w.heap.size + 1 := by simp
  have b1 := Blk.new w 23 l.cells
  have b2 := Blk.new (w.alloc (.cells l.cells 23)) 2 #[.int .i64 0]
  rw [z1] at b2
  have a1 := (Below.refl w.heap.size w).alloc (Nat.le_refl _) (.cells l.cells 23)
  have a2 := (Below.refl _ (w.alloc (.cells l.cells 23))).alloc (Nat.le_refl _) (.cells #[.int .i64 0] 2)
  have HL := Lib.hid (b1.below a2)
  have HN := Lib.hid b2
  have HB := Lib.hid (a1.trans (a2.mono (by rw [z1]; omega)))
  have HD := Lib.hid (fun W (hN : Blk W (w.heap.size + 1) 2 #[.int .i64 0]) => does_ok l ho hg s hs (w.heap.size + 1) W hN)
  clear b1 b2 a1 a2 z1 ho hg hs
  go_enter Tryd.func35, Tryd.ntmps35
  go_upto_region 2 with fail
  generalize (w.alloc (.cells l.cells 23)).alloc (.cells #[.int .i64 0] 2) = w1 at *
  obtain ⟨n, hn⟩ : ∃ n, w.heap.size + 1 = n := ⟨_, rfl⟩
  rw [hn] at HD HN
  have HNL : Hid (w.heap.size ≤ n) := Lib.hid (by omega)
  have HNN := Lib.hid hn
  clear hn
  rw [HNN.out]
  have k0 : w1.cell? ⟨w.heap.size, 0, none⟩ = some (.int .i64 l.id) := HL.out.cell 0
  have k1 : w1.cell? ⟨w.heap.size, 1, none⟩ = some (.int .i64 l.principal) := HL.out.cell 1
  have k2 : w1.cell? ⟨w.heap.size, 2, none⟩ = some (.int .i64 l.interest) := HL.out.cell 2
  have k3 : w1.cell? ⟨w.heap.size, 3, none⟩ = some (.int .i64 l.subsidy) := HL.out.cell 3
  have k4 : w1.cell? ⟨w.heap.size, 4, none⟩ = some (.int .i64 l.fees) := HL.out.cell 4
  have k5 : w1.cell? ⟨w.heap.size, 5, none⟩ = some (.int .i64 l.ppm) := HL.out.cell 5
  have k6 : w1.cell? ⟨w.heap.size, 6, none⟩ = some (.bool l.sub) := HL.out.cell 6
  have k7 : w1.cell? ⟨w.heap.size, 7, none⟩ = some (.int .i64 l.status) := HL.out.cell 7
  have k8 : w1.cell? ⟨w.heap.size, 8, none⟩ = some (.int .i64 l.closed) := HL.out.cell 8
  have k9 : w1.cell? ⟨w.heap.size, 9, none⟩ = some (.int .i64 l.entered) := HL.out.cell 9
  have k10 : w1.cell? ⟨w.heap.size, 10, none⟩ = some (.int .i64 l.level) := HL.out.cell 10
  have k11 : w1.cell? ⟨w.heap.size, 11, none⟩ = some (.int .i64 l.far) := HL.out.cell 11
  have k12 : w1.cell? ⟨w.heap.size, 12, none⟩ = some (.int .i64 l.count) := HL.out.cell 12
  go_wp2_with fail
  refine (HD.out _ HN.out).mono ?_
  rintro e w2 ⟨rfl, hn2, hb2⟩
  have hal := (Below.refl w2.heap.size w2).alloc (Nat.le_refl _) (.cells l.cells 23)
  have HN2 := Lib.hid (hn2.below hal)
  have hB2 := HB.out.trans (hb2.mono HNL.out)
  have HB2 := Lib.hid (hB2.trans (hal.mono hB2.size))
  clear hn2 hb2 hal hB2 k0 k1 k2 k3 k4 k5 k6 k7 k8 k9 k10 k11 k12
  go_upto_region 3 with fail
  generalize w2.alloc (.cells l.cells 23) = w3 at *
  have c0 : w3.cell? ⟨n, 0, none⟩ = some (.int .i64 s) := HN2.out.cell 0
  go_wp2_with fail
  go_ret2
  exact ⟨rfl, HB2.out⟩
end Go.Proofs.YtkifkjgkdfnhcaaDoor.Vw
