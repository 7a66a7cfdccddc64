/- view.State: its lines. (Printed by gen_v26.py.) -/
import Derived.Test.YtkifkjgkdfnhcaaDoorV25
import Derived.Test.YtkifkjgkdfnhcaaDoorV7
import Derived.Deep.Onto
namespace Go.Proofs.YtkifkjgkdfnhcaaDoor.Vw
open Go.RowKit Go.Sort Go.Lib Go.Shelf
attribute [local go_sem ↓] Go.wp_at_zero Go.wp_at_succ

noncomputable def dayV (s : St) : Value := .string (str (cat [100, 97, 121, 32] (dayL s.day)))
noncomputable def lineV (l : Ln) : Value := .string (str (loanL l))
noncomputable def blineV (x : Bl) : Value := .string (str (billL x.month x.amount x.left x.covered))
/-- An append at a step of a region that draws its order. -/
theorem step_append_run {ops : Array Oper} {o : Oper} {a : Act} {K : Act → World → Prop} {Q : Exit → Act → World → Prop} {E : Prop} {W : World} {F : Value → World → Prop} (hgd : o.guard = none) (s x : Operand) (t : TypeId)
    (ho : o.op = .call { callee := .builtin .append, args := #[s, x], argTypes := #[t, t] }) (vs vx : Value) (hs : a.eval s = vs) (hx : a.eval x = vx)
    (hex : ∃ v1 w1, (∀ ty, (Builtin.append_ #[t, t] ty #[vs, vx]).run Tryd.prog W = .ok v1 w1) ∧ F v1 w1) (h : ∀ v1 w1, F v1 w1 → K (a.put o.dst v1) w1) :
    if Region.wanted o (yielded ops a.tmps) = true then Oper.wp Tryd.prog o a W K Q else E := by
  have hw : Region.wanted o (yielded ops a.tmps) = true := by simp [Region.wanted, hgd]
  rw [if_pos hw]
  obtain ⟨v1, w1, hrun, hF⟩ := hex
  unfold Oper.wp execOp
  simp only [ho, resolve, invoke, builtin, Sem.run_bind, Sem.run_pure, Result.andThen_ok, List.map_toArray, List.map_cons, List.map_nil, hs, hx, hrun]
  exact h _ _ hF
set_option maxRecDepth 20000 in
set_option maxHeartbeats 16000000 in
theorem state_calls (s : St) (ho : OkSt s) (w : World) (hS : StIn w s) (htab : Tab w) :
    Calls Tryd.prog 17 #[s.v] w fun e w' => (∃ (v last : Value), e = .returned v ∧ w'.ownsRow (w.heap.size + 1) 9 1 v (2 + s.loans.length + s.bills.length) (dayV s :: (s.loans.map lineV ++ (s.bills.map blineV ++ [last])))) ∧ Below w.heap.size w w' := by
  obtain ⟨i0, hi, hz0, hz1, hz2⟩ := info_parts info9
  have HOk := Lib.hid ho
  have hal := (Below.refl w.heap.size w).alloc (Nat.le_refl _) (.cells s.cells 41)
  have hx1 := Blk.new w 41 s.cells
  have hs1 := hS.below hal
  have ht1 := htab.below hal
  have HZ : Hid ((w.alloc (.cells s.cells 41)).heap.size = w.heap.size + 1) := Lib.hid (by simp)
  have HP := Lib.hid (fun W (hB : Below (w.alloc (.cells s.cells 41)).heap.size (w.alloc (.cells s.cells 41)) W) => And.intro (hx1.below hB) (And.intro (hs1.below hB) (ht1.below hB)))
  have HBa := Lib.hid hal
  clear hal hx1 hs1 ht1 hS htab ho
  go_enter Tryd.func17, Tryd.ntmps17
  go_upto_region 1 with fail
  generalize w.alloc (.cells s.cells 41) = w1 at *
  generalize hg : w.heap.size = g at *
  have HG := Lib.hid hg
  clear hg
  have hP1 := HP.out w1 (Below.refl _ _)
  have x0 : w1.cell? ⟨g, 0, none⟩ = some (.int .i64 s.day) := hP1.1.cell 0
  have HD := Lib.hid (vday_calls s.day w1 hP1.2.2)
  clear hP1
  go_wp2_with fail
  refine HD.out.mono ?_
  rintro e w2 ⟨rfl, hb2⟩
  have HB2 := Lib.hid hb2
  have hal := (Below.refl w2.heap.size w2).alloc (Nat.le_refl _) (.cells #[dayV s] 9)
  have HB3 := Lib.hid (HB2.out.trans (hal.mono HB2.out.size))
  have HO3 := Lib.hid (World.ownsRow.mono (own_build w2 (dayV s)) HB2.out.size)
  have a1 := add_cat [100, 97, 121, 32] (dayL s.day) (by have := day_len s.day; simp; omega)
  clear hb2 x0 hal
  go_upto_region 2 with fail
  clear a1
  change Code.wp _ _ _ _ (w2.alloc (.cells #[dayV s] 9))
  generalize w2.alloc (.cells #[dayV s] 9) = w3 at *
  have x1 : w3.cell? ⟨g, 1, none⟩ = some (.slice s.lp s.loans.length s.lc) := (HP.out w3 HB3.out).1.cell 1
  go_wp2_with fail
  clear x1
  go_loopw [3, 16] (fun v i wr => ∃ k : Nat, k ≤ s.loans.length ∧ i = .int .i64 (k : Int) ∧ wr.ownsRow w1.heap.size 9 1 v (1 + k) (dayV s :: (s.loans.take k).map lineV) ∧ Below w1.heap.size w1 wr) (fun _ i _ => s.loans.length - (RowKit.intOf i).toNat)
  case atStart => exact ⟨0, Nat.zero_le _, rfl, HO3.out, HB3.out⟩
  case round =>
    obtain ⟨k, hk, rfl, hown, hB⟩ := hrel
    have HO := Lib.hid hown
    have HB := Lib.hid hB
    by_cases h2 : k < s.loans.length
    · obtain ⟨l, hx⟩ : ∃ x, s.loans[k]? = some x := ⟨s.loans[k], by rw [List.getElem?_eq_getElem h2]⟩
      have HXk := Lib.hid hx
      obtain ⟨b, off, hp, hb, hc⟩ := ((HP.out wr hB).2.1.loans).at (i := k) (by simpa using h2)
      have HCp := Lib.hid hp
      have hcell : ∀ j, j < 13 → wr.cell? ⟨b, off + k * 13 + j, none⟩ = l.cells[j]? := fun j hj => hc k l.cells (by rw [List.getElem?_map, hx]; rfl) j hj
      have a0 : wr.cell? ⟨b, off + k * 13, none⟩ = some (.int .i64 l.id) := hcell 0 (by decide)
      have a1 : wr.cell? ⟨b, off + k * 13 + 1, none⟩ = some (.int .i64 l.principal) := hcell 1 (by decide)
      have a2 : wr.cell? ⟨b, off + k * 13 + 2, none⟩ = some (.int .i64 l.interest) := hcell 2 (by decide)
      have a3 : wr.cell? ⟨b, off + k * 13 + 3, none⟩ = some (.int .i64 l.subsidy) := hcell 3 (by decide)
      have a4 : wr.cell? ⟨b, off + k * 13 + 4, none⟩ = some (.int .i64 l.fees) := hcell 4 (by decide)
      have a5 : wr.cell? ⟨b, off + k * 13 + 5, none⟩ = some (.int .i64 l.ppm) := hcell 5 (by decide)
      have a6 : wr.cell? ⟨b, off + k * 13 + 6, none⟩ = some (.bool l.sub) := hcell 6 (by decide)
      have a7 : wr.cell? ⟨b, off + k * 13 + 7, none⟩ = some (.int .i64 l.status) := hcell 7 (by decide)
      have a8 : wr.cell? ⟨b, off + k * 13 + 8, none⟩ = some (.int .i64 l.closed) := hcell 8 (by decide)
      have a9 : wr.cell? ⟨b, off + k * 13 + 9, none⟩ = some (.int .i64 l.entered) := hcell 9 (by decide)
      have a10 : wr.cell? ⟨b, off + k * 13 + 10, none⟩ = some (.int .i64 l.level) := hcell 10 (by decide)
      have a11 : wr.cell? ⟨b, off + k * 13 + 11, none⟩ = some (.int .i64 l.far) := hcell 11 (by decide)
      have a12 : wr.cell? ⟨b, off + k * 13 + 12, none⟩ = some (.int .i64 l.count) := hcell 12 (by decide)
      have HCl := Lib.hid (fun W (hT : Tab W) => vloan_calls l (HOk.out.loans l (List.mem_of_getElem? hx)) W hT)
      have hk0 : (0 : Int) ≤ (k : Int) := by omega
      have hk1 : (k : Int) < (s.loans.length : Int) := by omega
      have HX := Lib.hid (Blk.new wr 23 l.cells)
      have hal := (Below.refl wr.heap.size wr).alloc (Nat.le_refl _) (.cells l.cells 23)
      have HB1 := Lib.hid (hB.trans (hal.mono hB.size))
      have HO1 := Lib.hid (hown.alloc (.cells l.cells 23))
      clear hal hcell hx hc hb hown hB
      rw [hp]
      clear hp
      go_upto_region 5 with fail
      clear a0 a1 a2 a3 a4 a5 a6 a7 a8 a9 a10 a11 a12
      generalize wr.alloc (.cells l.cells 23) = w2 at *
      generalize wr.heap.size = g6 at *
      have k0 : w2.cell? ⟨g6, 0, none⟩ = some (.int .i64 l.id) := HX.out.cell 0
      have k1 : w2.cell? ⟨g6, 1, none⟩ = some (.int .i64 l.principal) := HX.out.cell 1
      have k2 : w2.cell? ⟨g6, 2, none⟩ = some (.int .i64 l.interest) := HX.out.cell 2
      have k3 : w2.cell? ⟨g6, 3, none⟩ = some (.int .i64 l.subsidy) := HX.out.cell 3
      have k4 : w2.cell? ⟨g6, 4, none⟩ = some (.int .i64 l.fees) := HX.out.cell 4
      have k5 : w2.cell? ⟨g6, 5, none⟩ = some (.int .i64 l.ppm) := HX.out.cell 5
      have k6 : w2.cell? ⟨g6, 6, none⟩ = some (.bool l.sub) := HX.out.cell 6
      have k7 : w2.cell? ⟨g6, 7, none⟩ = some (.int .i64 l.status) := HX.out.cell 7
      have k8 : w2.cell? ⟨g6, 8, none⟩ = some (.int .i64 l.closed) := HX.out.cell 8
      have k9 : w2.cell? ⟨g6, 9, none⟩ = some (.int .i64 l.entered) := HX.out.cell 9
      have k10 : w2.cell? ⟨g6, 10, none⟩ = some (.int .i64 l.level) := HX.out.cell 10
      have k11 : w2.cell? ⟨g6, 11, none⟩ = some (.int .i64 l.far) := HX.out.cell 11
      have k12 : w2.cell? ⟨g6, 12, none⟩ = some (.int .i64 l.count) := HX.out.cell 12
      go_wp2_with fail
      refine (HCl.out _ (HP.out _ HB1.out).2.2).mono ?_
      rintro e w3 ⟨rfl, hb3⟩
      have HB3 := Lib.hid (HB1.out.trans (hb3.mono HB1.out.size))
      have HO3 := Lib.hid (own_below HO1.out hb3)
      have hal := (Below.refl w3.heap.size w3).alloc (Nat.le_refl _) (.cells #[.string (str (loanL l))] 9)
      have HB4 := Lib.hid (HB3.out.trans (hal.mono HB3.out.size))
      have HO4 := Lib.hid (HO3.out.alloc (.cells #[.string (str (loanL l))] 9))
      have HN := Lib.hid (Blk.new w3 9 #[.string (str (loanL l))])
      clear hb3 hal HO1 k0 k1 k2 k3 k4 k5 k6 k7 k8 k9 k10 k11 k12
      have hnl := HOk.out.nl
      have hnb := HOk.out.nb
      go_wp2_with (at_builtin; refine Hid.out ?_)
      refine Lib.hid ?_
      refine wpList_append_own _ rfl (.tmp 20) (.tmp 23) 43 rfl w1.heap.size 9 i0 (.string ⟨#[]⟩) 1 16 Tryd.underlying43 hi hz0 hz1 hz2 rfl (by decide) _ (1 + k) _ rfl HO4.out ⟨w3.heap.size, 0, none⟩ 1 1 [.string (str (loanL l))] rfl rfl (by intro j u hu; have hc := HN.out.cell j; have e : (⟨w3.heap.size, 0, none⟩ : Addr).add j = ⟨w3.heap.size, j, none⟩ := (by unfold Addr.add; split <;> simp_all); rw [e, hc]; simpa using hu) (by intro u hu; simp at hu; subst hu; rfl) (by unfold maxLen; omega) (by omega) HB4.out.size ?_
      intro v' w5 hown5 hgrow5 _
      have HO5 : Hid (w5.ownsRow w1.heap.size 9 1 v' (1 + (k + 1)) (dayV s :: (s.loans.take (k + 1)).map lineV)) := Lib.hid (by
        rw [List.take_add_one, HXk.out, List.map_append]
        exact hown5)
      have HB5 : Hid (Below w1.heap.size w1 w5) := Lib.hid (HB4.out.grown hgrow5 HB4.out.size (fun g hg => (HO4.out.lt g hg).1))
      clear hown5 hgrow5
      go_wp2_with fail
      go_roundw
      case rel => exact ⟨k + 1, by omega, by go_num, HO5.out, HB5.out⟩
      case measure => simp [RowKit.intOf]; omega
    · have hke : k = s.loans.length := by omega
      rw [hke, List.take_length] at hown
      have HO := Lib.hid hown
      clear hown hke hk
      have x6 : wr.cell? ⟨g, 6, none⟩ = some (.slice s.bp s.bills.length s.bc) := (HP.out wr HB.out).1.cell 6
      clear hB
      go_wp2_with fail
      clear x6 h2
      go_loopw [3, 29] (fun v i wr => ∃ k : Nat, k ≤ s.bills.length ∧ i = .int .i64 (k : Int) ∧ wr.ownsRow w1.heap.size 9 1 v (1 + s.loans.length + k) (dayV s :: (s.loans.map lineV ++ (s.bills.take k).map blineV)) ∧ Below w1.heap.size w1 wr) (fun _ i _ => s.bills.length - (RowKit.intOf i).toNat)
      case atStart => exact ⟨0, Nat.zero_le _, rfl, by simpa using HO.out, HB.out⟩
      case round =>
        obtain ⟨k, hk, rfl, hown, hB⟩ := hrel
        have HO := Lib.hid hown
        have HB := Lib.hid hB
        by_cases h2 : k < s.bills.length
        · obtain ⟨x, hx⟩ : ∃ x, s.bills[k]? = some x := ⟨s.bills[k], by rw [List.getElem?_eq_getElem h2]⟩
          have HXk := Lib.hid hx
          obtain ⟨b, off, hp, hb, hc⟩ := ((HP.out wr hB).2.1.bills).at (i := k) (by simpa using h2)
          have HCp := Lib.hid hp
          have hcell : ∀ j, j < 6 → wr.cell? ⟨b, off + k * 6 + j, none⟩ = x.cells[j]? := fun j hj => hc k x.cells (by rw [List.getElem?_map, hx]; rfl) j hj
          have a0 : wr.cell? ⟨b, off + k * 6, none⟩ = some (.int .i64 x.month) := hcell 0 (by decide)
          have a1 : wr.cell? ⟨b, off + k * 6 + 1, none⟩ = some (.int .i64 x.amount) := hcell 1 (by decide)
          have a2 : wr.cell? ⟨b, off + k * 6 + 2, none⟩ = some (.int .i64 x.left) := hcell 2 (by decide)
          have a3 : wr.cell? ⟨b, off + k * 6 + 3, none⟩ = some (.int .i64 x.covered) := hcell 3 (by decide)
          have a4 : wr.cell? ⟨b, off + k * 6 + 4, none⟩ = some (.int .i64 x.plan) := hcell 4 (by decide)
          have a5 : wr.cell? ⟨b, off + k * 6 + 5, none⟩ = some (.slice x.sp x.sn x.sc) := hcell 5 (by decide)
          have hob := HOk.out.bills x (List.mem_of_getElem? hx)
          have HCl := Lib.hid (fun W (hT : Tab W) => vbill_calls x.month x.amount x.left x.covered (.int .i64 x.plan) (.slice x.sp x.sn x.sc) hob.month hob.amount hob.left W hT)
          clear hob
          have hk0 : (0 : Int) ≤ (k : Int) := by omega
          have hk1 : (k : Int) < (s.bills.length : Int) := by omega
          have HX := Lib.hid (Blk.new wr 26 x.cells)
          have hal := (Below.refl wr.heap.size wr).alloc (Nat.le_refl _) (.cells x.cells 26)
          have HB1 := Lib.hid (hB.trans (hal.mono hB.size))
          have HO1 := Lib.hid (hown.alloc (.cells x.cells 26))
          clear hal hcell hx hc hb hown hB
          rw [hp]
          clear hp
          go_upto_region 10 with fail
          clear a0 a1 a2 a3 a4 a5
          generalize wr.alloc (.cells x.cells 26) = w2 at *
          generalize wr.heap.size = g6 at *
          have k0 : w2.cell? ⟨g6, 0, none⟩ = some (.int .i64 x.month) := HX.out.cell 0
          have k1 : w2.cell? ⟨g6, 1, none⟩ = some (.int .i64 x.amount) := HX.out.cell 1
          have k2 : w2.cell? ⟨g6, 2, none⟩ = some (.int .i64 x.left) := HX.out.cell 2
          have k3 : w2.cell? ⟨g6, 3, none⟩ = some (.int .i64 x.covered) := HX.out.cell 3
          have k4 : w2.cell? ⟨g6, 4, none⟩ = some (.int .i64 x.plan) := HX.out.cell 4
          have k5 : w2.cell? ⟨g6, 5, none⟩ = some (.slice x.sp x.sn x.sc) := HX.out.cell 5
          go_wp2_with fail
          refine (HCl.out _ (HP.out _ HB1.out).2.2).mono ?_
          rintro e w3 ⟨rfl, hb3⟩
          have HB3 := Lib.hid (HB1.out.trans (hb3.mono HB1.out.size))
          have HO3 := Lib.hid (own_below HO1.out hb3)
          have hal := (Below.refl w3.heap.size w3).alloc (Nat.le_refl _) (.cells #[.string (str (billL x.month x.amount x.left x.covered))] 9)
          have HB4 := Lib.hid (HB3.out.trans (hal.mono HB3.out.size))
          have HO4 := Lib.hid (HO3.out.alloc (.cells #[.string (str (billL x.month x.amount x.left x.covered))] 9))
          have HN := Lib.hid (Blk.new w3 9 #[.string (str (billL x.month x.amount x.left x.covered))])
          clear hb3 hal HO1 k0 k1 k2 k3 k4 k5
          have hnl := HOk.out.nl
          have hnb := HOk.out.nb
          go_wp2_with (at_builtin; refine Hid.out ?_)
          refine Lib.hid ?_
          refine wpList_append_own _ rfl (.tmp 33) (.tmp 36) 43 rfl w1.heap.size 9 i0 (.string ⟨#[]⟩) 1 16 Tryd.underlying43 hi hz0 hz1 hz2 rfl (by decide) _ (1 + s.loans.length + k) _ rfl HO4.out ⟨w3.heap.size, 0, none⟩ 1 1 [.string (str (billL x.month x.amount x.left x.covered))] rfl rfl (by intro j u hu; have hc := HN.out.cell j; have e : (⟨w3.heap.size, 0, none⟩ : Addr).add j = ⟨w3.heap.size, j, none⟩ := (by unfold Addr.add; split <;> simp_all); rw [e, hc]; simpa using hu) (by intro u hu; simp at hu; subst hu; rfl) (by unfold maxLen; omega) (by omega) HB4.out.size ?_
          intro v' w5 hown5 hgrow5 _
          have HO5 : Hid (w5.ownsRow w1.heap.size 9 1 v' (1 + s.loans.length + (k + 1)) (dayV s :: (s.loans.map lineV ++ (s.bills.take (k + 1)).map blineV))) := Lib.hid (by
            rw [List.take_add_one, HXk.out, List.map_append, ← List.append_assoc]
            exact hown5)
          have HB5 : Hid (Below w1.heap.size w1 w5) := Lib.hid (HB4.out.grown hgrow5 HB4.out.size (fun g hg => (HO4.out.lt g hg).1))
          clear hown5 hgrow5
          go_wp2_with fail
          go_roundw
          case rel => exact ⟨k + 1, by omega, by go_num, HO5.out, HB5.out⟩
          case measure => simp [RowKit.intOf]; omega
        · have hke : k = s.bills.length := by omega
          rw [hke, List.take_length] at hown
          have HO := Lib.hid hown
          have HB := Lib.hid hB
          clear hown hke hk hB
          go_upto_region 12 with fail
          have HKE : Hid (∀ w' : World, Below wr.heap.size wr w' → (w'.cell? ⟨g, 0, none⟩ = some (.int .i64 s.day) ∧ w'.cell? ⟨g, 1, none⟩ = some (.slice s.lp s.loans.length s.lc) ∧ w'.cell? ⟨g, 2, none⟩ = some (.int .i64 s.plan) ∧ w'.cell? ⟨g, 3, none⟩ = some (.int .i64 s.since) ∧ w'.cell? ⟨g, 4, none⟩ = some (.int .i64 s.income) ∧ w'.cell? ⟨g, 5, none⟩ = some (.int .i64 s.family) ∧ w'.cell? ⟨g, 6, none⟩ = some (.slice s.bp s.bills.length s.bc) ∧ w'.cell? ⟨g, 7, none⟩ = some (.int .i64 s.ahead) ∧ w'.cell? ⟨g, 8, none⟩ = some (.int .i64 s.p0) ∧ w'.cell? ⟨g, 9, none⟩ = some (.int .i64 s.p1) ∧ w'.cell? ⟨g, 10, none⟩ = some (.int .i64 s.p2) ∧ w'.cell? ⟨g, 11, none⟩ = some (.int .i64 s.p3) ∧ w'.cell? ⟨g, 12, none⟩ = some (.int .i64 s.written))) := Lib.hid (fun w' hB => by
            have q := ((HP.out wr HB.out).1).below hB
            exact ⟨q.cell 0, q.cell 1, q.cell 2, q.cell 3, q.cell 4, q.cell 5, q.cell 6, q.cell 7, q.cell 8, q.cell 9, q.cell 10, q.cell 11, q.cell 12⟩)
          have HKE1 : Hid (∀ w' : World, Below w1.heap.size w1 w' → (w'.cell? ⟨g, 0, none⟩ = some (.int .i64 s.day) ∧ w'.cell? ⟨g, 1, none⟩ = some (.slice s.lp s.loans.length s.lc) ∧ w'.cell? ⟨g, 2, none⟩ = some (.int .i64 s.plan) ∧ w'.cell? ⟨g, 3, none⟩ = some (.int .i64 s.since) ∧ w'.cell? ⟨g, 4, none⟩ = some (.int .i64 s.income) ∧ w'.cell? ⟨g, 5, none⟩ = some (.int .i64 s.family) ∧ w'.cell? ⟨g, 6, none⟩ = some (.slice s.bp s.bills.length s.bc) ∧ w'.cell? ⟨g, 7, none⟩ = some (.int .i64 s.ahead) ∧ w'.cell? ⟨g, 8, none⟩ = some (.int .i64 s.p0) ∧ w'.cell? ⟨g, 9, none⟩ = some (.int .i64 s.p1) ∧ w'.cell? ⟨g, 10, none⟩ = some (.int .i64 s.p2) ∧ w'.cell? ⟨g, 11, none⟩ = some (.int .i64 s.p3) ∧ w'.cell? ⟨g, 12, none⟩ = some (.int .i64 s.written))) := Lib.hid (fun w' hB => by
            have q := (HP.out w' hB).1
            exact ⟨q.cell 0, q.cell 1, q.cell 2, q.cell 3, q.cell 4, q.cell 5, q.cell 6, q.cell 7, q.cell 8, q.cell 9, q.cell 10, q.cell 11, q.cell 12⟩)
          have HLa := Lib.hid (fun W (hB : Below wr.heap.size wr W) => vlate_calls s HOk.out W ((HP.out wr HB.out).2.1.below hB))
          have HMo := Lib.hid (fun W (hB : Below wr.heap.size wr W) => vmoney_calls s.ahead HOk.out.ahead.1 HOk.out.ahead.2 W ((HP.out wr HB.out).2.2.below hB))
          have HIt := Lib.hid (fun n (h1 : -9223372036854775808 ≤ n) (h2 : n ≤ 9223372036854775807) W (hB : Below wr.heap.size wr W) => itoa_calls n h1 h2 W ((HP.out wr HB.out).2.2.below hB))
          have l1 := money_len s.ahead HOk.out.ahead.1 HOk.out.ahead.2
          generalize moneyL s.ahead = A1 at *
          have HK := Lib.hid (fun n (h1 : -9223372036854775808 ≤ n) (h2 : n ≤ 9223372036854775807) W => join_calls [[97, 104, 101, 97, 100], A1, [108, 97, 116, 101], Lib.itoa n] 4 rfl #[.string (str [97, 104, 101, 97, 100]), .string (str A1), .string (str [108, 97, 116, 101]), .string (str (Lib.itoa n))] rfl (by have := itoa_len n h1 h2; simp [Lib.join]; omega) (by decide) W)
          have e0 := (Below.refl wr.heap.size wr).drew
          have hnl := HOk.out.nl
          have hnb := HOk.out.nb
          have HLen : Hid (1 + s.loans.length + s.bills.length ≤ 1000000) := Lib.hid (by omega)
          clear l1 hnl hnb
          go_region_held3 (fun w' => w'.cell? ⟨g, 0, none⟩ = some (.int .i64 s.day) ∧ w'.cell? ⟨g, 1, none⟩ = some (.slice s.lp s.loans.length s.lc) ∧ w'.cell? ⟨g, 2, none⟩ = some (.int .i64 s.plan) ∧ w'.cell? ⟨g, 3, none⟩ = some (.int .i64 s.since) ∧ w'.cell? ⟨g, 4, none⟩ = some (.int .i64 s.income) ∧ w'.cell? ⟨g, 5, none⟩ = some (.int .i64 s.family) ∧ w'.cell? ⟨g, 6, none⟩ = some (.slice s.bp s.bills.length s.bc) ∧ w'.cell? ⟨g, 7, none⟩ = some (.int .i64 s.ahead) ∧ w'.cell? ⟨g, 8, none⟩ = some (.int .i64 s.p0) ∧ w'.cell? ⟨g, 9, none⟩ = some (.int .i64 s.p1) ∧ w'.cell? ⟨g, 10, none⟩ = some (.int .i64 s.p2) ∧ w'.cell? ⟨g, 11, none⟩ = some (.int .i64 s.p3) ∧ w'.cell? ⟨g, 12, none⟩ = some (.int .i64 s.written)) (first | exact HKE.out _ (by first | assumption | exact Below.alloc (by assumption) (Below.size (by assumption)) _) | exact HKE1.out _ (by assumption) | go_keep)
            (first
              | ((refine step_append_run (by rfl) (.tmp 39) (.tmp 48) _ (by rfl) _ _ (by rfl) (by rfl) (app_str w1.heap.size _ _ _ p4.heap.size _ (p4.alloc _) (own_below HO.out (e4.alloc e4.size _)) (by exact (Blk.new p4 9 _).cell 0) (Nat.le_trans (HB.out.trans (e4.mono HB.out.size)).size (by simp)) HLen.out) ?_; rintro v1 p5 ⟨f1, f2⟩; have e5 : Below w1.heap.size w1 p5 := (HB.out.trans ((e4.alloc e4.size _).mono HB.out.size)).trans f2))
              | ((go_at_call 25; (with_reducible refine (HK.out n hn1 hn2 p3).mono ?_); rintro r p4 ⟨rfl, b4⟩; have e4 : Below wr.heap.size wr p4 := e3.trans (b4.mono e3.size)))
              | ((go_at_call 26; (with_reducible refine (HIt.out n hn1 hn2 p2 e2).mono ?_); rintro r p3 ⟨rfl, b3⟩; have e3 : Below wr.heap.size wr p3 := e2.trans (b3.mono e2.size)))
              | ((go_at_call 32; (with_reducible refine (HLa.out p1 e1).mono ?_); rintro r p2 ⟨⟨n, rfl, hn1, hn2⟩, b2⟩; have e2 : Below wr.heap.size wr p2 := e1.trans (b2.mono e1.size)))
              | ((go_at_call 6; (with_reducible refine (HMo.out wr.drew e0).mono ?_); rintro r p1 ⟨rfl, b1⟩; have e1 : Below wr.heap.size wr p1 := e0.trans (b1.mono e0.size))))
          have HB9 := Lib.hid (HBa.out.trans (e5.mono (by rw [HZ.out]; omega)))
          have HF : Hid (p5.ownsRow (g + 1) 9 1 v1 (2 + s.loans.length + s.bills.length) (dayV s :: (s.loans.map lineV ++ (s.bills.map blineV ++ [.string (str (Lib.join [[97, 104, 101, 97, 100], A1, [108, 97, 116, 101], Lib.itoa n] sp))])))) := Lib.hid (by
            rw [← HZ.out, show 2 + s.loans.length + s.bills.length = 1 + s.loans.length + s.bills.length + 1 by omega]
            simpa using f1)
          clear f1 f2
          go_wp2_with fail
          go_ret
          exact ⟨⟨v1, _, rfl, by rw [HG.out]; exact HF.out⟩, by rw [HG.out]; exact HB9.out⟩
end Go.Proofs.YtkifkjgkdfnhcaaDoor.Vw
