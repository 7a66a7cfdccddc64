/- ViewWords walked. (Printed by gen_v16.py.) -/
import Derived.Test.YtkifkjgkdfnhcaaDoorV15
namespace Go.Proofs.YtkifkjgkdfnhcaaDoor.Vw
open Go.RowKit Go.Sort Go.Lib Go.Shelf
attribute [local go_sem ↓] Go.wp_at_zero Go.wp_at_succ

theorem beq_self (s : ByteArray) : (s.toList == s.toList) = true := by simp
set_option maxRecDepth 20000 in
set_option maxHeartbeats 16000000 in
theorem words_walk (c day : Int) (l : Ln) (hc : -9223372036854775808 ≤ c ∧ c ≤ 9223372036854775807) (ho : OkLn l) (w : World) (htab : Tab w) :
    Calls Tryd.prog 3 #[.int .i64 c, .int .i64 day, l.v] w fun e w' => e = .returned (.bool true) ∧ Below w.heap.size w w' := by
  have HK0 := Lib.hid (Blk.new w 23 l.cells)
  have hb0 := (Below.refl w.heap.size w).alloc (Nat.le_refl _) (.cells l.cells 23)
  have HB0 := Lib.hid hb0
  have HT0 := Lib.hid (htab.below hb0)
  clear hb0 htab
  have H6 := Lib.hid (fun W (hW : Tab W) => vmoney_calls c hc.1 hc.2 W hW)
  have H7 := Lib.hid (fun W => flip (rmoney_calls c hc.1 hc.2 W))
  have H8 := Lib.hid (fun W (hW : Tab W) => vday_calls day W hW)
  have H9 := Lib.hid (fun W => rday_calls day W)
  have H10 := Lib.hid (fun W (hW : Tab W) => vloan_calls l ho W hW)
  have H11 := Lib.hid (fun W => rloan_calls l ho W)
  have H12 := Lib.hid (fun W (hW : Tab W) => vbill_calls l.id l.fees l.principal day (.int .i64 0) (.slice none 0 0) ho.id ho.fees ho.principal W hW)
  have H13 := Lib.hid (fun W => rbill_calls l.id l.fees l.principal day (.int .i64 0) (.slice none 0 0) ho.id ho.fees ho.principal W)
  have H14 := Lib.hid (fun W (hW : Tab W) => wakes_calls W hW)
  generalize str (moneyL c) = s1 at *
  generalize str (dayL day) = s2 at *
  generalize str (loanL l) = s3 at *
  generalize str (billL l.id l.fees l.principal day) = s4 at *
  have t1 := beq_self s1
  have t2 := beq_self s2
  have t3 := beq_self s3
  have t4 := beq_self s4
  clear hc ho
  go_enter Tryd.func3, Tryd.ntmps3
  go_upto_region 1 with fail
  generalize w.alloc (.cells l.cells 23) = w0 at *
  generalize hg : w.heap.size = g at *
  have HG := Lib.hid hg
  clear hg
  have k0 : w0.cell? ⟨g, 0, none⟩ = some (.int .i64 l.id) := HK0.out.cell 0
  have k1 : w0.cell? ⟨g, 1, none⟩ = some (.int .i64 l.principal) := HK0.out.cell 1
  have k4 : w0.cell? ⟨g, 4, none⟩ = some (.int .i64 l.fees) := HK0.out.cell 4
  have hal := (Below.refl w0.heap.size w0).alloc (Nat.le_refl _) (.cells #[.int .i64 l.id, .int .i64 l.fees, .int .i64 l.principal, .int .i64 day, .int .i64 0, .slice none 0 0] 26)
  have HBl := Lib.hid (Blk.new w0 26 #[.int .i64 l.id, .int .i64 l.fees, .int .i64 l.principal, .int .i64 day, .int .i64 0, .slice none 0 0])
  have HK := Lib.hid (HK0.out.below hal)
  have HT := Lib.hid (HT0.out.below hal)
  have HB := Lib.hid (HB0.out.trans (hal.mono (HG.out ▸ HB0.out.size)))
  clear hal
  go_upto_region 2 with fail
  generalize w0.alloc (.cells #[.int .i64 l.id, .int .i64 l.fees, .int .i64 l.principal, .int .i64 day, .int .i64 0, .slice none 0 0] 26) = w1 at *
  generalize w0.heap.size = gb at *
  clear k0 k1 k4 HK0 HB0 HT0
  have HKE : Hid (∀ w' : World, Below w1.heap.size w1 w' → (w'.cell? ⟨g, 0, none⟩ = some (.int .i64 l.id) ∧ w'.cell? ⟨g, 1, none⟩ = some (.int .i64 l.principal) ∧ w'.cell? ⟨g, 2, none⟩ = some (.int .i64 l.interest) ∧ w'.cell? ⟨g, 3, none⟩ = some (.int .i64 l.subsidy) ∧ w'.cell? ⟨g, 4, none⟩ = some (.int .i64 l.fees) ∧ w'.cell? ⟨g, 5, none⟩ = some (.int .i64 l.ppm) ∧ w'.cell? ⟨g, 6, none⟩ = some (.bool l.sub) ∧ w'.cell? ⟨g, 7, none⟩ = some (.int .i64 l.status) ∧ w'.cell? ⟨g, 8, none⟩ = some (.int .i64 l.closed) ∧ w'.cell? ⟨g, 9, none⟩ = some (.int .i64 l.entered) ∧ w'.cell? ⟨g, 10, none⟩ = some (.int .i64 l.level) ∧ w'.cell? ⟨g, 11, none⟩ = some (.int .i64 l.far) ∧ w'.cell? ⟨g, 12, none⟩ = some (.int .i64 l.count) ∧ w'.cell? ⟨gb, 0, none⟩ = some (.int .i64 l.id) ∧ w'.cell? ⟨gb, 1, none⟩ = some (.int .i64 l.fees) ∧ w'.cell? ⟨gb, 2, none⟩ = some (.int .i64 l.principal) ∧ w'.cell? ⟨gb, 3, none⟩ = some (.int .i64 day) ∧ w'.cell? ⟨gb, 4, none⟩ = some (.int .i64 0) ∧ w'.cell? ⟨gb, 5, none⟩ = some (.slice none 0 0))) := Lib.hid (fun w' hB => ⟨(HK.out.below hB).cell 0, (HK.out.below hB).cell 1, (HK.out.below hB).cell 2, (HK.out.below hB).cell 3, (HK.out.below hB).cell 4, (HK.out.below hB).cell 5, (HK.out.below hB).cell 6, (HK.out.below hB).cell 7, (HK.out.below hB).cell 8, (HK.out.below hB).cell 9, (HK.out.below hB).cell 10, (HK.out.below hB).cell 11, (HK.out.below hB).cell 12, (HBl.out.below hB).cell 0, (HBl.out.below hB).cell 1, (HBl.out.below hB).cell 2, (HBl.out.below hB).cell 3, (HBl.out.below hB).cell 4, (HBl.out.below hB).cell 5⟩)
  have e0 := (Below.refl w1.heap.size w1).drew
  go_region_held3 (fun w' => w'.cell? ⟨g, 0, none⟩ = some (.int .i64 l.id) ∧ w'.cell? ⟨g, 1, none⟩ = some (.int .i64 l.principal) ∧ w'.cell? ⟨g, 2, none⟩ = some (.int .i64 l.interest) ∧ w'.cell? ⟨g, 3, none⟩ = some (.int .i64 l.subsidy) ∧ w'.cell? ⟨g, 4, none⟩ = some (.int .i64 l.fees) ∧ w'.cell? ⟨g, 5, none⟩ = some (.int .i64 l.ppm) ∧ w'.cell? ⟨g, 6, none⟩ = some (.bool l.sub) ∧ w'.cell? ⟨g, 7, none⟩ = some (.int .i64 l.status) ∧ w'.cell? ⟨g, 8, none⟩ = some (.int .i64 l.closed) ∧ w'.cell? ⟨g, 9, none⟩ = some (.int .i64 l.entered) ∧ w'.cell? ⟨g, 10, none⟩ = some (.int .i64 l.level) ∧ w'.cell? ⟨g, 11, none⟩ = some (.int .i64 l.far) ∧ w'.cell? ⟨g, 12, none⟩ = some (.int .i64 l.count) ∧ w'.cell? ⟨gb, 0, none⟩ = some (.int .i64 l.id) ∧ w'.cell? ⟨gb, 1, none⟩ = some (.int .i64 l.fees) ∧ w'.cell? ⟨gb, 2, none⟩ = some (.int .i64 l.principal) ∧ w'.cell? ⟨gb, 3, none⟩ = some (.int .i64 day) ∧ w'.cell? ⟨gb, 4, none⟩ = some (.int .i64 0) ∧ w'.cell? ⟨gb, 5, none⟩ = some (.slice none 0 0)) (first | exact HKE.out _ (by assumption) | go_keep)
    (first
      | ((go_at_call 14; (with_reducible refine (H14.out p7 (HT.out.below ep7)).mono ?_); rintro r p8 ⟨rfl, bp8⟩; have ep8 : Below w1.heap.size w1 p8 := ep7.trans (bp8.mono ep7.size)))
      | ((go_at_call 13; (with_reducible refine (H13.out p6 ).mono ?_); rintro r p7 ⟨rfl, bp7⟩; have ep7 : Below w1.heap.size w1 p7 := ep6.trans (bp7.mono ep6.size)))
      | ((go_at_call 12; (with_reducible refine (H12.out p5 (HT.out.below ep5)).mono ?_); rintro r p6 ⟨rfl, bp6⟩; have ep6 : Below w1.heap.size w1 p6 := ep5.trans (bp6.mono ep5.size)))
      | ((go_at_call 11; (with_reducible refine (H11.out p4 ).mono ?_); rintro r p5 ⟨rfl, bp5⟩; have ep5 : Below w1.heap.size w1 p5 := ep4.trans (bp5.mono ep4.size)))
      | ((go_at_call 10; (with_reducible refine (H10.out p3 (HT.out.below ep3)).mono ?_); rintro r p4 ⟨rfl, bp4⟩; have ep4 : Below w1.heap.size w1 p4 := ep3.trans (bp4.mono ep3.size)))
      | ((go_at_call 9; (with_reducible refine (H9.out p2 ).mono ?_); rintro r p3 ⟨rfl, bp3⟩; have ep3 : Below w1.heap.size w1 p3 := ep2.trans (bp3.mono ep2.size)))
      | ((go_at_call 8; (with_reducible refine (H8.out p1 (HT.out.below ep1)).mono ?_); rintro r p2 ⟨rfl, bp2⟩; have ep2 : Below w1.heap.size w1 p2 := ep1.trans (bp2.mono ep1.size)))
      | ((go_at_call 7; (with_reducible refine (H7.out p1).mono ?_); rintro r pw ⟨rfl, rfl⟩))
      | ((go_at_call 6; (with_reducible refine (H6.out w1.drew (HT.out.below e0)).mono ?_); rintro r p1 ⟨rfl, bp1⟩; have ep1 : Below w1.heap.size w1 p1 := e0.trans (bp1.mono e0.size))))
  have HB9 := Lib.hid (HB.out.trans (ep8.mono (by have := HB.out.size; rw [HG.out] at this; exact this)))
  go_wp2_with fail
  go_ret
  exact ⟨rfl, by rw [HG.out]; exact HB9.out⟩
end Go.Proofs.YtkifkjgkdfnhcaaDoor.Vw
