/- Loans as lines, of both. (Printed by gen_v8.py.) -/
import Derived.Test.YtkifkjgkdfnhcaaDoorV7
namespace Go.Proofs.YtkifkjgkdfnhcaaDoor.Vw
open Go.RowKit Go.Sort Go.Lib Go.Shelf
attribute [local go_sem ↓] Go.wp_at_zero Go.wp_at_succ

theorem flip {f : FuncId} {a : Array Value} {w : World} {x : Ending} (h : Calls Tryd.prog f a w fun e w' => e = x ∧ w' = w) : Calls Tryd.prog f a w fun e w' => e = x ∧ w = w' := h.mono fun _ _ h => ⟨h.1, h.2.symm⟩
set_option maxRecDepth 20000 in
set_option maxHeartbeats 16000000 in
theorem vloan_calls (l : Ln) (ho : OkLn l) (w : World) (htab : Tab w) :
    Calls Tryd.prog 10 #[l.v] w fun e w' => e = .returned (.string (str (loanL l))) ∧ Below w.heap.size w w' := by
  have HR0 := Lib.hid (Blk.new w 23 l.cells)
  have hb0 := (Below.refl w.heap.size w).alloc (Nat.le_refl _) (.cells l.cells 23)
  have HB0 := Lib.hid hb0
  have HT0 := Lib.hid (htab.below hb0)
  clear hb0 htab
  have l1 := itoa_len l.id ho.id.1 ho.id.2
  have l2 := word_len statusW (by decide) l.status
  have l3 := word_len closedW (by decide) l.closed
  have l4 := itoa_len l.ppm ho.ppm.1 ho.ppm.2
  have l5 := money_len l.principal ho.principal.1 ho.principal.2
  have hwi := whole_in l.interest ho.interest.2
  have l6 := money_len (wholeN l.interest) (by omega) hwi.2
  have l7 := money_len l.fees ho.fees.1 ho.fees.2
  have l8 := itoa_len l.count ho.count.1 ho.count.2
  have H1 := Lib.hid (fun W (hW : Tab W) => itoa_calls l.id ho.id.1 ho.id.2 W hW)
  have H2 := Lib.hid (fun b W (hB : Blk W b 58 (strs statusW)) => flip (word_calls b 6 statusW l.status 58 W hB rfl (by decide)))
  have H3 := Lib.hid (fun b W (hB : Blk W b 59 (strs closedW)) => flip (word_calls b 5 closedW l.closed 59 W hB rfl (by decide)))
  have H4 := Lib.hid (fun W (hW : Tab W) => itoa_calls l.ppm ho.ppm.1 ho.ppm.2 W hW)
  have H5 := Lib.hid (fun W (hW : Tab W) => vmoney_calls l.principal ho.principal.1 ho.principal.2 W hW)
  have H6w := Lib.hid (fun W => flip (whole_calls l.interest ho.interest.1 ho.interest.2 W))
  have H6 := Lib.hid (fun W (hW : Tab W) => vmoney_calls (wholeN l.interest) (by omega) hwi.2 W hW)
  have H7 := Lib.hid (fun W (hW : Tab W) => vmoney_calls l.fees ho.fees.1 ho.fees.2 W hW)
  have H8 := Lib.hid (fun W (hW : Tab W) => itoa_calls l.count ho.count.1 ho.count.2 W hW)
  have HJ : Hid (loanL l = Lib.join [[108, 111, 97, 110], Lib.itoa l.id, wordL statusW l.status, wordL closedW l.closed, Lib.itoa l.ppm, moneyL l.principal, moneyL (wholeN l.interest), moneyL l.fees, Lib.itoa l.count] sp) := Lib.hid rfl
  generalize Lib.itoa l.id = A1 at *
  generalize wordL statusW l.status = A2 at *
  generalize wordL closedW l.closed = A3 at *
  generalize Lib.itoa l.ppm = A4 at *
  generalize moneyL l.principal = A5 at *
  generalize moneyL (wholeN l.interest) = A6 at *
  generalize moneyL l.fees = A7 at *
  generalize Lib.itoa l.count = A8 at *
  generalize wholeN l.interest = WI at *
  have HK := Lib.hid (fun W => join_calls [[108, 111, 97, 110], A1, A2, A3, A4, A5, A6, A7, A8] 9 rfl #[.string (str [108, 111, 97, 110]), .string (str A1), .string (str A2), .string (str A3), .string (str A4), .string (str A5), .string (str A6), .string (str A7), .string (str A8)] rfl (by simp [Lib.join_cons, Lib.joinTail]; omega) (by decide) W)
  clear l1 l2 l3 l4 l5 l6 l7 l8 hwi ho
  go_enter Tryd.func10, Tryd.ntmps10
  go_upto_region 1 with fail
  generalize w.alloc (.cells l.cells 23) = w1 at *
  generalize hg : w.heap.size = g at *
  have HG := Lib.hid hg
  clear hg
  have HS2 := Lib.hid (Blk.new w1 58 #[Value.string (str []), .string (str [115, 99, 104, 111, 111, 108]), .string (str [103, 114, 97, 99, 101]), .string (str [100, 101, 102, 101, 114, 109, 101, 110, 116]), .string (str [102, 111, 114, 98, 101, 97, 114]), .string (str [114, 101, 112, 97, 121])])
  have hb := (Below.refl w1.heap.size w1).alloc (Nat.le_refl _) (.cells #[Value.string (str []), .string (str [115, 99, 104, 111, 111, 108]), .string (str [103, 114, 97, 99, 101]), .string (str [100, 101, 102, 101, 114, 109, 101, 110, 116]), .string (str [102, 111, 114, 98, 101, 97, 114]), .string (str [114, 101, 112, 97, 121])] 58)
  have HR2 := Lib.hid (HR0.out.below hb)
  have HT2 := Lib.hid (HT0.out.below hb)
  have HB2 := Lib.hid (HB0.out.trans (hb.mono (HG.out ▸ HB0.out.size)))
  clear hb
  go_upto_region 2 with fail
  generalize w1.alloc (.cells #[Value.string (str []), .string (str [115, 99, 104, 111, 111, 108]), .string (str [103, 114, 97, 99, 101]), .string (str [100, 101, 102, 101, 114, 109, 101, 110, 116]), .string (str [102, 111, 114, 98, 101, 97, 114]), .string (str [114, 101, 112, 97, 121])] 58) = w2 at *
  generalize w1.heap.size = gs at *
  have HS3 := Lib.hid (Blk.new w2 59 #[Value.string (str [111, 112, 101, 110]), .string (str [112, 97, 105, 100]), .string (str [102, 111, 114, 103, 105, 118, 101, 110]), .string (str [100, 105, 115, 99, 104, 97, 114, 103, 101, 100]), .string (str [99, 111, 110, 115, 111, 108, 105, 100, 97, 116, 101, 100])])
  have hb := (Below.refl w2.heap.size w2).alloc (Nat.le_refl _) (.cells #[Value.string (str [111, 112, 101, 110]), .string (str [112, 97, 105, 100]), .string (str [102, 111, 114, 103, 105, 118, 101, 110]), .string (str [100, 105, 115, 99, 104, 97, 114, 103, 101, 100]), .string (str [99, 111, 110, 115, 111, 108, 105, 100, 97, 116, 101, 100])] 59)
  have HR := Lib.hid (HR2.out.below hb)
  have HS := Lib.hid (HS2.out.below hb)
  have HT := Lib.hid (HT2.out.below hb)
  have HB := Lib.hid (HB2.out.trans (hb.mono (by have := HB2.out.size; rw [HG.out] at this; exact this)))
  clear hb
  go_upto_region 3 with fail
  generalize w2.alloc (.cells #[Value.string (str [111, 112, 101, 110]), .string (str [112, 97, 105, 100]), .string (str [102, 111, 114, 103, 105, 118, 101, 110]), .string (str [100, 105, 115, 99, 104, 97, 114, 103, 101, 100]), .string (str [99, 111, 110, 115, 111, 108, 105, 100, 97, 116, 101, 100])] 59) = w3 at *
  generalize w2.heap.size = gc at *
  clear HR0 HB0 HT0 HS2 HR2 HT2 HB2
  have HKE : Hid (∀ w' : World, Below w3.heap.size w3 w' → (w'.cell? ⟨g, 0, none⟩ = some (.int .i64 l.id) ∧ w'.cell? ⟨g, 7, none⟩ = some (.int .i64 l.status) ∧ w'.cell? ⟨g, 8, none⟩ = some (.int .i64 l.closed) ∧ w'.cell? ⟨g, 5, none⟩ = some (.int .i64 l.ppm) ∧ w'.cell? ⟨g, 1, none⟩ = some (.int .i64 l.principal) ∧ w'.cell? ⟨g, 2, none⟩ = some (.int .i64 l.interest) ∧ w'.cell? ⟨g, 4, none⟩ = some (.int .i64 l.fees) ∧ w'.cell? ⟨g, 12, none⟩ = some (.int .i64 l.count))) := Lib.hid (fun w' hB => ⟨(HR.out.below hB).cell 0, (HR.out.below hB).cell 7, (HR.out.below hB).cell 8, (HR.out.below hB).cell 5, (HR.out.below hB).cell 1, (HR.out.below hB).cell 2, (HR.out.below hB).cell 4, (HR.out.below hB).cell 12⟩)
  have e0 := (Below.refl w3.heap.size w3).drew
  go_region_held3 (fun w' => w'.cell? ⟨g, 0, none⟩ = some (.int .i64 l.id) ∧ w'.cell? ⟨g, 7, none⟩ = some (.int .i64 l.status) ∧ w'.cell? ⟨g, 8, none⟩ = some (.int .i64 l.closed) ∧ w'.cell? ⟨g, 5, none⟩ = some (.int .i64 l.ppm) ∧ w'.cell? ⟨g, 1, none⟩ = some (.int .i64 l.principal) ∧ w'.cell? ⟨g, 2, none⟩ = some (.int .i64 l.interest) ∧ w'.cell? ⟨g, 4, none⟩ = some (.int .i64 l.fees) ∧ w'.cell? ⟨g, 12, none⟩ = some (.int .i64 l.count)) (first | exact HKE.out _ (by first | assumption | exact Below.alloc (by assumption) (Below.size (by assumption)) _) | go_keep)
    (first
      | ((go_at_call 25; (with_reducible refine (HK.out p6).mono ?_); rintro r p7 ⟨rfl, b7⟩; have e7 : Below w3.heap.size w3 p7 := e6.trans (b7.mono e6.size)))
      | ((go_at_call 26; (with_reducible refine (H8.out p5 (HT.out.below e5)).mono ?_); rintro r p6 ⟨rfl, b6⟩; have e6 : Below w3.heap.size w3 p6 := e5.trans (b6.mono e5.size)))
      | ((go_at_call 6; (with_reducible refine (H7.out p4 (HT.out.below e4)).mono ?_); rintro r p5 ⟨rfl, b5⟩; have e5 : Below w3.heap.size w3 p5 := e4.trans (b5.mono e4.size)))
      | ((go_at_call 6; (with_reducible refine (H6.out p3 (HT.out.below e3)).mono ?_); rintro r p4 ⟨rfl, b4⟩; have e4 : Below w3.heap.size w3 p4 := e3.trans (b4.mono e3.size)))
      | ((go_at_call 28; (with_reducible refine (H6w.out p3).mono ?_); rintro r pw ⟨rfl, rfl⟩))
      | ((go_at_call 6; (with_reducible refine (H5.out p2 (HT.out.below e2)).mono ?_); rintro r p3 ⟨rfl, b3⟩; have e3 : Below w3.heap.size w3 p3 := e2.trans (b3.mono e2.size)))
      | ((go_at_call 26; (with_reducible refine (H4.out p1 (HT.out.below e1)).mono ?_); rintro r p2 ⟨rfl, b2⟩; have e2 : Below w3.heap.size w3 p2 := e1.trans (b2.mono e1.size)))
      | ((go_at_call 27; have _t := tok2; refine (H3.out gc p1 (HS3.out.below e1)).mono ?_; rintro r pw ⟨rfl, rfl⟩))
      | ((go_at_call 27; refine (H2.out gs p1 (HS.out.below e1)).mono ?_; rintro r pw ⟨rfl, rfl⟩; have tok2 : True := trivial))
      | ((go_at_call 26; (with_reducible refine (H1.out w3.drew (HT.out.below e0)).mono ?_); rintro r p1 ⟨rfl, b1⟩; have e1 : Below w3.heap.size w3 p1 := e0.trans (b1.mono e0.size))))
  have HB9 := Lib.hid (HB.out.trans (e7.mono (by have := HB.out.size; rw [HG.out] at this; exact this)))
  go_wp2_with fail
  go_ret
  exact ⟨by rw [HJ.out]; rfl, by rw [HG.out]; exact HB9.out⟩
set_option maxRecDepth 20000 in
set_option maxHeartbeats 16000000 in
theorem rloan_calls (l : Ln) (ho : OkLn l) (w : World) :
    Calls Tryd.prog 11 #[l.v] w fun e w' => e = .returned (.string (str (loanL l))) ∧ Below w.heap.size w w' := by
  have HR0 := Lib.hid (Blk.new w 23 l.cells)
  have HB0 := Lib.hid ((Below.refl w.heap.size w).alloc (Nat.le_refl _) (.cells l.cells 23))
  have l1 := itoa_len l.id ho.id.1 ho.id.2
  have l2 := word_len statusW (by decide) l.status
  have l3 := word_len closedW (by decide) l.closed
  have l4 := itoa_len l.ppm ho.ppm.1 ho.ppm.2
  have l5 := money_len l.principal ho.principal.1 ho.principal.2
  have hwi := whole_in l.interest ho.interest.2
  have l6 := money_len (wholeN l.interest) (by omega) hwi.2
  have l7 := money_len l.fees ho.fees.1 ho.fees.2
  have l8 := itoa_len l.count ho.count.1 ho.count.2
  have H1 := Lib.hid (fun W => flip (rint_calls l.id ho.id.1 ho.id.2 W))
  have H2 := Lib.hid (fun W => status_calls l.status W)
  have H4 := Lib.hid (fun W => flip (rint_calls l.ppm ho.ppm.1 ho.ppm.2 W))
  have H5 := Lib.hid (fun W => flip (rmoney_calls l.principal ho.principal.1 ho.principal.2 W))
  have H6w := Lib.hid (fun W => flip (rwhole_calls l.interest ho.interest.1 ho.interest.2 W))
  have H6 := Lib.hid (fun W => flip (rmoney_calls (wholeN l.interest) (by omega) hwi.2 W))
  have H7 := Lib.hid (fun W => flip (rmoney_calls l.fees ho.fees.1 ho.fees.2 W))
  have H8 := Lib.hid (fun W => flip (rint_calls l.count ho.count.1 ho.count.2 W))
  have HJ : Hid (loanL l = Lib.join [[108, 111, 97, 110], Lib.itoa l.id, wordL statusW l.status, wordL closedW l.closed, Lib.itoa l.ppm, moneyL l.principal, moneyL (wholeN l.interest), moneyL l.fees, Lib.itoa l.count] sp) := Lib.hid rfl
  have HW1 : Hid (l.closed < 0 → wordL closedW l.closed = [63]) := Lib.hid (fun h => by unfold wordL; rw [if_pos (.inl h)])
  have HW2 : Hid (4 < l.closed → wordL closedW l.closed = [63]) := Lib.hid (fun h => by unfold wordL; rw [if_pos (.inr (by show (5 : Int) ≤ _; omega))])
  have HW3 : Hid (∀ i, l.closed = i → wordL closedW l.closed = wordL closedW i) := Lib.hid (fun i h => by rw [h])
  generalize Lib.itoa l.id = A1 at *
  generalize wordL statusW l.status = A2 at *
  generalize wordL closedW l.closed = A3 at *
  generalize Lib.itoa l.ppm = A4 at *
  generalize moneyL l.principal = A5 at *
  generalize moneyL (wholeN l.interest) = A6 at *
  generalize moneyL l.fees = A7 at *
  generalize Lib.itoa l.count = A8 at *
  generalize wholeN l.interest = WI at *
  obtain ⟨X1, E1, n1, a1⟩ := add_let [108, 111, 97, 110, 32] A1 (by (try simp only [List.length_cons, List.length_nil]); omega)
  (try simp only [List.length_cons, List.length_nil] at n1)
  obtain ⟨X2, E2, n2, a2⟩ := add_let X1 [32] (by (try simp only [List.length_cons, List.length_nil]); omega)
  (try simp only [List.length_cons, List.length_nil] at n2)
  obtain ⟨X3, E3, n3, a3⟩ := add_let X2 A2 (by (try simp only [List.length_cons, List.length_nil]); omega)
  (try simp only [List.length_cons, List.length_nil] at n3)
  obtain ⟨X4, E4, n4, a4⟩ := add_let X3 [32] (by (try simp only [List.length_cons, List.length_nil]); omega)
  (try simp only [List.length_cons, List.length_nil] at n4)
  obtain ⟨X5, E5, n5, a5⟩ := add_let X4 A3 (by (try simp only [List.length_cons, List.length_nil]); omega)
  (try simp only [List.length_cons, List.length_nil] at n5)
  obtain ⟨X6, E6, n6, a6⟩ := add_let X5 [32] (by (try simp only [List.length_cons, List.length_nil]); omega)
  (try simp only [List.length_cons, List.length_nil] at n6)
  obtain ⟨X7, E7, n7, a7⟩ := add_let X6 A4 (by (try simp only [List.length_cons, List.length_nil]); omega)
  (try simp only [List.length_cons, List.length_nil] at n7)
  obtain ⟨X8, E8, n8, a8⟩ := add_let X7 [32] (by (try simp only [List.length_cons, List.length_nil]); omega)
  (try simp only [List.length_cons, List.length_nil] at n8)
  obtain ⟨X9, E9, n9, a9⟩ := add_let X8 A5 (by (try simp only [List.length_cons, List.length_nil]); omega)
  (try simp only [List.length_cons, List.length_nil] at n9)
  obtain ⟨X10, E10, n10, a10⟩ := add_let X9 [32] (by (try simp only [List.length_cons, List.length_nil]); omega)
  (try simp only [List.length_cons, List.length_nil] at n10)
  obtain ⟨X11, E11, n11, a11⟩ := add_let X10 A6 (by (try simp only [List.length_cons, List.length_nil]); omega)
  (try simp only [List.length_cons, List.length_nil] at n11)
  obtain ⟨X12, E12, n12, a12⟩ := add_let X11 [32] (by (try simp only [List.length_cons, List.length_nil]); omega)
  (try simp only [List.length_cons, List.length_nil] at n12)
  obtain ⟨X13, E13, n13, a13⟩ := add_let X12 A7 (by (try simp only [List.length_cons, List.length_nil]); omega)
  (try simp only [List.length_cons, List.length_nil] at n13)
  obtain ⟨X14, E14, n14, a14⟩ := add_let X13 [32] (by (try simp only [List.length_cons, List.length_nil]); omega)
  (try simp only [List.length_cons, List.length_nil] at n14)
  obtain ⟨X15, E15, n15, a15⟩ := add_let X14 A8 (by (try simp only [List.length_cons, List.length_nil]); omega)
  (try simp only [List.length_cons, List.length_nil] at n15)
  have HX : Hid (X15 = Lib.join [[108, 111, 97, 110], A1, A2, A3, A4, A5, A6, A7, A8] sp) := Lib.hid (by rw [E15.out, E14.out, E13.out, E12.out, E11.out, E10.out, E9.out, E8.out, E7.out, E6.out, E5.out, E4.out, E3.out, E2.out, E1.out]; simp [Lib.join_cons, Lib.joinTail])
  clear l1 l2 l3 l4 l5 l6 l7 l8 hwi n1 n2 n3 n4 n5 n6 n7 n8 n9 n10 n11 n12 n13 n14 n15 ho
  go_enter Tryd.func11, Tryd.ntmps11
  go_upto_region 2 with fail
  generalize w.alloc (.cells l.cells 23) = w1 at *
  generalize hg : w.heap.size = g at *
  have HG := Lib.hid hg
  clear hg
  have k0 : w1.cell? ⟨g, 0, none⟩ = some (.int .i64 l.id) := HR0.out.cell 0
  have k8 : w1.cell? ⟨g, 8, none⟩ = some (.int .i64 l.closed) := HR0.out.cell 8
  generalize hcl : l.closed = cl at *
  have HCL := Lib.hid hcl
  clear hcl
  obtain ⟨B, hB⟩ : ∃ B, (decide (0 ≤ cl) && decide (cl ≤ 4)) = B := ⟨_, rfl⟩
  have HBB := Lib.hid hB
  clear hB
  have HK8 : Hid (∀ o, (w1.alloc o).cell? ⟨g, 8, none⟩ = some (.int .i64 cl)) := Lib.hid (fun o => ((HR0.out.below ((Below.refl _ _).alloc (Nat.le_refl _) o)).cell 8).trans (by show some (Value.int .i64 l.closed) = _; rw [HCL.out]))
  go_cut [11] from 4 to 10 (fun v W => v = .bool B ∧ w1 = W)
  case first =>
    by_cases q1 : 0 ≤ cl
    · by_cases q2 : cl ≤ 4 <;>
        (go_wp2_with fail
         go_meet
         exact ⟨by rw [← HBB.out]; simp [q1, q2], rfl⟩)
    · go_wp2_with fail
      go_meet
      exact ⟨by rw [← HBB.out, decide_eq_false (show ¬ 0 ≤ cl by omega)]; rfl, rfl⟩
  case rest =>
    obtain ⟨rfl, rfl⟩ := hcut
    go_upto_if 11 with fail
    go_cut [3] from 12 to 16 (fun v W => v = .string (str A3) ∧ Below w1.heap.size w1 W)
    case first =>
      have hb := HBB.out
      cases B with
      | false =>
        have HA : Hid (A3 = [63]) := Lib.hid (by
          simp only [Bool.and_eq_false_iff, decide_eq_false_iff_not] at hb
          rcases hb with h | h
          · exact HW1.out (by omega)
          · exact HW2.out (by omega))
        clear hb k8
        go_wp2_with fail
        go_meet
        exact ⟨by first | (rw [HA.out]; done) | (rw [HA.out]; rfl), Below.refl _ _⟩
      | true =>
        simp only [Bool.and_eq_true, decide_eq_true_eq] at hb
        have h5 : cl = 0 ∨ cl = 1 ∨ cl = 2 ∨ cl = 3 ∨ cl = 4 := by omega
        have HBn := Lib.hid ((Below.refl w1.heap.size w1).alloc (Nat.le_refl _) (.cells #[.string (str [111, 112, 101, 110]), .string (str [112, 97, 105, 100]), .string (str [102, 111, 114, 103, 105, 118, 101, 110]), .string (str [100, 105, 115, 99, 104, 97, 114, 103, 101, 100]), .string (str [99, 111, 110, 115, 111, 108, 105, 100, 97, 116, 101, 100])] 9))
        clear hb
        rcases h5 with h | h | h | h | h <;>
          (have HA := Lib.hid (HW3.out _ h)
           have kk := HK8.out
           clear HW1 HW2 HW3 HBB HCL HK8
           subst h
           go_wp2_with fail
           go_meet
           exact ⟨by first | (rw [HA.out]; done) | (rw [HA.out]; rfl), HBn.out⟩)
    case rest =>
      obtain ⟨rfl, hbc⟩ := hcut
      have HR := Lib.hid (HR0.out.below hbc)
      have HB := Lib.hid (HB0.out.trans (hbc.mono (HG.out ▸ HB0.out.size)))
      have HGW : Hid (∀ W : World, Below g w W → g ≤ W.heap.size) := Lib.hid (fun W h => by have := h.size; rw [HG.out] at this; exact this)
      clear HR0 HB0 k0 k8 HK8 HW1 HW2 HW3 HBB HCL hbc
      generalize hww : wc = w2 at *
      have e0 := (Below.refl w2.heap.size w2).drew
      have HKE : Hid (∀ w' : World, Below w2.heap.size w2 w' → (w'.cell? ⟨g, 0, none⟩ = some (.int .i64 l.id) ∧ w'.cell? ⟨g, 7, none⟩ = some (.int .i64 l.status) ∧ w'.cell? ⟨g, 8, none⟩ = some (.int .i64 l.closed) ∧ w'.cell? ⟨g, 5, none⟩ = some (.int .i64 l.ppm) ∧ w'.cell? ⟨g, 1, none⟩ = some (.int .i64 l.principal) ∧ w'.cell? ⟨g, 2, none⟩ = some (.int .i64 l.interest) ∧ w'.cell? ⟨g, 4, none⟩ = some (.int .i64 l.fees) ∧ w'.cell? ⟨g, 12, none⟩ = some (.int .i64 l.count))) := Lib.hid (fun w' hB => ⟨(HR.out.below hB).cell 0, (HR.out.below hB).cell 7, (HR.out.below hB).cell 8, (HR.out.below hB).cell 5, (HR.out.below hB).cell 1, (HR.out.below hB).cell 2, (HR.out.below hB).cell 4, (HR.out.below hB).cell 12⟩)
      obtain ⟨c0, c1, c2, c3, c4, c5, c6, c7⟩ := HKE.out w2 (Below.refl _ _)
      go_upto_region 4 with fail
      go_region_held3 (fun w' => w'.cell? ⟨g, 0, none⟩ = some (.int .i64 l.id) ∧ w'.cell? ⟨g, 7, none⟩ = some (.int .i64 l.status) ∧ w'.cell? ⟨g, 8, none⟩ = some (.int .i64 l.closed) ∧ w'.cell? ⟨g, 5, none⟩ = some (.int .i64 l.ppm) ∧ w'.cell? ⟨g, 1, none⟩ = some (.int .i64 l.principal) ∧ w'.cell? ⟨g, 2, none⟩ = some (.int .i64 l.interest) ∧ w'.cell? ⟨g, 4, none⟩ = some (.int .i64 l.fees) ∧ w'.cell? ⟨g, 12, none⟩ = some (.int .i64 l.count)) (first | exact HKE.out _ (by assumption) | go_keep)
        (first
          | ((go_at_call 29; (with_reducible refine (H8.out p1).mono ?_); rintro r pw ⟨rfl, rfl⟩))
          | ((go_at_call 7; (with_reducible refine (H7.out p1).mono ?_); rintro r pw ⟨rfl, rfl⟩))
          | ((go_at_call 7; (with_reducible refine (H6.out p1).mono ?_); rintro r pw ⟨rfl, rfl⟩))
          | ((go_at_call 31; (with_reducible refine (H6w.out p1).mono ?_); rintro r pw ⟨rfl, rfl⟩))
          | ((go_at_call 7; (with_reducible refine (H5.out p1).mono ?_); rintro r pw ⟨rfl, rfl⟩))
          | ((go_at_call 29; (with_reducible refine (H4.out p1).mono ?_); rintro r pw ⟨rfl, rfl⟩))
          | ((go_at_call 30; (with_reducible refine (H2.out w2.drew).mono ?_); rintro r p1 ⟨rfl, b1⟩; have e1 : Below w2.heap.size w2 p1 := e0.trans (b1.mono e0.size)))
          | ((go_at_call 29; (with_reducible refine (H1.out w2.drew).mono ?_); rintro r pw ⟨rfl, rfl⟩)))
      have HB9 := Lib.hid (HB.out.trans (e1.mono (HGW.out _ HB.out)))
      go_wp2_with fail
      go_ret
      exact ⟨by rw [HJ.out, ← HX.out]; rfl, by rw [HG.out]; exact HB9.out⟩
end Go.Proofs.YtkifkjgkdfnhcaaDoor.Vw
