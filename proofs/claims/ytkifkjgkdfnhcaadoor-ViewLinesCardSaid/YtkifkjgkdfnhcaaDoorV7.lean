/- Loans and bills as lines, of both. (Printed by gen_v7.py.) -/
import Derived.Test.YtkifkjgkdfnhcaaDoorV6
namespace Go.Proofs.YtkifkjgkdfnhcaaDoor.Vw
open Go.RowKit Go.Sort Go.Lib Go.Shelf
attribute [local go_sem ↓] Go.wp_at_zero Go.wp_at_succ

/-- A loan. -/
structure Ln where
  id : Int
  principal : Int
  interest : Int
  subsidy : Int
  fees : Int
  ppm : Int
  sub : Bool
  status : Int
  closed : Int
  entered : Int
  level : Int
  far : Int
  count : Int
abbrev Ln.cells (l : Ln) : Array Value := #[.int .i64 l.id, .int .i64 l.principal, .int .i64 l.interest, .int .i64 l.subsidy, .int .i64 l.fees, .int .i64 l.ppm, .bool l.sub, .int .i64 l.status, .int .i64 l.closed, .int .i64 l.entered, .int .i64 l.level, .int .i64 l.far, .int .i64 l.count]
abbrev Ln.v (l : Ln) : Value := .agg #[.int .i64 l.id, .int .i64 l.principal, .int .i64 l.interest, .int .i64 l.subsidy, .int .i64 l.fees, .int .i64 l.ppm, .bool l.sub, .int .i64 l.status, .int .i64 l.closed, .int .i64 l.entered, .int .i64 l.level, .int .i64 l.far, .int .i64 l.count]
structure OkLn (l : Ln) : Prop where
  id : -9223372036854775808 ≤ l.id ∧ l.id ≤ 9223372036854775807
  principal : -9223372036854775808 ≤ l.principal ∧ l.principal ≤ 9223372036854775807
  interest : -9223372036854775808 ≤ l.interest ∧ l.interest ≤ 9223372036854775807
  subsidy : -9223372036854775808 ≤ l.subsidy ∧ l.subsidy ≤ 9223372036854775807
  fees : -9223372036854775808 ≤ l.fees ∧ l.fees ≤ 9223372036854775807
  ppm : -9223372036854775808 ≤ l.ppm ∧ l.ppm ≤ 9223372036854775807
  status : -9223372036854775808 ≤ l.status ∧ l.status ≤ 9223372036854775807
  closed : -9223372036854775808 ≤ l.closed ∧ l.closed ≤ 9223372036854775807
  entered : -9223372036854775808 ≤ l.entered ∧ l.entered ≤ 9223372036854775807
  level : -9223372036854775808 ≤ l.level ∧ l.level ≤ 9223372036854775807
  far : -9223372036854775808 ≤ l.far ∧ l.far ≤ 9223372036854775807
  count : -9223372036854775808 ≤ l.count ∧ l.count ≤ 9223372036854775807
abbrev sp : List UInt8 := [32]
/-- A loan's line. -/
def loanL (l : Ln) : List UInt8 := Lib.join [[108, 111, 97, 110], Lib.itoa l.id, wordL statusW l.status, wordL closedW l.closed, Lib.itoa l.ppm, moneyL l.principal, moneyL (wholeN l.interest), moneyL l.fees, Lib.itoa l.count] sp
/-- A bill's line. -/
noncomputable def billL (month amount left covered : Int) : List UInt8 := Lib.join [[98, 105, 108, 108], Lib.itoa month, moneyL amount, moneyL left, dayL covered] sp
theorem join_calls (L : List (List UInt8)) (n : Nat) (hn : L.length = n) (cs : Array Value) (hcs : cs = strs L) (hlen : (Lib.join L sp).length ≤ 1000000) (h100 : n ≤ 100) (w : World) :
    Calls Tryd.prog 25 #[.slice (some ⟨w.heap.size, 0, none⟩) n n, .string (str sp)] (w.alloc (.cells cs 9)) fun e w' => e = .returned (.string (str (Lib.join L sp))) ∧ Below w.heap.size w w' := by
  subst hcs
  have hB := Blk.new w 9 (strs L)
  have hl : (L.map str).length = n := by rw [List.length_map]; exact hn
  have hj : ((L.map str).map (·.data.toList)) = L := by
    rw [List.map_map]
    conv => rhs; rw [← List.map_id L]
    apply List.map_congr_left
    intro l _
    rfl
  have h := Tryd.strings_Join w.heap.size 0 n (L.map str) (str sp) (w.alloc (.cells (strs L) 9)) (by
    intro j x hx
    rw [Nat.zero_add, hB.cell j]
    simp only [List.getElem?_map, Option.map_eq_some_iff] at hx
    obtain ⟨l, h1, rfl⟩ := hx
    simp [strs, h1]) hB.lt (by omega) (by omega) (by rw [hj]; exact Nat.le_trans hlen (by decide))
  rw [hl, hj] at h
  refine h.mono fun e w' ⟨h1, h2⟩ => ⟨h1, ?_⟩
  have hb := (Below.refl w.heap.size w).alloc (Nat.le_refl _) (.cells (strs L) 9)
  exact hb.trans (h2.mono hb.size)
theorem itoa_len (n : Int) (h0 : -9223372036854775808 ≤ n) (h1 : n ≤ 9223372036854775807) : (Lib.itoa n).length ≤ 21 := by
  unfold Lib.itoa
  split
  · have := (dig_len n.natAbs (by omega)).2
    simp
    omega
  · have := (dig_len n.toNat (by omega)).2
    omega
theorem money_len (c : Int) (h0 : -9223372036854775808 ≤ c) (h1 : c ≤ 9223372036854775807) : (moneyL c).length ≤ 42 := by
  have a := (dig_len (c.natAbs / 100) (by omega)).2
  have b := pad_len (c.natAbs % 100) 2 (by omega) (by decide)
  unfold moneyL
  split
  · simp only [List.length_cons, List.length_append]; omega
  · simp only [List.length_cons, List.length_append]; omega
theorem word_len (ss : List (List UInt8)) (h : ∀ s ∈ ss, s.length ≤ 20) (i : Int) : (wordL ss i).length ≤ 20 := by
  unfold wordL
  split
  · decide
  · split
    · decide
    · rw [List.getD_eq_getElem?_getD]
      cases hx : ss[i.toNat]? with
      | none => decide
      | some s => exact h s (List.mem_of_getElem? hx)
theorem whole_in (m : Int) (h1 : m ≤ 9223372036854775807) : 0 ≤ wholeN m ∧ wholeN m ≤ 9223372036854775807 := by unfold wholeN; omega
theorem day_len (n : Int) : (dayL n).length ≤ 200 := by
  unfold dayL
  split
  · rename_i h
    have a := pad_len (1960 + h.choose / 12) 4 (by have := h.choose_spec.1; omega) (by decide)
    have b := pad_len (1 + h.choose % 12) 2 (by omega) (by decide)
    have c := pad_len (n - S h.choose + 1).toNat 2 (by have := day_month h.choose_spec.2; omega) (by decide)
    unfold dayT
    simp only [cat_len, List.length_cons, List.length_nil]
    omega
  · decide
/-- Two texts put one behind the other, under a name. -/
theorem add_let (a b : List UInt8) (h : a.length + b.length ≤ 1000000) : ∃ X : List UInt8, Hid (X = a ++ b) ∧ X.length = a.length + b.length ∧ ∀ W, (Op.stringOp .add (str a) (str b)).run Tryd.prog W = .ok (.string (str X)) W :=
  ⟨a ++ b, Lib.hid rfl, List.length_append, add_run a b (by omega)⟩
set_option maxRecDepth 20000 in
set_option maxHeartbeats 8000000 in
theorem vbill_calls (month amount left covered : Int) (plan ln : Value) (hm : -9223372036854775808 ≤ month ∧ month ≤ 9223372036854775807) (ha : -9223372036854775808 ≤ amount ∧ amount ≤ 9223372036854775807) (hl : -9223372036854775808 ≤ left ∧ left ≤ 9223372036854775807) (w : World) (htab : Tab w) :
    Calls Tryd.prog 12 #[.agg #[.int .i64 month, .int .i64 amount, .int .i64 left, .int .i64 covered, plan, ln]] w fun e w' => e = .returned (.string (str (billL month amount left covered))) ∧ Below w.heap.size w w' := by
  have HR := Lib.hid (Blk.new w 26 #[.int .i64 month, .int .i64 amount, .int .i64 left, .int .i64 covered, plan, ln])
  have hb0 := (Below.refl w.heap.size w).alloc (Nat.le_refl _) (.cells #[.int .i64 month, .int .i64 amount, .int .i64 left, .int .i64 covered, plan, ln] 26)
  have HB := Lib.hid hb0
  have HT := Lib.hid (htab.below hb0)
  clear hb0 htab
  have H1 := Lib.hid (fun W (hW : Tab W) => itoa_calls month hm.1 hm.2 W hW)
  have H2 := Lib.hid (fun W (hW : Tab W) => vmoney_calls amount ha.1 ha.2 W hW)
  have H3 := Lib.hid (fun W (hW : Tab W) => vmoney_calls left hl.1 hl.2 W hW)
  have H4 := Lib.hid (fun W (hW : Tab W) => vday_calls covered W hW)
  have l1 := itoa_len month hm.1 hm.2
  have l2 := money_len amount ha.1 ha.2
  have l3 := money_len left hl.1 hl.2
  have l4 := day_len covered
  have HJ : Hid (billL month amount left covered = Lib.join [[98, 105, 108, 108], Lib.itoa month, moneyL amount, moneyL left, dayL covered] sp) := Lib.hid rfl
  generalize Lib.itoa month = A1 at *
  generalize moneyL amount = A2 at *
  generalize moneyL left = A3 at *
  generalize dayL covered = A4 at *
  have HK := Lib.hid (fun W => join_calls [[98, 105, 108, 108], A1, A2, A3, A4] 5 rfl #[.string (str [98, 105, 108, 108]), .string (str A1), .string (str A2), .string (str A3), .string (str A4)] rfl (by simp [Lib.join]; omega) (by decide) W)
  clear l1 l2 l3 l4 hm ha hl
  go_enter Tryd.func12, Tryd.ntmps12
  go_upto_region 1 with fail
  generalize w.alloc (.cells #[.int .i64 month, .int .i64 amount, .int .i64 left, .int .i64 covered, plan, ln] 26) = w1 at *
  generalize hg : w.heap.size = g at *
  have HG := Lib.hid hg
  clear hg
  have HKE : Hid (∀ w' : World, Below w1.heap.size w1 w' → (w'.cell? ⟨g, 0, none⟩ = some (.int .i64 month) ∧ w'.cell? ⟨g, 1, none⟩ = some (.int .i64 amount) ∧ w'.cell? ⟨g, 2, none⟩ = some (.int .i64 left) ∧ w'.cell? ⟨g, 3, none⟩ = some (.int .i64 covered))) := Lib.hid (fun w' hB => ⟨(HR.out.below hB).cell 0, (HR.out.below hB).cell 1, (HR.out.below hB).cell 2, (HR.out.below hB).cell 3⟩)
  have e0 := (Below.refl w1.heap.size w1).drew
  go_region_held3 (fun w' => w'.cell? ⟨g, 0, none⟩ = some (.int .i64 month) ∧ w'.cell? ⟨g, 1, none⟩ = some (.int .i64 amount) ∧ w'.cell? ⟨g, 2, none⟩ = some (.int .i64 left) ∧ w'.cell? ⟨g, 3, none⟩ = some (.int .i64 covered)) (first | exact HKE.out _ (by first | assumption | exact Below.alloc (by assumption) (Below.size (by assumption)) _) | go_keep)
    (first
      | ((go_at_call 25; (with_reducible refine (HK.out p4).mono ?_); rintro r p5 ⟨rfl, b5⟩; have e5 : Below w1.heap.size w1 p5 := e4.trans (b5.mono e4.size)))
      | ((go_at_call 8; (with_reducible refine (H4.out p3 (HT.out.below e3)).mono ?_); rintro r p4 ⟨rfl, b4⟩; have e4 : Below w1.heap.size w1 p4 := e3.trans (b4.mono e3.size)))
      | ((go_at_call 6; (with_reducible refine (H3.out p2 (HT.out.below e2)).mono ?_); rintro r p3 ⟨rfl, b3⟩; have e3 : Below w1.heap.size w1 p3 := e2.trans (b3.mono e2.size)))
      | ((go_at_call 6; (with_reducible refine (H2.out p1 (HT.out.below e1)).mono ?_); rintro r p2 ⟨rfl, b2⟩; have e2 : Below w1.heap.size w1 p2 := e1.trans (b2.mono e1.size)))
      | ((go_at_call 26; (with_reducible refine (H1.out w1.drew (HT.out.below e0)).mono ?_); rintro r p1 ⟨rfl, b1⟩; have e1 : Below w1.heap.size w1 p1 := e0.trans (b1.mono e0.size))))
  have HB9 := Lib.hid (HB.out.trans (e5.mono (HG.out ▸ HB.out.size)))
  go_wp2_with fail
  go_ret
  exact ⟨by rw [HJ.out]; rfl, by rw [HG.out]; exact HB9.out⟩
set_option maxRecDepth 20000 in
set_option maxHeartbeats 8000000 in
theorem rbill_calls (month amount left covered : Int) (plan ln : Value) (hm : -9223372036854775808 ≤ month ∧ month ≤ 9223372036854775807) (ha : -9223372036854775808 ≤ amount ∧ amount ≤ 9223372036854775807) (hl : -9223372036854775808 ≤ left ∧ left ≤ 9223372036854775807) (w : World) :
    Calls Tryd.prog 13 #[.agg #[.int .i64 month, .int .i64 amount, .int .i64 left, .int .i64 covered, plan, ln]] w fun e w' => e = .returned (.string (str (billL month amount left covered))) ∧ Below w.heap.size w w' := by
  have HR := Lib.hid (Blk.new w 26 #[.int .i64 month, .int .i64 amount, .int .i64 left, .int .i64 covered, plan, ln])
  have HB := Lib.hid ((Below.refl w.heap.size w).alloc (Nat.le_refl _) (.cells #[.int .i64 month, .int .i64 amount, .int .i64 left, .int .i64 covered, plan, ln] 26))
  have H1 := Lib.hid (fun W => rint_calls month hm.1 hm.2 W)
  have H2 := Lib.hid (fun W => rmoney_calls amount ha.1 ha.2 W)
  have H3 := Lib.hid (fun W => rmoney_calls left hl.1 hl.2 W)
  have H4 := Lib.hid (fun W => rday_calls covered W)
  have l1 := itoa_len month hm.1 hm.2
  have l2 := money_len amount ha.1 ha.2
  have l3 := money_len left hl.1 hl.2
  have l4 := day_len covered
  have HJ : Hid (billL month amount left covered = Lib.join [[98, 105, 108, 108], Lib.itoa month, moneyL amount, moneyL left, dayL covered] sp) := Lib.hid rfl
  generalize Lib.itoa month = A1 at *
  generalize moneyL amount = A2 at *
  generalize moneyL left = A3 at *
  generalize dayL covered = A4 at *
  obtain ⟨X1, E1, n1, a1⟩ := add_let [98, 105, 108, 108, 32] A1 (by (try simp only [List.length_cons, List.length_nil]); omega)
  (try simp only [List.length_cons, List.length_nil] at n1)
  obtain ⟨X2, E2, n2, a2⟩ := add_let X1 [32] (by (try simp only [List.length_cons, List.length_nil]); omega)
  (try simp only [List.length_cons, List.length_nil] at n2)
  obtain ⟨X3, E3, n3, a3⟩ := add_let X2 A2 (by (try simp only [List.length_cons, List.length_nil]); omega)
  (try simp only [List.length_cons, List.length_nil] at n3)
  obtain ⟨X4, E4, n4, a4⟩ := add_let X3 [32] (by (try simp only [List.length_cons, List.length_nil]); omega)
  (try simp only [List.length_cons, List.length_nil] at n4)
  obtain ⟨X5, E5, n5, a5⟩ := add_let X4 A3 (by (try simp only [List.length_cons, List.length_nil]); omega)
  (try simp only [List.length_cons, List.length_nil] at n5)
  obtain ⟨X6, E6, n6, a6⟩ := add_let X5 [32] (by (try simp only [List.length_cons, List.length_nil]); omega)
  (try simp only [List.length_cons, List.length_nil] at n6)
  obtain ⟨X7, E7, n7, a7⟩ := add_let X6 A4 (by (try simp only [List.length_cons, List.length_nil]); omega)
  (try simp only [List.length_cons, List.length_nil] at n7)
  have HX : Hid (X7 = Lib.join [[98, 105, 108, 108], A1, A2, A3, A4] sp) := Lib.hid (by rw [E7.out, E6.out, E5.out, E4.out, E3.out, E2.out, E1.out]; simp [Lib.join_cons, Lib.joinTail])
  clear l1 l2 l3 l4 hm ha hl n1 n2 n3 n4 n5 n6 n7
  go_enter Tryd.func13, Tryd.ntmps13
  go_upto_region 1 with fail
  generalize w.alloc (.cells #[.int .i64 month, .int .i64 amount, .int .i64 left, .int .i64 covered, plan, ln] 26) = w1 at *
  generalize hg : w.heap.size = g at *
  have HG := Lib.hid hg
  clear hg
  have c0 : w1.cell? ⟨g, 0, none⟩ = some (.int .i64 month) := HR.out.cell 0
  have c1 : w1.cell? ⟨g, 1, none⟩ = some (.int .i64 amount) := HR.out.cell 1
  have c2 : w1.cell? ⟨g, 2, none⟩ = some (.int .i64 left) := HR.out.cell 2
  have c3 : w1.cell? ⟨g, 3, none⟩ = some (.int .i64 covered) := HR.out.cell 3
  have HKE : Hid (∀ w' : World, Below w1.heap.size w1 w' → (w'.cell? ⟨g, 0, none⟩ = some (.int .i64 month) ∧ w'.cell? ⟨g, 1, none⟩ = some (.int .i64 amount) ∧ w'.cell? ⟨g, 2, none⟩ = some (.int .i64 left) ∧ w'.cell? ⟨g, 3, none⟩ = some (.int .i64 covered))) := Lib.hid (fun w' hB => ⟨(HR.out.below hB).cell 0, (HR.out.below hB).cell 1, (HR.out.below hB).cell 2, (HR.out.below hB).cell 3⟩)
  have e0 := (Below.refl w1.heap.size w1).drew
  go_region_held3 (fun w' => w'.cell? ⟨g, 0, none⟩ = some (.int .i64 month) ∧ w'.cell? ⟨g, 1, none⟩ = some (.int .i64 amount) ∧ w'.cell? ⟨g, 2, none⟩ = some (.int .i64 left) ∧ w'.cell? ⟨g, 3, none⟩ = some (.int .i64 covered)) (first | exact HKE.out _ (by assumption) | go_keep)
    (first
      | ((go_at_call 9; (with_reducible refine (H4.out w1.drew).mono ?_); rintro r p4 ⟨rfl, b4⟩; have e4 : Below w1.heap.size w1 p4 := e0.trans (b4.mono e0.size)))
      | ((go_at_call 7; (with_reducible refine (H3.out w1.drew).mono ?_); rintro r p3 ⟨rfl, rfl⟩))
      | ((go_at_call 7; (with_reducible refine (H2.out w1.drew).mono ?_); rintro r p2 ⟨rfl, rfl⟩))
      | ((go_at_call 29; (with_reducible refine (H1.out w1.drew).mono ?_); rintro r p1 ⟨rfl, rfl⟩)))
  have HB9 := Lib.hid (HB.out.trans (e4.mono (HG.out ▸ HB.out.size)))
  go_wp2_with fail
  go_ret
  exact ⟨by rw [HJ.out, ← HX.out]; rfl, by rw [HG.out]; exact HB9.out⟩
end Go.Proofs.YtkifkjgkdfnhcaaDoor.Vw
