/- annuitykeep.CopyState. (Printed by gen_v34.py.) -/
import Derived.Test.YtkifkjgkdfnhcaaDoorV33
import Derived.Deep.RegionWith
namespace Go.Proofs.YtkifkjgkdfnhcaaDoor.Vw
open Go.RowKit Go.Sort Go.Lib Go.Shelf
attribute [local go_sem ↓] Go.wp_at_zero Go.wp_at_succ

/-- A state like s, but for where its loans and bills lie. -/
structure SameSt (s s' : St) : Prop where
  day : s'.day = s.day
  loans : s'.loans = s.loans
  nb : s'.bills.length = s.bills.length
  bills : ∀ (i : Nat) (x y : Bl), s.bills[i]? = some x → s'.bills[i]? = some y → SameBl x y
  ahead : s'.ahead = s.ahead
abbrev zeroS : Array Value := #[.int .i64 0, .slice none 0 0, .int .i64 0, .int .i64 0, .int .i64 0, .int .i64 0, .slice none 0 0, .int .i64 0, .int .i64 0, .int .i64 0, .int .i64 0, .int .i64 0, .int .i64 0]
theorem set_state (s : St) {w : World} {g t : Nat} (h : Blk w g t zeroS) : Blk (((((((((((((w.setCell ⟨g, 0, none⟩ (.int .i64 s.day)).setCell ⟨g, 1, none⟩ (.slice s.lp s.loans.length s.lc)).setCell ⟨g, 2, none⟩ (.int .i64 s.plan)).setCell ⟨g, 3, none⟩ (.int .i64 s.since)).setCell ⟨g, 4, none⟩ (.int .i64 s.income)).setCell ⟨g, 5, none⟩ (.int .i64 s.family)).setCell ⟨g, 6, none⟩ (.slice s.bp s.bills.length s.bc)).setCell ⟨g, 7, none⟩ (.int .i64 s.ahead)).setCell ⟨g, 8, none⟩ (.int .i64 s.p0)).setCell ⟨g, 9, none⟩ (.int .i64 s.p1)).setCell ⟨g, 10, none⟩ (.int .i64 s.p2)).setCell ⟨g, 11, none⟩ (.int .i64 s.p3)).setCell ⟨g, 12, none⟩ (.int .i64 s.written)) g t s.cells := by
  have e : (((((((((((((zeroS.setIfInBounds 0 (.int .i64 s.day)).setIfInBounds 1 (.slice s.lp s.loans.length s.lc)).setIfInBounds 2 (.int .i64 s.plan)).setIfInBounds 3 (.int .i64 s.since)).setIfInBounds 4 (.int .i64 s.income)).setIfInBounds 5 (.int .i64 s.family)).setIfInBounds 6 (.slice s.bp s.bills.length s.bc)).setIfInBounds 7 (.int .i64 s.ahead)).setIfInBounds 8 (.int .i64 s.p0)).setIfInBounds 9 (.int .i64 s.p1)).setIfInBounds 10 (.int .i64 s.p2)).setIfInBounds 11 (.int .i64 s.p3)).setIfInBounds 12 (.int .i64 s.written)) = s.cells := by kernel_rfl
  rw [← e]
  exact (((((((((((((h.set_ 0 (.int .i64 s.day)).set_ 1 (.slice s.lp s.loans.length s.lc)).set_ 2 (.int .i64 s.plan)).set_ 3 (.int .i64 s.since)).set_ 4 (.int .i64 s.income)).set_ 5 (.int .i64 s.family)).set_ 6 (.slice s.bp s.bills.length s.bc)).set_ 7 (.int .i64 s.ahead)).set_ 8 (.int .i64 s.p0)).set_ 9 (.int .i64 s.p1)).set_ 10 (.int .i64 s.p2)).set_ 11 (.int .i64 s.p3)).set_ 12 (.int .i64 s.written))
theorem set_state_below (s : St) {w0 w : World} {b g : Nat} (hg : b ≤ g) (hb : Below b w0 w) : Below b w0 (((((((((((((w.setCell ⟨g, 0, none⟩ (.int .i64 s.day)).setCell ⟨g, 1, none⟩ (.slice s.lp s.loans.length s.lc)).setCell ⟨g, 2, none⟩ (.int .i64 s.plan)).setCell ⟨g, 3, none⟩ (.int .i64 s.since)).setCell ⟨g, 4, none⟩ (.int .i64 s.income)).setCell ⟨g, 5, none⟩ (.int .i64 s.family)).setCell ⟨g, 6, none⟩ (.slice s.bp s.bills.length s.bc)).setCell ⟨g, 7, none⟩ (.int .i64 s.ahead)).setCell ⟨g, 8, none⟩ (.int .i64 s.p0)).setCell ⟨g, 9, none⟩ (.int .i64 s.p1)).setCell ⟨g, 10, none⟩ (.int .i64 s.p2)).setCell ⟨g, 11, none⟩ (.int .i64 s.p3)).setCell ⟨g, 12, none⟩ (.int .i64 s.written)) := (((((((((((((hb.setCell (p := ⟨g, 0, none⟩) hg (.int .i64 s.day)).setCell (p := ⟨g, 1, none⟩) hg (.slice s.lp s.loans.length s.lc)).setCell (p := ⟨g, 2, none⟩) hg (.int .i64 s.plan)).setCell (p := ⟨g, 3, none⟩) hg (.int .i64 s.since)).setCell (p := ⟨g, 4, none⟩) hg (.int .i64 s.income)).setCell (p := ⟨g, 5, none⟩) hg (.int .i64 s.family)).setCell (p := ⟨g, 6, none⟩) hg (.slice s.bp s.bills.length s.bc)).setCell (p := ⟨g, 7, none⟩) hg (.int .i64 s.ahead)).setCell (p := ⟨g, 8, none⟩) hg (.int .i64 s.p0)).setCell (p := ⟨g, 9, none⟩) hg (.int .i64 s.p1)).setCell (p := ⟨g, 10, none⟩) hg (.int .i64 s.p2)).setCell (p := ⟨g, 11, none⟩) hg (.int .i64 s.p3)).setCell (p := ⟨g, 12, none⟩) hg (.int .i64 s.written))
/-- The state's block where the first n stores are done. -/
abbrev St.put (s : St) (p1 : Option Addr) (c1 : Nat) (L' : List Bl) (p2 : Option Addr) (c2 : Nat) : St := { s with lp := p1, lc := c1, bills := L', bp := p2, bc := c2 }
theorem Sl.set_other {w : World} {p : Option Addr} {ec : Nat} {rows : List (Array Value)} {cap g i : Nat} {v : Value} (h : Sl w p ec rows cap) (hp : ∀ a, p = some a → g < a.block) : Sl (w.setCell ⟨g, i, none⟩ v) p ec rows cap := by
  refine ⟨h.cap, ?_⟩
  rcases h.lies with h1 | ⟨b, off, rfl, h2, h3⟩
  · exact .inl h1
  · have hne : b ≠ g := by have := hp _ rfl; simp at this; omega
    have hh := Below.heap_setCell w ⟨g, i, none⟩ v b hne
    refine .inr ⟨b, off, rfl, by rw [World.size_setCell]; exact h2, fun k r hr j hj => ?_⟩
    rw [← h3 k r hr j hj]
    unfold World.cell?
    rw [hh]
theorem lt1 {p : Option Addr} {g : Nat} (h : ∀ a, p = some a → g + 1 < a.block) : ∀ a, p = some a → g < a.block := fun a ha => by have := h a ha; omega
theorem copied {w w4 : World} {g : Nat} (s : St) {p1 p2 : Option Addr} {c1 c2 : Nat} {L' : List Bl} (hg : w.heap.size = g) (hL : L'.length = s.bills.length) (hs : ∀ (i : Nat) (x y : Bl), s.bills[i]? = some x → L'[i]? = some y → SameBl x y)
    (S1 : Sl w4 p1 13 (s.loans.map Ln.cells) c1) (S2 : Sl w4 p2 6 (L'.map Bl.cells) c2) (q1 : ∀ a, p1 = some a → g + 1 < a.block) (q2 : ∀ a, p2 = some a → g + 1 < a.block) (hx : Blk w4 g 41 s.cells) (hz : Blk w4 (g + 1) 41 zeroS) (hB : Below w.heap.size w w4) :
    ∃ s' : St, SameSt s s' ∧ StIn ((w4.setCell ⟨g, 1, none⟩ (.slice p1 s.loans.length c1)).setCell ⟨g, 6, none⟩ (.slice p2 s.bills.length c2)) s' ∧ Blk ((w4.setCell ⟨g, 1, none⟩ (.slice p1 s.loans.length c1)).setCell ⟨g, 6, none⟩ (.slice p2 s.bills.length c2)) g 41 s'.cells ∧
      Blk ((w4.setCell ⟨g, 1, none⟩ (.slice p1 s.loans.length c1)).setCell ⟨g, 6, none⟩ (.slice p2 s.bills.length c2)) (g + 1) 41 zeroS ∧ Below w.heap.size w ((w4.setCell ⟨g, 1, none⟩ (.slice p1 s.loans.length c1)).setCell ⟨g, 6, none⟩ (.slice p2 s.bills.length c2)) ∧ (∀ a, s'.lp = some a → g + 1 < a.block) ∧ ∀ a, s'.bp = some a → g + 1 < a.block := by
  refine ⟨s.put p1 c1 L' p2 c2, ⟨rfl, rfl, hL, hs, rfl⟩, ⟨(S1.set_other (lt1 q1)).set_other (lt1 q1), (S2.set_other (lt1 q2)).set_other (lt1 q2)⟩, ?_, (hz.other (by omega) _ _).other (by omega) _ _, (hB.setCell (p := ⟨g, 1, none⟩) (by rw [hg]; exact Nat.le_refl _) _).setCell (p := ⟨g, 6, none⟩) (by rw [hg]; exact Nat.le_refl _) _, q1, q2⟩
  have h := (hx.set_ 1 (.slice p1 s.loans.length c1)).set_ 6 (.slice p2 s.bills.length c2)
  rw [← hL] at h ⊢
  exact h
theorem set_state_in (s : St) {w : World} {g : Nat} (h : StIn w s) (q1 : ∀ a, s.lp = some a → g < a.block) (q2 : ∀ a, s.bp = some a → g < a.block) : StIn (((((((((((((w.setCell ⟨g, 0, none⟩ (.int .i64 s.day)).setCell ⟨g, 1, none⟩ (.slice s.lp s.loans.length s.lc)).setCell ⟨g, 2, none⟩ (.int .i64 s.plan)).setCell ⟨g, 3, none⟩ (.int .i64 s.since)).setCell ⟨g, 4, none⟩ (.int .i64 s.income)).setCell ⟨g, 5, none⟩ (.int .i64 s.family)).setCell ⟨g, 6, none⟩ (.slice s.bp s.bills.length s.bc)).setCell ⟨g, 7, none⟩ (.int .i64 s.ahead)).setCell ⟨g, 8, none⟩ (.int .i64 s.p0)).setCell ⟨g, 9, none⟩ (.int .i64 s.p1)).setCell ⟨g, 10, none⟩ (.int .i64 s.p2)).setCell ⟨g, 11, none⟩ (.int .i64 s.p3)).setCell ⟨g, 12, none⟩ (.int .i64 s.written)) s := by
  constructor
  · exact (((((((((((((h.loans.set_other (i := 0) (v := .int .i64 s.day) q1).set_other (i := 1) (v := .slice s.lp s.loans.length s.lc) q1).set_other (i := 2) (v := .int .i64 s.plan) q1).set_other (i := 3) (v := .int .i64 s.since) q1).set_other (i := 4) (v := .int .i64 s.income) q1).set_other (i := 5) (v := .int .i64 s.family) q1).set_other (i := 6) (v := .slice s.bp s.bills.length s.bc) q1).set_other (i := 7) (v := .int .i64 s.ahead) q1).set_other (i := 8) (v := .int .i64 s.p0) q1).set_other (i := 9) (v := .int .i64 s.p1) q1).set_other (i := 10) (v := .int .i64 s.p2) q1).set_other (i := 11) (v := .int .i64 s.p3) q1).set_other (i := 12) (v := .int .i64 s.written) q1)
  · exact (((((((((((((h.bills.set_other (i := 0) (v := .int .i64 s.day) q2).set_other (i := 1) (v := .slice s.lp s.loans.length s.lc) q2).set_other (i := 2) (v := .int .i64 s.plan) q2).set_other (i := 3) (v := .int .i64 s.since) q2).set_other (i := 4) (v := .int .i64 s.income) q2).set_other (i := 5) (v := .int .i64 s.family) q2).set_other (i := 6) (v := .slice s.bp s.bills.length s.bc) q2).set_other (i := 7) (v := .int .i64 s.ahead) q2).set_other (i := 8) (v := .int .i64 s.p0) q2).set_other (i := 9) (v := .int .i64 s.p1) q2).set_other (i := 10) (v := .int .i64 s.p2) q2).set_other (i := 11) (v := .int .i64 s.p3) q2).set_other (i := 12) (v := .int .i64 s.written) q2)
set_option maxRecDepth 20000 in
set_option maxHeartbeats 8000000 in
theorem copystate_calls (s : St) (hl : s.loans.length ≤ 1000) (hb : s.bills.length ≤ 1000) (w : World) (hS : StIn w s) (hI : ∀ x ∈ s.bills, InBl w x ∧ x.sn ≤ 1000) :
    Calls Tryd.prog 18 #[s.v] w fun e w' => (∃ s' : St, e = .returned s'.v ∧ SameSt s s' ∧ StIn w' s') ∧ Below w.heap.size w w' := by
  have HL := Lib.hid (fun W (hB : Below w.heap.size w W) => copyloans_calls s.loans s.lp s.lc W (hS.below hB).loans hl)
  have HC := Lib.hid (fun W (hB : Below w.heap.size w W) => copybills_calls s.bills s.bp s.bc W (hS.below hB).bills (fun x hx => ⟨(hI x hx).1.below hB, (hI x hx).2⟩) hb)
  have hal := (Below.refl w.heap.size w).alloc (Nat.le_refl _) (.cells s.cells 41)
  have hal2 := hal.alloc hal.size (.cells #[.int .i64 0, .slice none 0 0, .int .i64 0, .int .i64 0, .int .i64 0, .int .i64 0, .slice none 0 0, .int .i64 0, .int .i64 0, .int .i64 0, .int .i64 0, .int .i64 0, .int .i64 0] 41)
  have HX := Lib.hid ((Blk.new w 41 s.cells).below ((Below.refl _ _).alloc (Nat.le_refl _) (.cells #[.int .i64 0, .slice none 0 0, .int .i64 0, .int .i64 0, .int .i64 0, .int .i64 0, .slice none 0 0, .int .i64 0, .int .i64 0, .int .i64 0, .int .i64 0, .int .i64 0, .int .i64 0] 41)))
  have HZ := Lib.hid (Blk.new (w.alloc (.cells s.cells 41)) 41 #[.int .i64 0, .slice none 0 0, .int .i64 0, .int .i64 0, .int .i64 0, .int .i64 0, .slice none 0 0, .int .i64 0, .int .i64 0, .int .i64 0, .int .i64 0, .int .i64 0, .int .i64 0])
  have hsz : (w.alloc (.cells s.cells 41)).heap.size = w.heap.size + 1 := by simp
  rw [hsz] at HZ
  have HB := Lib.hid hal2
  clear hal hal2 hS hI hsz
  go_enter Tryd.func18, Tryd.ntmps18
  go_upto_region 1 with fail
  generalize (w.alloc (.cells s.cells 41)).alloc (.cells #[.int .i64 0, .slice none 0 0, .int .i64 0, .int .i64 0, .int .i64 0, .int .i64 0, .slice none 0 0, .int .i64 0, .int .i64 0, .int .i64 0, .int .i64 0, .int .i64 0, .int .i64 0] 41) = w2 at *
  obtain ⟨g, hg⟩ : ∃ g, w.heap.size = g := ⟨_, rfl⟩
  have HG := Lib.hid hg
  rw [hg] at HX HZ
  rw [hg]
  clear hg
  have x1 : w2.cell? ⟨g, 1, none⟩ = some (.slice s.lp s.loans.length s.lc) := HX.out.cell 1
  have x6 : w2.cell? ⟨g, 6, none⟩ = some (.slice s.bp s.bills.length s.bc) := HX.out.cell 6
  have f1 := HX.out.frozen 1
  have f6 := HX.out.frozen 6
  have hB2 : Below w.heap.size w w2.drew := HB.out.drew
  have HX2 : Hid (Blk w2.drew g 41 s.cells) := Lib.hid ⟨HX.out.heap⟩
  have HZ2 : Hid (Blk w2.drew (g + 1) 41 #[.int .i64 0, .slice none 0 0, .int .i64 0, .int .i64 0, .int .i64 0, .int .i64 0, .slice none 0 0, .int .i64 0, .int .i64 0, .int .i64 0, .int .i64 0, .int .i64 0, .int .i64 0]) := Lib.hid ⟨HZ.out.heap⟩
  go_cut [] from 3 to 11 (fun W => ∃ s' : St, SameSt s s' ∧ StIn W s' ∧ Blk W g 41 s'.cells ∧ Blk W (g + 1) 41 zeroS ∧ Below w.heap.size w W ∧ (∀ a, s'.lp = some a → g + 1 < a.block) ∧ ∀ a, s'.bp = some a → g + 1 < a.block)
  case first =>
    go_region_with (first
      | (go_at_call 33
         refine (HL.out _ (by assumption)).mono ?_
         rintro e w3 ⟨⟨p1, c1, rfl, s1, q1⟩, b3⟩
         have HX3 := Lib.hid (HX2.out.below b3)
         have HZ3 := Lib.hid (HZ2.out.below b3)
         have S1 := Lib.hid s1
         have Q1 : Hid (∀ a, p1 = some a → g + 1 < a.block) := Lib.hid (fun a ha => Nat.lt_of_lt_of_le HZ2.out.lt (q1 a ha))
         have hB3 : Below w.heap.size w w3 := hB2.trans (b3.mono hB2.size)
         have y1 : w3.cell? ⟨g, 1, none⟩ = some (.slice s.lp s.loans.length s.lc) := HX3.out.cell 1
         have y6 : w3.cell? ⟨g, 6, none⟩ = some (.slice s.bp s.bills.length s.bc) := HX3.out.cell 6
         have k1 := HX3.out.frozen 1
         have k6 := HX3.out.frozen 6
         clear s1 q1 b3)
      | (go_at_call 34
         refine (HC.out _ (by assumption)).mono ?_
         rintro e w4 ⟨⟨L', p2, c2, rfl, hL', hs', s2, q2⟩, b4⟩
         have HX4 := Lib.hid (HX3.out.below b4)
         have HZ4 := Lib.hid (HZ3.out.below b4)
         have S2 := Lib.hid s2
         have Q2 : Hid (∀ a, p2 = some a → g + 1 < a.block) := Lib.hid (fun a ha => Nat.lt_of_lt_of_le HZ3.out.lt (q2 a ha))
         have S3 := Lib.hid (S1.out.below b4)
         have HS' := Lib.hid hs'
         have hB4 : Below w.heap.size w w4 := hB3.trans (b4.mono hB3.size)
         have z1 : w4.cell? ⟨g, 1, none⟩ = some (.slice s.lp s.loans.length s.lc) := HX4.out.cell 1
         have z6 : w4.cell? ⟨g, 6, none⟩ = some (.slice s.bp s.bills.length s.bc) := HX4.out.cell 6
         have l1 := HX4.out.frozen 1
         have l6 := HX4.out.frozen 6
         clear s2 q2 b4 hs'))
    all_goals (go_wp2_with fail)
    all_goals go_meet
    all_goals case rel => exact copied s HG.out hL' HS'.out S3.out S2.out Q1.out Q2.out HX4.out HZ4.out hB4
  case rest =>
    obtain ⟨s', hsame, hin, hx, hz, hB, hq1, hq2⟩ := hcut
    have HQ1 := Lib.hid hq1
    have HQ2 := Lib.hid hq2
    have HSm := Lib.hid hsame
    have HIn := Lib.hid hin
    have HX5 := Lib.hid hx
    have HZ5 := Lib.hid hz
    have HB5 := Lib.hid hB
    have m0 : wc.cell? ⟨g, 0, none⟩ = some (.int .i64 s'.day) := HX5.out.cell 0
    have r0 := HZ5.out.frozen 0
    have n0 : wc.cell? ⟨g + 1, 0, none⟩ = some (.int .i64 0) := HZ5.out.cell 0
    have m1 : wc.cell? ⟨g, 1, none⟩ = some (.slice s'.lp s'.loans.length s'.lc) := HX5.out.cell 1
    have r1 := HZ5.out.frozen 1
    have n1 : wc.cell? ⟨g + 1, 1, none⟩ = some (.slice none 0 0) := HZ5.out.cell 1
    have m2 : wc.cell? ⟨g, 2, none⟩ = some (.int .i64 s'.plan) := HX5.out.cell 2
    have r2 := HZ5.out.frozen 2
    have n2 : wc.cell? ⟨g + 1, 2, none⟩ = some (.int .i64 0) := HZ5.out.cell 2
    have m3 : wc.cell? ⟨g, 3, none⟩ = some (.int .i64 s'.since) := HX5.out.cell 3
    have r3 := HZ5.out.frozen 3
    have n3 : wc.cell? ⟨g + 1, 3, none⟩ = some (.int .i64 0) := HZ5.out.cell 3
    have m4 : wc.cell? ⟨g, 4, none⟩ = some (.int .i64 s'.income) := HX5.out.cell 4
    have r4 := HZ5.out.frozen 4
    have n4 : wc.cell? ⟨g + 1, 4, none⟩ = some (.int .i64 0) := HZ5.out.cell 4
    have m5 : wc.cell? ⟨g, 5, none⟩ = some (.int .i64 s'.family) := HX5.out.cell 5
    have r5 := HZ5.out.frozen 5
    have n5 : wc.cell? ⟨g + 1, 5, none⟩ = some (.int .i64 0) := HZ5.out.cell 5
    have m6 : wc.cell? ⟨g, 6, none⟩ = some (.slice s'.bp s'.bills.length s'.bc) := HX5.out.cell 6
    have r6 := HZ5.out.frozen 6
    have n6 : wc.cell? ⟨g + 1, 6, none⟩ = some (.slice none 0 0) := HZ5.out.cell 6
    have m7 : wc.cell? ⟨g, 7, none⟩ = some (.int .i64 s'.ahead) := HX5.out.cell 7
    have r7 := HZ5.out.frozen 7
    have n7 : wc.cell? ⟨g + 1, 7, none⟩ = some (.int .i64 0) := HZ5.out.cell 7
    have m8 : wc.cell? ⟨g, 8, none⟩ = some (.int .i64 s'.p0) := HX5.out.cell 8
    have r8 := HZ5.out.frozen 8
    have n8 : wc.cell? ⟨g + 1, 8, none⟩ = some (.int .i64 0) := HZ5.out.cell 8
    have m9 : wc.cell? ⟨g, 9, none⟩ = some (.int .i64 s'.p1) := HX5.out.cell 9
    have r9 := HZ5.out.frozen 9
    have n9 : wc.cell? ⟨g + 1, 9, none⟩ = some (.int .i64 0) := HZ5.out.cell 9
    have m10 : wc.cell? ⟨g, 10, none⟩ = some (.int .i64 s'.p2) := HX5.out.cell 10
    have r10 := HZ5.out.frozen 10
    have n10 : wc.cell? ⟨g + 1, 10, none⟩ = some (.int .i64 0) := HZ5.out.cell 10
    have m11 : wc.cell? ⟨g, 11, none⟩ = some (.int .i64 s'.p3) := HX5.out.cell 11
    have r11 := HZ5.out.frozen 11
    have n11 : wc.cell? ⟨g + 1, 11, none⟩ = some (.int .i64 0) := HZ5.out.cell 11
    have m12 : wc.cell? ⟨g, 12, none⟩ = some (.int .i64 s'.written) := HX5.out.cell 12
    have r12 := HZ5.out.frozen 12
    have n12 : wc.cell? ⟨g + 1, 12, none⟩ = some (.int .i64 0) := HZ5.out.cell 12
    clear hsame hin hx hz hB hq1 hq2
    go_wp2_with fail
    have hA := set_state s' HZ5.out
    have hAB := set_state_below s' (show w.heap.size ≤ g + 1 by rw [HG.out]; exact Nat.le_succ g) HB5.out
    have hAI := set_state_in s' HIn.out HQ1.out HQ2.out
    (try simp only [Exit.inBlock, Exit.then])
    refine bodyPost_ret (results_cell_row (p := 2) (ty := 41) rfl _ _ (g + 1) 41 _ _ _ rfl hA.heap Tryd.underlying41 rfl (by kernel_rfl)) rfl ?_
    exact ⟨⟨s', rfl, HSm.out, hAI⟩, hAB⟩
end Go.Proofs.YtkifkjgkdfnhcaaDoor.Vw
