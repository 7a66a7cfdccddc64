/- Texts joined: E16 E20 E4 E5 E7. -/
import Derived.Test.YtkcjgmicoifhcaaGreatDoorM2
import Derived.Deep.CutRange

/- E16: Commands; event.Fine. -/
namespace Go.Proofs.YtkcjgmicoifhcaaGreatDoor.Ev
open Go.RowKit Go.Proofs.YtkcjgmicoifhcaaGreatDoor.Pk Go.Proofs.YtkcjgmicoifhcaaGreatDoor.Re

/-- A command. -/
structure C where
  undo : Bool
  key : Int
  e : E
  of : Int
  deriving DecidableEq
abbrev C.cells (c : C) : Array Value := #[.bool c.undo, .int .u32 c.key, .int .i64 c.e.kind, .int .i64 c.e.day, .int .u32 c.e.key, .int .i64 c.e.loan, .int .i64 c.e.amount, .float .f64 c.e.rate, .float .f64 c.e.income, .bool c.e.sub, .int .i64 c.e.status, .int .i64 c.e.plan, .int .i64 c.e.family, .int .u32 c.of]
abbrev C.v (c : C) : Value := .agg #[.bool c.undo, .int .u32 c.key, .int .i64 c.e.kind, .int .i64 c.e.day, .int .u32 c.e.key, .int .i64 c.e.loan, .int .i64 c.e.amount, .float .f64 c.e.rate, .float .f64 c.e.income, .bool c.e.sub, .int .i64 c.e.status, .int .i64 c.e.plan, .int .i64 c.e.family, .int .u32 c.of]
/-- A command in memory. -/
structure Cx (w : World) (g : Nat) (c : C) : Prop where
  c0 : w.cell? ⟨g, 0, none⟩ = some (.bool c.undo)
  c1 : w.cell? ⟨g, 1, none⟩ = some (.int .u32 c.key)
  c2 : w.cell? ⟨g, 2, none⟩ = some (.int .i64 c.e.kind)
  c3 : w.cell? ⟨g, 3, none⟩ = some (.int .i64 c.e.day)
  c4 : w.cell? ⟨g, 4, none⟩ = some (.int .u32 c.e.key)
  c5 : w.cell? ⟨g, 5, none⟩ = some (.int .i64 c.e.loan)
  c6 : w.cell? ⟨g, 6, none⟩ = some (.int .i64 c.e.amount)
  c7 : w.cell? ⟨g, 7, none⟩ = some (.float .f64 c.e.rate)
  c8 : w.cell? ⟨g, 8, none⟩ = some (.float .f64 c.e.income)
  c9 : w.cell? ⟨g, 9, none⟩ = some (.bool c.e.sub)
  c10 : w.cell? ⟨g, 10, none⟩ = some (.int .i64 c.e.status)
  c11 : w.cell? ⟨g, 11, none⟩ = some (.int .i64 c.e.plan)
  c12 : w.cell? ⟨g, 12, none⟩ = some (.int .i64 c.e.family)
  c13 : w.cell? ⟨g, 13, none⟩ = some (.int .u32 c.of)
theorem cx_of {w : World} {g : Nat} {c : C} (h : Blk w g 27 c.cells) : Cx w g c :=
  ⟨h.cell 0, h.cell 1, h.cell 2, h.cell 3, h.cell 4, h.cell 5, h.cell 6, h.cell 7, h.cell 8, h.cell 9, h.cell 10, h.cell 11, h.cell 12, h.cell 13⟩
abbrev zeroE : E := ⟨0, 0, 0, 0, 0, 0, 0, false, 0, 0, 0⟩
/-- Has a command a form? -/
def fineC (c : C) : Bool := if c.undo then decide (c.e = zeroE) else c.of == 0 && (goodE c.e && c.e.key == c.key)
set_option maxRecDepth 20000 in
set_option maxHeartbeats 4000000 in
theorem fine_calls (c : C) (w : World) (hr : c.e.rate < 18446744073709551616) (hi : c.e.income < 18446744073709551616) :
    Calls Tryz.prog 14 #[c.v] w fun r w' => r = .returned (.bool (fineC c)) ∧ Below w.heap.size w w' := by
  have hb := Blk.new w 27 c.cells
  have HB := Lib.hid ((Below.refl w.heap.size w).alloc (Nat.le_refl _) (.cells c.cells 27))
  have HBk := Lib.hid hb
  have HG := Lib.hid (fun W => good_calls c.e W hr hi)
  have HS := Lib.hid (fun W => same_calls c.e zeroE W)
  obtain ⟨k0, k1, k2, k3, k4, k5, k6, k7, k8, k9, k10, k11, k12, k13⟩ := cx_of hb
  clear hb
  unfold fineC
  obtain ⟨u, hu⟩ : ∃ u, c.undo = u := ⟨_, rfl⟩
  obtain ⟨g1, hg1⟩ : ∃ u, goodE c.e = u := ⟨_, rfl⟩
  obtain ⟨g2, hg2⟩ : ∃ u, decide (c.e = zeroE) = u := ⟨_, rfl⟩
  rw [hg1] at HG ⊢
  rw [hg2] at HS ⊢
  obtain ⟨q, hq⟩ : ∃ q, (c.of == 0) = q := ⟨_, rfl⟩
  obtain ⟨q2, hq2⟩ : ∃ q, (c.e.key == c.key) = q := ⟨_, rfl⟩
  rw [hu, hq, hq2]
  have HU := Lib.hid hu
  have HQ := Lib.hid hq
  have HQ2 := Lib.hid hq2
  clear hg1 hg2 hu hq hq2
  go_enter Tryz.func14, Tryz.ntmps14
  go_upto_region 1 with fail
  generalize w.alloc (.cells c.cells 27) = W1 at *
  rw [HU.out] at k0
  have hq := HQ.out
  have hq2 := HQ2.out
  cases u with
  | true =>
    go_wp2_with fail
    refine (HS.out _).mono ?_
    rintro r w2 ⟨rfl, b2⟩
    have HB2 := Lib.hid (HB.out.trans (b2.mono HB.out.size))
    clear b2
    go_wp2_with fail
    go_ret
    exact ⟨rfl, HB2.out⟩
  | false =>
    cases q with
    | false =>
      go_wp2_with fail
      go_ret
      exact ⟨rfl, HB.out⟩
    | true =>
      go_wp2_with fail
      refine (HG.out _).mono ?_
      rintro r w2 ⟨rfl, b2⟩
      have HB2 := Lib.hid (HB.out.trans (b2.mono HB.out.size))
      have HK2 := Lib.hid (HBk.out.below b2)
      clear b2 k0 k1 k2 k3 k4 k5 k6 k7 k8 k9 k10 k11 k12 k13
      obtain ⟨k0, k1, k2, k3, k4, k5, k6, k7, k8, k9, k10, k11, k12, k13⟩ := cx_of HK2.out
      cases g1 with
      | false =>
        go_wp2_with fail
        go_ret
        exact ⟨rfl, HB2.out⟩
      | true =>
        go_wp2_with fail
        go_ret
        exact ⟨ret_bool (by simp), HB2.out⟩
end Go.Proofs.YtkcjgmicoifhcaaGreatDoor.Ev

/- E20: annuitykeep.Command: are two commands one? -/
namespace Go.Proofs.YtkcjgmicoifhcaaGreatDoor.Ev
open Go.RowKit Go.Proofs.YtkcjgmicoifhcaaGreatDoor.Pk Go.Proofs.YtkcjgmicoifhcaaGreatDoor.Re

theorem two_cboxes (a b : C) (w : World) : Blk ((w.alloc (.cells a.cells 27)).alloc (.cells b.cells 27)) w.heap.size 27 a.cells ∧ Blk ((w.alloc (.cells a.cells 27)).alloc (.cells b.cells 27)) (w.heap.size + 1) 27 b.cells ∧ Below w.heap.size w ((w.alloc (.cells a.cells 27)).alloc (.cells b.cells 27)) := by
  have h1 := Blk.new w 27 a.cells
  have h2 := Blk.new (w.alloc (.cells a.cells 27)) 27 b.cells
  have hs : (w.alloc (.cells a.cells 27)).heap.size = w.heap.size + 1 := by simp
  rw [hs] at h2
  refine ⟨h1.below ((Below.refl _ _).alloc (Nat.le_refl _) _), h2, ?_⟩
  have hb := (Below.refl w.heap.size w).alloc (Nat.le_refl _) (.cells a.cells 27)
  exact hb.alloc hb.size _
/-- Two commands are one where their parts are. -/
theorem cmd_one (a b : C) : decide (a = b) = ((a.undo == b.undo) && ((a.key == b.key) && (decide (a.e = b.e) && (a.of == b.of)))) := by
  cases a; cases b
  rw [Bool.eq_iff_iff]
  simp
set_option maxRecDepth 20000 in
set_option maxHeartbeats 4000000 in
theorem kcmd_calls (a b : C) (w : World) : Calls Tryz.prog 11 #[a.v, b.v] w fun r w' => r = .returned (.bool (decide (a = b))) ∧ Below w.heap.size w w' := by
  obtain ⟨B1, B2, HB⟩ := two_cboxes a b w
  have HB := Lib.hid HB
  have HK1 := Lib.hid B1
  have HK2 := Lib.hid B2
  obtain ⟨k0, k1, k2, k3, k4, k5, k6, k7, k8, k9, k10, k11, k12, k13⟩ := cx_of B1
  obtain ⟨j0, j1, j2, j3, j4, j5, j6, j7, j8, j9, j10, j11, j12, j13⟩ := cx_of B2
  clear B1 B2
  have HE := Lib.hid (fun W => kev_calls a.e b.e W)
  rw [cmd_one]
  obtain ⟨p0, h0⟩ : ∃ p, (a.undo == b.undo) = p := ⟨_, rfl⟩
  obtain ⟨p1, h1⟩ : ∃ p, (a.key == b.key) = p := ⟨_, rfl⟩
  obtain ⟨p2, h2⟩ : ∃ p, decide (a.e = b.e) = p := ⟨_, rfl⟩
  obtain ⟨p3, h3⟩ : ∃ p, (a.of == b.of) = p := ⟨_, rfl⟩
  rw [h2] at HE
  rw [h0, h1, h2, h3]
  have H0 := Lib.hid h0
  have H1 := Lib.hid h1
  have H3 := Lib.hid h3
  clear h0 h1 h2 h3
  go_enter Tryz.func11, Tryz.ntmps11
  go_upto_region 1 with fail
  generalize (w.alloc (.cells a.cells 27)).alloc (.cells b.cells 27) = W1 at *
  have q0 := H0.out
  have q1 := H1.out
  have q3 := H3.out
  cases p0 with
  | false =>
    go_wp2_with fail
    go_ret
    exact ⟨rfl, HB.out⟩
  | true =>
    cases p1 with
    | false =>
      go_wp2_with fail
      go_ret
      exact ⟨rfl, HB.out⟩
    | true =>
      go_wp2_with fail
      refine (HE.out _).mono ?_
      rintro r w2 ⟨rfl, b2⟩
      have HB2 := Lib.hid (HB.out.trans (b2.mono HB.out.size))
      have HK3 := Lib.hid (HK1.out.below b2)
      have HK4 := Lib.hid (HK2.out.below b2)
      clear b2 k0 k1 k2 k3 k4 k5 k6 k7 k8 k9 k10 k11 k12 k13 j0 j1 j2 j3 j4 j5 j6 j7 j8 j9 j10 j11 j12 j13
      obtain ⟨k0, k1, k2, k3, k4, k5, k6, k7, k8, k9, k10, k11, k12, k13⟩ := cx_of HK3.out
      obtain ⟨j0, j1, j2, j3, j4, j5, j6, j7, j8, j9, j10, j11, j12, j13⟩ := cx_of HK4.out
      cases p2 with
      | false =>
        go_wp2_with fail
        go_ret
        exact ⟨rfl, HB2.out⟩
      | true =>
        go_wp2_with fail
        go_ret
        exact ⟨ret_bool (by simp), HB2.out⟩
end Go.Proofs.YtkcjgmicoifhcaaGreatDoor.Ev

/- E4: The reference's Has, Only, minus. -/
namespace Go.Proofs.YtkcjgmicoifhcaaGreatDoor.Ev
open Go.RowKit Go.Proofs.YtkcjgmicoifhcaaGreatDoor.Pk Go.Proofs.YtkcjgmicoifhcaaGreatDoor.Re

/-- The letters of a kind's fields: the reference's. -/
def hasR (k : Int) : ByteArray :=
  if k = 1 then ⟨#[76, 65, 82, 83]⟩ else if k = 2 then ⟨#[76, 84]⟩ else if k = 3 then ⟨#[65]⟩ else if k = 4 then ⟨#[76, 65]⟩ else if k = 5 then ⟨#[80]⟩ else if k = 7 then ⟨#[76]⟩ else if k = 8 then ⟨#[76]⟩ else ByteArray.empty
set_option maxRecDepth 20000 in
theorem has_calls (k : Int) (w : World) : Calls Tryz.prog 90 #[.int .i64 k] w fun e w' => e = .returned (.string (hasR k)) ∧ w' = w := by
  go_enter Tryz.func90, Tryz.ntmps90
  go_wp2
  all_goals go_ret
  all_goals refine ⟨?_, rfl⟩
  all_goals (unfold hasR; simp_all; try rfl)
set_option maxRecDepth 20000 in
theorem minus_calls (x : Nat) (w : World) (hx : x < 18446744073709551616) : Calls Tryz.prog 92 #[.float .f64 x] w fun e w' => e = .returned (.bool (isZ x && decide (9223372036854775808 ≤ x))) ∧ w' = w := by
  have h1 := bits_run
  have HS : ∀ W, Calls Tryz.prog 128 #[.float .f64 x] W fun e w' => e = .returned (.bool (decide (9223372036854775808 ≤ x))) ∧ w' = W := by
    intro W
    have hw : wrap64 (x : Int) = if 9223372036854775808 ≤ x then (x : Int) - 18446744073709551616 else (x : Int) := by
      split
      · unfold wrap64; omega
      · exact wr64 _ (by omega)
    by_cases c : 9223372036854775808 ≤ x
    · rw [if_pos c] at hw
      go_enter Tryz.func128, Tryz.ntmps128
      go_wp2_with fail
      go_ret
      exact ⟨ret_bool (by simp; omega), rfl⟩
    · rw [if_neg c] at hw
      go_enter Tryz.func128, Tryz.ntmps128
      go_wp2_with fail
      go_ret
      exact ⟨ret_bool (by simp; omega), rfl⟩
  have HS := Lib.hid HS
  obtain ⟨b, hb⟩ : ∃ b, isZ x = b := ⟨_, rfl⟩
  rw [hb]
  unfold isZ at hb
  go_enter Tryz.func92, Tryz.ntmps92
  cases b
  · go_wp2_with fail
    go_ret
    exact ⟨rfl, rfl⟩
  · go_wp2_with fail
    refine (HS.out _).mono ?_
    rintro r w1 ⟨rfl, rfl⟩
    go_wp2_with fail
    go_ret
    exact ⟨ret_bool (by simp), rfl⟩
end Go.Proofs.YtkcjgmicoifhcaaGreatDoor.Ev

/- E5: The reference's Only: just the fields that a kind has. -/
namespace Go.Proofs.YtkcjgmicoifhcaaGreatDoor.Ev
open Go.RowKit Go.Proofs.YtkcjgmicoifhcaaGreatDoor.Pk Go.Proofs.YtkcjgmicoifhcaaGreatDoor.Re

def onlyStep (e n : E) (c : Int) : E :=
  if c = 76 then { n with loan := e.loan } else if c = 65 then { n with amount := e.amount } else if c = 82 then { n with rate := e.rate } else if c = 83 then { n with sub := e.sub }
  else if c = 84 then { n with status := e.status } else if c = 80 then (if e.plan = 4 then { n with plan := e.plan, income := e.income, family := e.family } else { n with plan := e.plan }) else n
def bare (e : E) : E := ⟨e.kind, e.day, e.key, 0, 0, 0, 0, false, 0, 0, 0⟩
def onlyK (e : E) (k : Nat) : E := ((ints (hasR e.kind)).take k).foldl (onlyStep e) (bare e)
def onlyE (e : E) : E := (ints (hasR e.kind)).foldl (onlyStep e) (bare e)
theorem onlyK_succ (e : E) (k : Nat) (hk : k < (hasR e.kind).size) : onlyK e (k + 1) = onlyStep e (onlyK e k) ((hasR e.kind)[k].toNat : Int) := by
  have hlen : k < (ints (hasR e.kind)).length := by rw [ints_length]; exact hk
  unfold onlyK
  rw [List.take_succ_eq_append_getElem hlen, List.foldl_append]
  have : (ints (hasR e.kind))[k] = ((hasR e.kind)[k].toNat : Int) := by simp [ints, ByteArray.getElem_eq_getElem_data]
  simp [this]
theorem onlyK_all (e : E) : onlyK e (hasR e.kind).size = onlyE e := by
  unfold onlyK onlyE
  rw [List.take_of_length_le (by rw [ints_length]; exact Nat.le_refl _)]
theorem chars_ok (l : ByteArray) (h : (ints l).all (fun c => c == 76 || c == 65 || c == 82 || c == 83 || c == 84 || c == 80) = true) :
    ∀ j (hj : j < l.size), l[j].toNat = 76 ∨ l[j].toNat = 65 ∨ l[j].toNat = 82 ∨ l[j].toNat = 83 ∨ l[j].toNat = 84 ∨ l[j].toNat = 80 := by
  intro j hj
  have hlen : j < (ints l).length := by rw [ints_length]; exact hj
  have := List.all_eq_true.1 h (ints l)[j] (List.getElem_mem hlen)
  have e : (ints l)[j] = (l[j].toNat : Int) := by simp [ints, ByteArray.getElem_eq_getElem_data]
  rw [e] at this
  simp only [Bool.or_eq_true, beq_iff_eq] at this
  omega
theorem hasR_in (k : Int) : (hasR k).size ≤ 4 ∧ ∀ j (h : j < (hasR k).size), (hasR k)[j].toNat = 76 ∨ (hasR k)[j].toNat = 65 ∨ (hasR k)[j].toNat = 82 ∨ (hasR k)[j].toNat = 83 ∨ (hasR k)[j].toNat = 84 ∨ (hasR k)[j].toNat = 80 := by
  unfold hasR
  repeat' split
  all_goals exact ⟨by decide, chars_ok _ (by decide)⟩
theorem two_below' (X Y : Obj) (w : World) : Below w.heap.size w ((w.alloc X).alloc Y) := by
  have hb := (Below.refl w.heap.size w).alloc (Nat.le_refl _) X
  exact hb.alloc hb.size _
/-- One cell of the second of two blocks. -/
theorem blk_other {w : World} {g g' : Nat} {t : TypeId} {cs : Array Value} (h : Blk w g t cs) (hne : g ≠ g') (i : Nat) (u : Value) : Blk (w.setCell ⟨g', i, none⟩ u) g t cs :=
  h.same (Below.heap_setCell _ _ _ _ hne)
/-- A whole event stored, cell by cell. -/
theorem set_event {w : World} {g : Nat} {z : E} (n : E) (h : Blk w g 25 z.cells) : Blk (((((((((((w.setCell ⟨g, 0, none⟩ (.int .i64 n.kind)).setCell ⟨g, 1, none⟩ (.int .i64 n.day)).setCell ⟨g, 2, none⟩ (.int .u32 n.key)).setCell ⟨g, 3, none⟩ (.int .i64 n.loan)).setCell ⟨g, 4, none⟩ (.int .i64 n.amount)).setCell ⟨g, 5, none⟩ (.float .f64 n.rate)).setCell ⟨g, 6, none⟩ (.float .f64 n.income)).setCell ⟨g, 7, none⟩ (.bool n.sub)).setCell ⟨g, 8, none⟩ (.int .i64 n.status)).setCell ⟨g, 9, none⟩ (.int .i64 n.plan)).setCell ⟨g, 10, none⟩ (.int .i64 n.family)) g 25 n.cells := by
  have e : (((((((((((z.cells.setIfInBounds 0 (.int .i64 n.kind)).setIfInBounds 1 (.int .i64 n.day)).setIfInBounds 2 (.int .u32 n.key)).setIfInBounds 3 (.int .i64 n.loan)).setIfInBounds 4 (.int .i64 n.amount)).setIfInBounds 5 (.float .f64 n.rate)).setIfInBounds 6 (.float .f64 n.income)).setIfInBounds 7 (.bool n.sub)).setIfInBounds 8 (.int .i64 n.status)).setIfInBounds 9 (.int .i64 n.plan)).setIfInBounds 10 (.int .i64 n.family)) = n.cells := by kernel_rfl
  rw [← e]
  exact (((((((((((h.set_ 0 (.int .i64 n.kind)).set_ 1 (.int .i64 n.day)).set_ 2 (.int .u32 n.key)).set_ 3 (.int .i64 n.loan)).set_ 4 (.int .i64 n.amount)).set_ 5 (.float .f64 n.rate)).set_ 6 (.float .f64 n.income)).set_ 7 (.bool n.sub)).set_ 8 (.int .i64 n.status)).set_ 9 (.int .i64 n.plan)).set_ 10 (.int .i64 n.family))
theorem set_below {w0 w : World} {B g : Nat} (n : E) (hg : B ≤ g) (h : Below B w0 w) : Below B w0 (((((((((((w.setCell ⟨g, 0, none⟩ (.int .i64 n.kind)).setCell ⟨g, 1, none⟩ (.int .i64 n.day)).setCell ⟨g, 2, none⟩ (.int .u32 n.key)).setCell ⟨g, 3, none⟩ (.int .i64 n.loan)).setCell ⟨g, 4, none⟩ (.int .i64 n.amount)).setCell ⟨g, 5, none⟩ (.float .f64 n.rate)).setCell ⟨g, 6, none⟩ (.float .f64 n.income)).setCell ⟨g, 7, none⟩ (.bool n.sub)).setCell ⟨g, 8, none⟩ (.int .i64 n.status)).setCell ⟨g, 9, none⟩ (.int .i64 n.plan)).setCell ⟨g, 10, none⟩ (.int .i64 n.family)) :=
  (((((((((((h.setCell (p := ⟨g, 0, none⟩) hg (.int .i64 n.kind)).setCell (p := ⟨g, 1, none⟩) hg (.int .i64 n.day)).setCell (p := ⟨g, 2, none⟩) hg (.int .u32 n.key)).setCell (p := ⟨g, 3, none⟩) hg (.int .i64 n.loan)).setCell (p := ⟨g, 4, none⟩) hg (.int .i64 n.amount)).setCell (p := ⟨g, 5, none⟩) hg (.float .f64 n.rate)).setCell (p := ⟨g, 6, none⟩) hg (.float .f64 n.income)).setCell (p := ⟨g, 7, none⟩) hg (.bool n.sub)).setCell (p := ⟨g, 8, none⟩) hg (.int .i64 n.status)).setCell (p := ⟨g, 9, none⟩) hg (.int .i64 n.plan)).setCell (p := ⟨g, 10, none⟩) hg (.int .i64 n.family))
set_option maxRecDepth 20000 in
set_option maxHeartbeats 4000000 in
theorem only_calls (e : E) (w : World) : Calls Tryz.prog 89 #[e.v] w fun r w' => r = .returned (onlyE e).v ∧ Below w.heap.size w w' := by
  have HH := Lib.hid (fun W => has_calls e.kind W)
  have hin := hasR_in e.kind
  have hst := fun (a : Addr) (n : Nat) (W : World) => run_store Tryz.prog W a (.float .f64 n) .plain rfl
  have P1 := (Blk.new w 25 e.cells).below ((Below.refl _ _).alloc (Nat.le_refl _) (.cells (⟨0, 0, 0, 0, 0, 0, 0, false, 0, 0, 0⟩ : E).cells 25))
  have P2 := Blk.new (w.alloc (.cells e.cells 25)) 25 (⟨0, 0, 0, 0, 0, 0, 0, false, 0, 0, 0⟩ : E).cells
  have P3 := two_below' (.cells e.cells 25) (.cells (⟨0, 0, 0, 0, 0, 0, 0, false, 0, 0, 0⟩ : E).cells 25) w
  have P4 : ((w.alloc (.cells e.cells 25)).alloc (.cells (⟨0, 0, 0, 0, 0, 0, 0, false, 0, 0, 0⟩ : E).cells 25)).heap.size = w.heap.size + 2 := by simp
  rw [show (w.alloc (.cells e.cells 25)).heap.size = w.heap.size + 1 by simp] at P2
  go_enter Tryz.func89, Tryz.ntmps89
  go_upto_region 1 with fail
  generalize (w.alloc (.cells e.cells 25)).alloc (.cells (⟨0, 0, 0, 0, 0, 0, 0, false, 0, 0, 0⟩ : E).cells 25) = W2 at *
  obtain ⟨k0, k1, k2, k3, k4, k5, k6, k7, k8, k9, k10⟩ := bx_of P1
  go_wp2_with fail
  refine (HH.out _).mono ?_
  rintro r w1 ⟨rfl, rfl⟩
  go_wp2_with fail
  have H1 := Lib.hid (P1.below ((Below.refl _ _).alloc (Nat.le_refl _) (.cells (bare e).cells 25)))
  have H2 := Lib.hid (P2.below ((Below.refl _ _).alloc (Nat.le_refl _) (.cells (bare e).cells 25)))
  have H3 := Lib.hid (show Blk (W2.alloc (.cells (bare e).cells 25)) (w.heap.size + 2) 25 (bare e).cells by rw [← P4]; exact Blk.new W2 25 (bare e).cells)
  have H4 := Lib.hid (P3.trans (((Below.refl W2.heap.size W2).alloc (Nat.le_refl _) (.cells (bare e).cells 25)).mono P3.size))
  clear P1 P2 P3 P4 k0 k1 k2 k3 k4 k5 k6 k7 k8 k9 k10
  obtain ⟨h, hh⟩ : ∃ h, hasR e.kind = h := ⟨_, rfl⟩
  rw [hh] at hin ⊢
  go_loopw [5] (fun i wr => ∃ k : Nat, k ≤ h.size ∧ i = .int .i64 (k : Int) ∧ Blk wr w.heap.size 25 e.cells ∧ Blk wr (w.heap.size + 1) 25 (⟨0, 0, 0, 0, 0, 0, 0, false, 0, 0, 0⟩ : E).cells ∧ Blk wr (w.heap.size + 2) 25 (onlyK e k).cells ∧ Below w.heap.size w wr) (fun i _ => h.size - (intOf i).toNat)
  case atStart => exact ⟨0, Nat.zero_le _, rfl, H1.out, H2.out, H3.out, H4.out⟩
  case round =>
    obtain ⟨k, hk, rfl, q1, q2, q3, q4⟩ := hrel
    have Q1 := Lib.hid q1
    have Q2 := Lib.hid q2
    have Q3 := Lib.hid q3
    have Q4 := Lib.hid q4
    clear q1 q2 q3 q4
    have hs4 := hin.1
    by_cases hk2 : k < h.size
    · have hc := hin.2 k hk2
      have hsu := onlyK_succ e k (by rw [hh]; exact hk2)
      simp only [hh] at hsu
      obtain ⟨k0, k1, k2, k3, k4, k5, k6, k7, k8, k9, k10⟩ := bx_of Q1.out
      have f3 := Q3.out.frozen 3
      have f4 := Q3.out.frozen 4
      have f5 := Q3.out.frozen 5
      have f6 := Q3.out.frozen 6
      have f7 := Q3.out.frozen 7
      have f8 := Q3.out.frozen 8
      have f9 := Q3.out.frozen 9
      have f10 := Q3.out.frozen 10
      obtain ⟨j0, j1, j2, j3, j4, j5, j6, j7, j8, j9, j10⟩ := bx_of Q3.out
      generalize onlyK e k = n at *
      have HSU := Lib.hid hsu
      clear hsu
      rcases hc with hc | hc | hc | hc | hc | hc
      · rw [hc] at HSU
        go_wp2_with fail
        refine ⟨⟨k + 1, by omega, by go_num, blk_other Q1.out (by omega) _ _, blk_other Q2.out (by omega) _ _, ?_, Q4.out.setCell (by simp) _⟩, by simp [intOf]; omega⟩
        rw [HSU.out]
        exact Q3.out.set_ 3 (.int .i64 e.loan)
      · rw [hc] at HSU
        go_wp2_with fail
        refine ⟨⟨k + 1, by omega, by go_num, blk_other Q1.out (by omega) _ _, blk_other Q2.out (by omega) _ _, ?_, Q4.out.setCell (by simp) _⟩, by simp [intOf]; omega⟩
        rw [HSU.out]
        exact Q3.out.set_ 4 (.int .i64 e.amount)
      · rw [hc] at HSU
        go_wp2_with fail
        refine ⟨⟨k + 1, by omega, by go_num, blk_other Q1.out (by omega) _ _, blk_other Q2.out (by omega) _ _, ?_, Q4.out.setCell (by simp) _⟩, by simp [intOf]; omega⟩
        rw [HSU.out]
        exact Q3.out.set_ 5 (.float .f64 e.rate)
      · rw [hc] at HSU
        go_wp2_with fail
        refine ⟨⟨k + 1, by omega, by go_num, blk_other Q1.out (by omega) _ _, blk_other Q2.out (by omega) _ _, ?_, Q4.out.setCell (by simp) _⟩, by simp [intOf]; omega⟩
        rw [HSU.out]
        exact Q3.out.set_ 7 (.bool e.sub)
      · rw [hc] at HSU
        go_wp2_with fail
        refine ⟨⟨k + 1, by omega, by go_num, blk_other Q1.out (by omega) _ _, blk_other Q2.out (by omega) _ _, ?_, Q4.out.setCell (by simp) _⟩, by simp [intOf]; omega⟩
        rw [HSU.out]
        exact Q3.out.set_ 8 (.int .i64 e.status)
      · rw [hc] at HSU
        by_cases hp : e.plan = 4
        · rw [show onlyStep e n ((80 : Nat) : Int) = { n with plan := e.plan, income := e.income, family := e.family } from if_pos hp] at HSU
          have hp2 : (e.plan == 4) = true := by simpa using hp
          clear hp
          go_upto_region 20 with fail
          have R1 := blk_other Q1.out (show w.heap.size ≠ w.heap.size + 2 by omega) 9 (.int .i64 e.plan)
          have R2 := Lib.hid (blk_other Q2.out (show w.heap.size + 1 ≠ w.heap.size + 2 by omega) 9 (.int .i64 e.plan))
          have R3 : Blk (wr.setCell ⟨w.heap.size + 2, 9, none⟩ (.int .i64 e.plan)) (w.heap.size + 2) 25 ({ n with plan := e.plan } : E).cells := Q3.out.set_ 9 (.int .i64 e.plan)
          have R4 := Lib.hid (Q4.out.setCell (p := ⟨w.heap.size + 2, 9, none⟩) (by show w.heap.size ≤ w.heap.size + 2; omega) (.int .i64 e.plan))
          generalize wr.setCell ⟨w.heap.size + 2, 9, none⟩ (.int .i64 e.plan) = W3 at *
          obtain ⟨k0, k1, k2, k3, k4, k5, k6, k7, k8, k9, k10⟩ := bx_of R1
          obtain ⟨j0, j1, j2, j3, j4, j5, j6, j7, j8, j9, j10⟩ := bx_of R3
          have f6 := R3.frozen 6
          have f10 := R3.frozen 10
          go_region
          all_goals go_wp2
          all_goals
            refine ⟨⟨k + 1, by omega, by go_num, ?_, ?_, ?_, ?_⟩, by simp [intOf]; omega⟩
            · exact blk_other (blk_other R1 (by omega) 6 _) (by omega) 10 _
            · exact blk_other (blk_other R2.out (by omega) 6 _) (by omega) 10 _
            · rw [HSU.out]
              exact (R3.set_ 6 (.float .f64 e.income)).set_ 10 (.int .i64 e.family)
            · exact ((R4.out.setCell (p := ⟨w.heap.size + 2, 6, none⟩) (by show w.heap.size ≤ w.heap.size + 2; omega) _).setCell (p := ⟨w.heap.size + 2, 10, none⟩) (by show w.heap.size ≤ w.heap.size + 2; omega) _).drew
        · rw [show onlyStep e n ((80 : Nat) : Int) = { n with plan := e.plan } from if_neg hp] at HSU
          go_wp2_with fail
          refine ⟨⟨k + 1, by omega, by go_num, blk_other Q1.out (by omega) _ _, blk_other Q2.out (by omega) _ _, ?_, Q4.out.setCell (by simp) _⟩, by simp [intOf]; omega⟩
          rw [HSU.out]
          exact Q3.out.set_ 9 (.int .i64 e.plan)
    · obtain rfl : k = h.size := by omega
      obtain ⟨j0, j1, j2, j3, j4, j5, j6, j7, j8, j9, j10⟩ := bx_of Q3.out
      obtain ⟨i0, i1, i2, i3, i4, i5, i6, i7, i8, i9, i10⟩ := bx_of Q2.out
      have f0 := Q2.out.frozen 0
      have f1 := Q2.out.frozen 1
      have f2 := Q2.out.frozen 2
      have f3 := Q2.out.frozen 3
      have f4 := Q2.out.frozen 4
      have f5 := Q2.out.frozen 5
      have f6 := Q2.out.frozen 6
      have f7 := Q2.out.frozen 7
      have f8 := Q2.out.frozen 8
      have f9 := Q2.out.frozen 9
      have f10 := Q2.out.frozen 10
      rw [← hh, onlyK_all] at *
      go_wp2_with fail
      have S := set_event (onlyE e) Q2.out
      have SB := set_below (onlyE e) (show w.heap.size ≤ w.heap.size + 1 by omega) Q4.out
      (try simp only [Exit.inBlock, Exit.then])
      refine bodyPost_ret (results_cell_row (p := 2) (ty := 25) rfl _ _ (w.heap.size + 1) 25 _ _ _ rfl S Tryz.underlying25 rfl (by kernel_rfl)) rfl ?_
      exact ⟨rfl, SB⟩
end Go.Proofs.YtkcjgmicoifhcaaGreatDoor.Ev

/- E7: Plain law: the program's Good is the reference's. -/
namespace Go.Proofs.YtkcjgmicoifhcaaGreatDoor.Ev
open Go.RowKit Go.Proofs.YtkcjgmicoifhcaaGreatDoor.Pk Go.Proofs.YtkcjgmicoifhcaaGreatDoor.Re

def minusB (x : Nat) : Bool := isZ x && decide (9223372036854775808 ≤ x)
/-- The reference's test at a letter. -/
def okR (e : E) (c : Int) : Bool :=
  if c = 76 then decide (1 ≤ e.loan) && decide (e.loan ≤ 1000)
  else if c = 65 then decide (1 ≤ e.amount) && decide (e.amount ≤ 1000000000)
  else if c = 82 then (pm e.rate).2 == 0 && (decide ((pm e.rate).1 ≤ 250000) && !minusB e.rate)
  else if c = 84 then decide (1 ≤ e.status) && decide (e.status ≤ 5)
  else if c = 80 then (if e.plan = 4 then (tk e.income 100).2 == 0 && (decide ((tk e.income 100).1 ≤ 1000000000) && (!minusB e.income && (decide (1 ≤ e.family) && decide (e.family ≤ 30))))
    else decide (1 ≤ e.plan) && decide (e.plan ≤ 4))
  else true
def goodR' (e : E) : Bool := kindB e.kind && (dayB e.day && (decide (e = onlyE e) && (ints (hasR e.kind)).all (okR e)))
theorem nil_words (x : Nat) (hx : x < 18446744073709551616) (hg : goodR x = true) (hz : isZ x = true) : x = 0 ∨ x = 9223372036854775808 := by
  rcases good_cases x hx hg with h | ⟨e, f, h1, h2, rfl⟩
  · exact .inr h
  · rcases Nat.eq_zero_or_pos e with rfl | he
    · rcases Nat.eq_zero_or_pos f with rfl | hf
      · exact .inl rfl
      · rw [show 0 * 4503599627370496 + f = f by omega] at hz
        have := (good_low f hf h2).2.1
        rw [this] at hz
        cases hz
    · have := (nrm_word e f he h1 h2).1.z
      rw [this] at hz
      cases hz
theorem take_minus (err : Int) (x : Nat) (hx : x < 18446744073709551616) (hg : err = 0 → goodR x = true) : takeB err x = (err == 0 && !minusB x) := by
  unfold takeB minusB
  by_cases he : err = 0
  · subst he
    cases hz : isZ x with
    | false => simp
    | true =>
      rcases nil_words x hx (hg rfl) hz with rfl | rfl <;> simp
  · have : (err == 0) = false := by simpa using he
    rw [this]; rfl
theorem tk_good (x : Nat) (S : Int) (h : (tk x S).2 = 0) : goodR x = true := by
  cases hg : goodR x with
  | true => rfl
  | false =>
    unfold tk at h
    rw [if_pos hg] at h
    cases h
theorem pm_good (x : Nat) (h : (pm x).2 = 0) : goodR x = true := by
  refine tk_good x 10000 ?_
  refine Decidable.byContradiction fun hn => ?_
  unfold pm at h
  rw [if_pos hn] at h
  exact hn h
set_option maxRecDepth 20000 in
set_option maxHeartbeats 2000000 in
theorem good_same (e : E) (hr : e.rate < 18446744073709551616) (hi : e.income < 18446744073709551616) : goodE e = goodR' e := by
  by_cases hk : 1 ≤ e.kind ∧ e.kind ≤ 8
  · obtain ⟨kind, day, key, loan, amount, rate, income, sub, status, plan, family⟩ := e
    have hR := take_minus (pm rate).2 rate hr (pm_good rate)
    have hC := take_minus (tk income 100).2 income hi (tk_good income 100)
    simp only at hk hr hi
    have h8 : kind = 1 ∨ kind = 2 ∨ kind = 3 ∨ kind = 4 ∨ kind = 5 ∨ kind = 6 ∨ kind = 7 ∨ kind = 8 := by omega
    unfold goodE goodR'
    congr 1
    congr 1
    rcases h8 with rfl | rfl | rfl | rfl | rfl | rfl | rfl | rfl
    · have o : onlyE (⟨1, day, key, loan, amount, rate, income, sub, status, plan, family⟩ : E) = ⟨1, day, key, loan, amount, rate, 0, sub, 0, 0, 0⟩ := rfl
      have i1 : ints (hasR 1) = [76, 65, 82, 83] := rfl
      have t1 : testF (⟨1, day, key, loan, amount, rate, income, sub, status, plan, family⟩ : E) 97 = fieldB amount 1000000000 true := rfl
      have t2 : testF (⟨1, day, key, loan, amount, rate, income, sub, status, plan, family⟩ : E) 108 = fieldB loan 1000 true := rfl
      have t3 : testF (⟨1, day, key, loan, amount, rate, income, sub, status, plan, family⟩ : E) 112 = planB plan family income false := rfl
      have t4 : testF (⟨1, day, key, loan, amount, rate, income, sub, status, plan, family⟩ : E) 114 = rateB rate true := rfl
      have t5 : testF (⟨1, day, key, loan, amount, rate, income, sub, status, plan, family⟩ : E) 115 = fieldB status 5 false := rfl
      have t6 : testF (⟨1, day, key, loan, amount, rate, income, sub, status, plan, family⟩ : E) 117 = (true || !sub) := rfl
      rw [o, t1, t2, t3, t4, t5, t6]
      clear o t1 t2 t3 t4 t5 t6
      unfold rateB
      rw [if_pos rfl, hR]
      rw [Bool.eq_iff_iff]
      simp [fieldB, planB, okR, i1]
      constructor <;> (intro h; simp_all)
    · have o : onlyE (⟨2, day, key, loan, amount, rate, income, sub, status, plan, family⟩ : E) = ⟨2, day, key, loan, 0, 0, 0, false, status, 0, 0⟩ := rfl
      have i1 : ints (hasR 2) = [76, 84] := rfl
      have t1 : testF (⟨2, day, key, loan, amount, rate, income, sub, status, plan, family⟩ : E) 97 = fieldB amount 1000000000 false := rfl
      have t2 : testF (⟨2, day, key, loan, amount, rate, income, sub, status, plan, family⟩ : E) 108 = fieldB loan 1000 true := rfl
      have t3 : testF (⟨2, day, key, loan, amount, rate, income, sub, status, plan, family⟩ : E) 112 = planB plan family income false := rfl
      have t4 : testF (⟨2, day, key, loan, amount, rate, income, sub, status, plan, family⟩ : E) 114 = rateB rate false := rfl
      have t5 : testF (⟨2, day, key, loan, amount, rate, income, sub, status, plan, family⟩ : E) 115 = fieldB status 5 true := rfl
      have t6 : testF (⟨2, day, key, loan, amount, rate, income, sub, status, plan, family⟩ : E) 117 = (false || !sub) := rfl
      rw [o, t1, t2, t3, t4, t5, t6]
      clear o t1 t2 t3 t4 t5 t6
      rw [Bool.eq_iff_iff]
      simp [fieldB, rateB, planB, okR, i1]
      constructor <;> (intro h; simp_all)
    · have o : onlyE (⟨3, day, key, loan, amount, rate, income, sub, status, plan, family⟩ : E) = ⟨3, day, key, 0, amount, 0, 0, false, 0, 0, 0⟩ := rfl
      have i1 : ints (hasR 3) = [65] := rfl
      have t1 : testF (⟨3, day, key, loan, amount, rate, income, sub, status, plan, family⟩ : E) 97 = fieldB amount 1000000000 true := rfl
      have t2 : testF (⟨3, day, key, loan, amount, rate, income, sub, status, plan, family⟩ : E) 108 = fieldB loan 1000 false := rfl
      have t3 : testF (⟨3, day, key, loan, amount, rate, income, sub, status, plan, family⟩ : E) 112 = planB plan family income false := rfl
      have t4 : testF (⟨3, day, key, loan, amount, rate, income, sub, status, plan, family⟩ : E) 114 = rateB rate false := rfl
      have t5 : testF (⟨3, day, key, loan, amount, rate, income, sub, status, plan, family⟩ : E) 115 = fieldB status 5 false := rfl
      have t6 : testF (⟨3, day, key, loan, amount, rate, income, sub, status, plan, family⟩ : E) 117 = (false || !sub) := rfl
      rw [o, t1, t2, t3, t4, t5, t6]
      clear o t1 t2 t3 t4 t5 t6
      rw [Bool.eq_iff_iff]
      simp [fieldB, rateB, planB, okR, i1]
      constructor <;> (intro h; simp_all)
    · have o : onlyE (⟨4, day, key, loan, amount, rate, income, sub, status, plan, family⟩ : E) = ⟨4, day, key, loan, amount, 0, 0, false, 0, 0, 0⟩ := rfl
      have i1 : ints (hasR 4) = [76, 65] := rfl
      have t1 : testF (⟨4, day, key, loan, amount, rate, income, sub, status, plan, family⟩ : E) 97 = fieldB amount 1000000000 true := rfl
      have t2 : testF (⟨4, day, key, loan, amount, rate, income, sub, status, plan, family⟩ : E) 108 = fieldB loan 1000 true := rfl
      have t3 : testF (⟨4, day, key, loan, amount, rate, income, sub, status, plan, family⟩ : E) 112 = planB plan family income false := rfl
      have t4 : testF (⟨4, day, key, loan, amount, rate, income, sub, status, plan, family⟩ : E) 114 = rateB rate false := rfl
      have t5 : testF (⟨4, day, key, loan, amount, rate, income, sub, status, plan, family⟩ : E) 115 = fieldB status 5 false := rfl
      have t6 : testF (⟨4, day, key, loan, amount, rate, income, sub, status, plan, family⟩ : E) 117 = (false || !sub) := rfl
      rw [o, t1, t2, t3, t4, t5, t6]
      clear o t1 t2 t3 t4 t5 t6
      rw [Bool.eq_iff_iff]
      simp [fieldB, rateB, planB, okR, i1]
      constructor <;> (intro h; simp_all)
    · have o : onlyE (⟨5, day, key, loan, amount, rate, income, sub, status, plan, family⟩ : E) = if plan = 4 then ⟨5, day, key, 0, 0, 0, income, false, 0, plan, family⟩ else ⟨5, day, key, 0, 0, 0, 0, false, 0, plan, 0⟩ := rfl
      have i1 : ints (hasR 5) = [80] := rfl
      have t1 : testF (⟨5, day, key, loan, amount, rate, income, sub, status, plan, family⟩ : E) 97 = fieldB amount 1000000000 false := rfl
      have t2 : testF (⟨5, day, key, loan, amount, rate, income, sub, status, plan, family⟩ : E) 108 = fieldB loan 1000 false := rfl
      have t3 : testF (⟨5, day, key, loan, amount, rate, income, sub, status, plan, family⟩ : E) 112 = planB plan family income true := rfl
      have t4 : testF (⟨5, day, key, loan, amount, rate, income, sub, status, plan, family⟩ : E) 114 = rateB rate false := rfl
      have t5 : testF (⟨5, day, key, loan, amount, rate, income, sub, status, plan, family⟩ : E) 115 = fieldB status 5 false := rfl
      have t6 : testF (⟨5, day, key, loan, amount, rate, income, sub, status, plan, family⟩ : E) 117 = (false || !sub) := rfl
      rw [o, t1, t2, t3, t4, t5, t6]
      clear o t1 t2 t3 t4 t5 t6
      unfold planB
      rw [if_pos rfl, hC]
      by_cases hp : plan = 4
      · subst hp
        rw [if_pos rfl]
        rw [Bool.eq_iff_iff]
        simp [fieldB, rateB, okR, i1]
        constructor <;> (intro h; simp_all)
      · rw [if_neg hp]
        rw [Bool.eq_iff_iff]
        simp [fieldB, rateB, okR, i1, hp]
        constructor <;> (intro h; simp_all; omega)
    · have o : onlyE (⟨6, day, key, loan, amount, rate, income, sub, status, plan, family⟩ : E) = ⟨6, day, key, 0, 0, 0, 0, false, 0, 0, 0⟩ := rfl
      have i1 : ints (hasR 6) = [] := rfl
      have t1 : testF (⟨6, day, key, loan, amount, rate, income, sub, status, plan, family⟩ : E) 97 = fieldB amount 1000000000 false := rfl
      have t2 : testF (⟨6, day, key, loan, amount, rate, income, sub, status, plan, family⟩ : E) 108 = fieldB loan 1000 false := rfl
      have t3 : testF (⟨6, day, key, loan, amount, rate, income, sub, status, plan, family⟩ : E) 112 = planB plan family income false := rfl
      have t4 : testF (⟨6, day, key, loan, amount, rate, income, sub, status, plan, family⟩ : E) 114 = rateB rate false := rfl
      have t5 : testF (⟨6, day, key, loan, amount, rate, income, sub, status, plan, family⟩ : E) 115 = fieldB status 5 false := rfl
      have t6 : testF (⟨6, day, key, loan, amount, rate, income, sub, status, plan, family⟩ : E) 117 = (false || !sub) := rfl
      rw [o, t1, t2, t3, t4, t5, t6]
      clear o t1 t2 t3 t4 t5 t6
      rw [Bool.eq_iff_iff]
      simp [fieldB, rateB, planB, i1]
      constructor <;> (intro h; simp_all)
    · have o : onlyE (⟨7, day, key, loan, amount, rate, income, sub, status, plan, family⟩ : E) = ⟨7, day, key, loan, 0, 0, 0, false, 0, 0, 0⟩ := rfl
      have i1 : ints (hasR 7) = [76] := rfl
      have t1 : testF (⟨7, day, key, loan, amount, rate, income, sub, status, plan, family⟩ : E) 97 = fieldB amount 1000000000 false := rfl
      have t2 : testF (⟨7, day, key, loan, amount, rate, income, sub, status, plan, family⟩ : E) 108 = fieldB loan 1000 true := rfl
      have t3 : testF (⟨7, day, key, loan, amount, rate, income, sub, status, plan, family⟩ : E) 112 = planB plan family income false := rfl
      have t4 : testF (⟨7, day, key, loan, amount, rate, income, sub, status, plan, family⟩ : E) 114 = rateB rate false := rfl
      have t5 : testF (⟨7, day, key, loan, amount, rate, income, sub, status, plan, family⟩ : E) 115 = fieldB status 5 false := rfl
      have t6 : testF (⟨7, day, key, loan, amount, rate, income, sub, status, plan, family⟩ : E) 117 = (false || !sub) := rfl
      rw [o, t1, t2, t3, t4, t5, t6]
      clear o t1 t2 t3 t4 t5 t6
      rw [Bool.eq_iff_iff]
      simp [fieldB, rateB, planB, okR, i1]
      constructor <;> (intro h; simp_all)
    · have o : onlyE (⟨8, day, key, loan, amount, rate, income, sub, status, plan, family⟩ : E) = ⟨8, day, key, loan, 0, 0, 0, false, 0, 0, 0⟩ := rfl
      have i1 : ints (hasR 8) = [76] := rfl
      have t1 : testF (⟨8, day, key, loan, amount, rate, income, sub, status, plan, family⟩ : E) 97 = fieldB amount 1000000000 false := rfl
      have t2 : testF (⟨8, day, key, loan, amount, rate, income, sub, status, plan, family⟩ : E) 108 = fieldB loan 1000 true := rfl
      have t3 : testF (⟨8, day, key, loan, amount, rate, income, sub, status, plan, family⟩ : E) 112 = planB plan family income false := rfl
      have t4 : testF (⟨8, day, key, loan, amount, rate, income, sub, status, plan, family⟩ : E) 114 = rateB rate false := rfl
      have t5 : testF (⟨8, day, key, loan, amount, rate, income, sub, status, plan, family⟩ : E) 115 = fieldB status 5 false := rfl
      have t6 : testF (⟨8, day, key, loan, amount, rate, income, sub, status, plan, family⟩ : E) 117 = (false || !sub) := rfl
      rw [o, t1, t2, t3, t4, t5, t6]
      clear o t1 t2 t3 t4 t5 t6
      rw [Bool.eq_iff_iff]
      simp [fieldB, rateB, planB, okR, i1]
      constructor <;> (intro h; simp_all)
  · have h1 : kindB e.kind = false := by
      unfold kindB
      by_cases c : 1 ≤ e.kind
      · simp; omega
      · simp [c]
    unfold goodE goodR'
    rw [h1]
    rfl
end Go.Proofs.YtkcjgmicoifhcaaGreatDoor.Ev
