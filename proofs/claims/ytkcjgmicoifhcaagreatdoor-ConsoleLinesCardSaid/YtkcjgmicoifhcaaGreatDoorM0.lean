/- Texts joined: F0 F1 F3 F4 G0 G1 G2 G3 G4. -/
import Derived.Test.YtkcjgmicoifhcaaGreatDoorProg
import Derived.RowKit3
import Derived.WalkKit
import Derived.WalkLawsBesides
import Derived.BigQuiet
import Derived.BigCall
import Derived.Lib.Hide
import Derived.Laws.FloatArith
import Derived.KernelRfl
import Derived.Laws.Cover2
import Derived.Below
import Derived.Deep.Cut
import Derived.Deep.CutRange
import Derived.Laws.Bits64
import Derived.Laws.Bits64b
import Derived.Laws.MathBits
import Derived.Laws.BitsAllLaws

/- F0: Floats' bits, Abs, IsInf, Good (the program's, the reference's). -/
namespace Go.Proofs.YtkcjgmicoifhcaaGreatDoor.Re
open Go.RowKit

theorem bits_run (b : Nat) (w : World) : (callFunc 62 #[.float .f64 b]).run Tryz.prog w = .ok (.value (.int .u64 b)) w := by kernel_rfl
theorem frombits_run (n : Int) (w : World) : (callFunc 145 #[.int .u64 n]).run Tryz.prog w = .ok (.value (.float .f64 n.toNat)) w := by kernel_rfl
def absN (x : Nat) : Nat := (bits .andNot .u64 (x : Int) 9223372036854775808).toNat
set_option maxRecDepth 20000 in
theorem abs_calls (x : Nat) (w : World) : Calls Tryz.prog 147 #[.float .f64 x] w fun e w' => e = .returned (.float .f64 (absN x)) ∧ w' = w := by
  have h1 := bits_run
  have h2 := frombits_run
  go_enter Tryz.func147, Tryz.ntmps147
  go_wp2_with fail
  go_ret
  exact ⟨rfl, rfl⟩
def infB (x : Nat) : Bool := FloatKind.f64.format.order (absN x) 9218868437227405311 == some .gt
set_option maxRecDepth 20000 in
set_option maxHeartbeats 1000000 in
theorem inf_calls (x : Nat) (w : World) : Calls Tryz.prog 130 #[.float .f64 x, .int .i64 0] w fun e w' => e = .returned (.bool (infB x)) ∧ w' = w := by
  have HA := Lib.hid (abs_calls x w)
  go_enter Tryz.func130, Tryz.ntmps130
  go_wp2_with fail
  refine HA.out.mono ?_
  rintro e w1 ⟨rfl, rfl⟩
  go_wp2_with fail
  go_ret
  exact ⟨rfl, rfl⟩
def nanB (x : Nat) : Bool := FloatKind.f64.format.order x x != some .eq
def negB (x : Nat) : Bool := FloatKind.f64.format.order x 0 == some .lt
def goodR (x : Nat) : Bool := !nanB x && (!infB x && !negB x)
set_option maxRecDepth 20000 in
set_option maxHeartbeats 1000000 in
theorem good_calls (x : Nat) (w : World) : Calls Tryz.prog 116 #[.float .f64 x] w fun e w' => e = .returned (.bool (goodR x)) ∧ w' = w := by
  have HI := Lib.hid (inf_calls x w)
  unfold goodR
  obtain ⟨b1, h1⟩ : ∃ b, nanB x = b := ⟨_, rfl⟩
  obtain ⟨b2, h2⟩ : ∃ b, infB x = b := ⟨_, rfl⟩
  obtain ⟨b3, h3⟩ : ∃ b, negB x = b := ⟨_, rfl⟩
  rw [h1, h2, h3]
  rw [h2] at HI
  unfold nanB at h1
  unfold negB at h3
  clear h2
  go_enter Tryz.func116, Tryz.ntmps116
  cases b1 with
  | true =>
    go_wp2_with fail
    go_ret
    exact ⟨rfl, rfl⟩
  | false =>
    go_wp2_with fail
    refine HI.out.mono ?_
    rintro e w1 ⟨rfl, rfl⟩
    cases b2 with
    | true =>
      go_wp2_with fail
      go_ret
      exact ⟨rfl, rfl⟩
    | false =>
      cases b3 <;>
        (go_wp2_with fail
         go_ret
         exact ⟨rfl, rfl⟩)
theorem ge_law (x : Nat) : (FloatKind.f64.format.order x 0 == some Ordering.gt || FloatKind.f64.format.order x 0 == some Ordering.eq) = (!nanB x && !negB x) := by
  unfold nanB negB Ieee.Format.order
  have h0 : FloatKind.f64.format.read 0 = .number false 0 FloatKind.f64.format.leastPlace := by decide
  rw [h0]
  cases FloatKind.f64.format.read x with
  | nan s f => rfl
  | infinity s => cases s <;> rfl
  | number s m i =>
    have h1 : ∀ a : Int, compare a a = Ordering.eq := fun a => by simp [compare, compareOfLessAndEq]
    simp only [Ieee.Datum.order, h1]
    cases compare (Ieee.signed s m (i - min i FloatKind.f64.format.leastPlace).toNat) (Ieee.signed false 0 (FloatKind.f64.format.leastPlace - min i FloatKind.f64.format.leastPlace).toNat) <;> rfl
set_option maxRecDepth 20000 in
set_option maxHeartbeats 1000000 in
theorem rgood_calls (x : Nat) (w : World) : Calls Tryz.prog 95 #[.float .f64 x] w fun e w' => e = .returned (.bool (goodR x)) ∧ w' = w := by
  have HI := Lib.hid (inf_calls x w)
  have hg := ge_law x
  have hgd : goodR x = ((!nanB x && !negB x) && !infB x) := by
    unfold goodR
    cases nanB x <;> cases infB x <;> cases negB x <;> rfl
  rw [hgd, ← hg]
  obtain ⟨b2, h2⟩ : ∃ b, infB x = b := ⟨_, rfl⟩
  rw [h2] at HI ⊢
  obtain ⟨b1, h1⟩ : ∃ b, (FloatKind.f64.format.order x 0 == some Ordering.gt || FloatKind.f64.format.order x 0 == some Ordering.eq) = b := ⟨_, rfl⟩
  rw [h1]
  clear hg hgd h2
  go_enter Tryz.func95, Tryz.ntmps95
  cases b1 with
  | true =>
    go_wp2_with fail
    refine HI.out.mono ?_
    rintro e w1 ⟨rfl, rfl⟩
    go_wp2_with fail
    go_ret
    exact ⟨by cases b2 <;> rfl, rfl⟩
  | false =>
    go_wp2_with fail
    go_ret
    exact ⟨rfl, rfl⟩
end Go.Proofs.YtkcjgmicoifhcaaGreatDoor.Re

/- F1: Bits, Of, Dollars, Percent, Float: the program's and the reference's. -/
namespace Go.Proofs.YtkcjgmicoifhcaaGreatDoor.Re
open Go.RowKit

def isZ (x : Nat) : Bool := FloatKind.f64.format.order x 0 == some Ordering.eq
def bitsN (x : Nat) : Int := if goodR x = true then (if isZ x = true then 0 else (x : Int)) else 0
set_option maxRecDepth 20000 in
theorem bits_calls (x : Nat) (w : World) : Calls Tryz.prog 73 #[.float .f64 x] w fun e w' => e = .returned (.int .u64 (bitsN x)) ∧ w' = w := by
  have HG := Lib.hid (good_calls x w)
  have h1 := bits_run
  unfold bitsN
  obtain ⟨b1, e1⟩ : ∃ b, goodR x = b := ⟨_, rfl⟩
  obtain ⟨b2, e2⟩ : ∃ b, isZ x = b := ⟨_, rfl⟩
  rw [e1, e2]
  rw [e1] at HG
  unfold isZ at e2
  clear e1
  go_enter Tryz.func73, Tryz.ntmps73
  go_wp2_with fail
  refine HG.out.mono ?_
  rintro e w1 ⟨rfl, rfl⟩
  cases b1 with
  | false =>
    go_wp2_with fail
    go_ret
    exact ⟨rfl, rfl⟩
  | true =>
    cases b2 <;>
      (go_wp2_with fail
       go_ret
       exact ⟨rfl, rfl⟩)
set_option maxRecDepth 20000 in
theorem rbits_calls (x : Nat) (w : World) : Calls Tryz.prog 61 #[.float .f64 x] w fun e w' => e = .returned (.int .u64 (bitsN x)) ∧ w' = w := by
  have HG := Lib.hid (rgood_calls x w)
  have h1 := bits_run
  unfold bitsN
  obtain ⟨b1, e1⟩ : ∃ b, goodR x = b := ⟨_, rfl⟩
  obtain ⟨b2, e2⟩ : ∃ b, isZ x = b := ⟨_, rfl⟩
  rw [e1, e2]
  rw [e1] at HG
  unfold isZ at e2
  clear e1
  go_enter Tryz.func61, Tryz.ntmps61
  go_wp2_with fail
  refine HG.out.mono ?_
  rintro e w1 ⟨rfl, rfl⟩
  cases b1 with
  | false =>
    go_wp2_with fail
    go_ret
    exact ⟨rfl, rfl⟩
  | true =>
    cases b2 <;>
      (go_wp2_with fail
       go_ret
       exact ⟨rfl, rfl⟩)
def ofB (u : Int) : Bool := goodR u.toNat && (bitsN u.toNat == u)
def ofN (u : Int) : Nat := if ofB u = true then u.toNat else 0
theorem of_yes {u : Int} (h1 : goodR u.toNat = true) (h2 : bitsN u.toNat = u) : ofB u = true ∧ ofN u = u.toNat := by
  have hb : ofB u = true := by unfold ofB; rw [h1, h2]; simp
  exact ⟨hb, if_pos hb⟩
theorem of_no {u : Int} (h : goodR u.toNat = false ∨ bitsN u.toNat ≠ u) : ofB u = false ∧ ofN u = 0 := by
  have hb : ofB u = false := by
    unfold ofB
    rcases h with h | h
    · rw [h]; rfl
    · rw [show (bitsN u.toNat == u) = false by simpa using h]; simp
  exact ⟨hb, if_neg (by rw [hb]; decide)⟩
theorem below_set2 {w0 w : World} {base g : Nat} (hB : Below base w0 w) (hg : base ≤ g) (i j : Nat) (u u' : Value) : Below base w0 ((w.setCell ⟨g, i, none⟩ u).setCell ⟨g, j, none⟩ u') := by
  have h1 : ∀ (W : World) (i : Nat) (u : Value), Below base W (W.setCell ⟨g, i, none⟩ u) := fun W i u =>
    ⟨rfl, rfl, rfl, by simp, fun k hk => Below.heap_setCell W ⟨g, i, none⟩ u k (by show k ≠ g; omega)⟩
  exact (hB.trans (h1 _ _ _)).trans (h1 _ _ _)
set_option maxRecDepth 20000 in
set_option maxHeartbeats 1000000 in
theorem rof_calls (u : Int) (w : World) : Calls Tryz.prog 126 #[.int .u64 u] w fun e w' => e = .returned (.agg #[.float .f64 (ofN u), .bool (ofB u)]) ∧ Below w.heap.size w w' := by
  have HG := Lib.hid (fun W => rgood_calls u.toNat W)
  have HB := Lib.hid (fun W => rbits_calls u.toNat W)
  have h2 := frombits_run
  go_enter Tryz.func126, Tryz.ntmps126
  go_wp2_with fail
  refine (HG.out _).mono ?_
  rintro e w1 ⟨rfl, rfl⟩
  have hnew : (w.alloc (.cells #[.float .f64 0, .bool false] 162)).heap[w.heap.size]? = some (.cells #[.float .f64 0, .bool false] 162 (0, 0)) := heap_alloc_new w _
  have hbl : Below w.heap.size w (w.alloc (.cells #[.float .f64 0, .bool false] 162)) := (Below.refl _ _).alloc (Nat.le_refl _) _
  generalize w.alloc (.cells #[.float .f64 0, .bool false] 162) = wa at hnew hbl ⊢
  generalize hgg : w.heap.size = gg at hnew hbl ⊢
  have hset : ∀ v0 v1, ((wa.setCell ⟨gg, 0, none⟩ v0).setCell ⟨gg, 1, none⟩ v1).heap[gg]? = some (.cells #[v0, v1] 162 (0, 0)) := fun v0 v1 => by
    have e1 := heap_setCell_same wa gg 0 _ 162 v0 hnew
    exact heap_setCell_same (wa.setCell ⟨gg, 0, none⟩ v0) gg 1 _ 162 v1 e1
  have HSet := Lib.hid hset
  have HBl := Lib.hid hbl
  have c0 : wa.cell? ⟨gg, 0, none⟩ = some (.float .f64 0) := cell_of_row wa gg 0 _ _ _ hnew
  have c1 : wa.cell? ⟨gg, 1, none⟩ = some (.bool false) := cell_of_row wa gg 1 _ _ _ hnew
  have hst := fun (a : Addr) (n : Nat) (W : World) => run_store Tryz.prog W a (.float .f64 n) .plain rfl
  have f0 : wa.frozen? ⟨gg, 0, none⟩ = false := frozen_of_row wa gg 0 _ _ hnew
  have f1 : wa.frozen? ⟨gg, 1, none⟩ = false := frozen_of_row wa gg 1 _ _ hnew
  clear hset hbl hnew
  rcases Bool.eq_false_or_eq_true (goodR u.toNat) with e1 | e1
  · rw [e1]
    go_wp2_with fail
    refine (HB.out _).mono ?_
    rintro e w2 ⟨rfl, rfl⟩
    by_cases hu : bitsN u.toNat = u
    · obtain ⟨h3, h4⟩ := of_yes e1 hu
      have hb : (bitsN u.toNat != u) = false := by simpa using hu
      go_wp2_with fail
      have hs := HSet.out (.float .f64 u.toNat) (.bool true)
      have HB3 := Lib.hid (below_set2 HBl.out (Nat.le_refl _) 0 1 (.float .f64 u.toNat) (.bool true))
      generalize (w2.setCell ⟨gg, 0, none⟩ (.float .f64 u.toNat)).setCell ⟨gg, 1, none⟩ (.bool true) = wz at hs HB3 ⊢
      (try simp only [Exit.inBlock, Exit.then])
      refine bodyPost_ret (results_cell_row (p := 2) (ty := 162) rfl _ _ gg 162 _ _ _ rfl hs Tryz.underlying162 rfl (by kernel_rfl)) rfl ?_
      exact ⟨by rw [h3, h4], by rw [hgg]; exact HB3.out⟩
    · obtain ⟨h3, h4⟩ := of_no (.inr hu)
      have hb : (bitsN u.toNat != u) = true := by simpa using hu
      go_wp2_with fail
      have hs := HSet.out (.float .f64 0) (.bool false)
      have HB3 := Lib.hid (below_set2 HBl.out (Nat.le_refl _) 0 1 (.float .f64 0) (.bool false))
      generalize (w2.setCell ⟨gg, 0, none⟩ (.float .f64 0)).setCell ⟨gg, 1, none⟩ (.bool false) = wz at hs HB3 ⊢
      (try simp only [Exit.inBlock, Exit.then])
      refine bodyPost_ret (results_cell_row (p := 2) (ty := 162) rfl _ _ gg 162 _ _ _ rfl hs Tryz.underlying162 rfl (by kernel_rfl)) rfl ?_
      exact ⟨by rw [h3, h4], by rw [hgg]; exact HB3.out⟩
  · rw [e1]
    obtain ⟨h3, h4⟩ := of_no (.inl e1)
    go_wp2_with fail
    have hs := HSet.out (.float .f64 0) (.bool false)
    have HB3 := Lib.hid (below_set2 HBl.out (Nat.le_refl _) 0 1 (.float .f64 0) (.bool false))
    generalize (wa.setCell ⟨gg, 0, none⟩ (.float .f64 0)).setCell ⟨gg, 1, none⟩ (.bool false) = wz at hs HB3 ⊢
    (try simp only [Exit.inBlock, Exit.then])
    refine bodyPost_ret (results_cell_row (p := 2) (ty := 162) rfl _ _ gg 162 _ _ _ rfl hs Tryz.underlying162 rfl (by kernel_rfl)) rfl ?_
    exact ⟨by rw [h3, h4], by rw [hgg]; exact HB3.out⟩
set_option maxRecDepth 20000 in
theorem float_calls (a b : Nat) (w : World) : Calls Tryz.prog 51 #[.float .f64 a, .float .f64 b] w fun e w' => e = .returned (.bool ((a : Int) == (b : Int))) ∧ w' = w := by
  have h1 := bits_run
  go_enter Tryz.func51, Tryz.ntmps51
  go_wp2_with fail
  go_ret
  exact ⟨rfl, rfl⟩
theorem read_word (neg : Bool) (rung : Nat) (h : rung ≤ FloatKind.f64.format.infRung) : ∀ s f, FloatKind.f64.format.read (FloatKind.f64.format.word neg rung) ≠ .nan s f := by
  intro s f
  have hw : FloatKind.f64.format.infRung = 9218868437227405312 := by decide
  have hs : FloatKind.f64.format.signWeight = 9223372036854775808 := by decide
  have hm : FloatKind.f64.format.word neg rung % FloatKind.f64.format.signWeight = rung := by
    unfold Ieee.Format.word
    rw [hw] at h
    rw [hs]
    split <;> omega
  unfold Ieee.Format.read
  rw [hm]
  simp only
  split
  · simp
  · split
    · simp
    · split
      · simp
      · omega
theorem div_some (n : Int) (K : Nat) (hK : ∃ m i, FloatKind.f64.format.read K = .number false (m + 1) i) : ∃ r, floatBits .quo .f64 (floatOfInt .f64 n) K = some r := by
  obtain ⟨m, i, hK⟩ := hK
  unfold floatBits
  simp only
  unfold Ieee.Format.div
  rw [hK]
  have hr : ∀ s f, FloatKind.f64.format.read (floatOfInt .f64 n) ≠ .nan s f := by
    have e : floatOfInt .f64 n = FloatKind.f64.format.nearest (n < 0) n.natAbs 0 := rfl
    rw [e]
    unfold Ieee.Format.nearest
    split
    · exact read_word _ _ (Nat.zero_le _)
    · exact read_word _ _ (Nat.min_le_right ..)
  cases hd : FloatKind.f64.format.read (floatOfInt .f64 n) with
  | nan s f => exact absurd hd (hr s f)
  | infinity s => exact ⟨_, rfl⟩
  | number s m i =>
    simp only [Ieee.Datum.quotient]
    rw [if_neg (by omega)]
    exact ⟨_, rfl⟩
theorem read100 : ∃ m i, FloatKind.f64.format.read 4636737291354636288 = .number false (m + 1) i := ⟨7036874417766399, -46, by decide⟩
theorem read10000 : ∃ m i, FloatKind.f64.format.read 4666723172467343360 = .number false (m + 1) i := ⟨5497558138879999, -39, by decide⟩
end Go.Proofs.YtkcjgmicoifhcaaGreatDoor.Re

/- F3: Frexp, Ldexp of normal numbers. -/
namespace Go.Proofs.YtkcjgmicoifhcaaGreatDoor.Re
open Go.RowKit

theorem wr64 (x : Int) (h : -9223372036854775808 ≤ x ∧ x ≤ 9223372036854775807) : wrap64 x = x := IntWalk.wrap64_in x h
set_option maxRecDepth 20000 in
theorem isnan_calls (x : Nat) (w : World) : Calls Tryz.prog 171 #[.float .f64 x] w fun e w' => e = .returned (.bool (nanB x)) ∧ w' = w := by
  go_enter Tryz.func171, Tryz.ntmps171
  go_wp2_with fail
  go_ret
  exact ⟨rfl, rfl⟩
/-- A number that is none of the special ones. -/
def smallB (x : Nat) : Bool := FloatKind.f64.format.order (absN x) 4503599627370496 == some .lt
structure Nrm (x : Nat) : Prop where
  z : isZ x = false
  i : infB x = false
  n : nanB x = false
  s : smallB x = false
set_option maxRecDepth 20000 in
theorem norm_calls (x : Nat) (w : World) (h : Nrm x) : Calls Tryz.prog 172 #[.float .f64 x] w fun e w' => e = .returned (.tuple #[.float .f64 x, .int .i64 0]) ∧ w' = w := by
  have HA := Lib.hid (abs_calls x w)
  have hs := h.s
  unfold smallB at hs
  clear h
  go_enter Tryz.func172, Tryz.ntmps172
  go_wp2_with fail
  refine HA.out.mono ?_
  rintro e w1 ⟨rfl, rfl⟩
  go_wp2_with fail
  go_ret2
  exact ⟨rfl, rfl⟩
def frA (x : Nat) : Nat := (bits .or .u64 (bits .andNot .u64 (x : Int) 9218868437227405312) 4602678819172646912).toNat
def frE (x : Nat) : Int := wrap64 (wrap64 (wrap64 (wrap64 (bits .and .u64 ((x : Int) / 4503599627370496) 2047) - 1023) + 1))
set_option maxRecDepth 20000 in
set_option maxHeartbeats 1000000 in
theorem frexp_calls (x : Nat) (w : World) (h : Nrm x) : Calls Tryz.prog 162 #[.float .f64 x] w fun e w' => e = .returned (.tuple #[.float .f64 (frA x), .int .i64 (frE x)]) ∧ w' = w := by
  have HI := Lib.hid (inf_calls x w)
  have HN := Lib.hid (isnan_calls x w)
  have HM := Lib.hid (norm_calls x w h)
  have h1 := bits_run
  have h2 := frombits_run
  have hz := h.z
  unfold isZ at hz
  rw [h.i] at HI
  rw [h.n] at HN
  clear h
  go_enter Tryz.func162, Tryz.ntmps162
  go_wp2_with fail
  refine HI.out.mono ?_
  rintro e w1 ⟨rfl, rfl⟩
  go_wp2_with fail
  refine HN.out.mono ?_
  rintro e w2 ⟨rfl, rfl⟩
  go_wp2_with fail
  refine HM.out.mono ?_
  rintro e w3 ⟨rfl, rfl⟩
  go_wp2_with fail
  go_ret2
  exact ⟨rfl, rfl⟩
set_option maxRecDepth 20000 in
theorem Frexp_calls (x : Nat) (w : World) (h : Nrm x) : Calls Tryz.prog 148 #[.float .f64 x] w fun e w' => e = .returned (.tuple #[.float .f64 (frA x), .int .i64 (frE x)]) ∧ w' = w := by
  have HF := Lib.hid (frexp_calls x w h)
  clear h
  generalize frA x = a at *
  generalize frE x = b at *
  go_enter Tryz.func148, Tryz.ntmps148
  go_wp2_with fail
  refine HF.out.mono ?_
  rintro e w1 ⟨rfl, rfl⟩
  go_wp2_with fail
  go_ret2
  exact ⟨rfl, rfl⟩
def ldY (x : Nat) : Nat := (bits .or .u64 (bits .andNot .u64 (x : Int) 9218868437227405312) 4841369599423283200).toNat
set_option maxRecDepth 20000 in
set_option maxHeartbeats 1000000 in
theorem ldexp_calls (x R : Nat) (w : World) (h : Nrm x) (hE : bits .and .i64 (wrap64 ((x : Int) / 4503599627370496)) 2047 = 1022) (hM : floatBits .mul .f64 4607182418800017408 (ldY x) = some R) :
    Calls Tryz.prog 164 #[.float .f64 x, .int .i64 53] w fun e w' => e = .returned (.float .f64 R) ∧ w' = w := by
  have HI := Lib.hid (inf_calls x w)
  have HN := Lib.hid (isnan_calls x w)
  have HM := Lib.hid (norm_calls x w h)
  have h1 := bits_run
  have h2 := frombits_run
  have hz := h.z
  unfold isZ at hz
  rw [h.i] at HI
  rw [h.n] at HN
  have hq : ∀ W, (binOp .mul 23 (.float .f64 4607182418800017408) (.float .f64 (bits .or .u64 (bits .andNot .u64 (x : Int) 9218868437227405312) 4841369599423283200).toNat)).run Tryz.prog W = .ok (.float .f64 R) W := fun W => run_float_arith W .mul 23 .f64 _ _ _ hM
  have hw1 : wrap64 (-1) = -1 := by kernel_rfl
  have hw2 : wrap64 52 = 52 := by kernel_rfl
  have hw3 : wrap64 (1022 - 1023) = -1 := by kernel_rfl
  have hw4 : wrap64 (53 + -1) = 52 := by kernel_rfl
  clear h hM
  go_enter Tryz.func164, Tryz.ntmps164
  go_wp2_with fail
  refine HI.out.mono ?_
  rintro e w1 ⟨rfl, rfl⟩
  go_wp2_with fail
  refine HN.out.mono ?_
  rintro e w2 ⟨rfl, rfl⟩
  go_wp2_with fail
  refine HM.out.mono ?_
  rintro e w3 ⟨rfl, rfl⟩
  go_wp2_with fail
  go_ret
  exact ⟨rfl, rfl⟩
set_option maxRecDepth 20000 in
theorem Ldexp_calls (x R : Nat) (w : World) (h : Nrm x) (hE : bits .and .i64 (wrap64 ((x : Int) / 4503599627370496)) 2047 = 1022) (hM : floatBits .mul .f64 4607182418800017408 (ldY x) = some R) :
    Calls Tryz.prog 149 #[.float .f64 x, .int .i64 53] w fun e w' => e = .returned (.float .f64 R) ∧ w' = w := by
  have HF := Lib.hid (ldexp_calls x R w h hE hM)
  clear h hE hM
  go_enter Tryz.func149, Tryz.ntmps149
  go_wp2_with fail
  refine HF.out.mono ?_
  rintro e w1 ⟨rfl, rfl⟩
  go_wp2_with fail
  go_ret
  exact ⟨rfl, rfl⟩
set_option maxRecDepth 20000 in
set_option maxHeartbeats 2000000 in
theorem take_calls (x R : Nat) (S V E n hi lo k : Int) (w : World) (h : Nrm x) (hG : goodR x = true) (hS1 : ¬ S < 1) (hS2 : ¬ 1000000 < S) (hfE : frE x = E) (hA : Nrm (frA x)) (hE : bits .and .i64 (wrap64 ((frA x : Int) / 4503599627370496)) 2047 = 1022)
    (hM : floatBits .mul .f64 4607182418800017408 (ldY (frA x)) = some R) (hC : floatToIntVal .f64 R .u64 = some n) (hSw : IntKind.u64.wrap S = S)
    (hEk : wrap64 (E - 53) = -k) (hk : 0 < k ∧ k ≤ 74)
    (HMul : ∀ W, Calls Tryz.prog 150 #[.int .u64 n, .int .u64 S] W fun e w' => e = .returned (.tuple #[.int .u64 hi, .int .u64 lo]) ∧ w' = W)
    (HSh : ∀ W, Calls Tryz.prog 151 #[.int .u64 hi, .int .u64 lo, .int .u64 k] W fun e w' => e = .returned (.tuple #[.int .u64 V, .bool true]) ∧ w' = W) (hV : 0 ≤ V ∧ V ≤ 10000000000000) :
    Calls Tryz.prog 131 #[.float .f64 x, .int .i64 S] w fun e w' => e = .returned (.tuple #[.int .i64 V, .int .i64 0]) ∧ w' = w := by
  have HG := Lib.hid (good_calls x w)
  rw [hG] at HG
  have HF := Lib.hid (Frexp_calls x w h)
  rw [hfE] at HF
  have HL := Lib.hid (Ldexp_calls (frA x) R w hA hE hM)
  have hz := h.z
  unfold isZ at hz
  have hcv : ∀ W, (convert 23 46 (.float .f64 R)).run Tryz.prog W = .ok (.int .u64 n) W := fun W => run_convert_float_int W 23 46 .f64 .u64 R n (by rw [Tryz.underlying23]; rfl) Tryz.underlying46 hC
  generalize frA x = a at *
  have HMu := Lib.hid HMul
  have HSh' := Lib.hid HSh
  clear h hG hfE hA hE hM hC HMul HSh
  go_enter Tryz.func131, Tryz.ntmps131
  go_wp2_with fail
  refine HG.out.mono ?_
  rintro e w1 ⟨rfl, rfl⟩
  go_wp2_with fail
  refine HF.out.mono ?_
  rintro e w2 ⟨rfl, rfl⟩
  go_wp2_with fail
  refine HL.out.mono ?_
  rintro e w3 ⟨rfl, rfl⟩
  go_wp2_with fail
  rw [hEk]
  refine (HMu.out _).mono ?_
  rintro e w4 ⟨rfl, rfl⟩
  have hk1 : wrap64 k = k := wr64 k (by omega)
  have hk2 : IntKind.u64.wrap k = k := by simp [IntKind.wrap, IntKind.signed, IntKind.bits]; omega
  have hk3 : k % 18446744073709551616 = k := by omega
  go_wp2_with fail
  refine (HSh'.out _).mono ?_
  rintro e w5 ⟨rfl, rfl⟩
  have hV1 : wrap64 V = V := wr64 V (by omega)
  go_wp2_with fail
  go_ret2
  exact ⟨rfl, rfl⟩
end Go.Proofs.YtkcjgmicoifhcaaGreatDoor.Re

/- F4: money.Mul, shift, Take at the numbers of wakes; wakes. -/
namespace Go.Proofs.YtkcjgmicoifhcaaGreatDoor.Re
open Go.RowKit

set_option maxRecDepth 20000 in
set_option maxHeartbeats 2000000 in
theorem shift_1 (w : World) : Calls Tryz.prog 151 #[.int .u64 0, .int .u64 576460752303423500, .int .u64 60] w fun e w' => e = .returned (.tuple #[.int .u64 1, .bool true]) ∧ w' = w := by
  have b0 : bits .or .u64 0 0 = 0 := by kernel_rfl
  have b1 : bits .and .u64 576460752303423500 1152921504606846975 = 576460752303423500 := by kernel_rfl
  go_enter Tryz.func151, Tryz.ntmps151
  go_wp2_with fail
  go_ret2
  exact ⟨rfl, rfl⟩
set_option maxRecDepth 20000 in
set_option maxHeartbeats 2000000 in
theorem shift_2 (w : World) : Calls Tryz.prog 151 #[.int .u64 3, .int .u64 3769512888109105152, .int .u64 50] w fun e w' => e = .returned (.tuple #[.int .u64 52500, .bool true]) ∧ w' = w := by
  have b0 : bits .or .u64 49152 3348 = 52500 := by kernel_rfl
  have b1 : bits .and .u64 3769512888109105152 1125899906842623 = 0 := by kernel_rfl
  go_enter Tryz.func151, Tryz.ntmps151
  go_wp2_with fail
  go_ret2
  exact ⟨rfl, rfl⟩
theorem nrm_x1 : Nrm 4572414629676717179 := ⟨by kernel_rfl, by kernel_rfl, by kernel_rfl, by kernel_rfl⟩
theorem nrm_x2 : Nrm 4617596992938311680 := ⟨by kernel_rfl, by kernel_rfl, by kernel_rfl, by kernel_rfl⟩
theorem fr_1 : frA 4572414629676717179 = 4603939827068310651 := by kernel_rfl
theorem fr_2 : frA 4617596992938311680 = 4604086194056200192 := by kernel_rfl
theorem nrm_a1 : Nrm 4603939827068310651 := ⟨by kernel_rfl, by kernel_rfl, by kernel_rfl, by kernel_rfl⟩
theorem nrm_a2 : Nrm 4604086194056200192 := ⟨by kernel_rfl, by kernel_rfl, by kernel_rfl, by kernel_rfl⟩
set_option maxRecDepth 20000 in
/-- Of none there is none; of a nought nothing. -/
theorem take_bad (x : Nat) (S : Int) (w : World) (h : goodR x = false) : Calls Tryz.prog 131 #[.float .f64 x, .int .i64 S] w fun e w' => e = .returned (.tuple #[.int .i64 0, .int .i64 13]) ∧ w' = w := by
  have HG := Lib.hid (good_calls x w)
  rw [h] at HG
  go_enter Tryz.func131, Tryz.ntmps131
  go_wp2_with fail
  refine HG.out.mono ?_
  rintro e w1 ⟨rfl, rfl⟩
  go_wp2_with fail
  go_ret2
  exact ⟨rfl, rfl⟩
set_option maxRecDepth 20000 in
theorem take_zero (x : Nat) (w : World) (h : goodR x = true) (hz : isZ x = true) : Calls Tryz.prog 131 #[.float .f64 x, .int .i64 100] w fun e w' => e = .returned (.tuple #[.int .i64 0, .int .i64 0]) ∧ w' = w := by
  have HG := Lib.hid (good_calls x w)
  rw [h] at HG
  unfold isZ at hz
  go_enter Tryz.func131, Tryz.ntmps131
  go_wp2_with fail
  refine HG.out.mono ?_
  rintro e w1 ⟨rfl, rfl⟩
  go_wp2_with fail
  go_ret2
  exact ⟨rfl, rfl⟩
set_option maxRecDepth 20000 in
set_option maxHeartbeats 2000000 in
theorem cents_nan (w : World) : Calls Tryz.prog 105 #[.float .f64 9221120237041090561] w fun e w' => e = .returned (.tuple #[.int .i64 0, .int .i64 13]) ∧ w' = w := by
  have HI := Lib.hid ((fun w => take_bad 9221120237041090561 100 w (by kernel_rfl)) w)
  go_enter Tryz.func105, Tryz.ntmps105
  go_wp2_with fail
  refine HI.out.mono ?_
  rintro e w1 ⟨rfl, rfl⟩
  go_wp2_with fail
  go_ret2
  exact ⟨rfl, rfl⟩
set_option maxRecDepth 20000 in
set_option maxHeartbeats 2000000 in
theorem cents_neg0 (w : World) : Calls Tryz.prog 105 #[.float .f64 9223372036854775808] w fun e w' => e = .returned (.tuple #[.int .i64 0, .int .i64 0]) ∧ w' = w := by
  have HI := Lib.hid ((fun w => take_zero 9223372036854775808 w (by kernel_rfl) (by kernel_rfl)) w)
  go_enter Tryz.func105, Tryz.ntmps105
  go_wp2_with fail
  refine HI.out.mono ?_
  rintro e w1 ⟨rfl, rfl⟩
  go_wp2_with fail
  go_ret2
  exact ⟨rfl, rfl⟩
set_option maxRecDepth 20000 in
theorem copy_calls (y : Nat) (w : World) (hy : bits .and .u64 (y : Int) 9223372036854775808 = 9223372036854775808) : Calls Tryz.prog 173 #[.float .f64 0, .float .f64 y] w fun e w' => e = .returned (.float .f64 9223372036854775808) ∧ w' = w := by
  have h1 := bits_run
  have h2 := frombits_run
  have b1 : bits .andNot .u64 0 9223372036854775808 = 0 := by kernel_rfl
  have b2 : bits .or .u64 0 9223372036854775808 = 9223372036854775808 := by kernel_rfl
  go_enter Tryz.func173, Tryz.ntmps173
  go_wp2_with fail
  go_ret
  exact ⟨rfl, rfl⟩
end Go.Proofs.YtkcjgmicoifhcaaGreatDoor.Re

/- G0: shift, for every number and every count of places below 64. -/
namespace Go.Proofs.YtkcjgmicoifhcaaGreatDoor.Re
open Go.RowKit

/-- The whole number nearest to W halved k times; of two the even one. -/
def rnd (W k : Nat) : Nat := if 2 ^ (k - 1) < W % 2 ^ k ∨ (W % 2 ^ k = 2 ^ (k - 1) ∧ W / 2 ^ k % 2 = 1) then W / 2 ^ k + 1 else W / 2 ^ k
theorem or_sum (hi lo k : Nat) (hk : k < 64) (_hh : hi < 2 ^ k) (hl : lo < 2 ^ 64) : (hi * 2 ^ (64 - k)) ||| (lo / 2 ^ k) = hi * 2 ^ (64 - k) + lo / 2 ^ k := by
  have h1 : lo / 2 ^ k < 2 ^ (64 - k) := by
    rw [Nat.div_lt_iff_lt_mul (Nat.two_pow_pos k), ← Nat.pow_add]
    rw [show 64 - k + k = 64 by omega]
    exact hl
  rw [Nat.mul_comm, ← Nat.two_pow_add_eq_or_of_lt h1]
theorem whole (hi lo k : Nat) (hk : k < 64) : (hi * 2 ^ 64 + lo) / 2 ^ k = hi * 2 ^ (64 - k) + lo / 2 ^ k ∧ (hi * 2 ^ 64 + lo) % 2 ^ k = lo % 2 ^ k := by
  have e : hi * 2 ^ 64 = 2 ^ k * (hi * 2 ^ (64 - k)) := by
    rw [← Nat.mul_assoc, Nat.mul_comm (2 ^ k) hi, Nat.mul_assoc, ← Nat.pow_add, show k + (64 - k) = 64 by omega]
  rw [e]
  exact ⟨Nat.mul_add_div (Nat.two_pow_pos k) _ _, Nat.mul_add_mod _ _ _⟩
theorem u64w (n : Nat) (h : n < 18446744073709551616) : IntKind.u64.wrap (n : Int) = (n : Int) := by rw [IntKind.wrap_u64]; omega

set_option maxRecDepth 20000 in
set_option maxHeartbeats 4000000 in
theorem shift_lo (hi lo k : Nat) (w : World) (h0 : 0 < k) (hk : k < 64) (_hh : hi < 18446744073709551616) (hl : lo < 18446744073709551616) :
    Calls Tryz.prog 151 #[.int .u64 (hi : Int), .int .u64 (lo : Int), .int .u64 (k : Int)] w fun e w' =>
      e = .returned (if 2 ^ k ≤ hi then .tuple #[.int .u64 0, .bool false] else if 10000000000000 < (hi * 2 ^ 64 + lo) / 2 ^ k then .tuple #[.int .u64 0, .bool false] else .tuple #[.int .u64 (rnd (hi * 2 ^ 64 + lo) k : Int), .bool true]) ∧ w' = w := by
  have hk' : (k : Int) < 64 := by omega
  have hp : 0 < 2 ^ k := Nat.two_pow_pos k
  by_cases hz : 2 ^ k ≤ hi
  · have hz' : (0 : Int) < (hi : Int) / 2 ^ k := by
      have : 0 < hi / 2 ^ k := Nat.div_pos hz hp
      exact_mod_cast this
    rw [if_pos hz]
    clear hz
    go_enter Tryz.func151, Tryz.ntmps151
    go_wp2_with fail
    go_ret2
    exact ⟨rfl, rfl⟩
  · have hhk : hi < 2 ^ k := by omega
    have hz' : ¬ (0 : Int) < (hi : Int) / 2 ^ k := by
      have : hi / 2 ^ k = 0 := Nat.div_eq_of_lt hhk
      have e : (hi : Int) / 2 ^ k = ((hi / 2 ^ k : Nat) : Int) := by simp
      rw [e, this]; decide
    rw [if_neg hz]
    obtain ⟨ew, em⟩ := whole hi lo k hk
    have eor := or_sum hi lo k hk hhk hl
    have l1 : hi * 2 ^ (64 - k) + lo / 2 ^ k < 18446744073709551616 := by
      rw [← ew]
      rw [Nat.div_lt_iff_lt_mul hp]
      have : hi * 2 ^ 64 + lo < (hi + 1) * 2 ^ 64 := by rw [Nat.add_mul]; omega
      have h2 : (hi + 1) * 2 ^ 64 ≤ 2 ^ k * 2 ^ 64 := Nat.mul_le_mul_right _ hhk
      have h3 : 2 ^ k * 2 ^ 64 = 18446744073709551616 * 2 ^ k := by rw [Nat.mul_comm]
      omega
    have l0 : hi * 2 ^ (64 - k) < 18446744073709551616 := Nat.lt_of_le_of_lt (Nat.le_add_right _ _) l1
    have l2 : 2 ^ k ≤ 2 ^ 63 := Nat.pow_le_pow_right (by decide) (by omega)
    have l3 : 2 ^ (k - 1) ≤ 2 ^ 63 := Nat.pow_le_pow_right (by decide) (by omega)
    have l4 : (2 : Nat) ^ 63 = 9223372036854775808 := by decide
    have e1 : ((64 : Int) - (k : Int)).toNat = 64 - k := by omega
    have e2 : ((k : Int) - 1).toNat = k - 1 := by omega
    have e3 : (64 : Int) - (k : Int) = ((64 - k : Nat) : Int) := by omega
    have e4 : (k : Int) - 1 = ((k - 1 : Nat) : Int) := by omega
    have w1 : IntKind.u64.wrap ((hi : Int) * 2 ^ (64 - k)) = ((hi * 2 ^ (64 - k) : Nat) : Int) := by
      simpa using u64w (hi * 2 ^ (64 - k)) l0
    have w2 : IntKind.u64.wrap ((2 : Int) ^ k) = ((2 ^ k : Nat) : Int) := by
      simpa using u64w (2 ^ k) (by omega)
    have w3 : IntKind.u64.wrap (((2 ^ k : Nat) : Int) - 1) = ((2 ^ k - 1 : Nat) : Int) := by
      have := u64w (2 ^ k - 1) (by omega)
      rw [← this]; congr 1; omega
    have w4 : IntKind.u64.wrap ((2 : Int) ^ (k - 1)) = ((2 ^ (k - 1) : Nat) : Int) := by
      simpa using u64w (2 ^ (k - 1)) (by omega)
    have w5 : (lo : Int) / 2 ^ k = ((lo / 2 ^ k : Nat) : Int) := by simp
    have b1 : bits .or .u64 ((hi * 2 ^ (64 - k) : Nat) : Int) ((lo / 2 ^ k : Nat) : Int) = (((hi * 2 ^ 64 + lo) / 2 ^ k : Nat) : Int) := by
      rw [bits_or_u64_nat _ _ l0 (Nat.lt_of_le_of_lt (Nat.div_le_self lo (2 ^ k)) hl), eor, ew]
    have b2 : bits .and .u64 (lo : Int) ((2 ^ k - 1 : Nat) : Int) = (((hi * 2 ^ 64 + lo) % 2 ^ k : Nat) : Int) := by
      rw [bits_and_u64_nat _ _ hl (by omega), Nat.and_two_pow_sub_one_eq_mod, em]
    have l5 : (hi * 2 ^ 64 + lo) / 2 ^ k < 18446744073709551616 := by rw [ew]; exact l1
    have b3 : bits .and .u64 (((hi * 2 ^ 64 + lo) / 2 ^ k : Nat) : Int) 1 = (((hi * 2 ^ 64 + lo) / 2 ^ k % 2 : Nat) : Int) := by
      have := bits_and_u64_nat ((hi * 2 ^ 64 + lo) / 2 ^ k) 1 l5 (by decide)
      rw [Nat.and_one_is_mod] at this
      exact this
    unfold rnd
    obtain ⟨N, hN⟩ : ∃ N, (hi * 2 ^ 64 + lo) / 2 ^ k = N := ⟨_, rfl⟩
    obtain ⟨r, hr⟩ : ∃ r, (hi * 2 ^ 64 + lo) % 2 ^ k = r := ⟨_, rfl⟩
    obtain ⟨hf, hhf⟩ : ∃ h, 2 ^ (k - 1) = h := ⟨_, rfl⟩
    obtain ⟨q, hq⟩ : ∃ q, lo / 2 ^ k = q := ⟨_, rfl⟩
    obtain ⟨sh, hsh⟩ : ∃ q, hi * 2 ^ (64 - k) = q := ⟨_, rfl⟩
    obtain ⟨P, hP⟩ : ∃ q, 2 ^ k = q := ⟨_, rfl⟩
    obtain ⟨P1, hP1⟩ : ∃ q, 2 ^ k - 1 = q := ⟨_, rfl⟩
    obtain ⟨k1, hk1⟩ : ∃ q, k - 1 = q := ⟨_, rfl⟩
    obtain ⟨k2, hk2⟩ : ∃ q, 64 - k = q := ⟨_, rfl⟩
    rw [hN, hr, hhf]
    rw [hN] at b1 b3 l5
    rw [hr] at b2
    rw [hhf] at w4
    rw [hq] at b1 w5
    rw [hsh] at b1 w1
    rw [hP1] at b2 w3
    rw [hP] at w2 w3
    rw [hk1] at e2 e4 w4
    rw [hk2] at e1 e3 w1
    obtain ⟨m2, hm2⟩ : ∃ m, N % 2 = m := ⟨_, rfl⟩
    rw [hm2] at b3 ⊢
    clear hq hsh hP hP1 hk1 hk2
    clear ew em eor l1 l0 l2 l3 l4 hz hhk hN hr hhf hp
    by_cases hM : 10000000000000 < N
    · have hM' : (10000000000000 : Int) < (N : Int) := by omega
      rw [if_pos hM]
      go_enter Tryz.func151, Tryz.ntmps151
      go_wp2_with fail
      go_ret2
      exact ⟨rfl, rfl⟩
    · have hM' : ¬ (10000000000000 : Int) < (N : Int) := by omega
      rw [if_neg hM]
      have hN1 : IntKind.u64.wrap ((N : Int) + 1) = ((N + 1 : Nat) : Int) := by rw [IntKind.wrap_u64]; omega
      by_cases hg : hf < r
      · have hg' : (hf : Int) < (r : Int) := by omega
        rw [if_pos (.inl hg)]
        go_enter Tryz.func151, Tryz.ntmps151
        go_wp2_with fail
        go_ret2
        exact ⟨rfl, rfl⟩
      · have hg' : ¬ (hf : Int) < (r : Int) := by omega
        by_cases he : r = hf
        · subst he
          by_cases hm : m2 = 1
          · subst hm
            rw [if_pos (.inr ⟨rfl, rfl⟩)]
            go_enter Tryz.func151, Tryz.ntmps151
            go_wp2_with fail
            go_ret2
            exact ⟨rfl, rfl⟩
          · have hm' : ((m2 : Int) == 1) = false := by simp; omega
            have hm3 : ¬ (m2 : Int) = 1 := by omega
            rw [if_neg (by omega)]
            go_enter Tryz.func151, Tryz.ntmps151
            go_wp2_with fail
            go_ret2
            exact ⟨rfl, rfl⟩
        · have he' : ((r : Int) == (hf : Int)) = false := by simp; omega
          have he3 : ¬ (r : Int) = (hf : Int) := by omega
          rw [if_neg (by omega)]
          go_enter Tryz.func151, Tryz.ntmps151
          go_wp2_with fail
          go_ret2
          exact ⟨rfl, rfl⟩
end Go.Proofs.YtkcjgmicoifhcaaGreatDoor.Re

/- G1: shift, for every number and 64 to 127 places. -/
namespace Go.Proofs.YtkcjgmicoifhcaaGreatDoor.Re
open Go.RowKit

theorem whole_hi (hi lo j : Nat) (hl : lo < 2 ^ 64) : (hi * 2 ^ 64 + lo) / 2 ^ (64 + j) = hi / 2 ^ j ∧ (hi * 2 ^ 64 + lo) % 2 ^ (64 + j) = (hi % 2 ^ j) * 2 ^ 64 + lo := by
  have e1 : (hi * 2 ^ 64 + lo) / 2 ^ 64 = hi := by omega
  have e2 : (hi * 2 ^ 64 + lo) % 2 ^ 64 = lo := by omega
  refine ⟨by rw [Nat.pow_add, ← Nat.div_div_eq_div_mul, e1], ?_⟩
  rw [Nat.pow_add, Nat.mod_mul, e1, e2]
  omega
/-- .. as the program tells it. -/
def rndHi (hi lo j : Nat) : Nat := if 2 ^ (63 + j) < (hi % 2 ^ j) * 2 ^ 64 + lo ∨ ((hi % 2 ^ j) * 2 ^ 64 + lo = 2 ^ (63 + j) ∧ hi / 2 ^ j % 2 = 1) then hi / 2 ^ j + 1 else hi / 2 ^ j
theorem rnd_hi (hi lo j : Nat) (hl : lo < 2 ^ 64) : rnd (hi * 2 ^ 64 + lo) (64 + j) = rndHi hi lo j := by
  obtain ⟨a, b⟩ := whole_hi hi lo j hl
  unfold rnd rndHi
  rw [a, b, show 64 + j - 1 = 63 + j by omega]
set_option maxRecDepth 20000 in
set_option maxHeartbeats 4000000 in
theorem shift_64 (hi lo : Nat) (w : World) (hh : hi < 18446744073709551616) (hl : lo < 18446744073709551616) :
    Calls Tryz.prog 151 #[.int .u64 (hi : Int), .int .u64 (lo : Int), .int .u64 64] w fun e w' =>
      e = .returned (if 10000000000000 < hi then .tuple #[.int .u64 0, .bool false] else .tuple #[.int .u64 (rndHi hi lo 0 : Int), .bool true]) ∧ w' = w := by
  have hr : rndHi hi lo 0 = if 9223372036854775808 < lo ∨ (lo = 9223372036854775808 ∧ hi % 2 = 1) then hi + 1 else hi := by
    unfold rndHi
    simp [Nat.mod_one]
  rw [hr]
  clear hr
  have b1 : bits .and .u64 (hi : Int) 0 = 0 := by
    have := bits_and_u64_nat hi 0 hh (by decide)
    simpa using this
  have b3 : bits .and .u64 (hi : Int) 1 = ((hi % 2 : Nat) : Int) := by
    have := bits_and_u64_nat hi 1 hh (by decide)
    rw [Nat.and_one_is_mod] at this
    exact this
  obtain ⟨m2, hm2⟩ : ∃ m, hi % 2 = m := ⟨_, rfl⟩
  rw [hm2] at b3 ⊢
  clear hm2
  by_cases hM : 10000000000000 < hi
  · have hM' : (10000000000000 : Int) < (hi : Int) := by omega
    rw [if_pos hM]
    go_enter Tryz.func151, Tryz.ntmps151
    go_wp2_with fail
    all_goals (go_ret2; exact ⟨rfl, rfl⟩)
  · have hM' : ¬ (10000000000000 : Int) < (hi : Int) := by omega
    rw [if_neg hM]
    have hN1 : IntKind.u64.wrap ((hi : Int) + 1) = ((hi + 1 : Nat) : Int) := by rw [IntKind.wrap_u64]; omega
    by_cases hg : 9223372036854775808 < lo
    · have hg' : (9223372036854775808 : Int) < (lo : Int) := by omega
      rw [if_pos (.inl hg)]
      go_enter Tryz.func151, Tryz.ntmps151
      go_wp2_with fail
      all_goals (go_ret2; exact ⟨rfl, rfl⟩)
    · have hg' : ¬ (9223372036854775808 : Int) < (lo : Int) := by omega
      by_cases he : lo = 9223372036854775808
      · have he1 : (lo : Int) = 9223372036854775808 := by omega
        by_cases hm : m2 = 1
        · subst hm
          rw [if_pos (.inr ⟨he, rfl⟩)]
          subst he
          go_enter Tryz.func151, Tryz.ntmps151
          go_wp2_with fail
          all_goals (go_ret2; exact ⟨rfl, rfl⟩)
        · have hm' : ((m2 : Int) == 1) = false := by simp; omega
          have hm3 : ¬ (m2 : Int) = 1 := by omega
          rw [if_neg (by omega)]
          subst he
          go_enter Tryz.func151, Tryz.ntmps151
          go_wp2_with fail
          all_goals (go_ret2; exact ⟨rfl, rfl⟩)
      · have he' : ((lo : Int) == 9223372036854775808) = false := by simp; omega
        have he3 : ¬ (lo : Int) = 9223372036854775808 := by omega
        rw [if_neg (by omega)]
        go_enter Tryz.func151, Tryz.ntmps151
        go_wp2_with fail
        all_goals (go_ret2; exact ⟨rfl, rfl⟩)
set_option maxRecDepth 20000 in
set_option maxHeartbeats 4000000 in
theorem shift_hi (hi lo j : Nat) (w : World) (h0 : 0 < j) (hj : j < 64) (hh : hi < 18446744073709551616) (hl : lo < 18446744073709551616) :
    Calls Tryz.prog 151 #[.int .u64 (hi : Int), .int .u64 (lo : Int), .int .u64 ((64 + j : Nat) : Int)] w fun e w' =>
      e = .returned (if 10000000000000 < hi / 2 ^ j then .tuple #[.int .u64 0, .bool false] else .tuple #[.int .u64 (rndHi hi lo j : Int), .bool true]) ∧ w' = w := by
  have hp : 0 < 2 ^ j := Nat.two_pow_pos j
  have hdl : hi / 2 ^ j ≤ hi := Nat.div_le_self _ _
  have l2 : 2 ^ j ≤ 2 ^ 63 := Nat.pow_le_pow_right (by decide) (by omega)
  have l3 : 2 ^ (j - 1) ≤ 2 ^ 63 := Nat.pow_le_pow_right (by decide) (by omega)
  have l4 : (2 : Nat) ^ 63 = 9223372036854775808 := by decide
  have hsp : (2 : Nat) ^ (63 + j) = 2 ^ (j - 1) * 2 ^ 64 := by rw [← Nat.pow_add]; congr 1; omega
  have l6 : (2 : Nat) ^ 64 = 18446744073709551616 := by decide
  have a0 : ((64 + j : Nat) : Int) - 64 = (j : Int) := by omega
  have a1 : IntKind.u64.wrap (((64 + j : Nat) : Int) - 64) = (j : Int) := by rw [IntKind.wrap_u64]; omega
  have a2 : ¬ ((64 + j : Nat) : Int) < 64 := by omega
  have a3 : IntKind.u64.wrap ((j : Int) - 1) = ((j - 1 : Nat) : Int) := by rw [IntKind.wrap_u64]; omega
  have a4 : (j : Int) - 1 = ((j - 1 : Nat) : Int) := by omega
  have a5 : (0 : Int) < (j : Int) := by omega
  have w2 : IntKind.u64.wrap ((2 : Int) ^ j) = ((2 ^ j : Nat) : Int) := by simpa using u64w (2 ^ j) (by omega)
  have w3 : IntKind.u64.wrap (((2 ^ j : Nat) : Int) - 1) = ((2 ^ j - 1 : Nat) : Int) := by
    have := u64w (2 ^ j - 1) (by omega)
    rw [← this]; congr 1; omega
  have w4 : IntKind.u64.wrap ((2 : Int) ^ (j - 1)) = ((2 ^ (j - 1) : Nat) : Int) := by simpa using u64w (2 ^ (j - 1)) (by omega)
  have w5 : (hi : Int) / 2 ^ j = ((hi / 2 ^ j : Nat) : Int) := by simp
  have b2 : bits .and .u64 (hi : Int) ((2 ^ j - 1 : Nat) : Int) = ((hi % 2 ^ j : Nat) : Int) := by
    rw [bits_and_u64_nat _ _ hh (by omega), Nat.and_two_pow_sub_one_eq_mod]
  have b3 : bits .and .u64 ((hi / 2 ^ j : Nat) : Int) 1 = ((hi / 2 ^ j % 2 : Nat) : Int) := by
    have := bits_and_u64_nat (hi / 2 ^ j) 1 (by omega) (by decide)
    rw [Nat.and_one_is_mod] at this
    exact this
  unfold rndHi
  rw [hsp]
  obtain ⟨N, hN⟩ : ∃ N, hi / 2 ^ j = N := ⟨_, rfl⟩
  obtain ⟨r, hr⟩ : ∃ r, hi % 2 ^ j = r := ⟨_, rfl⟩
  obtain ⟨hf, hhf⟩ : ∃ h, 2 ^ (j - 1) = h := ⟨_, rfl⟩
  obtain ⟨P, hP⟩ : ∃ q, 2 ^ j = q := ⟨_, rfl⟩
  obtain ⟨P1, hP1⟩ : ∃ q, 2 ^ j - 1 = q := ⟨_, rfl⟩
  obtain ⟨k1, hk1⟩ : ∃ q, j - 1 = q := ⟨_, rfl⟩
  obtain ⟨K, hK⟩ : ∃ q, 64 + j = q := ⟨_, rfl⟩
  rw [hN, hr, hhf, hK]
  rw [hN] at w5 b3 hdl
  rw [hr] at b2
  rw [hhf] at w4
  rw [hP1] at b2 w3
  rw [hP] at w2 w3
  rw [hk1] at a3 a4 w4
  rw [hK] at a0 a1 a2
  obtain ⟨m2, hm2⟩ : ∃ m, N % 2 = m := ⟨_, rfl⟩
  rw [hm2] at b3 ⊢
  rw [l6] at ⊢
  clear hP hP1 hk1 hm2 l2 l3 l4 l6 hsp hp hN hr hhf hK
  have hsim : ∀ (hb : Prop) [Decidable hb], (hf * 18446744073709551616 < r * 18446744073709551616 + lo ∨ (r * 18446744073709551616 + lo = hf * 18446744073709551616 ∧ hb)) ↔ (hf < r ∨ (r = hf ∧ (0 < lo ∨ hb))) := by
    intro hb _
    by_cases hb' : hb <;> simp only [hb', and_true, and_false, or_true, or_false] <;> omega
  by_cases hM : 10000000000000 < N
  · have hM' : (10000000000000 : Int) < (N : Int) := by omega
    rw [if_pos hM]
    by_cases hlo : 0 < lo
    · have hlo' : (0 : Int) < (lo : Int) := by omega
      go_enter Tryz.func151, Tryz.ntmps151
      go_wp2_with fail
      go_ret2
      exact ⟨rfl, rfl⟩
    · obtain rfl : lo = 0 := by omega
      go_enter Tryz.func151, Tryz.ntmps151
      go_wp2_with fail
      go_ret2
      exact ⟨rfl, rfl⟩
  · have hM' : ¬ (10000000000000 : Int) < (N : Int) := by omega
    have hN1 : IntKind.u64.wrap ((N : Int) + 1) = ((N + 1 : Nat) : Int) := by rw [IntKind.wrap_u64]; omega
    rw [if_neg hM]
    simp only [hsim (m2 = 1)]
    clear hsim
    by_cases hg : hf < r
    · have hg' : (hf : Int) < (r : Int) := by omega
      rw [if_pos (.inl hg)]
      by_cases hlo : 0 < lo
      · have hlo' : (0 : Int) < (lo : Int) := by omega
        go_enter Tryz.func151, Tryz.ntmps151
        go_wp2_with fail
        go_ret2
        exact ⟨rfl, rfl⟩
      · obtain rfl : lo = 0 := by omega
        go_enter Tryz.func151, Tryz.ntmps151
        go_wp2_with fail
        go_ret2
        exact ⟨rfl, rfl⟩
    · have hg' : ¬ (hf : Int) < (r : Int) := by omega
      by_cases he : r = hf
      · subst he
        by_cases hlo : 0 < lo
        · have hlo' : (0 : Int) < (lo : Int) := by omega
          rw [if_pos (.inr ⟨rfl, .inl hlo⟩)]
          go_enter Tryz.func151, Tryz.ntmps151
          go_wp2_with fail
          go_ret2
          exact ⟨rfl, rfl⟩
        · obtain rfl : lo = 0 := by omega
          by_cases hm : m2 = 1
          · subst hm
            rw [if_pos (.inr ⟨rfl, .inr rfl⟩)]
            go_enter Tryz.func151, Tryz.ntmps151
            go_wp2_with fail
            go_ret2
            exact ⟨rfl, rfl⟩
          · have hm' : ((m2 : Int) == 1) = false := by simp; omega
            have hm3 : ¬ (m2 : Int) = 1 := by omega
            rw [if_neg (by omega)]
            go_enter Tryz.func151, Tryz.ntmps151
            go_wp2_with fail
            go_ret2
            exact ⟨rfl, rfl⟩
      · have he' : ((r : Int) == (hf : Int)) = false := by simp; omega
        have he3 : ¬ (r : Int) = (hf : Int) := by omega
        rw [if_neg (by omega)]
        by_cases hlo : 0 < lo
        · have hlo' : (0 : Int) < (lo : Int) := by omega
          go_enter Tryz.func151, Tryz.ntmps151
          go_wp2_with fail
          go_ret2
          exact ⟨rfl, rfl⟩
        · obtain rfl : lo = 0 := by omega
          go_enter Tryz.func151, Tryz.ntmps151
          go_wp2_with fail
          go_ret2
          exact ⟨rfl, rfl⟩
end Go.Proofs.YtkcjgmicoifhcaaGreatDoor.Re

/- G2: Mul64, in general. -/
namespace Go.Proofs.YtkcjgmicoifhcaaGreatDoor.Re
open Go.RowKit

theorem and32 (T : Int) (h0 : 0 ≤ T) (h1 : T < 18446744073709551616) : bits .and .u64 T 4294967295 = T % 4294967296 := by
  obtain ⟨a, rfl⟩ : ∃ a : Nat, T = (a : Int) := ⟨T.toNat, by omega⟩
  have := bits_and_u64_nat a 4294967295 (by omega) (by decide)
  rw [show (4294967295 : Nat) = 2 ^ 32 - 1 by decide, Nat.and_two_pow_sub_one_eq_mod] at this
  simpa using this
theorem mul_hi (x y : Nat) (hx : x < 18446744073709551616) (hy : y < 18446744073709551616) :
    IntKind.u64.wrap (IntKind.u64.wrap (IntKind.u64.wrap ((x : Int) / 4294967296 * ((y : Int) / 4294967296)) + IntKind.u64.wrap (IntKind.u64.wrap ((x : Int) / 4294967296 * ((y : Int) % 4294967296)) + IntKind.u64.wrap ((x : Int) % 4294967296 * ((y : Int) % 4294967296)) / 4294967296) / 4294967296) +
      IntKind.u64.wrap (bits .and .u64 (IntKind.u64.wrap (IntKind.u64.wrap ((x : Int) / 4294967296 * ((y : Int) % 4294967296)) + IntKind.u64.wrap ((x : Int) % 4294967296 * ((y : Int) % 4294967296)) / 4294967296)) 4294967295 + IntKind.u64.wrap ((x : Int) % 4294967296 * ((y : Int) / 4294967296))) / 4294967296) = ((x * y / 18446744073709551616 : Nat) : Int) := by
  have key := mul64_arith (x : Int) (y : Int) (by omega) (by omega) (by omega) (by omega)
  rw [and32 _ (by rw [IntKind.wrap_u64]; omega) (by rw [IntKind.wrap_u64]; omega)]
  simp only [IntKind.wrap_u64]
  rw [key]
  simp
set_option maxRecDepth 20000 in
set_option maxHeartbeats 4000000 in
theorem mul64_calls (x y : Nat) (w : World) (hx : x < 18446744073709551616) (hy : y < 18446744073709551616) :
    Calls Tryz.prog 135 #[.int .u64 (x : Int), .int .u64 (y : Int)] w fun e w' => e = .returned (.tuple #[.int .u64 ((x * y / 18446744073709551616 : Nat) : Int), .int .u64 ((x * y % 18446744073709551616 : Nat) : Int)]) ∧ w' = w := by
  have b1 : bits .and .u64 (x : Int) 4294967295 = (x : Int) % 4294967296 := and32 _ (by omega) (by omega)
  have b2 : bits .and .u64 (y : Int) 4294967295 = (y : Int) % 4294967296 := and32 _ (by omega) (by omega)
  have HH := Lib.hid (mul_hi x y hx hy)
  have HL : Hid (IntKind.u64.wrap ((x : Int) * (y : Int)) = ((x * y % 18446744073709551616 : Nat) : Int)) := Lib.hid (by rw [IntKind.wrap_u64]; simp)
  go_enter Tryz.func135, Tryz.ntmps135
  go_wp2_with fail
  go_ret2
  refine ⟨?_, rfl⟩
  show Ending.returned (.tuple #[.int .u64 (IntKind.u64.wrap _), .int .u64 (IntKind.u64.wrap _)]) = _
  rw [HH.out, HL.out]
set_option maxRecDepth 20000 in
theorem mul_calls (x y : Nat) (w : World) (hx : x < 18446744073709551616) (hy : y < 18446744073709551616) :
    Calls Tryz.prog 150 #[.int .u64 (x : Int), .int .u64 (y : Int)] w fun e w' => e = .returned (.tuple #[.int .u64 ((x * y / 18446744073709551616 : Nat) : Int), .int .u64 ((x * y % 18446744073709551616 : Nat) : Int)]) ∧ w' = w := by
  have HM := Lib.hid (mul64_calls x y w hx hy)
  obtain ⟨a, ha⟩ : ∃ a, x * y / 18446744073709551616 = a := ⟨_, rfl⟩
  obtain ⟨b, hb⟩ : ∃ a, x * y % 18446744073709551616 = a := ⟨_, rfl⟩
  rw [ha, hb] at HM ⊢
  clear ha hb
  go_enter Tryz.func150, Tryz.ntmps150
  go_wp2_with fail
  refine HM.out.mono ?_
  rintro e w1 ⟨rfl, rfl⟩
  go_wp2_with fail
  go_ret2
  exact ⟨rfl, rfl⟩
end Go.Proofs.YtkcjgmicoifhcaaGreatDoor.Re

/- G3: The float of a whole number of 53 digits. -/
namespace Go.Proofs.YtkcjgmicoifhcaaGreatDoor.Re
open Go.RowKit

theorem fmt : FloatKind.f64.format = Ieee.double := rfl
theorem sw : Ieee.double.signWeight = 9223372036854775808 := by decide
theorem bn : Ieee.double.binade = 4503599627370496 := by decide
theorem ir : Ieee.double.infRung = 9218868437227405312 := by decide
theorem lp : Ieee.double.leastPlace = -1074 := by decide
/-- What a normal positive word stands for. -/
theorem read_nrm (e f : Nat) (h1 : 1 ≤ e) (h2 : e ≤ 2046) (hf : f < 4503599627370496) : Ieee.double.read (e * 4503599627370496 + f) = .number false (4503599627370496 + f) (-1074 + ((e - 1 : Nat) : Int)) := by
  unfold Ieee.Format.read
  rw [sw, bn, ir, lp]
  have d1 : (e * 4503599627370496 + f) / 9223372036854775808 = 0 := by omega
  have d2 : (e * 4503599627370496 + f) % 9223372036854775808 = e * 4503599627370496 + f := by omega
  have d3 : (e * 4503599627370496 + f) % 4503599627370496 = f := by omega
  have d4 : (e * 4503599627370496 + f) / 4503599627370496 = e := by omega
  rw [d1, d2]
  simp only [d3, d4]
  rw [if_neg (by omega), if_pos (by omega)]
  rfl
theorem log_53 (m : Nat) (h1 : 4503599627370496 ≤ m) (h2 : m < 9007199254740992) : m.log2 = 52 := by
  rw [Nat.log2_eq_iff (by omega)]
  exact ⟨by omega, by omega⟩
theorem mul_one (f : Nat) (hf : f < 4503599627370496) : floatBits .mul .f64 4607182418800017408 (1075 * 4503599627370496 + f) = some (1075 * 4503599627370496 + f) := by
  unfold floatBits
  simp only
  unfold Ieee.Format.mul
  rw [fmt, read_nrm 1075 f (by decide) (by decide) hf, show (4607182418800017408 : Nat) = 1023 * 4503599627370496 + 0 by decide, read_nrm 1023 0 (by decide) (by decide) (by decide)]
  simp only [Ieee.Datum.product, Option.map_some, Option.some.injEq, Ieee.Format.write]
  unfold Ieee.Format.nearest
  rw [if_neg (by omega)]
  have hl : ((4503599627370496 + 0) * (4503599627370496 + f)).log2 = 104 := by
    rw [Nat.log2_eq_iff (by omega)]
    exact ⟨by omega, by omega⟩
  rw [hl, lp, bn, ir]
  have hfb : Ieee.double.fractionBits = 52 := rfl
  rw [hfb]
  have hp : -1074 + ((1023 - 1 : Nat) : Int) + (-1074 + ((1075 - 1 : Nat) : Int)) = -52 := by decide
  rw [hp, show max ((-52 : Int) + ((104 : Nat) : Int) - ((52 : Nat) : Int)) (-1074) = 0 by decide]
  show Ieee.double.word (false ^^ false) (min (((0 : Int) - -1074).toNat * 4503599627370496 + Ieee.Toward.even.cut (false ^^ false) (((4503599627370496 + 0) * (4503599627370496 + f)) <<< ((-52 : Int) - 0).toNat) ((0 : Int) - -52).toNat) 9218868437227405312) = _
  rw [show ((-52 : Int) - 0).toNat = 0 by decide, show ((0 : Int) - -52).toNat = 52 by decide, show ((0 : Int) - -1074).toNat = 1074 by decide, Nat.shiftLeft_zero]
  have hc : Ieee.Toward.even.cut (false ^^ false) ((4503599627370496 + 0) * (4503599627370496 + f)) 52 = 4503599627370496 + f := by
    unfold Ieee.Toward.cut
    rw [hl, show (1 : Nat) <<< min 52 (104 + 2) = 4503599627370496 by decide]
    have q1 : (4503599627370496 + 0) * (4503599627370496 + f) / 4503599627370496 = 4503599627370496 + f := by omega
    have q2 : (4503599627370496 + 0) * (4503599627370496 + f) % 4503599627370496 = 0 := by omega
    simp only [q1, q2]
    simp
  rw [hc]
  show min (1074 * 4503599627370496 + (4503599627370496 + f)) 9218868437227405312 = _
  omega
theorem to_int (f : Nat) (hf : f < 4503599627370496) : floatToIntVal .f64 (1075 * 4503599627370496 + f) .u64 = some ((4503599627370496 + f : Nat) : Int) := by
  unfold floatToIntVal
  have hd : FloatKind.f64.decode (1075 * 4503599627370496 + f) = .number false (4503599627370496 + f) 0 := by
    show Ieee.double.read _ = _
    rw [read_nrm 1075 f (by decide) (by decide) hf]
    rfl
  rw [hd]
  have hl : (4503599627370496 + f).log2 = 52 := log_53 _ (by omega) (by omega)
  have ht : Ieee.Datum.toInt .zero (.number false (4503599627370496 + f) 0) = some ((4503599627370496 + f : Nat) : Int) := by
    unfold Ieee.Datum.toInt Ieee.Datum.integral
    simp only [Int.toNat_zero, Int.neg_zero, Nat.shiftLeft_zero]
    unfold Ieee.Toward.cut
    simp [Ieee.signed]
  rw [ht]
  simp only
  rw [if_pos]
  simp only [IntKind.min, IntKind.max, IntKind.signed, IntKind.bits]
  constructor
  · simp; omega
  · simp; omega
end Go.Proofs.YtkcjgmicoifhcaaGreatDoor.Re

/- G4: Normal positive words: none of the special ones. -/
namespace Go.Proofs.YtkcjgmicoifhcaaGreatDoor.Re
open Go.RowKit

theorem abs_pos (x : Nat) (h : x < 9223372036854775808) : absN x = x := by
  unfold absN
  rw [show (9223372036854775808 : Int) = ((9223372036854775808 : Nat) : Int) by rfl, u64_andNot_nat x _ (by omega) (by decide)]
  rw [show 18446744073709551615 - 9223372036854775808 = 2 ^ 63 - 1 by decide, Nat.and_two_pow_sub_one_eq_mod]
  rw [Nat.mod_eq_of_lt (by omega)]
  rfl
theorem order_num (x y m n : Nat) (i j : Int) (hx : Ieee.double.read x = .number false m i) (hy : Ieee.double.read y = .number false n j) :
    Ieee.double.order x y = some (compare ((m <<< (i - min i j).toNat : Nat) : Int) ((n <<< (j - min i j).toNat : Nat) : Int)) := by
  unfold Ieee.Format.order
  rw [hx, hy]
  rfl

theorem zero_read : Ieee.double.read 0 = .number false 0 (-1074) := by decide
theorem cmp_self (a : Int) : compare a a = Ordering.eq := by simp [compare, compareOfLessAndEq]
theorem cmp_gt {a b : Int} (h : b < a) : compare a b = Ordering.gt := by
  simp only [compare, compareOfLessAndEq]
  rw [if_neg (by omega), if_neg (by omega)]
theorem cmp_le {a b : Int} (h : a ≤ b) : (compare a b == Ordering.gt) = false := by
  simp only [compare, compareOfLessAndEq]
  split
  · rfl
  · rw [if_pos (by omega)]; rfl
theorem cmp_ge {a b : Int} (h : b ≤ a) : (compare a b == Ordering.lt) = false := by
  simp only [compare, compareOfLessAndEq]
  rw [if_neg (by omega)]
  split <;> rfl
theorem sh_pos (m k : Nat) (h : 0 < m) : 0 < m <<< k := by
  rw [Nat.shiftLeft_eq]; exact Nat.mul_pos h (Nat.two_pow_pos _)
theorem sh_ge (m k : Nat) : m ≤ m <<< k := by
  rw [Nat.shiftLeft_eq]; exact Nat.le_mul_of_pos_right _ (Nat.two_pow_pos _)
theorem some_beq (a b : Ordering) : (some a == some b) = (a == b) := by cases a <;> cases b <;> rfl
/-- A positive number: neither nothing, nor below it, nor no number. -/
theorem pos_word (x m : Nat) (i : Int) (hx : Ieee.double.read x = .number false m i) (hm : 0 < m) : isZ x = false ∧ negB x = false ∧ nanB x = false := by
  have h0 := order_num x 0 m 0 i (-1074) hx zero_read
  have h1 := order_num x x m m i i hx hx
  have hc := cmp_gt (a := ((m <<< (i - min i (-1074)).toNat : Nat) : Int)) (b := ((0 <<< (-1074 - min i (-1074)).toNat : Nat) : Int)) (by
    have := sh_pos m (i - min i (-1074)).toNat hm
    rw [Nat.zero_shiftLeft]; omega)
  rw [hc] at h0
  rw [cmp_self] at h1
  refine ⟨?_, ?_, ?_⟩
  · unfold isZ; rw [fmt, h0]; rfl
  · unfold negB; rw [fmt, h0]; rfl
  · unfold nanB; rw [fmt, h1]; rfl
theorem max_read : Ieee.double.read 9218868437227405311 = .number false 9007199254740991 971 := by
  have := read_nrm 2046 4503599627370495 (by decide) (by decide) (by decide)
  simpa using this
/-- .. nor endless. -/
theorem fin_word (x m : Nat) (i : Int) (hx : Ieee.double.read x = .number false m i) (hb : x < 9223372036854775808) (hm : m ≤ 9007199254740991) (hi : i ≤ 971) : infB x = false := by
  have h0 := order_num x 9218868437227405311 m 9007199254740991 i 971 hx max_read
  unfold infB
  rw [abs_pos x hb, fmt, h0, some_beq]
  apply cmp_le
  rw [show min i 971 = i by omega, show (i - i).toNat = 0 by omega, Nat.shiftLeft_zero]
  have := sh_ge 9007199254740991 (971 - i).toNat
  omega
theorem small_word (x m : Nat) (i : Int) (hx : Ieee.double.read x = .number false m i) (hb : x < 9223372036854775808) (hm : 4503599627370496 ≤ m) (hi : -1074 ≤ i) : smallB x = false := by
  have hr : Ieee.double.read 4503599627370496 = .number false 4503599627370496 (-1074) := by
    have := read_nrm 1 0 (by decide) (by decide) (by decide)
    simpa using this
  have h0 := order_num x 4503599627370496 m 4503599627370496 i (-1074) hx hr
  unfold smallB
  rw [abs_pos x hb, fmt, h0, some_beq]
  apply cmp_ge
  rw [show min i (-1074) = -1074 by omega, show ((-1074 : Int) - -1074).toNat = 0 by omega, Nat.shiftLeft_zero]
  have := sh_ge m (i - -1074).toNat
  omega
theorem nrm_word (e f : Nat) (h1 : 1 ≤ e) (h2 : e ≤ 2046) (hf : f < 4503599627370496) : Nrm (e * 4503599627370496 + f) ∧ goodR (e * 4503599627370496 + f) = true := by
  have hr := read_nrm e f h1 h2 hf
  obtain ⟨a, b, c⟩ := pos_word _ _ _ hr (by omega)
  have d := fin_word _ _ _ hr (by omega) (by omega) (by omega)
  refine ⟨⟨a, d, c, small_word _ _ _ hr (by omega) (by omega) (by omega)⟩, ?_⟩
  unfold goodR
  rw [b, c, d]
  rfl
/-- The bits of a normal word. -/
theorem and_low (e f : Nat) (h2 : e ≤ 2047) (hf : f < 4503599627370496) : bits .andNot .u64 ((e * 4503599627370496 + f : Nat) : Int) 9218868437227405312 = (f : Int) := by
  rw [show (9218868437227405312 : Int) = ((9218868437227405312 : Nat) : Int) by rfl, u64_andNot_nat _ _ (by omega) (by decide)]
  rw [show 18446744073709551615 - 9218868437227405312 = 2 ^ 63 + (2 ^ 52 - 1) by decide]
  have hor : (2 : Nat) ^ 63 + (2 ^ 52 - 1) = 2 ^ 63 ||| (2 ^ 52 - 1) := (nat_join 63 _ _ (by decide) (by decide)).symm
  rw [hor, Nat.and_or_distrib_left, nat_bit 63, Nat.and_two_pow_sub_one_eq_mod]
  have d1 : (e * 4503599627370496 + f) / 2 ^ 63 % 2 * 2 ^ 63 = 0 := by omega
  have d2 : (e * 4503599627370496 + f) % 2 ^ 52 = f := by omega
  rw [d1, d2, Nat.zero_or]
theorem or_exp (c f : Nat) (hc : c ≤ 2047) (hf : f < 4503599627370496) : bits .or .u64 (f : Int) ((c * 4503599627370496 : Nat) : Int) = ((c * 4503599627370496 + f : Nat) : Int) := by
  rw [u64_or_nat _ _ (by omega) (by omega), Nat.or_comm, nat_join 52 _ _ (by omega) (by omega)]
theorem frA_word (e f : Nat) (h2 : e ≤ 2047) (hf : f < 4503599627370496) : frA (e * 4503599627370496 + f) = 1022 * 4503599627370496 + f := by
  unfold frA
  rw [and_low e f h2 hf, show (4602678819172646912 : Int) = ((1022 * 4503599627370496 : Nat) : Int) by rfl, or_exp _ _ (by decide) hf]
  rfl
theorem ldY_word (e f : Nat) (h2 : e ≤ 2047) (hf : f < 4503599627370496) : ldY (e * 4503599627370496 + f) = 1075 * 4503599627370496 + f := by
  unfold ldY
  rw [and_low e f h2 hf, show (4841369599423283200 : Int) = ((1075 * 4503599627370496 : Nat) : Int) by rfl, or_exp _ _ (by decide) hf]
  rfl
theorem exp_word (e f : Nat) (h2 : e ≤ 2047) (hf : f < 4503599627370496) : bits .and .u64 (((e * 4503599627370496 + f : Nat) : Int) / 4503599627370496) 2047 = (e : Int) := by
  have h1 : ((e * 4503599627370496 + f : Nat) : Int) / 4503599627370496 = (e : Int) := by omega
  rw [h1]
  have := u64_and_nat e 2047 (by omega) (by decide)
  rw [show (2047 : Nat) = 2 ^ 11 - 1 by decide, Nat.and_two_pow_sub_one_eq_mod] at this
  rw [show (2047 : Int) = ((2 ^ 11 - 1 : Nat) : Int) by rfl, this]
  omega
theorem frE_word (e f : Nat) (h2 : e ≤ 2047) (hf : f < 4503599627370496) : frE (e * 4503599627370496 + f) = (e : Int) - 1022 := by
  unfold frE
  rw [exp_word e f h2 hf]
  rw [wr64 (e : Int) (by omega), wr64 ((e : Int) - 1023) (by omega), wr64 ((e : Int) - 1023 + 1) (by omega), wr64 ((e : Int) - 1023 + 1) (by omega)]
  omega
end Go.Proofs.YtkcjgmicoifhcaaGreatDoor.Re
