/- Bits, Of, Dollars, Percent, Float: the program's and the reference's. -/
import Derived.Test.YtadcpdpcpecooaaF0
import Derived.Laws.Cover2
import Derived.Below
namespace Go.Proofs.Ytadcpdpcpecooaa.Re
open Go.RowKit

def isZ (x : Nat) : Bool := FloatKind.f64.format.order x 0 == some Ordering.eq
def bitsN (x : Nat) : Int := if goodR x = true then (if isZ x = true then 0 else (x : Int)) else 0
set_option maxRecDepth 20000 in
theorem bits_calls (x : Nat) (w : World) : Calls Try.prog 53 #[.float .f64 x] w fun e w' => e = .returned (.int .u64 (bitsN x)) ∧ w' = w := by
  have HG := Lib.hid (good_calls x w)
  have h1 := bits_run
  unfold bitsN
  obtain ⟨b1, e1⟩ : ∃ b, goodR x = b := ⟨_, rfl⟩
  obtain ⟨b2, e2⟩ : ∃ b, isZ x = b := ⟨_, rfl⟩
  rw [e1, e2]
  rw [e1] at HG
  unfold isZ at e2
  clear e1
  go_enter Try.func53, Try.ntmps53
  go_wp2_with fail
  refine HG.out.mono ?_
  rintro e w1 ⟨rfl, rfl⟩
  cases b1 with
  | false =>
    go_wp2_with fail
    go_ret
    exact ⟨rfl, rfl⟩
  | true =>
    cases b2 <;>
      (go_wp2_with fail
       go_ret
       exact ⟨rfl, rfl⟩)
set_option maxRecDepth 20000 in
theorem rbits_calls (x : Nat) (w : World) : Calls Try.prog 54 #[.float .f64 x] w fun e w' => e = .returned (.int .u64 (bitsN x)) ∧ w' = w := by
  have HG := Lib.hid (rgood_calls x w)
  have h1 := bits_run
  unfold bitsN
  obtain ⟨b1, e1⟩ : ∃ b, goodR x = b := ⟨_, rfl⟩
  obtain ⟨b2, e2⟩ : ∃ b, isZ x = b := ⟨_, rfl⟩
  rw [e1, e2]
  rw [e1] at HG
  unfold isZ at e2
  clear e1
  go_enter Try.func54, Try.ntmps54
  go_wp2_with fail
  refine HG.out.mono ?_
  rintro e w1 ⟨rfl, rfl⟩
  cases b1 with
  | false =>
    go_wp2_with fail
    go_ret
    exact ⟨rfl, rfl⟩
  | true =>
    cases b2 <;>
      (go_wp2_with fail
       go_ret
       exact ⟨rfl, rfl⟩)
def ofB (u : Int) : Bool := goodR u.toNat && (bitsN u.toNat == u)
def ofN (u : Int) : Nat := if ofB u = true then u.toNat else 0
theorem of_yes {u : Int} (h1 : goodR u.toNat = true) (h2 : bitsN u.toNat = u) : ofB u = true ∧ ofN u = u.toNat := by
  have hb : ofB u = true := by unfold ofB; rw [h1, h2]; simp
  exact ⟨hb, if_pos hb⟩
theorem of_no {u : Int} (h : goodR u.toNat = false ∨ bitsN u.toNat ≠ u) : ofB u = false ∧ ofN u = 0 := by
  have hb : ofB u = false := by
    unfold ofB
    rcases h with h | h
    · rw [h]; rfl
    · rw [show (bitsN u.toNat == u) = false by simpa using h]; simp
  exact ⟨hb, if_neg (by rw [hb]; decide)⟩
theorem below_set2 {w0 w : World} {base g : Nat} (hB : Below base w0 w) (hg : base ≤ g) (i j : Nat) (u u' : Value) : Below base w0 ((w.setCell ⟨g, i, none⟩ u).setCell ⟨g, j, none⟩ u') := by
  have h1 : ∀ (W : World) (i : Nat) (u : Value), Below base W (W.setCell ⟨g, i, none⟩ u) := fun W i u =>
    ⟨rfl, rfl, rfl, by simp, fun k hk => Below.heap_setCell W ⟨g, i, none⟩ u k (by show k ≠ g; omega)⟩
  exact (hB.trans (h1 _ _ _)).trans (h1 _ _ _)
set_option maxRecDepth 20000 in
set_option maxHeartbeats 1000000 in
theorem rof_calls (u : Int) (w : World) : Calls Try.prog 35 #[.int .u64 u] w fun e w' => e = .returned (.agg #[.float .f64 (ofN u), .bool (ofB u)]) ∧ Below w.heap.size w w' := by
  have HG := Lib.hid (fun W => rgood_calls u.toNat W)
  have HB := Lib.hid (fun W => rbits_calls u.toNat W)
  have h2 := frombits_run
  go_enter Try.func35, Try.ntmps35
  go_wp2_with fail
  refine (HG.out _).mono ?_
  rintro e w1 ⟨rfl, rfl⟩
  have hnew : (w.alloc (.cells #[.float .f64 0, .bool false] 73)).heap[w.heap.size]? = some (.cells #[.float .f64 0, .bool false] 73 (0, 0)) := heap_alloc_new w _
  have hbl : Below w.heap.size w (w.alloc (.cells #[.float .f64 0, .bool false] 73)) := (Below.refl _ _).alloc (Nat.le_refl _) _
  generalize w.alloc (.cells #[.float .f64 0, .bool false] 73) = wa at hnew hbl ⊢
  generalize hgg : w.heap.size = gg at hnew hbl ⊢
  have hset : ∀ v0 v1, ((wa.setCell ⟨gg, 0, none⟩ v0).setCell ⟨gg, 1, none⟩ v1).heap[gg]? = some (.cells #[v0, v1] 73 (0, 0)) := fun v0 v1 => by
    have e1 := heap_setCell_same wa gg 0 _ 73 v0 hnew
    exact heap_setCell_same (wa.setCell ⟨gg, 0, none⟩ v0) gg 1 _ 73 v1 e1
  have HSet := Lib.hid hset
  have HBl := Lib.hid hbl
  have c0 : wa.cell? ⟨gg, 0, none⟩ = some (.float .f64 0) := cell_of_row wa gg 0 _ _ _ hnew
  have c1 : wa.cell? ⟨gg, 1, none⟩ = some (.bool false) := cell_of_row wa gg 1 _ _ _ hnew
  have hst := fun (a : Addr) (n : Nat) (W : World) => run_store Try.prog W a (.float .f64 n) .plain rfl
  have f0 : wa.frozen? ⟨gg, 0, none⟩ = false := frozen_of_row wa gg 0 _ _ hnew
  have f1 : wa.frozen? ⟨gg, 1, none⟩ = false := frozen_of_row wa gg 1 _ _ hnew
  clear hset hbl hnew
  rcases Bool.eq_false_or_eq_true (goodR u.toNat) with e1 | e1
  · rw [e1]
    go_wp2_with fail
    refine (HB.out _).mono ?_
    rintro e w2 ⟨rfl, rfl⟩
    by_cases hu : bitsN u.toNat = u
    · obtain ⟨h3, h4⟩ := of_yes e1 hu
      have hb : (bitsN u.toNat != u) = false := by simpa using hu
      go_wp2_with fail
      have hs := HSet.out (.float .f64 u.toNat) (.bool true)
      have HB3 := Lib.hid (below_set2 HBl.out (Nat.le_refl _) 0 1 (.float .f64 u.toNat) (.bool true))
      generalize (w2.setCell ⟨gg, 0, none⟩ (.float .f64 u.toNat)).setCell ⟨gg, 1, none⟩ (.bool true) = wz at hs HB3 ⊢
      (try simp only [Exit.inBlock, Exit.then])
      refine bodyPost_ret (results_cell_row (p := 2) (ty := 73) rfl _ _ gg 73 _ _ _ rfl hs Try.underlying73 rfl (by kernel_rfl)) rfl ?_
      exact ⟨by rw [h3, h4], by rw [hgg]; exact HB3.out⟩
    · obtain ⟨h3, h4⟩ := of_no (.inr hu)
      have hb : (bitsN u.toNat != u) = true := by simpa using hu
      go_wp2_with fail
      have hs := HSet.out (.float .f64 0) (.bool false)
      have HB3 := Lib.hid (below_set2 HBl.out (Nat.le_refl _) 0 1 (.float .f64 0) (.bool false))
      generalize (w2.setCell ⟨gg, 0, none⟩ (.float .f64 0)).setCell ⟨gg, 1, none⟩ (.bool false) = wz at hs HB3 ⊢
      (try simp only [Exit.inBlock, Exit.then])
      refine bodyPost_ret (results_cell_row (p := 2) (ty := 73) rfl _ _ gg 73 _ _ _ rfl hs Try.underlying73 rfl (by kernel_rfl)) rfl ?_
      exact ⟨by rw [h3, h4], by rw [hgg]; exact HB3.out⟩
  · rw [e1]
    obtain ⟨h3, h4⟩ := of_no (.inl e1)
    go_wp2_with fail
    have hs := HSet.out (.float .f64 0) (.bool false)
    have HB3 := Lib.hid (below_set2 HBl.out (Nat.le_refl _) 0 1 (.float .f64 0) (.bool false))
    generalize (wa.setCell ⟨gg, 0, none⟩ (.float .f64 0)).setCell ⟨gg, 1, none⟩ (.bool false) = wz at hs HB3 ⊢
    (try simp only [Exit.inBlock, Exit.then])
    refine bodyPost_ret (results_cell_row (p := 2) (ty := 73) rfl _ _ gg 73 _ _ _ rfl hs Try.underlying73 rfl (by kernel_rfl)) rfl ?_
    exact ⟨by rw [h3, h4], by rw [hgg]; exact HB3.out⟩
set_option maxRecDepth 20000 in
theorem float_calls (a b : Nat) (w : World) : Calls Try.prog 45 #[.float .f64 a, .float .f64 b] w fun e w' => e = .returned (.bool ((a : Int) == (b : Int))) ∧ w' = w := by
  have h1 := bits_run
  go_enter Try.func45, Try.ntmps45
  go_wp2_with fail
  go_ret
  exact ⟨rfl, rfl⟩
theorem read_word (neg : Bool) (rung : Nat) (h : rung ≤ FloatKind.f64.format.infRung) : ∀ s f, FloatKind.f64.format.read (FloatKind.f64.format.word neg rung) ≠ .nan s f := by
  intro s f
  have hw : FloatKind.f64.format.infRung = 9218868437227405312 := by decide
  have hs : FloatKind.f64.format.signWeight = 9223372036854775808 := by decide
  have hm : FloatKind.f64.format.word neg rung % FloatKind.f64.format.signWeight = rung := by
    unfold Ieee.Format.word
    rw [hw] at h
    rw [hs]
    split <;> omega
  unfold Ieee.Format.read
  rw [hm]
  simp only
  split
  · simp
  · split
    · simp
    · split
      · simp
      · omega
theorem div_some (n : Int) (K : Nat) (hK : ∃ m i, FloatKind.f64.format.read K = .number false (m + 1) i) : ∃ r, floatBits .quo .f64 (floatOfInt .f64 n) K = some r := by
  obtain ⟨m, i, hK⟩ := hK
  unfold floatBits
  simp only
  unfold Ieee.Format.div
  rw [hK]
  have hr : ∀ s f, FloatKind.f64.format.read (floatOfInt .f64 n) ≠ .nan s f := by
    have e : floatOfInt .f64 n = FloatKind.f64.format.nearest (n < 0) n.natAbs 0 := rfl
    rw [e]
    unfold Ieee.Format.nearest
    split
    · exact read_word _ _ (Nat.zero_le _)
    · exact read_word _ _ (Nat.min_le_right ..)
  cases hd : FloatKind.f64.format.read (floatOfInt .f64 n) with
  | nan s f => exact absurd hd (hr s f)
  | infinity s => exact ⟨_, rfl⟩
  | number s m i =>
    simp only [Ieee.Datum.quotient]
    rw [if_neg (by omega)]
    exact ⟨_, rfl⟩
theorem read100 : ∃ m i, FloatKind.f64.format.read 4636737291354636288 = .number false (m + 1) i := ⟨7036874417766399, -46, by decide⟩
theorem read10000 : ∃ m i, FloatKind.f64.format.read 4666723172467343360 = .number false (m + 1) i := ⟨5497558138879999, -39, by decide⟩
end Go.Proofs.Ytadcpdpcpecooaa.Re
