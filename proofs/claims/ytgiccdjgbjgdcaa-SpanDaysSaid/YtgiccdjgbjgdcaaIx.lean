/- slices.IndexFunc at our stretches, whatever the function value answers; and the two closures. -/
import Derived.Test.YtgiccdjgbjgdcaaPSpanTellsx4
import Derived.Deep.RegionWith
import Derived.WalkKit
import Derived.Lib.AppendStr
import Derived.KernelRfl
import Derived.Lib.Hide
namespace Go.Proofs.Ytgiccdjgbjgdcaa.Sp
open Go.RowKit Go.Proofs.YtgiccdjgbjgdcaaW.PrintWords PSpanTells

/-- The first place at which p holds, or the length. -/
def firstAt (p : S51 → Bool) (xs : List S51) : Nat := xs.findIdx p
/-- .. as Go tells it. -/
def idxI (p : S51 → Bool) (xs : List S51) : Int := if firstAt p xs < xs.length then (firstAt p xs : Int) else -1
def cellOf (x : S51) : Value := .agg #[.int .i64 x.f0, .int .i64 x.f1]
/-- What the function value does, in every later world. -/
def Answers (K : Nat) (caps : Array Value) (p : S51 → Bool) (w : World) : Prop :=
  (∀ x W, (callFunc K (#[cellOf x] ++ caps)).run Try.prog W = .ok (.enter K (#[cellOf x] ++ caps)) W) ∧
  ∀ x w1, Below w.heap.size w w1 → Calls Try.prog K (#[cellOf x] ++ caps) w1 fun e w' => e = .returned (.bool (p x)) ∧ Below w1.heap.size w1 w'

theorem first_hit (p : S51 → Bool) (xs : List S51) (k : Nat) (hk : k < xs.length) (hno : ∀ j (hj : j < xs.length), j < k → p xs[j] = false) (hp : p xs[k] = true) : firstAt p xs = k :=
  (List.findIdx_eq hk).2 ⟨hp, fun j hj => hno j (by omega) hj⟩
theorem first_none (p : S51 → Bool) (xs : List S51) (hno : ∀ j (hj : j < xs.length), p xs[j] = false) : firstAt p xs = xs.length := by
  refine List.findIdx_eq_length.2 fun x hx => ?_
  obtain ⟨j, hj, rfl⟩ := List.getElem_of_mem hx
  exact hno j hj
theorem first_any (p : S51 → Bool) (xs : List S51) : xs.any p = decide (firstAt p xs < xs.length) := by
  rw [Bool.eq_iff_iff, decide_eq_true_eq, firstAt, List.findIdx_lt_length, List.any_eq_true]

set_option maxHeartbeats 1000000 in
theorem index_calls (K : Nat) (cap : Value) (p : S51 → Bool) (A : Option Addr) (c : Nat) (xs : List S51) (w : World) (hr : Kd.C k51 w A xs.length xs) (hl : xs.length < 4611686018427387904) (ha : Answers K #[cap] p w) :
    Calls Try.prog 33 #[.slice A xs.length c, .func (.func K) #[] #[cap]] w fun e w' =>
      e = .returned (.int .i64 (idxI p xs)) ∧ Below w.heap.size w w' := by
  have HA := Lib.hid ha
  have HR := Lib.hid hr
  have hB0 := Lib.hid (Below.refl w.heap.size w)
  clear ha hr
  go_enter Try.func33, Try.ntmps33
  go_wp2_with fail
  go_loopw [8] (fun i wr => ∃ k : Nat, k ≤ xs.length ∧ i = .int .i64 k ∧ (∀ j (hj : j < xs.length), j < k → p xs[j] = false) ∧ Below w.heap.size w wr) (fun i _ => xs.length - (intOf i).toNat)
  case atStart => exact ⟨0, Nat.zero_le _, rfl, fun j _ hj => absurd hj (Nat.not_lt_zero _), hB0.out⟩
  case round =>
    obtain ⟨k, hk, rfl, hno, hb⟩ := hrel
    have HNo := Lib.hid hno
    clear hno hB0
    by_cases hlt : k < xs.length
    · obtain ⟨ad, rfl, c0, c1⟩ := at_T51 (Kd.C_below HR.out hb) (k : Int) (by omega) (by omega)
      have hrd : rd_T51 xs (k : Int) = xs[k] := by unfold rd_T51; simp [hlt]
      rw [hrd] at c0 c1
      obtain ⟨x, hx⟩ : ∃ x, xs[k] = x := ⟨_, rfl⟩
      rw [hx] at c0 c1
      rw [Int.toNat_natCast] at c0 c1
      have Hx := Lib.hid hx
      clear hx hrd
      have he := HA.out.1 x
      have hf := HA.out.2 x wr hb
      simp only [cellOf, List.append_toArray, List.cons_append, List.nil_append] at he hf
      have HF := Lib.hid hf
      clear hf
      go_wp2_with fail
      refine HF.out.mono ?_
      rintro e w1 ⟨rfl, b1⟩
      have HB := Lib.hid (hb.trans (b1.mono hb.size))
      clear c0 c1 he HF b1 hb
      cases hpx : p x with
      | true =>
        go_wp2_with fail
        go_ret
        refine ⟨?_, HB.out⟩
        have hf := first_hit p xs k hlt HNo.out (by rw [Hx.out]; exact hpx)
        rw [idxI, hf, if_pos hlt]
        rfl
      | false =>
        go_wp2_with fail
        go_roundw
        case rel =>
          refine ⟨k + 1, by omega, by go_num, fun j hj hjk => ?_, HB.out⟩
          rcases Nat.lt_or_ge j k with h | h
          · exact HNo.out j hj h
          · obtain rfl : j = k := by omega
            rw [Hx.out]; exact hpx
        case measure => simp [intOf]; omega
    · have HB := Lib.hid hb
      clear hb
      go_wp2_with fail
      go_ret
      refine ⟨?_, HB.out⟩
      have hf := first_none p xs fun j hj => HNo.out j hj (by omega)
      rw [idxI, hf, if_neg (Nat.lt_irrefl _)]
      rfl

theorem contains_calls (K : Nat) (cap : Value) (p : S51 → Bool) (A : Option Addr) (c : Nat) (xs : List S51) (w : World) (hr : Kd.C k51 w A xs.length xs) (hl : xs.length < 4611686018427387904) (ha : Answers K #[cap] p w) :
    Calls Try.prog 24 #[.slice A xs.length c, .func (.func K) #[] #[cap]] w fun e w' =>
      e = .returned (.bool (xs.any p)) ∧ Below w.heap.size w w' := by
  have HI := Lib.hid (index_calls K cap p A c xs w hr hl ha)
  clear ha hr
  go_enter Try.func24, Try.ntmps24
  go_wp2_with fail
  refine HI.out.mono ?_
  rintro e w1 ⟨rfl, b1⟩
  have hany := first_any p xs
  by_cases hlt : firstAt p xs < xs.length
  · rw [idxI, if_pos hlt]
    rw [decide_eq_true hlt] at hany
    have HA := Lib.hid hany
    clear hany HI
    generalize firstAt p xs = k at hlt ⊢
    go_wp2_with fail
    go_ret
    exact ⟨by rw [HA.out]; rfl, b1⟩
  · rw [idxI, if_neg hlt]
    rw [decide_eq_false hlt] at hany
    have HA := Lib.hid hany
    clear hany HI
    go_wp2_with fail
    go_ret
    exact ⟨by rw [HA.out]; rfl, b1⟩

/-- A variable of the function's, in memory. -/
def Var (w : World) (b : Nat) (v : Int) : Prop := w.heap[b]? = some (.cells #[.int .i64 v] 3 (0, 0))
theorem Var.cell {w : World} {b : Nat} {v : Int} (h : Var w b v) : w.cell? ⟨b, 0, none⟩ = some (.int .i64 v) := by
  rw [cell_of_row w b 0 _ _ _ h]; rfl
theorem Var.below {w w1 : World} {b : Nat} {v : Int} (h : Var w b v) (hb : Below w.heap.size w w1) : Var w1 b v := by
  refine (hb.block b ?_).trans h
  rcases Nat.lt_or_ge b w.heap.size with hlt | hge
  · exact hlt
  · unfold Var at h; rw [Array.getElem?_eq_none hge] at h; cases h
theorem Var.new (w : World) (v : Int) : Var (w.alloc (.cells #[.int .i64 v] 3)) w.heap.size v := heap_alloc_new w _

theorem has_pred (b : Nat) (day : Int) (w : World) (hv : Var w b day) : Answers 25 #[.pointer (some ⟨b, 0, none⟩)] (fun x => decide (x.f0 ≤ day) && decide (day < x.f1)) w := by
  refine ⟨fun x W => by simp [cellOf, go_sem], fun x w1 hb => ?_⟩
  have c0 := (hv.below hb).cell
  have hlt : b < w1.heap.size := by
    rcases Nat.lt_or_ge b w1.heap.size with hlt | hge
    · exact hlt
    · have := hv.below hb; unfold Var at this; rw [Array.getElem?_eq_none hge] at this; cases this
  have c1 : ∀ o, (w1.alloc o).cell? ⟨b, 0, none⟩ = some (.int .i64 day) := fun o => (World.cell?_alloc_past _ _ _ hlt).trans c0
  simp only [cellOf, List.append_toArray, List.cons_append, List.nil_append]
  obtain ⟨x0, x1⟩ := x
  by_cases h1 : x0 ≤ day
  · by_cases h2 : day < x1
    · go_enter Try.func25, Try.ntmps25
      go_wp2_with fail
      go_ret
      exact ⟨by simp [h1, h2], (Below.refl _ _).alloc (Nat.le_refl _) _⟩
    · go_enter Try.func25, Try.ntmps25
      go_wp2_with fail
      go_ret
      exact ⟨by simp [h2], (Below.refl _ _).alloc (Nat.le_refl _) _⟩
  · go_enter Try.func25, Try.ntmps25
    go_wp2_with fail
    go_ret
    exact ⟨by simp; omega, (Below.refl _ _).alloc (Nat.le_refl _) _⟩

theorem parts_pred (b : Nat) (from_ : Int) (w : World) (hv : Var w b from_) : Answers 34 #[.pointer (some ⟨b, 0, none⟩)] (fun x => decide (from_ ≤ x.f1)) w := by
  refine ⟨fun x W => by simp [cellOf, go_sem], fun x w1 hb => ?_⟩
  have c0 := (hv.below hb).cell
  have hlt : b < w1.heap.size := by
    rcases Nat.lt_or_ge b w1.heap.size with hlt | hge
    · exact hlt
    · have := hv.below hb; unfold Var at this; rw [Array.getElem?_eq_none hge] at this; cases this
  have c1 : ∀ o, (w1.alloc o).cell? ⟨b, 0, none⟩ = some (.int .i64 from_) := fun o => (World.cell?_alloc_past _ _ _ hlt).trans c0
  simp only [cellOf, List.append_toArray, List.cons_append, List.nil_append]
  obtain ⟨x0, x1⟩ := x
  by_cases h1 : from_ ≤ x1
  · go_enter Try.func34, Try.ntmps34
    go_wp2_with fail
    go_ret
    exact ⟨by simp [h1], (Below.refl _ _).alloc (Nat.le_refl _) _⟩
  · go_enter Try.func34, Try.ntmps34
    go_wp2_with fail
    go_ret
    exact ⟨by simp [h1], (Below.refl _ _).alloc (Nat.le_refl _) _⟩
end Go.Proofs.Ytgiccdjgbjgdcaa.Sp
