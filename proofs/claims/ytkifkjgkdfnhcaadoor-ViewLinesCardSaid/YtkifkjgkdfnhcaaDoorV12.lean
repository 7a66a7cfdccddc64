/- Money that overflows: thrown, caught; Add; stop; loan.sum. -/
import Derived.Test.YtkifkjgkdfnhcaaDoorV9
namespace Go.Proofs.YtkifkjgkdfnhcaaDoor.Vw
open Go.RowKit Go.Sort Go.Lib Go.Shelf

set_option maxRecDepth 20000 in
theorem madd_bad (a b : Int) (h : (goodM a && (goodM b && goodM (a + b))) = false) (w : World) : Calls Tryd.prog 53 #[.int .i64 a, .int .i64 b] w fun e w' => e = .panicked [{ v := .iface 89 (.agg #[]), recovered := false }] ∧ w = w' := by
  have HA := Lib.hid (fun W => mgood_calls a W)
  have HB := Lib.hid (fun W => mgood_calls b W)
  have HC := Lib.hid (fun W => mgood_calls (a + b) W)
  cases ha : goodM a with
  | false =>
    rw [ha] at HA
    clear h ha HB HC
    go_enter Tryd.func53, Tryd.ntmps53
    go_wp2_with fail
    refine (HA.out _).mono ?_
    rintro e w1 ⟨rfl, rfl⟩
    go_wp2_with fail
    exact ⟨rfl, rfl, rfl⟩
  | true =>
    cases hb : goodM b with
    | false =>
      rw [ha] at HA
      rw [hb] at HB
      clear h ha hb HC
      go_enter Tryd.func53, Tryd.ntmps53
      go_wp2_with fail
      refine (HA.out _).mono ?_
      rintro e w1 ⟨rfl, rfl⟩
      go_wp2_with fail
      refine (HB.out _).mono ?_
      rintro e w1 ⟨rfl, rfl⟩
      go_wp2_with fail
      exact ⟨rfl, rfl, rfl⟩
    | true =>
      have hc : goodM (a + b) = false := by rw [ha, hb] at h; simpa using h
      rw [ha] at HA
      rw [hb] at HB
      rw [hc] at HC
      have h1 := (goodM_iff a).1 ha
      have h2 := (goodM_iff b).1 hb
      have hw : wrap64 (a + b) = a + b := by unfold wrap64; omega
      clear h ha hb hc h1 h2
      go_enter Tryd.func53, Tryd.ntmps53
      go_wp2_with fail
      refine (HA.out _).mono ?_
      rintro e w1 ⟨rfl, rfl⟩
      go_wp2_with fail
      refine (HB.out _).mono ?_
      rintro e w1 ⟨rfl, rfl⟩
      go_wp2_with fail
      refine (HC.out _).mono ?_
      rintro e w1 ⟨rfl, rfl⟩
      go_wp2_with fail
      exact ⟨rfl, rfl, rfl⟩
theorem Blk.other {w : World} {g b : Nat} {t : TypeId} {cs : Array Value} (h : Blk w g t cs) (hne : g ≠ b) (i : Nat) (v : Value) : Blk (w.setCell ⟨b, i, none⟩ v) g t cs := ⟨(Below.heap_setCell _ _ _ _ hne).trans h.heap⟩
theorem sum_catch (g h : Nat) (s0 : Int) (B : Nat) (w : World) (hg : Blk w g 2 #[.int .i64 s0]) (hh : Blk w h 46 #[.int .i64 0]) (hne : g ≠ h) (hB : B ≤ g ∧ B ≤ h) :
    CallsD Tryd.prog 52 #[.pointer (some ⟨g, 0, none⟩), .pointer (some ⟨h, 0, none⟩)] (.panicking [{ v := .iface 89 (.agg #[]), recovered := false }]) w fun e u' w' =>
      e = .returned (.tuple #[]) ∧ u' = .panicking [{ v := .iface 89 (.agg #[]), recovered := true }] ∧ Blk w' g 2 #[.int .i64 0] ∧ Blk w' h 46 #[.int .i64 14] ∧ Below B w w' := by
  have hal := (Below.refl w.heap.size w).alloc (Nat.le_refl _) (.cells #[] 89)
  have hg1 := hg.below hal
  have hh1 := hh.below hal
  have c0 : (w.alloc (.cells #[] 89)).cell? ⟨g, 0, none⟩ = some (.int .i64 s0) := hg1.cell 0
  have f0 := hg1.frozen 0
  have c1 : (w.alloc (.cells #[] 89)).cell? ⟨h, 0, none⟩ = some (.int .i64 0) := hh1.cell 0
  have f1 := hh1.frozen 0
  have R1 := (hg1.set_ 0 (.int .i64 0)).other hne 0 (.int .i64 14)
  have R2 := (hh1.other hne.symm 0 (.int .i64 0)).set_ 0 (.int .i64 14)
  have hsz := hg.lt
  have R3 := ((hal.mono (show B ≤ w.heap.size by omega)).setCell (p := ⟨g, 0, none⟩) hB.1 (.int .i64 0)).setCell (p := ⟨h, 0, none⟩) hB.2 (.int .i64 14)
  have HR := Lib.hid (And.intro R1 (And.intro R2 R3))
  clear R1 R2 R3 hg1 hh1 hal hsz hB hg hh
  refine callsD_of_wpS Tryd.func52 rfl fun c₀ cs hu => ?_
  apply wpS_seq
  apply wpS_region
  simp only [Tryd.ntmps52, List.size_toArray, List.length_cons, List.length_nil, Nat.reduceAdd, Nat.reduceSub, Array.replicate_succ, Array.replicate_zero, List.push_toArray, List.append_toArray, List.nil_append, List.cons_append]
  simp [wpOpsS, go_sem, recoverD, hu, Exit.thenS]
  refine wpS_of_wp ?_
  clear hu
  have hta : ∀ w : World, (Instr.typeAssert (.iface 89 (.agg #[])) 20 89 true).run Tryd.prog w = .ok (.tuple #[.agg #[], .bool true]) w := fun w => by kernel_rfl
  go_wp2
  simp [bodyPostS, results, Tryd.results52, go_sem]
  exact HR.out
set_option maxRecDepth 20000 in
set_option maxHeartbeats 4000000 in
theorem msum_bad (xs : List Int) (hs : sumFrom 0 xs = none) (bk off cap : Nat) (w : World) (hc : ∀ j x, xs[j]? = some x → w.cell? ⟨bk, off + j, none⟩ = some (.int .i64 x)) (hlen : xs.length ≤ 1000000) (hcap : xs.length ≤ cap) (hbk : bk < w.heap.size) :
    Calls Tryd.prog 36 #[.slice (some ⟨bk, off, none⟩) xs.length cap] w fun e w' => e = .returned (.tuple #[.int .i64 0, .int .i64 14]) ∧ Below w.heap.size w w' := by
  have hmf : ∀ (fn : Fn) (first cap : Array Value) (w : World), (Instr.makeFunc fn first cap).run Tryd.prog w = .ok (.func fn first cap) w := fun _ _ _ _ => rfl
  have HC := Lib.hid hc
  have HSm := Lib.hid hs
  have b1 := Blk.new w 2 #[.int .i64 0]
  have hb1 := (Below.refl w.heap.size w).alloc (Nat.le_refl _) (.cells #[.int .i64 0] 2)
  have b2 := Blk.new (w.alloc (.cells #[.int .i64 0] 2)) 46 #[.int .i64 0]
  have hz : (w.alloc (.cells #[.int .i64 0] 2)).heap.size = w.heap.size + 1 := by simp
  have b1' := b1.below ((Below.refl _ _).alloc (Nat.le_refl _) (.cells #[.int .i64 0] 46))
  have hb2 := hb1.alloc hb1.size (.cells #[.int .i64 0] 46)
  rw [hz] at b2
  have HA := Lib.hid b1'
  have HB := Lib.hid b2
  have HBB := Lib.hid hb2
  clear hc hs b1 hb1 b2 hz b1' hb2
  go_enter_defers Tryd.func36, Tryd.ntmps36
  go_upto_region 1 with fail
  generalize (w.alloc (.cells #[.int .i64 0] 2)).alloc (.cells #[.int .i64 0] 46) = w1 at *
  generalize hgb : w.heap.size + 1 = gb at *
  have HGB := Lib.hid hgb
  clear hgb
  go_wp2_with fail
  have HLT : Hid (w.heap.size < gb) := Lib.hid (by have := HGB.out; omega)
  go_loopw [9] (fun i wr => ∃ (k : Nat) (acc : Int), k ≤ xs.length ∧ i = .int .i64 (k : Int) ∧ sumFrom acc (xs.drop k) = none ∧ Blk wr w.heap.size 2 #[.int .i64 acc] ∧ Blk wr gb 46 #[.int .i64 0] ∧ Below w.heap.size w wr) (fun i _ => xs.length - (RowKit.intOf i).toNat)
  case atStart => exact ⟨0, 0, Nat.zero_le _, rfl, HSm.out, HA.out, HB.out, HBB.out⟩
  case round =>
    obtain ⟨k, acc, hk, rfl, hsum, ha, hb, hB⟩ := hrel
    have HSr := Lib.hid hsum
    have Ha := Lib.hid ha
    have Hb := Lib.hid hb
    have HBr := Lib.hid hB
    by_cases h2 : k < xs.length
    · obtain ⟨x, hx⟩ : ∃ x, xs[k]? = some x := ⟨xs[k], by rw [List.getElem?_eq_getElem h2]⟩
      have hdrop : xs.drop k = x :: xs.drop (k + 1) := by
        rw [List.drop_eq_getElem_cons h2]
        congr 1
        rw [List.getElem?_eq_getElem h2] at hx
        exact Option.some.inj hx
      rw [hdrop] at hsum
      have hcell : wr.cell? ⟨bk, off + k, none⟩ = some (.int .i64 x) := (hB.cell (show bk < _ from hbk)).trans (HC.out k x hx)
      have c0 : wr.cell? ⟨w.heap.size, 0, none⟩ = some (.int .i64 acc) := ha.cell 0
      have f0 := ha.frozen 0
      have hk0 : (0 : Int) ≤ (k : Int) := by omega
      have hk1 : (k : Int) < (xs.length : Int) := by omega
      cases hgood : (goodM acc && (goodM x && goodM (acc + x))) with
      | true =>
        have h3 := hgood
        simp only [Bool.and_eq_true] at h3
        have HNx : Hid (sumFrom (acc + x) (xs.drop (k + 1)) = none) := Lib.hid (by
          unfold sumFrom at hsum
          rw [if_pos hgood] at hsum
          exact hsum)
        have HM := Lib.hid (fun W => madd_ok acc x h3.1 h3.2.1 h3.2.2 W)
        clear hsum ha hb hB hx hdrop h3 hgood
        go_wp2_with fail
        refine (HM.out _).mono ?_
        rintro e w2 ⟨rfl, rfl⟩
        go_wp2_with fail
        have hlt := HLT.out
        have hset := Ha.out.set_ 0 (.int .i64 (acc + x))
        have hother : Blk (wr.setCell ⟨w.heap.size, 0, none⟩ (.int .i64 (acc + x))) gb 46 #[.int .i64 0] := ⟨(Below.heap_setCell _ _ _ _ (show gb ≠ w.heap.size by omega)).trans Hb.out.heap⟩
        have hbs := HBr.out.setCell (p := ⟨w.heap.size, 0, none⟩) (Nat.le_refl _) (.int .i64 (acc + x))
        go_roundw
        case rel => exact ⟨k + 1, acc + x, by omega, by go_num, HNx.out, hset, hother, hbs⟩
        case measure => simp [RowKit.intOf]; omega
      | false =>
        have HM := Lib.hid (fun W => madd_bad acc x hgood W)
        clear hsum ha hb hB hx hdrop hgood
        go_wp2_with fail
        refine (HM.out _).mono ?_
        rintro e w2 ⟨rfl, rfl⟩
        refine leaves_cons (f := 52) (args := #[.pointer (some ⟨w.heap.size, 0, none⟩), .pointer (some ⟨gb, 0, none⟩)]) (by simp) (by simp [go_sem]) ?_
        refine (sum_catch w.heap.size gb acc w.heap.size wr Ha.out Hb.out (by have := HLT.out; omega) ⟨Nat.le_refl _, by have := HLT.out; omega⟩).mono ?_
        rintro e u' w'' ⟨rfl, rfl, q1, q2, q3⟩
        have d0 : w''.cell? ⟨w.heap.size, 0, none⟩ = some (.int .i64 0) := q1.cell 0
        have d1 : w''.cell? ⟨gb, 0, none⟩ = some (.int .i64 14) := q2.cell 0
        simp only [Leaves, settle, List.dropWhile_nil]
        exact ⟨.tuple #[.int .i64 0, .int .i64 14], by simp [results, Tryd.results36, go_sem, d0, d1], rfl, HBr.out.trans q3⟩
    · have hke : k = xs.length := by omega
      have hd : xs.drop k = [] := by rw [hke]; exact List.drop_length
      rw [hd] at hsum
      unfold sumFrom at hsum
      cases hsum
theorem two_cells (a b : Int) (w : World) : ∀ (j : Nat) (x : Int), ([a, b] : List Int)[j]? = some x → (w.alloc (.cells #[.int .i64 a, .int .i64 b] 2)).cell? ⟨w.heap.size, 0 + j, none⟩ = some (.int .i64 x) := by
  intro j x hx
  rw [Nat.zero_add, (Blk.new w 2 #[.int .i64 a, .int .i64 b]).cell j]
  match j, hx with
  | 0, hx => simp at hx; subst hx; rfl
  | 1, hx => simp at hx; subst hx; rfl
  | j + 2, hx => simp at hx
/-- a + b as money. -/
def addV (a b : Int) : Option Int := if goodM a && (goodM b && goodM (a + b)) then some (a + b) else none
theorem sum_two (a b : Int) : sumFrom 0 [a, b] = addV a b := by
  have h0 : goodM 0 = true := by decide
  have e : sumFrom 0 [a, b] = if goodM 0 && (goodM a && goodM (0 + a)) then (if goodM (0 + a) && (goodM b && goodM (0 + a + b)) then some (0 + a + b) else none) else none := rfl
  rw [e, Int.zero_add, h0]
  unfold addV
  cases goodM a <;> rfl
set_option maxRecDepth 20000 in
theorem add_calls (a b : Int) (w : World) : Calls Tryd.prog 85 #[.int .i64 a, .int .i64 b] w fun e w' => e = .returned (match addV a b with | some s => .tuple #[.int .i64 s, .int .i64 0] | none => .tuple #[.int .i64 0, .int .i64 14]) ∧ Below w.heap.size w w' := by
  have hal := (Below.refl w.heap.size w).alloc (Nat.le_refl _) (.cells #[.int .i64 a, .int .i64 b] 2)
  have hlt : w.heap.size < (w.alloc (.cells #[.int .i64 a, .int .i64 b] 2)).heap.size := by simp
  have HAl := Lib.hid hal
  cases hv : addV a b with
  | some s =>
    have HM := Lib.hid (msum_ok [a, b] s (by rw [sum_two]; exact hv) w.heap.size 0 2 (w.alloc (.cells #[.int .i64 a, .int .i64 b] 2)) (two_cells a b w) (by simp) (by simp) hlt)
    clear hv hal hlt
    go_enter Tryd.func85, Tryd.ntmps85
    go_wp2_with fail
    refine HM.out.mono ?_
    rintro e w1 ⟨rfl, hb⟩
    have HB := Lib.hid (HAl.out.trans (hb.mono HAl.out.size))
    clear hb
    go_wp2_with fail
    go_ret2
    exact ⟨rfl, HB.out⟩
  | none =>
    have HM := Lib.hid (msum_bad [a, b] (by rw [sum_two]; exact hv) w.heap.size 0 2 (w.alloc (.cells #[.int .i64 a, .int .i64 b] 2)) (two_cells a b w) (by simp) (by simp) hlt)
    clear hv hal hlt
    go_enter Tryd.func85, Tryd.ntmps85
    go_wp2_with fail
    refine HM.out.mono ?_
    rintro e w1 ⟨rfl, hb⟩
    have HB := Lib.hid (HAl.out.trans (hb.mono HAl.out.size))
    clear hb
    go_wp2_with fail
    go_ret2
    exact ⟨rfl, HB.out⟩
set_option maxRecDepth 20000 in
theorem stop_none (b : Bool) (w : World) : Calls Tryd.prog 67 #[.int .i64 0, .bool b] w fun e w' => e = .returned (.tuple #[]) ∧ w = w' := by
  go_enter Tryd.func67, Tryd.ntmps67
  go_wp2_with fail
  go_end0
  exact ⟨rfl, rfl⟩
set_option maxRecDepth 20000 in
theorem stop_no (er : Int) (h : er = 1 ∨ er = 14) (w : World) : Calls Tryd.prog 67 #[.int .i64 er, .bool false] w fun e w' => e = .returned (.tuple #[]) ∧ w = w' := by
  rcases h with rfl | rfl <;>
    (go_enter Tryd.func67, Tryd.ntmps67
     go_wp2_with fail
     go_end0
     exact ⟨rfl, rfl⟩)
set_option maxRecDepth 20000 in
theorem stop_yes (er : Int) (h : er = 1 ∨ er = 14) (w : World) : Calls Tryd.prog 67 #[.int .i64 er, .bool true] w fun e w' => e = .panicked [{ v := .iface 46 (.int .i64 er), recovered := false }] ∧ w = w' := by
  rcases h with rfl | rfl <;>
    (go_enter Tryd.func67, Tryd.ntmps67
     go_wp2_with fail
     exact ⟨rfl, rfl, rfl⟩)
set_option maxRecDepth 20000 in
theorem lsum_ok (a b s : Int) (h : addV a b = some s) (w : World) : Calls Tryd.prog 69 #[.int .i64 a, .int .i64 b] w fun e w' => e = .returned (.int .i64 s) ∧ Below w.heap.size w w' := by
  have ha := add_calls a b w
  rw [h] at ha
  have HA := Lib.hid ha
  clear ha h
  go_enter Tryd.func69, Tryd.ntmps69
  go_wp2_with fail
  refine HA.out.mono ?_
  rintro e w1 ⟨rfl, hb⟩
  have HB := Lib.hid hb
  clear hb
  go_wp2_with fail
  refine (stop_none true _).mono ?_
  rintro e w1 ⟨rfl, rfl⟩
  go_wp2_with fail
  go_ret
  exact ⟨rfl, HB.out⟩
set_option maxRecDepth 20000 in
theorem lsum_bad (a b : Int) (h : addV a b = none) (w : World) : Calls Tryd.prog 69 #[.int .i64 a, .int .i64 b] w fun e w' => e = .panicked [{ v := .iface 46 (.int .i64 14), recovered := false }] ∧ Below w.heap.size w w' := by
  have ha := add_calls a b w
  rw [h] at ha
  have HA := Lib.hid ha
  clear ha h
  go_enter Tryd.func69, Tryd.ntmps69
  go_wp2_with fail
  refine HA.out.mono ?_
  rintro e w1 ⟨rfl, hb⟩
  have HB := Lib.hid hb
  clear hb
  go_wp2_with fail
  refine (stop_yes 14 (.inr rfl) _).mono ?_
  rintro e w1 ⟨rfl, rfl⟩
  go_wp2_with fail
  exact ⟨rfl, rfl, HB.out⟩
end Go.Proofs.YtkifkjgkdfnhcaaDoor.Vw
