/- Money summed: add, Sum, Add. -/
import Derived.Test.YtkifkjgkdfnhcaaDoorV4
import Derived.Defers
import Derived.Recover
namespace Go.Proofs.YtkifkjgkdfnhcaaDoor.Vw
open Go.RowKit Go.Sort Go.Lib Go.Shelf

def goodM (a : Int) : Bool := decide (-10000000000000 ≤ a) && decide (a ≤ 10000000000000)
theorem goodM_iff (a : Int) : goodM a = true ↔ -10000000000000 ≤ a ∧ a ≤ 10000000000000 := by unfold goodM; simp
set_option maxRecDepth 20000 in
theorem mgood_calls (a : Int) (w : World) : Calls Tryd.prog 70 #[.int .i64 a] w fun e w' => e = .returned (.bool (goodM a)) ∧ w = w' := by
  unfold goodM
  by_cases h1 : -10000000000000 ≤ a
  · have b1 : decide (-10000000000000 ≤ a) = true := decide_eq_true h1
    by_cases h2 : a ≤ 10000000000000
    · have b2 : decide (a ≤ 10000000000000) = true := decide_eq_true h2
      rw [b1, b2]
      clear h1 h2
      go_enter Tryd.func70, Tryd.ntmps70
      go_wp2_with fail
      go_ret
      exact ⟨rfl, rfl⟩
    · have b2 : decide (a ≤ 10000000000000) = false := decide_eq_false h2
      rw [b1, b2]
      clear h1 h2
      go_enter Tryd.func70, Tryd.ntmps70
      go_wp2_with fail
      go_ret
      exact ⟨rfl, rfl⟩
  · have b1 : decide (-10000000000000 ≤ a) = false := decide_eq_false h1
    rw [b1]
    clear h1
    go_enter Tryd.func70, Tryd.ntmps70
    go_wp2_with fail
    go_ret
    exact ⟨rfl, rfl⟩
/-- Sums one behind the other; none where money overflows. -/
def sumFrom (acc : Int) : List Int → Option Int
  | [] => some acc
  | x :: r => if goodM acc && (goodM x && goodM (acc + x)) then sumFrom (acc + x) r else none
set_option maxRecDepth 20000 in
theorem madd_ok (a b : Int) (ha : goodM a = true) (hb : goodM b = true) (hc : goodM (a + b) = true) (w : World) : Calls Tryd.prog 53 #[.int .i64 a, .int .i64 b] w fun e w' => e = .returned (.int .i64 (a + b)) ∧ w = w' := by
  have HA := Lib.hid (fun W => mgood_calls a W)
  have HB := Lib.hid (fun W => mgood_calls b W)
  have HC := Lib.hid (fun W => mgood_calls (a + b) W)
  rw [ha] at HA
  rw [hb] at HB
  rw [hc] at HC
  have h1 := (goodM_iff a).1 ha
  have h2 := (goodM_iff b).1 hb
  have hw : wrap64 (a + b) = a + b := by unfold wrap64; omega
  have HW := Lib.hid hw
  clear ha hb hc h1 h2
  go_enter Tryd.func53, Tryd.ntmps53
  go_wp2_with fail
  refine (HA.out _).mono ?_
  rintro e w1 ⟨rfl, rfl⟩
  go_wp2_with fail
  refine (HB.out _).mono ?_
  rintro e w1 ⟨rfl, rfl⟩
  go_wp2_with fail
  refine (HC.out _).mono ?_
  rintro e w1 ⟨rfl, rfl⟩
  go_wp2_with fail
  go_ret
  exact ⟨by first | rfl | (show Ending.returned (.int .i64 (wrap64 (a + b))) = _; rw [HW.out]), rfl⟩
theorem sum_step {acc x : Int} {r : List Int} {s : Int} (h : sumFrom acc (x :: r) = some s) : goodM acc = true ∧ goodM x = true ∧ goodM (acc + x) = true ∧ sumFrom (acc + x) r = some s := by
  unfold sumFrom at h
  split at h
  · rename_i hg
    simp only [Bool.and_eq_true] at hg
    exact ⟨hg.1, hg.2.1, hg.2.2, h⟩
  · cases h
theorem sum_idle (g h : Nat) (w : World) :
    CallsD Tryd.prog 52 #[.pointer (some ⟨g, 0, none⟩), .pointer (some ⟨h, 0, none⟩)] .returning w fun e u' w' =>
      e = .returned (.tuple #[]) ∧ u' = .returning ∧ w' = w := by
  refine callsD_of_wpS Tryd.func52 rfl fun c₀ cs hu => ?_
  apply wpS_seq
  apply wpS_region
  simp only [Tryd.ntmps52, List.size_toArray, List.length_cons, List.length_nil, Nat.reduceAdd, Nat.reduceSub, Array.replicate_succ, Array.replicate_zero, List.push_toArray, List.append_toArray, List.nil_append, List.cons_append]
  simp [wpOpsS, go_sem, recoverD, hu, Exit.thenS]
  refine wpS_of_wp ?_
  go_wp2
  cases c₀
  simp_all [bodyPostS, results, Tryd.results52]
set_option maxRecDepth 20000 in
set_option maxHeartbeats 4000000 in
theorem msum_ok (xs : List Int) (s : Int) (hs : sumFrom 0 xs = some s) (bk off cap : Nat) (w : World) (hc : ∀ j x, xs[j]? = some x → w.cell? ⟨bk, off + j, none⟩ = some (.int .i64 x)) (hlen : xs.length ≤ 1000000) (hcap : xs.length ≤ cap) (hbk : bk < w.heap.size) :
    Calls Tryd.prog 36 #[.slice (some ⟨bk, off, none⟩) xs.length cap] w fun e w' => e = .returned (.tuple #[.int .i64 s, .int .i64 0]) ∧ Below w.heap.size w w' := by
  have hmf : ∀ (fn : Fn) (first cap : Array Value) (w : World), (Instr.makeFunc fn first cap).run Tryd.prog w = .ok (.func fn first cap) w := fun _ _ _ _ => rfl
  have HC := Lib.hid hc
  have HSm := Lib.hid hs
  have b1 := Blk.new w 2 #[.int .i64 0]
  have hb1 := (Below.refl w.heap.size w).alloc (Nat.le_refl _) (.cells #[.int .i64 0] 2)
  have b2 := Blk.new (w.alloc (.cells #[.int .i64 0] 2)) 46 #[.int .i64 0]
  have hz : (w.alloc (.cells #[.int .i64 0] 2)).heap.size = w.heap.size + 1 := by simp
  have b1' := b1.below ((Below.refl _ _).alloc (Nat.le_refl _) (.cells #[.int .i64 0] 46))
  have hb2 := hb1.alloc hb1.size (.cells #[.int .i64 0] 46)
  rw [hz] at b2
  have HA := Lib.hid b1'
  have HB := Lib.hid b2
  have HBB := Lib.hid hb2
  clear hc hs b1 hb1 b2 hz b1' hb2
  go_enter_defers Tryd.func36, Tryd.ntmps36
  go_upto_region 1 with fail
  generalize (w.alloc (.cells #[.int .i64 0] 2)).alloc (.cells #[.int .i64 0] 46) = w1 at *
  generalize hgb : w.heap.size + 1 = gb at *
  have HGB := Lib.hid hgb
  clear hgb
  go_wp2_with fail
  have HLT : Hid (w.heap.size < gb) := Lib.hid (by have := HGB.out; omega)
  go_loopw [9] (fun i wr => ∃ (k : Nat) (acc : Int), k ≤ xs.length ∧ i = .int .i64 (k : Int) ∧ sumFrom acc (xs.drop k) = some s ∧ Blk wr w.heap.size 2 #[.int .i64 acc] ∧ Blk wr gb 46 #[.int .i64 0] ∧ Below w.heap.size w wr) (fun i _ => xs.length - (RowKit.intOf i).toNat)
  case atStart => exact ⟨0, 0, Nat.zero_le _, rfl, HSm.out, HA.out, HB.out, HBB.out⟩
  case round =>
    obtain ⟨k, acc, hk, rfl, hsum, ha, hb, hB⟩ := hrel
    have HSr := Lib.hid hsum
    have Ha := Lib.hid ha
    have Hb := Lib.hid hb
    have HBr := Lib.hid hB
    by_cases h2 : k < xs.length
    · obtain ⟨x, hx⟩ : ∃ x, xs[k]? = some x := ⟨xs[k], by rw [List.getElem?_eq_getElem h2]⟩
      have hdrop : xs.drop k = x :: xs.drop (k + 1) := by
        rw [List.drop_eq_getElem_cons h2]
        congr 1
        rw [List.getElem?_eq_getElem h2] at hx
        exact Option.some.inj hx
      rw [hdrop] at hsum
      obtain ⟨g1, g2, g3, g4⟩ := sum_step hsum
      have HNx := Lib.hid g4
      have HM := Lib.hid (fun W => madd_ok acc x g1 g2 g3 W)
      have hcell : wr.cell? ⟨bk, off + k, none⟩ = some (.int .i64 x) := (hB.cell (show bk < _ from hbk)).trans (HC.out k x hx)
      have c0 : wr.cell? ⟨w.heap.size, 0, none⟩ = some (.int .i64 acc) := ha.cell 0
      have f0 := ha.frozen 0
      have hk0 : (0 : Int) ≤ (k : Int) := by omega
      have hk1 : (k : Int) < (xs.length : Int) := by omega
      clear hsum ha hb hB hx hdrop g1 g2 g3 g4
      go_wp2_with fail
      refine (HM.out _).mono ?_
      rintro e w2 ⟨rfl, rfl⟩
      go_wp2_with fail
      have hlt := HLT.out
      have hset := Ha.out.set_ 0 (.int .i64 (acc + x))
      have hother : Blk (wr.setCell ⟨w.heap.size, 0, none⟩ (.int .i64 (acc + x))) gb 46 #[.int .i64 0] := ⟨(Below.heap_setCell _ _ _ _ (show gb ≠ w.heap.size by omega)).trans Hb.out.heap⟩
      have hbs := HBr.out.setCell (p := ⟨w.heap.size, 0, none⟩) (Nat.le_refl _) (.int .i64 (acc + x))
      go_roundw
      case rel => exact ⟨k + 1, acc + x, by omega, by go_num, HNx.out, hset, hother, hbs⟩
      case measure => simp [RowKit.intOf]; omega
    · have hke : k = xs.length := by omega
      have hd : xs.drop k = [] := by rw [hke]; exact List.drop_length
      rw [hd] at hsum
      have hacc : acc = s := by unfold sumFrom at hsum; exact Option.some.inj hsum
      subst hacc
      have c0 : wr.cell? ⟨w.heap.size, 0, none⟩ = some (.int .i64 acc) := ha.cell 0
      have f0 := ha.frozen 0
      have c1 : wr.cell? ⟨gb, 0, none⟩ = some (.int .i64 0) := hb.cell 0
      have f1 := hb.frozen 0
      have hne : gb ≠ w.heap.size := by have := HLT.out; omega
      clear hsum ha hb hB hd
      go_wp2_with fail
      have s1 := Ha.out.set_ 0 (.int .i64 acc)
      have s1' : Blk ((wr.setCell ⟨w.heap.size, 0, none⟩ (.int .i64 acc)).setCell ⟨gb, 0, none⟩ (.int .i64 0)) w.heap.size 2 #[.int .i64 acc] := ⟨(Below.heap_setCell _ _ _ _ (show w.heap.size ≠ gb from hne.symm)).trans s1.heap⟩
      have s2 : Blk (wr.setCell ⟨w.heap.size, 0, none⟩ (.int .i64 acc)) gb 46 #[.int .i64 0] := ⟨(Below.heap_setCell _ _ _ _ (show gb ≠ w.heap.size from hne)).trans Hb.out.heap⟩
      have s2' := s2.set_ 0 (.int .i64 0)
      have hbs := (HBr.out.setCell (p := ⟨w.heap.size, 0, none⟩) (Nat.le_refl _) (.int .i64 acc)).setCell (p := ⟨gb, 0, none⟩) (show w.heap.size ≤ gb from Nat.le_of_lt HLT.out) (.int .i64 0)
      generalize (wr.setCell ⟨w.heap.size, 0, none⟩ (.int .i64 acc)).setCell ⟨gb, 0, none⟩ (.int .i64 0) = W9 at *
      have d0 : W9.cell? ⟨w.heap.size, 0, none⟩ = some (.int .i64 acc) := s1'.cell 0
      have d1 : W9.cell? ⟨gb, 0, none⟩ = some (.int .i64 0) := s2'.cell 0
      refine leaves_cons (f := 52) (args := #[.pointer (some ⟨w.heap.size, 0, none⟩), .pointer (some ⟨gb, 0, none⟩)]) (by simp) (by simp [go_sem]) ?_
      refine (sum_idle w.heap.size gb W9).mono ?_
      rintro e u' w'' ⟨rfl, rfl, rfl⟩
      exact ⟨.tuple #[.int .i64 acc, .int .i64 0], by simp [results, Tryd.results36, go_sem, d0, d1], rfl, hbs⟩
end Go.Proofs.YtkifkjgkdfnhcaaDoor.Vw
