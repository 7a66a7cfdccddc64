/- slices.Concat. -/
import Derived.Test.YtgiccdjgbjgdcaaCc
namespace Go.Proofs.Ytgiccdjgbjgdcaa.Sp
open Go.RowKit Go.Proofs.YtgiccdjgbjgdcaaW.PrintWords PSpanTells

/-- The rows that are put together. -/
structure Lies (w : World) (ad : Addr) (vs : List Value) (ls : List (List S51)) : Prop where
  len : ls.length = vs.length
  cell : ∀ j (h : j < vs.length), w.cell? (ad.add j) = some vs[j]
  rd : ∀ j (h : j < vs.length) (h' : j < ls.length), Rd w vs[j] ls[j]
theorem Lies.below {w w1 : World} {ad : Addr} {vs : List Value} {ls : List (List S51)} (h : Lies w ad vs ls) (hb : Below w.heap.size w w1) : Lies w1 ad vs ls :=
  ⟨h.len, fun j hj => (hb.cell (World.block_lt_of_cell? w _ (h.cell j hj))).trans (h.cell j hj), fun j hj hj' => (h.rd j hj hj').below hb⟩
def total (ls : List (List S51)) : Nat := ls.flatten.length
theorem total_take (ls : List (List S51)) (k : Nat) (h : k < ls.length) : (ls.take (k + 1)).flatten = (ls.take k).flatten ++ ls[k] := by
  rw [List.take_succ_eq_append_getElem h, List.flatten_append]
  congr 1
  exact List.append_nil _
theorem total_le (ls : List (List S51)) (k : Nat) : (ls.take k).flatten.length ≤ ls.flatten.length := by
  have : ls.flatten = (ls.take k).flatten ++ (ls.drop k).flatten := by rw [← List.flatten_append, List.take_append_drop]
  rw [this, List.length_append]; omega

set_option maxHeartbeats 1000000 in
theorem Concat_calls (ad : Addr) (vs : List Value) (ls : List (List S51)) (w : World) (hl : Lies w ad vs ls) (hvs : vs.length ≤ 1000) (ht : ls.flatten.length ≤ 1000000) :
    Calls Try.prog 30 #[.slice (some ad) vs.length vs.length] w fun e w' => ∃ v, e = .returned v ∧ Own w' w.heap.size v ls.flatten ∧ Below w.heap.size w w' := by
  have HL := Lib.hid hl
  have hlen := hl.len
  have HB0 := Lib.hid (Below.refl w.heap.size w)
  clear hl
  go_enter Try.func30, Try.ntmps30
  go_wp2_with fail
  go_loopw [11, 3] (fun i s wr => ∃ k : Nat, k ≤ vs.length ∧ i = .int .i64 k ∧ s = .int .i64 (total (ls.take k) : Nat) ∧ wr = w) (fun i _ _ => vs.length - (intOf i).toNat)
  case atStart => exact ⟨0, Nat.zero_le _, rfl, rfl, rfl⟩
  case round =>
    obtain ⟨k, hk, rfl, rfl, rfl⟩ := hrel
    by_cases hlt : k < vs.length
    · have c0 := HL.out.cell k hlt
      obtain ⟨A, c, hv, hc, hr⟩ := HL.out.rd k hlt (by omega)
      obtain ⟨x, hx⟩ : ∃ x, ls[k]'(by omega) = x := ⟨_, rfl⟩
      rw [hx] at hv hr hc
      rw [hv] at c0
      have e1 := total_take ls k (by omega)
      have e2 := total_le ls (k + 1)
      rw [hx] at e1
      have e3 : total (ls.take (k + 1)) = total (ls.take k) + x.length := by unfold total; rw [e1, List.length_append]
      have e4 : total (ls.take k) + x.length ≤ 1000000 := by rw [← e3]; exact Nat.le_trans e2 ht
      have E3 := Lib.hid e3
      clear e1 e2 e3 hr hx hv
      generalize total (ls.take k) = n at E3 e4 ⊢
      have ew : wrap64 ((n : Int) + (x.length : Int)) = ((n + x.length : Nat) : Int) := by rw [wr64 _ (by omega)]; omega
      go_wp2_with fail
      refine ⟨⟨k + 1, by omega, by go_num, ?_, trivial⟩, by simp [intOf]; omega⟩
      rw [E3.out, Int.natCast_add]
    · obtain rfl : k = vs.length := by omega
      have htk : ls.take vs.length = ls := by rw [← hlen, List.take_length]
      rw [htk]
      have HG := Lib.hid (Grow_calls (total ls) ht wr)
      have Ht := Lib.hid htk
      clear htk
      go_wp2_with fail
      refine HG.out.mono ?_
      rintro e w1 ⟨v0, rfl, ho, hb⟩
      have HO := Lib.hid ho
      have HB := Lib.hid hb
      clear ho hb HG HB0
      go_wp2_with fail
      go_loopw [27, 6] (fun i v w2 => ∃ k : Nat, k ≤ vs.length ∧ i = .int .i64 k ∧ Own w2 wr.heap.size v (ls.take k).flatten ∧ Below wr.heap.size wr w2) (fun i _ _ => vs.length - (intOf i).toNat)
      case atStart => exact ⟨0, Nat.zero_le _, rfl, HO.out, HB.out⟩
      case round =>
        obtain ⟨k, hk, rfl, ho, hb⟩ := hrel
        by_cases hlt : k < vs.length
        · have hL := HL.out.below hb
          have c0 := hL.cell k hlt
          obtain ⟨A, c, hv, hc, hr⟩ := hL.rd k hlt (by omega)
          obtain ⟨x, hx⟩ : ∃ x, ls[k]'(by omega) = x := ⟨_, rfl⟩
          rw [hx] at hv hr hc
          rw [hv] at c0
          have e1 := total_take ls k (by omega)
          have e2 := total_le ls (k + 1)
          rw [hx] at e1
          have e3 : (ls.take (k + 1)).flatten.length = (ls.take k).flatten.length + x.length := by rw [e1, List.length_append]
          obtain ⟨v1, w3, hrun, ho1, hb1, _⟩ := app_rows _ _ _ x A c _ ho hr hb.size (by rw [← e3]; exact Nat.le_trans e2 ht)
          rw [← e1] at ho1
          have HO1 := Lib.hid ho1
          have HB1 := Lib.hid (hb.trans hb1)
          have HR := Lib.hid hrun
          clear e1 e2 e3 hr hx hv hL ho ho1 hb1 hb hrun
          go_wp2_with ((with_reducible refine gate_builtin (b := .append) (xs := #[.tmp 31, .tmp 32]) rfl ?_); refine wpl_append rfl (.tmp 31) (.tmp 32) 22 22 rfl _ _ _ _ rfl rfl HR.out ?_)
          exact ⟨⟨k + 1, by omega, by go_num, HO1.out, HB1.out⟩, by simp [intOf]; omega⟩
        · obtain rfl : k = vs.length := by omega
          rw [Ht.out] at ho
          have HO1 := Lib.hid ho
          have HB1 := Lib.hid hb
          clear ho hb
          go_wp2_with fail
          go_ret
          exact ⟨_, rfl, HO1.out, HB1.out⟩
end Go.Proofs.Ytgiccdjgbjgdcaa.Sp
