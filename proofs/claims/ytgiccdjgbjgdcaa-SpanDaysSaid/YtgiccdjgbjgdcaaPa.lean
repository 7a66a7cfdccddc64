/- span.parts. -/
import Derived.Test.YtgiccdjgbjgdcaaHas
namespace Go.Proofs.Ytgiccdjgbjgdcaa.Sp
open Go.RowKit Go.Proofs.YtgiccdjgbjgdcaaW.PrintWords PSpanTells

/-- A value that reads as a list. -/
def Rd (w : World) (v : Value) (xs : List S51) : Prop := ∃ A c, v = .slice A xs.length c ∧ xs.length ≤ c ∧ Kd.C k51 w A xs.length xs
theorem Rd.below {w w1 : World} {v : Value} {xs : List S51} (h : Rd w v xs) (hb : Below w.heap.size w w1) : Rd w1 v xs := by
  obtain ⟨A, c, h1, h2, h3⟩ := h
  exact ⟨A, c, h1, h2, Kd.C_below h3 hb⟩
def endAt (upto : Int) (xs : List S51) (a : Nat) : Nat := a + (xs.drop a).findIdx fun x => !decide (x.f0 ≤ upto)

theorem end_here (upto : Int) (xs : List S51) (a k : Nat) (hak : a ≤ k) (hk : k < xs.length) (hno : ∀ j (hj : j < xs.length), a ≤ j → j < k → xs[j].f0 ≤ upto) (hp : ¬ xs[k].f0 ≤ upto) : endAt upto xs a = k := by
  have hl : (xs.drop a).length = xs.length - a := List.length_drop
  have : (xs.drop a).findIdx (fun x => !decide (x.f0 ≤ upto)) = k - a := by
    refine (List.findIdx_eq (by omega)).2 ⟨?_, fun j hj => ?_⟩
    · rw [List.getElem_drop]
      simp only [show a + (k - a) = k by omega]
      simpa using hp
    · rw [List.getElem_drop]
      have := hno (a + j) (by omega) (by omega) (by omega)
      simpa using this
  unfold endAt
  omega
theorem end_all (upto : Int) (xs : List S51) (a : Nat) (ha : a ≤ xs.length) (hno : ∀ j (hj : j < xs.length), a ≤ j → xs[j].f0 ≤ upto) : endAt upto xs a = xs.length := by
  have hl : (xs.drop a).length = xs.length - a := List.length_drop
  have : (xs.drop a).findIdx (fun x => !decide (x.f0 ≤ upto)) = (xs.drop a).length := by
    refine List.findIdx_eq_length.2 fun x hx => ?_
    obtain ⟨j, hj, rfl⟩ := List.getElem_of_mem hx
    rw [List.getElem_drop]
    have := hno (a + j) (by omega) (by omega)
    simpa using this
  unfold endAt
  omega
theorem el22 : Try.prog.elem 22 = 51 := by simp [Program.elem, Try.underlying22]
theorem sl_lhm (A : Option Addr) (n c : Nat) (lo hi mx : Nat) (h1 : lo ≤ hi) (h2 : hi ≤ mx) (h3 : mx ≤ c) (W : World) :
    (Instr.slice 22 (.slice A n c) (some (.int .i64 (lo : Int))) (some (.int .i64 (hi : Int))) (some (.int .i64 (mx : Int)))).run Try.prog W = .ok (.slice (if mx = lo then A else A.map (·.add (lo * 2))) (hi - lo) (mx - lo)) W := by
  have hu : Try.prog.underlying 22 = some (.slice (Try.prog.elem 22)) := by rw [el22]; exact Try.underlying22
  rw [run_slice_lhm W 22 A n c hu .i64 .i64 .i64 lo hi mx (by omega) (by omega) (by omega) (by omega), el22]
  have hz : (sizeOf 51).run Try.prog W = .ok 2 W := by kernel_rfl
  rw [hz]
  simp [sliced, Result.andThen]
theorem sl_hm (A : Option Addr) (n c : Nat) (hi mx : Nat) (h2 : hi ≤ mx) (h3 : mx ≤ c) (W : World) :
    (Instr.slice 22 (.slice A n c) none (some (.int .i64 (hi : Int))) (some (.int .i64 (mx : Int)))).run Try.prog W = .ok (.slice A hi mx) W := by
  have hu : Try.prog.underlying 22 = some (.slice (Try.prog.elem 22)) := by rw [el22]; exact Try.underlying22
  rw [run_slice_hm W 22 A n c hu .i64 .i64 hi mx (by omega) (by omega) (by omega), el22]
  have hz : (sizeOf 51).run Try.prog W = .ok 2 W := by kernel_rfl
  rw [hz]
  simp [sliced, Result.andThen]
  try (intro h; cases A <;> simp [Addr.add])

theorem parts_out (A : Option Addr) (c : Nat) (xs : List S51) (w wr : World) (n a b : Nat) (hr : Kd.C k51 w A xs.length xs) (hb : Below w.heap.size w wr) (hab : a ≤ b) (hbl : b ≤ xs.length) (_hc : xs.length ≤ c) (P1 P2 : Option Addr)
    (h1 : P1 = if b = a then A else Option.map (fun x : Addr => x.add (a * 2)) A) (h2 : P2 = if xs.length = b then A else Option.map (fun x : Addr => x.add (b * 2)) A) :
    ∃ v0 v1 v2, Ending.returned (.tuple #[.slice A a a, .slice P1 (b - a) (b - a), .slice P2 (xs.length - b) (xs.length - b)]) = .returned (.tuple #[v0, v1, v2]) ∧
      Rd (wr.drewN n) v0 (xs.take a) ∧ Rd (wr.drewN n) v1 ((xs.take b).drop a) ∧ Rd (wr.drewN n) v2 (xs.drop b) ∧ Below w.heap.size w (wr.drewN n) := by
  have hbn : Below w.heap.size w (wr.drewN n) := hb.trans ((pw_below_drewN (Below.refl _ _) n).mono hb.size)
  have hr1 := Kd.C_below hr hbn
  have l1 : (xs.take a).length = a := by rw [List.length_take]; omega
  have l2 : ((xs.take b).drop a).length = b - a := by rw [List.length_drop, List.length_take]; omega
  have l3 : (xs.drop b).length = xs.length - b := List.length_drop
  refine ⟨_, _, _, rfl, ⟨A, a, by rw [l1], by omega, Kd.C_take hr1 (by omega)⟩, ⟨P1, b - a, by rw [l2], by omega, ?_⟩, ⟨P2, xs.length - b, by rw [l3], by omega, ?_⟩, hbn⟩
  · by_cases e : b = a
    · subst e
      rw [l2, show (xs.take b).drop b = [] from List.drop_eq_nil_of_le (by rw [l1]; exact Nat.le_refl _)]
      exact ⟨by simp, by omega, fun h => absurd h (by omega)⟩
    · have := Kd.C_mid (c := b) (lo := a) (hi := b) (k := k51) (w := wr.drewN n) (A := A) (xs := xs) hr1 hab hbl
      rw [h1, if_neg e]
      have := Kd.C_drop (c := b) (Kd.C_take hr1 hbl) (m := a) (by rw [List.length_take]; omega) (by rw [List.length_take]; omega)
      rw [if_neg e] at this
      exact this
  · rw [h2]
    exact Kd.C_drop hr1 hbl (Nat.le_refl _)

set_option maxHeartbeats 1000000 in
theorem parts_calls (A : Option Addr) (c : Nat) (xs : List S51) (from_ upto : Int) (w : World) (hr : Kd.C k51 w A xs.length xs) (hc : xs.length ≤ c) (hl : xs.length ≤ 1000) (a b : Nat)
    (ha : firstAt (fun x => decide (from_ ≤ x.f1)) xs = a) (hb : endAt upto xs a = b) :
    Calls Try.prog 28 #[.slice A xs.length c, .int .i64 from_, .int .i64 upto] w fun e w' => ∃ v0 v1 v2, e = .returned (.tuple #[v0, v1, v2]) ∧ Rd w' v0 (xs.take a) ∧ Rd w' v1 ((xs.take b).drop a) ∧ Rd w' v2 (xs.drop b) ∧ Below w.heap.size w w' := by
  have hmf : ∀ (fn : Fn) (first cap : Array Value) (w : World), (Instr.makeFunc fn first cap).run Try.prog w = .ok (.func fn first cap) w := fun _ _ _ _ => rfl
  have b0 : Below w.heap.size w (w.alloc (.cells #[.int .i64 from_] 3)) := (Below.refl _ _).alloc (Nat.le_refl _) _
  have HI := Lib.hid (index_calls 34 (.pointer (some ⟨w.heap.size, 0, none⟩)) (fun x => decide (from_ ≤ x.f1)) A c xs (w.alloc (.cells #[.int .i64 from_] 3)) (Kd.C_below hr b0) (by omega) (parts_pred _ from_ _ (Var.new w from_)))
  have hal : a ≤ xs.length := by rw [← ha]; exact List.findIdx_le_length
  have hidx : idxI (fun x => decide (from_ ≤ x.f1)) xs = if a < xs.length then (a : Int) else -1 := by rw [idxI, ha]
  have Hb := Lib.hid hb
  have HB := Lib.hid b0
  have HR := Lib.hid hr
  clear ha b0 hr hb
  have hloop : ∀ k : Nat, True := fun _ => trivial
  go_enter Try.func28, Try.ntmps28
  go_wp2_with fail
  refine HI.out.mono ?_
  rintro e w1 ⟨rfl, b1⟩
  have HB1 := Lib.hid (HB.out.trans (b1.mono HB.out.size))
  clear b1 HB HI hloop
  rw [hidx]
  by_cases halt : a < xs.length
  · rw [if_pos halt]
    clear hidx
    go_wp2_with fail
    go_loopw [10] (fun i wr => ∃ k : Nat, a ≤ k ∧ k ≤ xs.length ∧ i = .int .i64 k ∧ (∀ j (hj : j < xs.length), a ≤ j → j < k → xs[j].f0 ≤ upto) ∧ Below w.heap.size w wr) (fun i _ => xs.length - (intOf i).toNat)
    case atStart => exact ⟨a, Nat.le_refl _, hal, rfl, fun j _ h1 h2 => absurd h1 (by omega), HB1.out⟩
    case round =>
      obtain ⟨k, hak, hk, rfl, hno, hbw⟩ := hrel
      have HNo := Lib.hid hno
      clear hno HB1
      by_cases hlt : k < xs.length
      · obtain ⟨ad, rfl, c0, c1⟩ := at_T51 (Kd.C_below HR.out hbw) (k : Int) (by omega) (by omega)
        rw [rd_get xs k hlt, Int.toNat_natCast] at c0 c1
        obtain ⟨x, hx⟩ : ∃ x, xs[k] = x := ⟨_, rfl⟩
        rw [hx] at c0 c1
        have Hx := Lib.hid hx
        have HBw := Lib.hid hbw
        clear hx hbw
        by_cases hp : x.f0 ≤ upto
        · go_wp2_with fail
          go_roundw
          case rel =>
            refine ⟨k + 1, by omega, by omega, by go_num, fun j hj h1 hjk => ?_, HBw.out⟩
            rcases Nat.lt_or_ge j k with h | h
            · exact HNo.out j hj h1 h
            · obtain rfl : j = k := by omega
              rw [Hx.out]; exact hp
          case measure => simp [intOf]; omega
        · have hbk : b = k := by rw [← Hb.out]; exact end_here upto xs a k hak hlt HNo.out (by rw [Hx.out]; exact hp)
          subst hbk
          obtain ⟨P1, hP1⟩ : ∃ P, P = if b = a then (some ad) else Option.map (fun x : Addr => x.add (a * 2)) (some ad) := ⟨_, rfl⟩
          obtain ⟨P2, hP2⟩ : ∃ P, P = if xs.length = b then (some ad) else Option.map (fun x : Addr => x.add (b * 2)) (some ad) := ⟨_, rfl⟩
          have s1 := sl_hm (some ad) xs.length c a a (Nat.le_refl _) (by omega)
          have s2 := sl_lhm (some ad) xs.length c a b b (by omega) (Nat.le_refl _) (by omega)
          have s3 := sl_lhm (some ad) xs.length c b xs.length xs.length (by omega) (Nat.le_refl _) (by omega)
          rw [← hP1] at s2
          rw [← hP2] at s3
          have HP1 := Lib.hid hP1
          have HP2 := Lib.hid hP2
          clear hP1 hP2
          go_wp2_with fail
          go_quiet (fail)
          go_wp2_with fail
          go_ret3
          exact parts_out (some ad) c xs w wr _ a b HR.out HBw.out (by omega) (by omega) hc P1 P2 (by simpa using HP1.out) (by simpa using HP2.out)
      · obtain rfl : k = xs.length := by omega
        have HBw := Lib.hid hbw
        have hbk : b = xs.length := by rw [← Hb.out]; exact end_all upto xs a hal (fun j hj h1 => HNo.out j hj h1 (by omega))
        clear hbw
        subst hbk
        obtain ⟨P1, hP1⟩ : ∃ P, P = if xs.length = a then A else Option.map (fun x : Addr => x.add (a * 2)) A := ⟨_, rfl⟩
        obtain ⟨P2, hP2⟩ : ∃ P, P = if xs.length = xs.length then A else Option.map (fun x : Addr => x.add (xs.length * 2)) A := ⟨_, rfl⟩
        have s1 := sl_hm A xs.length c a a (Nat.le_refl _) (by omega)
        have s2 := sl_lhm A xs.length c a xs.length xs.length (by omega) (Nat.le_refl _) (by omega)
        have s3 := sl_lhm A xs.length c xs.length xs.length xs.length (by omega) (Nat.le_refl _) (by omega)
        rw [← hP1] at s2
        rw [← hP2] at s3
        have HP1 := Lib.hid hP1
        have HP2 := Lib.hid hP2
        clear hP1 hP2
        go_wp2_with fail
        go_quiet (fail)
        go_wp2_with fail
        go_ret3
        have hz := fun n => parts_out A c xs w wr n a xs.length HR.out HBw.out (by omega) (by omega) hc P1 P2 (by simpa using HP1.out) (by simpa using HP2.out)
        simp only [Nat.sub_self] at hz
        exact hz _
  · rw [if_neg halt]
    clear hidx
    obtain rfl : a = xs.length := by omega
    go_wp2_with fail
    go_loopw [10] (fun i wr => ∃ k : Nat, xs.length ≤ k ∧ k ≤ xs.length ∧ i = .int .i64 k ∧ (∀ j (hj : j < xs.length), xs.length ≤ j → j < k → xs[j].f0 ≤ upto) ∧ Below w.heap.size w wr) (fun i _ => xs.length - (intOf i).toNat)
    case atStart => exact ⟨xs.length, Nat.le_refl _, hal, rfl, fun j _ h1 h2 => absurd h1 (by omega), HB1.out⟩
    case round =>
      obtain ⟨k, hak, hk, rfl, hno, hbw⟩ := hrel
      have HNo := Lib.hid hno
      clear hno HB1
      by_cases hlt : k < xs.length
      · exact absurd hak (by omega)
      · obtain rfl : k = xs.length := by omega
        have HBw := Lib.hid hbw
        have hbk : b = xs.length := by rw [← Hb.out]; exact end_all upto xs xs.length hal (fun j hj h1 => HNo.out j hj h1 (by omega))
        clear hbw
        subst hbk
        obtain ⟨P1, hP1⟩ : ∃ P, P = if xs.length = xs.length then A else Option.map (fun x : Addr => x.add (xs.length * 2)) A := ⟨_, rfl⟩
        obtain ⟨P2, hP2⟩ : ∃ P, P = if xs.length = xs.length then A else Option.map (fun x : Addr => x.add (xs.length * 2)) A := ⟨_, rfl⟩
        have s1 := sl_hm A xs.length c xs.length xs.length (Nat.le_refl _) (by omega)
        have s2 := sl_lhm A xs.length c xs.length xs.length xs.length (by omega) (Nat.le_refl _) (by omega)
        have s3 := sl_lhm A xs.length c xs.length xs.length xs.length (by omega) (Nat.le_refl _) (by omega)
        rw [← hP1] at s2
        rw [← hP2] at s3
        have HP1 := Lib.hid hP1
        have HP2 := Lib.hid hP2
        clear hP1 hP2
        go_wp2_with fail
        go_quiet (fail)
        go_wp2_with fail
        go_ret3
        have hz := fun n => parts_out A c xs w wr n xs.length xs.length HR.out HBw.out (by omega) (by omega) hc P1 P1 (by simpa using HP1.out) (by simpa using HP1.out)
        simp only [Nat.sub_self] at hz
        exact hz _
end Go.Proofs.Ytgiccdjgbjgdcaa.Sp
