/- The reference's Only: just the fields that a kind has. -/
import Derived.Test.YtadcpdpcpecooaaE4
namespace Go.Proofs.Ytadcpdpcpecooaa.Ev
open Go.RowKit Go.Proofs.Ytadcpdpcpecooaa.Pk Go.Proofs.Ytadcpdpcpecooaa.Re

def onlyStep (e n : E) (c : Int) : E :=
  if c = 76 then { n with loan := e.loan } else if c = 65 then { n with amount := e.amount } else if c = 82 then { n with rate := e.rate } else if c = 83 then { n with sub := e.sub }
  else if c = 84 then { n with status := e.status } else if c = 80 then (if e.plan = 4 then { n with plan := e.plan, income := e.income, family := e.family } else { n with plan := e.plan }) else n
def bare (e : E) : E := ⟨e.kind, e.day, e.key, 0, 0, 0, 0, false, 0, 0, 0⟩
def onlyK (e : E) (k : Nat) : E := ((ints (hasR e.kind)).take k).foldl (onlyStep e) (bare e)
def onlyE (e : E) : E := (ints (hasR e.kind)).foldl (onlyStep e) (bare e)
theorem onlyK_succ (e : E) (k : Nat) (hk : k < (hasR e.kind).size) : onlyK e (k + 1) = onlyStep e (onlyK e k) ((hasR e.kind)[k].toNat : Int) := by
  have hlen : k < (ints (hasR e.kind)).length := by rw [ints_length]; exact hk
  unfold onlyK
  rw [List.take_succ_eq_append_getElem hlen, List.foldl_append]
  have : (ints (hasR e.kind))[k] = ((hasR e.kind)[k].toNat : Int) := by simp [ints, ByteArray.getElem_eq_getElem_data]
  simp [this]
theorem onlyK_all (e : E) : onlyK e (hasR e.kind).size = onlyE e := by
  unfold onlyK onlyE
  rw [List.take_of_length_le (by rw [ints_length]; exact Nat.le_refl _)]
theorem chars_ok (l : ByteArray) (h : (ints l).all (fun c => c == 76 || c == 65 || c == 82 || c == 83 || c == 84 || c == 80) = true) :
    ∀ j (hj : j < l.size), l[j].toNat = 76 ∨ l[j].toNat = 65 ∨ l[j].toNat = 82 ∨ l[j].toNat = 83 ∨ l[j].toNat = 84 ∨ l[j].toNat = 80 := by
  intro j hj
  have hlen : j < (ints l).length := by rw [ints_length]; exact hj
  have := List.all_eq_true.1 h (ints l)[j] (List.getElem_mem hlen)
  have e : (ints l)[j] = (l[j].toNat : Int) := by simp [ints, ByteArray.getElem_eq_getElem_data]
  rw [e] at this
  simp only [Bool.or_eq_true, beq_iff_eq] at this
  omega
theorem hasR_in (k : Int) : (hasR k).size ≤ 4 ∧ ∀ j (h : j < (hasR k).size), (hasR k)[j].toNat = 76 ∨ (hasR k)[j].toNat = 65 ∨ (hasR k)[j].toNat = 82 ∨ (hasR k)[j].toNat = 83 ∨ (hasR k)[j].toNat = 84 ∨ (hasR k)[j].toNat = 80 := by
  unfold hasR
  repeat' split
  all_goals exact ⟨by decide, chars_ok _ (by decide)⟩
theorem two_below' (X Y : Obj) (w : World) : Below w.heap.size w ((w.alloc X).alloc Y) := by
  have hb := (Below.refl w.heap.size w).alloc (Nat.le_refl _) X
  exact hb.alloc hb.size _
/-- One cell of the second of two blocks. -/
theorem blk_other {w : World} {g g' : Nat} {t : TypeId} {cs : Array Value} (h : Blk w g t cs) (hne : g ≠ g') (i : Nat) (u : Value) : Blk (w.setCell ⟨g', i, none⟩ u) g t cs :=
  h.same (Below.heap_setCell _ _ _ _ hne)
/-- A whole event stored, cell by cell. -/
theorem set_event {w : World} {g : Nat} {z : E} (n : E) (h : Blk w g 25 z.cells) : Blk (((((((((((w.setCell ⟨g, 0, none⟩ (.int .i64 n.kind)).setCell ⟨g, 1, none⟩ (.int .i64 n.day)).setCell ⟨g, 2, none⟩ (.int .u32 n.key)).setCell ⟨g, 3, none⟩ (.int .i64 n.loan)).setCell ⟨g, 4, none⟩ (.int .i64 n.amount)).setCell ⟨g, 5, none⟩ (.float .f64 n.rate)).setCell ⟨g, 6, none⟩ (.float .f64 n.income)).setCell ⟨g, 7, none⟩ (.bool n.sub)).setCell ⟨g, 8, none⟩ (.int .i64 n.status)).setCell ⟨g, 9, none⟩ (.int .i64 n.plan)).setCell ⟨g, 10, none⟩ (.int .i64 n.family)) g 25 n.cells := by
  have e : (((((((((((z.cells.setIfInBounds 0 (.int .i64 n.kind)).setIfInBounds 1 (.int .i64 n.day)).setIfInBounds 2 (.int .u32 n.key)).setIfInBounds 3 (.int .i64 n.loan)).setIfInBounds 4 (.int .i64 n.amount)).setIfInBounds 5 (.float .f64 n.rate)).setIfInBounds 6 (.float .f64 n.income)).setIfInBounds 7 (.bool n.sub)).setIfInBounds 8 (.int .i64 n.status)).setIfInBounds 9 (.int .i64 n.plan)).setIfInBounds 10 (.int .i64 n.family)) = n.cells := by kernel_rfl
  rw [← e]
  exact (((((((((((h.set_ 0 (.int .i64 n.kind)).set_ 1 (.int .i64 n.day)).set_ 2 (.int .u32 n.key)).set_ 3 (.int .i64 n.loan)).set_ 4 (.int .i64 n.amount)).set_ 5 (.float .f64 n.rate)).set_ 6 (.float .f64 n.income)).set_ 7 (.bool n.sub)).set_ 8 (.int .i64 n.status)).set_ 9 (.int .i64 n.plan)).set_ 10 (.int .i64 n.family))
theorem set_below {w0 w : World} {B g : Nat} (n : E) (hg : B ≤ g) (h : Below B w0 w) : Below B w0 (((((((((((w.setCell ⟨g, 0, none⟩ (.int .i64 n.kind)).setCell ⟨g, 1, none⟩ (.int .i64 n.day)).setCell ⟨g, 2, none⟩ (.int .u32 n.key)).setCell ⟨g, 3, none⟩ (.int .i64 n.loan)).setCell ⟨g, 4, none⟩ (.int .i64 n.amount)).setCell ⟨g, 5, none⟩ (.float .f64 n.rate)).setCell ⟨g, 6, none⟩ (.float .f64 n.income)).setCell ⟨g, 7, none⟩ (.bool n.sub)).setCell ⟨g, 8, none⟩ (.int .i64 n.status)).setCell ⟨g, 9, none⟩ (.int .i64 n.plan)).setCell ⟨g, 10, none⟩ (.int .i64 n.family)) :=
  (((((((((((h.setCell (p := ⟨g, 0, none⟩) hg (.int .i64 n.kind)).setCell (p := ⟨g, 1, none⟩) hg (.int .i64 n.day)).setCell (p := ⟨g, 2, none⟩) hg (.int .u32 n.key)).setCell (p := ⟨g, 3, none⟩) hg (.int .i64 n.loan)).setCell (p := ⟨g, 4, none⟩) hg (.int .i64 n.amount)).setCell (p := ⟨g, 5, none⟩) hg (.float .f64 n.rate)).setCell (p := ⟨g, 6, none⟩) hg (.float .f64 n.income)).setCell (p := ⟨g, 7, none⟩) hg (.bool n.sub)).setCell (p := ⟨g, 8, none⟩) hg (.int .i64 n.status)).setCell (p := ⟨g, 9, none⟩) hg (.int .i64 n.plan)).setCell (p := ⟨g, 10, none⟩) hg (.int .i64 n.family))
set_option maxRecDepth 20000 in
set_option maxHeartbeats 4000000 in
theorem only_calls (e : E) (w : World) : Calls Try.prog 19 #[e.v] w fun r w' => r = .returned (onlyE e).v ∧ Below w.heap.size w w' := by
  have HH := Lib.hid (fun W => has_calls e.kind W)
  have hin := hasR_in e.kind
  have hst := fun (a : Addr) (n : Nat) (W : World) => run_store Try.prog W a (.float .f64 n) .plain rfl
  have P1 := (Blk.new w 25 e.cells).below ((Below.refl _ _).alloc (Nat.le_refl _) (.cells (⟨0, 0, 0, 0, 0, 0, 0, false, 0, 0, 0⟩ : E).cells 25))
  have P2 := Blk.new (w.alloc (.cells e.cells 25)) 25 (⟨0, 0, 0, 0, 0, 0, 0, false, 0, 0, 0⟩ : E).cells
  have P3 := two_below' (.cells e.cells 25) (.cells (⟨0, 0, 0, 0, 0, 0, 0, false, 0, 0, 0⟩ : E).cells 25) w
  have P4 : ((w.alloc (.cells e.cells 25)).alloc (.cells (⟨0, 0, 0, 0, 0, 0, 0, false, 0, 0, 0⟩ : E).cells 25)).heap.size = w.heap.size + 2 := by simp
  rw [show (w.alloc (.cells e.cells 25)).heap.size = w.heap.size + 1 by simp] at P2
  go_enter Try.func19, Try.ntmps19
  go_upto_region 1 with fail
  generalize (w.alloc (.cells e.cells 25)).alloc (.cells (⟨0, 0, 0, 0, 0, 0, 0, false, 0, 0, 0⟩ : E).cells 25) = W2 at *
  obtain ⟨k0, k1, k2, k3, k4, k5, k6, k7, k8, k9, k10⟩ := bx_of P1
  go_wp2_with fail
  refine (HH.out _).mono ?_
  rintro r w1 ⟨rfl, rfl⟩
  go_wp2_with fail
  have H1 := Lib.hid (P1.below ((Below.refl _ _).alloc (Nat.le_refl _) (.cells (bare e).cells 25)))
  have H2 := Lib.hid (P2.below ((Below.refl _ _).alloc (Nat.le_refl _) (.cells (bare e).cells 25)))
  have H3 := Lib.hid (show Blk (W2.alloc (.cells (bare e).cells 25)) (w.heap.size + 2) 25 (bare e).cells by rw [← P4]; exact Blk.new W2 25 (bare e).cells)
  have H4 := Lib.hid (P3.trans (((Below.refl W2.heap.size W2).alloc (Nat.le_refl _) (.cells (bare e).cells 25)).mono P3.size))
  clear P1 P2 P3 P4 k0 k1 k2 k3 k4 k5 k6 k7 k8 k9 k10
  obtain ⟨h, hh⟩ : ∃ h, hasR e.kind = h := ⟨_, rfl⟩
  rw [hh] at hin ⊢
  go_loopw [5] (fun i wr => ∃ k : Nat, k ≤ h.size ∧ i = .int .i64 (k : Int) ∧ Blk wr w.heap.size 25 e.cells ∧ Blk wr (w.heap.size + 1) 25 (⟨0, 0, 0, 0, 0, 0, 0, false, 0, 0, 0⟩ : E).cells ∧ Blk wr (w.heap.size + 2) 25 (onlyK e k).cells ∧ Below w.heap.size w wr) (fun i _ => h.size - (intOf i).toNat)
  case atStart => exact ⟨0, Nat.zero_le _, rfl, H1.out, H2.out, H3.out, H4.out⟩
  case round =>
    obtain ⟨k, hk, rfl, q1, q2, q3, q4⟩ := hrel
    have Q1 := Lib.hid q1
    have Q2 := Lib.hid q2
    have Q3 := Lib.hid q3
    have Q4 := Lib.hid q4
    clear q1 q2 q3 q4
    have hs4 := hin.1
    by_cases hk2 : k < h.size
    · have hc := hin.2 k hk2
      have hsu := onlyK_succ e k (by rw [hh]; exact hk2)
      simp only [hh] at hsu
      obtain ⟨k0, k1, k2, k3, k4, k5, k6, k7, k8, k9, k10⟩ := bx_of Q1.out
      have f3 := Q3.out.frozen 3
      have f4 := Q3.out.frozen 4
      have f5 := Q3.out.frozen 5
      have f6 := Q3.out.frozen 6
      have f7 := Q3.out.frozen 7
      have f8 := Q3.out.frozen 8
      have f9 := Q3.out.frozen 9
      have f10 := Q3.out.frozen 10
      obtain ⟨j0, j1, j2, j3, j4, j5, j6, j7, j8, j9, j10⟩ := bx_of Q3.out
      generalize onlyK e k = n at *
      have HSU := Lib.hid hsu
      clear hsu
      rcases hc with hc | hc | hc | hc | hc | hc
      · rw [hc] at HSU
        go_wp2_with fail
        refine ⟨⟨k + 1, by omega, by go_num, blk_other Q1.out (by omega) _ _, blk_other Q2.out (by omega) _ _, ?_, Q4.out.setCell (by simp) _⟩, by simp [intOf]; omega⟩
        rw [HSU.out]
        exact Q3.out.set_ 3 (.int .i64 e.loan)
      · rw [hc] at HSU
        go_wp2_with fail
        refine ⟨⟨k + 1, by omega, by go_num, blk_other Q1.out (by omega) _ _, blk_other Q2.out (by omega) _ _, ?_, Q4.out.setCell (by simp) _⟩, by simp [intOf]; omega⟩
        rw [HSU.out]
        exact Q3.out.set_ 4 (.int .i64 e.amount)
      · rw [hc] at HSU
        go_wp2_with fail
        refine ⟨⟨k + 1, by omega, by go_num, blk_other Q1.out (by omega) _ _, blk_other Q2.out (by omega) _ _, ?_, Q4.out.setCell (by simp) _⟩, by simp [intOf]; omega⟩
        rw [HSU.out]
        exact Q3.out.set_ 5 (.float .f64 e.rate)
      · rw [hc] at HSU
        go_wp2_with fail
        refine ⟨⟨k + 1, by omega, by go_num, blk_other Q1.out (by omega) _ _, blk_other Q2.out (by omega) _ _, ?_, Q4.out.setCell (by simp) _⟩, by simp [intOf]; omega⟩
        rw [HSU.out]
        exact Q3.out.set_ 7 (.bool e.sub)
      · rw [hc] at HSU
        go_wp2_with fail
        refine ⟨⟨k + 1, by omega, by go_num, blk_other Q1.out (by omega) _ _, blk_other Q2.out (by omega) _ _, ?_, Q4.out.setCell (by simp) _⟩, by simp [intOf]; omega⟩
        rw [HSU.out]
        exact Q3.out.set_ 8 (.int .i64 e.status)
      · rw [hc] at HSU
        by_cases hp : e.plan = 4
        · rw [show onlyStep e n ((80 : Nat) : Int) = { n with plan := e.plan, income := e.income, family := e.family } from if_pos hp] at HSU
          have hp2 : (e.plan == 4) = true := by simpa using hp
          clear hp
          go_upto_region 20 with fail
          have R1 := blk_other Q1.out (show w.heap.size ≠ w.heap.size + 2 by omega) 9 (.int .i64 e.plan)
          have R2 := Lib.hid (blk_other Q2.out (show w.heap.size + 1 ≠ w.heap.size + 2 by omega) 9 (.int .i64 e.plan))
          have R3 : Blk (wr.setCell ⟨w.heap.size + 2, 9, none⟩ (.int .i64 e.plan)) (w.heap.size + 2) 25 ({ n with plan := e.plan } : E).cells := Q3.out.set_ 9 (.int .i64 e.plan)
          have R4 := Lib.hid (Q4.out.setCell (p := ⟨w.heap.size + 2, 9, none⟩) (by show w.heap.size ≤ w.heap.size + 2; omega) (.int .i64 e.plan))
          generalize wr.setCell ⟨w.heap.size + 2, 9, none⟩ (.int .i64 e.plan) = W3 at *
          obtain ⟨k0, k1, k2, k3, k4, k5, k6, k7, k8, k9, k10⟩ := bx_of R1
          obtain ⟨j0, j1, j2, j3, j4, j5, j6, j7, j8, j9, j10⟩ := bx_of R3
          have f6 := R3.frozen 6
          have f10 := R3.frozen 10
          go_region
          all_goals go_wp2
          all_goals
            refine ⟨⟨k + 1, by omega, by go_num, ?_, ?_, ?_, ?_⟩, by simp [intOf]; omega⟩
            · exact blk_other (blk_other R1 (by omega) 6 _) (by omega) 10 _
            · exact blk_other (blk_other R2.out (by omega) 6 _) (by omega) 10 _
            · rw [HSU.out]
              exact (R3.set_ 6 (.float .f64 e.income)).set_ 10 (.int .i64 e.family)
            · exact ((R4.out.setCell (p := ⟨w.heap.size + 2, 6, none⟩) (by show w.heap.size ≤ w.heap.size + 2; omega) _).setCell (p := ⟨w.heap.size + 2, 10, none⟩) (by show w.heap.size ≤ w.heap.size + 2; omega) _).drew
        · rw [show onlyStep e n ((80 : Nat) : Int) = { n with plan := e.plan } from if_neg hp] at HSU
          go_wp2_with fail
          refine ⟨⟨k + 1, by omega, by go_num, blk_other Q1.out (by omega) _ _, blk_other Q2.out (by omega) _ _, ?_, Q4.out.setCell (by simp) _⟩, by simp [intOf]; omega⟩
          rw [HSU.out]
          exact Q3.out.set_ 9 (.int .i64 e.plan)
    · obtain rfl : k = h.size := by omega
      obtain ⟨j0, j1, j2, j3, j4, j5, j6, j7, j8, j9, j10⟩ := bx_of Q3.out
      obtain ⟨i0, i1, i2, i3, i4, i5, i6, i7, i8, i9, i10⟩ := bx_of Q2.out
      have f0 := Q2.out.frozen 0
      have f1 := Q2.out.frozen 1
      have f2 := Q2.out.frozen 2
      have f3 := Q2.out.frozen 3
      have f4 := Q2.out.frozen 4
      have f5 := Q2.out.frozen 5
      have f6 := Q2.out.frozen 6
      have f7 := Q2.out.frozen 7
      have f8 := Q2.out.frozen 8
      have f9 := Q2.out.frozen 9
      have f10 := Q2.out.frozen 10
      rw [← hh, onlyK_all] at *
      go_wp2_with fail
      have S := set_event (onlyE e) Q2.out
      have SB := set_below (onlyE e) (show w.heap.size ≤ w.heap.size + 1 by omega) Q4.out
      (try simp only [Exit.inBlock, Exit.then])
      refine bodyPost_ret (results_cell_row (p := 2) (ty := 25) rfl _ _ (w.heap.size + 1) 25 _ _ _ rfl S Try.underlying25 rfl (by kernel_rfl)) rfl ?_
      exact ⟨rfl, SB⟩
end Go.Proofs.Ytadcpdpcpecooaa.Ev
