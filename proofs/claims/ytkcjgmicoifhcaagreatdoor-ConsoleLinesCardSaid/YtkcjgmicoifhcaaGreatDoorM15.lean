/- Texts joined: R6. -/
import Derived.Test.YtkcjgmicoifhcaaGreatDoorM13
import Derived.Test.YtkcjgmicoifhcaaGreatDoorM14
import Derived.Test.YtkcjgmicoifhcaaGreatDoorM10
import Derived.Deep.RegionWith
import Derived.Deep.Cut
import Derived.BigRegion

/- R6: The reference's enroll. (Printed by gen_r6.py.) -/
namespace Go.Proofs.YtkcjgmicoifhcaaGreatDoor.Cn
open Go.RowKit Go.Sort Go.Lib Go.Shelf
open Vw (Tab str Blk)
open Ev (E)
attribute [local go_sem ↓] Go.wp_at_zero Go.wp_at_succ

/-- How an event's reading ends. -/
def REv (g : E × List (List UInt8) × Bool) (r : Ending) : Prop := ∃ (e : E) (b : Bool), r = .returned (.tuple #[e.v, .bool b]) ∧ b = (g.2.2 && g.2.1.isEmpty) ∧ (b = true → e = g.1)
theorem rev_no {g : E × List (List UInt8) × Bool} (h : (g.2.2 && g.2.1.isEmpty) = false) (e : E) : REv g (.returned (.tuple #[e.v, .bool false])) := ⟨e, false, rfl, h.symm, fun h => absurd h (by decide)⟩
theorem rev_is {g : E × List (List UInt8) × Bool} (e : E) (b : Bool) (h : b = (g.2.2 && g.2.1.isEmpty)) (h1 : b = true → e = g.1) : REv g (.returned (.tuple #[e.v, .bool b])) := ⟨e, b, rfl, h, h1⟩
/-- What an enrolment's words say. -/
def enG (e : E) : List (List UInt8) → E × List (List UInt8) × Bool
  | [] => (e, [], false)
  | p :: Y => if fnd p 0 plansL = 4 then getAll [105, 102] { e with plan := 4 } Y true else ({ e with plan := fnd p 0 plansL }, Y, decide (fnd p 0 plansL ≠ 0))
theorem ws_drew {w : World} {g : Nat} {p : Option Addr} {L : List (List UInt8)} {c : Nat} (h : Ws w g p L c) : Ws w.drew g p L c := ⟨h.cap, h.lies⟩
theorem fnd_plans (x : List UInt8) : fnd x 0 plansL = 0 ∨ fnd x 0 plansL = 1 ∨ fnd x 0 plansL = 2 ∨ fnd x 0 plansL = 3 ∨ fnd x 0 plansL = 4 := by
  simp only [fnd, plansL]
  repeat' split
  all_goals simp
theorem rfind4 {W : World} {g : Nat} {p : Option Addr} (x : List UInt8) (h : Ws W g p plansL 4) : Calls Tryz.prog 54 #[.slice p 4 4, .string (str x)] W fun e w' => e = .returned (.int .i64 (fnd x 0 plansL)) ∧ w' = W := rfind_calls plansL (by decide) p 4 g x W h
theorem rfind8 {W : World} {g : Nat} {p : Option Addr} (x : List UInt8) (h : Ws W g p kindsL 8) : Calls Tryz.prog 54 #[.slice p 8 8, .string (str x)] W fun e w' => e = .returned (.int .i64 (fnd x 0 kindsL)) ∧ w' = W := rfind_calls kindsL (by decide) p 8 g x W h
theorem rfind5 {W : World} {g : Nat} {p : Option Addr} (x : List UInt8) (h : Ws W g p statL 5) : Calls Tryz.prog 54 #[.slice p 5 5, .string (str x)] W fun e w' => e = .returned (.int .i64 (fnd x 0 statL)) ∧ w' = W := rfind_calls statL (by decide) p 5 g x W h
theorem rfind2 {W : World} {g : Nat} {p : Option Addr} (x : List UInt8) (h : Ws W g p flagL 2) : Calls Tryz.prog 54 #[.slice p 2 2, .string (str x)] W fun e w' => e = .returned (.int .i64 (fnd x 0 flagL)) ∧ w' = W := rfind_calls flagL (by decide) p 2 g x W h
theorem ws_made (W : World) (L : List (List UInt8)) (n : Nat) (hn : L.length = n) : Ws (W.alloc (.cells (L.map sv).toArray 9)) (W.alloc (.cells (L.map sv).toArray 9)).heap.size (some ⟨W.heap.size, 0, none⟩) L n := by
  subst hn
  exact ws_new W _ L (Blk.new W 9 _).lt
set_option maxRecDepth 40000 in
set_option maxHeartbeats 32000000 in
theorem renroll_calls (day key : Int) (Y : List (List UInt8)) (hl : ∀ x ∈ Y, x.length ≤ 1000000) (hY : Y.length ≤ 1000000) (p : Option Addr) (c g : Nat) (w : World) (hw : Ws w g p Y c) :
    Calls Tryz.prog 87 #[.agg #[.int .i64 5, .int .i64 day, .int .u32 key, .int .i64 0, .int .i64 0, .float .f64 0, .float .f64 0, .bool false, .int .i64 0, .int .i64 0, .int .i64 0], .slice p Y.length c] w fun r w' => REv (enG ⟨5, day, key, 0, 0, 0, 0, false, 0, 0, 0⟩ Y) r ∧ Below w.heap.size w w' := by
  have hB1 := (Below.refl w.heap.size w).alloc (Nat.le_refl _) (.cells #[.int .i64 5, .int .i64 day, .int .u32 key, .int .i64 0, .int .i64 0, .float .f64 0, .float .f64 0, .bool false, .int .i64 0, .int .i64 0, .int .i64 0] 25)
  have hE1 := Blk.new w 25 #[.int .i64 5, .int .i64 day, .int .u32 key, .int .i64 0, .int .i64 0, .float .f64 0, .float .f64 0, .bool false, .int .i64 0, .int .i64 0, .int .i64 0]
  obtain ⟨w1, hw1⟩ : ∃ w1, w.alloc (.cells #[.int .i64 5, .int .i64 day, .int .u32 key, .int .i64 0, .int .i64 0, .float .f64 0, .float .f64 0, .bool false, .int .i64 0, .int .i64 0, .int .i64 0] 25) = w1 := ⟨_, rfl⟩
  rw [hw1] at hB1 hE1
  have hal := (Below.refl w1.heap.size w1).alloc (Nat.le_refl _) (.cells #[.int .i64 0, .int .i64 0, .int .u32 0, .int .i64 0, .int .i64 0, .float .f64 0, .float .f64 0, .bool false, .int .i64 0, .int .i64 0, .int .i64 0] 25)
  have hZ2 := Blk.new w1 25 #[.int .i64 0, .int .i64 0, .int .u32 0, .int .i64 0, .int .i64 0, .float .f64 0, .float .f64 0, .bool false, .int .i64 0, .int .i64 0, .int .i64 0]
  have hE2 := hE1.below hal
  have hB2 := hB1.trans (hal.mono hB1.size)
  have hlt := hE1.lt
  obtain ⟨w2, hw2⟩ : ∃ w2, w1.alloc (.cells #[.int .i64 0, .int .i64 0, .int .u32 0, .int .i64 0, .int .i64 0, .float .f64 0, .float .f64 0, .bool false, .int .i64 0, .int .i64 0, .int .i64 0] 25) = w2 := ⟨_, rfl⟩
  rw [hw2] at hZ2 hE2 hB2
  obtain ⟨ge, hge⟩ : ∃ ge, w.heap.size = ge := ⟨_, rfl⟩
  obtain ⟨g0, hg0⟩ : ∃ g0, w1.heap.size = g0 := ⟨_, rfl⟩
  have HG0 : Hid (w.heap.size ≤ g0) := Lib.hid (by omega)
  have HGe : Hid (w.heap.size ≤ ge ∧ ge < g0) := Lib.hid (by omega)
  rw [hg0] at hZ2
  rw [hge] at hE2
  have HZ2 : Hid (Blk w2 g0 25 (⟨0, 0, 0, 0, 0, 0, 0, false, 0, 0, 0⟩ : E).cells) := Lib.hid hZ2
  have HE2 : Hid (Blk w2 ge 25 (⟨5, day, key, 0, 0, 0, 0, false, 0, 0, 0⟩ : E).cells) := Lib.hid hE2
  have HB2 := Lib.hid hB2
  have HGq := Lib.hid hge
  have hst0 := st_f64

  clear hB1 hE1 hal hZ2 hE2 hB2 hlt
  cases Y with
  | nil =>
    rw [List.length_nil]
    go_enter Tryz.func87, Tryz.ntmps87
    go_upto_region 1 with fail
    clear hw1 hw2 hge hg0
    obtain ⟨k0, k1, k2, k3, k4, k5, k6, k7, k8, k9, k10⟩ := ev_cells HE2.out
    obtain ⟨z0, z1, z2, z3, z4, z5, z6, z7, z8, z9, z10⟩ := ev_cells HZ2.out
    obtain ⟨r0, r1, r2, r3, r4, r5, r6, r7, r8, r9, r10⟩ := ev_frozen HZ2.out
    go_wp2_with fail
    have hA := set_ev ⟨5, day, key, 0, 0, 0, 0, false, 0, 0, 0⟩ HZ2.out
    have hAb := set_ev_below ⟨5, day, key, 0, 0, 0, 0, false, 0, 0, 0⟩ HG0.out HB2.out
    (try simp only [Exit.inBlock, Exit.then])
    refine bodyPost_ret (Vw.results_cell_row2 (p := 4) (u := 5) (ty := 25) rfl _ _ g0 25 _ _ _ rfl hA.heap Tryz.underlying25 rfl (by kernel_rfl)) rfl ?_
    exact ⟨rev_no rfl _, hAb⟩
  | cons x Y1 =>
    rcases hw.lies with h1 | ⟨b, off, rfl, _, hbw, hc⟩
    · cases h1
    have HC := Lib.hid hc
    have HBw := Lib.hid hbw
    obtain ⟨n, hn⟩ : ∃ n, (x :: Y1).length = n := ⟨_, rfl⟩
    have HN := Lib.hid hn
    have hcap : n ≤ c := hn ▸ hw.cap
    have hn0 : (0 : Int) < (n : Int) := by rw [List.length_cons] at hn; omega
    have hn1 : 0 < n := by omega
    have hn2 : ((n : Int) == 0) = false := beq_eq_false_iff_ne.2 (by omega)
    rw [hn]
    have hx : w2.cell? ⟨b, off, none⟩ = some (.string (str x)) := (HB2.out.cell (p := ⟨b, off, none⟩) hbw).trans (hc 0 x rfl)
    have HX := Lib.hid hx
    clear hw hc hbw hn
    obtain ⟨m, hm⟩ : ∃ m, fnd x 0 plansL = m := ⟨_, rfl⟩
    have HM := Lib.hid hm
    go_enter Tryz.func87, Tryz.ntmps87
    go_upto_region 3 with fail
    clear hw1 hw2 hge hg0
    go_cut [] from 14 to 19 (fun W => Blk W ge 25 (⟨5, day, key, 0, 0, 0, 0, false, 0, m, 0⟩ : E).cells ∧ Blk W g0 25 (⟨0, 0, 0, 0, 0, 0, 0, false, 0, 0, 0⟩ : E).cells ∧ Below w.heap.size w W)
    case first =>
      go_region_with (first
        | (go_at_call 34
           refine (plans_calls _).mono ?_
           rintro r w3 ⟨rfl, hw3⟩
           have hb3 : Below w.heap.size w w3 := by rw [hw3]; exact HB2.out.drew.alloc HB2.out.drew.size _
           have hE3 : Blk w3 ge 25 (⟨5, day, key, 0, 0, 0, 0, false, 0, 0, 0⟩ : E).cells := by rw [hw3]; exact (blk_drew HE2.out).below ((Below.refl _ _).alloc (Nat.le_refl _) _)
           have hZ3 : Blk w3 g0 25 (⟨0, 0, 0, 0, 0, 0, 0, false, 0, 0, 0⟩ : E).cells := by rw [hw3]; exact (blk_drew HZ2.out).below ((Below.refl _ _).alloc (Nat.le_refl _) _)
           have hws : Ws w3 w3.heap.size (some ⟨w2.drew.heap.size, 0, none⟩) plansL 4 := by rw [hw3]; exact ws_made _ plansL 4 rfl
           have hx3 : w3.cell? ⟨b, off, none⟩ = some (.string (str x)) := (hb3.cell (p := ⟨b, off, none⟩) HBw.out).trans (HC.out 0 x rfl)
           have e9 : w3.cell? ⟨ge, 9, none⟩ = some (.int .i64 0) := hE3.cell 9
           have f9 := hE3.frozen 9
           have HE3 := Lib.hid hE3
           have HZ3 := Lib.hid hZ3
           have HB3 := Lib.hid hb3
           have HW3 := Lib.hid hw3
           clear hb3 hE3 hZ3 hw3)
        | (go_at_call 54
           refine (rfind4 x (by first | exact hws | exact ws_drew hws)).mono ?_
           rintro r w4 ⟨rfl, rfl⟩))
      all_goals (go_wp2_with fail)
      all_goals go_meet
      all_goals case rel => exact ⟨HE3.out.set_ 9 _, blk_at HZ3.out (by have := HGe.out; omega), below_set HB3.out HGe.out.1 9 _⟩
    case rest =>
      obtain ⟨hE4, hZ4, hB4⟩ := hcut
      have HE4 := Lib.hid hE4
      have HZ4 := Lib.hid hZ4
      have HB4 := Lib.hid hB4
      clear hE4 hZ4 hB4 hx
      generalize wc = w4 at *
      have k9 : w4.cell? ⟨ge, 9, none⟩ = some (.int .i64 m) := HE4.out.cell 9
      by_cases hm4 : m = 4
      · subst hm4
        have hG : Hid (enG ⟨5, day, key, 0, 0, 0, 0, false, 0, 0, 0⟩ (x :: Y1) = getAll [105, 102] ⟨5, day, key, 0, 0, 0, 0, false, 0, 4, 0⟩ Y1 true) := Lib.hid (by
          show (if fnd x 0 plansL = 4 then _ else _) = _
          rw [HM.out, if_pos rfl])
        by_cases hn3 : n = 3
        · subst hn3
          obtain ⟨y, z, hyz⟩ : ∃ y z, Y1 = [y, z] := by
            have h := HN.out
            match Y1, h with
            | [y, z], _ => exact ⟨y, z, rfl⟩
          subst hyz
          have hy : w4.cell? ⟨b, off + 1, none⟩ = some (.string (str y)) := (HB4.out.cell (p := ⟨b, off + 1, none⟩) HBw.out).trans (HC.out 1 y rfl)
          have HF := Lib.hid (rfloat_calls y (hl y (by simp)) w4)
          go_wp2_with fail
          refine HF.out.mono ?_
          rintro r w5 ⟨⟨fv, rfl, hfy, hf64⟩, hb5⟩
          have HFy := Lib.hid hfy
          have HE5 : Hid (Blk w5 ge 25 (⟨5, day, key, 0, 0, 0, 0, false, 0, 4, 0⟩ : E).cells) := Lib.hid (HE4.out.below hb5)
          have HZ5 := Lib.hid (HZ4.out.below hb5)
          have HB5 := Lib.hid (HB4.out.trans (hb5.mono HB4.out.size))
          clear hfy hf64 hb5 hy k9
          have hz : w5.cell? ⟨b, off + 2, none⟩ = some (.string (str z)) := (HB5.out.cell (p := ⟨b, off + 2, none⟩) HBw.out).trans (HC.out 2 z rfl)
          have HNu := Lib.hid (rnum_calls z (hl z (by simp)) w5)
          obtain ⟨fm, hfm⟩ : ∃ fm, max (numP z) 0 = fm := ⟨_, rfl⟩
          have HFm := Lib.hid hfm
          obtain ⟨rb, hrb⟩ : ∃ rb, realB y = rb := ⟨_, rfl⟩
          obtain ⟨nb, hnb⟩ : ∃ nb, numB z = nb := ⟨_, rfl⟩
          have HRb := Lib.hid hrb
          have HNb := Lib.hid hnb
          rw [hfm, hnb] at HNu
          go_wp2_with fail
          refine HNu.out.mono ?_
          rintro r w6 ⟨rfl, rfl⟩
          have k6 : w6.cell? ⟨ge, 6, none⟩ = some (.float .f64 0) := HE5.out.cell 6
          have f6 := HE5.out.frozen 6
          have k10 : w6.cell? ⟨ge, 10, none⟩ = some (.int .i64 0) := HE5.out.cell 10
          have f10 := HE5.out.frozen 10
          go_upto_region 11 with fail
          have HE6 : Hid (Blk ((w6.setCell ⟨ge, 6, none⟩ (.float .f64 fv)).setCell ⟨ge, 10, none⟩ (.int .i64 fm)) ge 25 (⟨5, day, key, 0, 0, 0, fv, false, 0, 4, fm⟩ : E).cells) := Lib.hid ((HE5.out.set_ 6 _).set_ 10 _)
          have HZ6 := Lib.hid (blk_at (i := 10) (v := .int .i64 fm) (blk_at (i := 6) (v := .float .f64 fv) HZ5.out (show g0 ≠ ge by have := HGe.out; omega)) (show g0 ≠ ge by have := HGe.out; omega))
          have HB6 := Lib.hid (below_set (below_set HB5.out HGe.out.1 6 (.float .f64 fv)) HGe.out.1 10 (.int .i64 fm))
          clear k6 f6 k10 f10 hz
          generalize (w6.setCell ⟨ge, 6, none⟩ (.float .f64 fv)).setCell ⟨ge, 10, none⟩ (.int .i64 fm) = w7 at *
          cases rb with
          | true =>
            obtain ⟨k0, k1, k2, k3, k4, k5, k6, k7, k8, k9, k10⟩ := ev_cells HE6.out
            obtain ⟨z0, z1, z2, z3, z4, z5, z6, z7, z8, z9, z10⟩ := ev_cells HZ6.out
            obtain ⟨r0, r1, r2, r3, r4, r5, r6, r7, r8, r9, r10⟩ := ev_frozen HZ6.out
            go_wp2_with fail
            have hA := set_ev ⟨5, day, key, 0, 0, 0, fv, false, 0, 4, fm⟩ HZ6.out
            have hAb := set_ev_below ⟨5, day, key, 0, 0, 0, fv, false, 0, 4, fm⟩ HG0.out HB6.out
            (try simp only [Exit.inBlock, Exit.then])
            refine bodyPost_ret (Vw.results_cell_row2 (p := 4) (u := 5) (ty := 25) rfl _ _ g0 25 _ _ _ rfl hA.heap Tryz.underlying25 rfl (by kernel_rfl)) rfl ?_
            exact ⟨rev_is _ _ (by rw [hG.out]; show _ = (((true && realB y) && numB z) && true); rw [HRb.out, HNb.out]; simp) (fun h => by rw [hG.out]; show _ = (⟨5, day, key, 0, 0, 0, realU y, false, 0, 4, max (numP z) 0⟩ : E); rw [HFm.out, HFy.out HRb.out]), hAb⟩
          | false =>
            obtain ⟨k0, k1, k2, k3, k4, k5, k6, k7, k8, k9, k10⟩ := ev_cells HE6.out
            obtain ⟨z0, z1, z2, z3, z4, z5, z6, z7, z8, z9, z10⟩ := ev_cells HZ6.out
            obtain ⟨r0, r1, r2, r3, r4, r5, r6, r7, r8, r9, r10⟩ := ev_frozen HZ6.out
            go_wp2_with fail
            have hA := set_ev ⟨5, day, key, 0, 0, 0, fv, false, 0, 4, fm⟩ HZ6.out
            have hAb := set_ev_below ⟨5, day, key, 0, 0, 0, fv, false, 0, 4, fm⟩ HG0.out HB6.out
            (try simp only [Exit.inBlock, Exit.then])
            refine bodyPost_ret (Vw.results_cell_row2 (p := 4) (u := 5) (ty := 25) rfl _ _ g0 25 _ _ _ rfl hA.heap Tryz.underlying25 rfl (by kernel_rfl)) rfl ?_
            exact ⟨rev_no (by rw [hG.out]; show (((true && realB y) && numB z) && _) = false; rw [HRb.out]; rfl) _, hAb⟩
        · have hn3b : ¬ (n : Int) = 3 := by omega
          have hn3c : ((n : Int) == 3) = false := beq_eq_false_iff_ne.2 hn3b
          have HL3 : Hid (((getAll [105, 102] ⟨5, day, key, 0, 0, 0, 0, false, 0, 4, 0⟩ Y1 true).2.2 && (getAll [105, 102] ⟨5, day, key, 0, 0, 0, 0, false, 0, 4, 0⟩ Y1 true).2.1.isEmpty) = false) := Lib.hid (by
            rw [getAll_drop]
            cases hb : (getAll [105, 102] ⟨5, day, key, 0, 0, 0, 0, false, 0, 4, 0⟩ Y1 true).2.2 with
            | false => rfl
            | true =>
              have h1 := getAll_len _ _ _ _ (by decide) hb
              have h2 := HN.out
              rw [List.length_cons] at h2
              simp at h1
              cases hd : Y1.drop 2 with
              | nil =>
                have := congrArg List.length hd
                simp at this
                omega
              | cons _ _ => simp)
          obtain ⟨k0, k1, k2, k3, k4, k5, k6, k7, k8, k9, k10⟩ := ev_cells HE4.out
          obtain ⟨z0, z1, z2, z3, z4, z5, z6, z7, z8, z9, z10⟩ := ev_cells HZ4.out
          obtain ⟨r0, r1, r2, r3, r4, r5, r6, r7, r8, r9, r10⟩ := ev_frozen HZ4.out
          go_wp2_with fail
          have hA := set_ev ⟨5, day, key, 0, 0, 0, 0, false, 0, 4, 0⟩ HZ4.out
          have hAb := set_ev_below ⟨5, day, key, 0, 0, 0, 0, false, 0, 4, 0⟩ HG0.out HB4.out
          (try simp only [Exit.inBlock, Exit.then])
          refine bodyPost_ret (Vw.results_cell_row2 (p := 4) (u := 5) (ty := 25) rfl _ _ g0 25 _ _ _ rfl hA.heap Tryz.underlying25 rfl (by kernel_rfl)) rfl ?_
          exact ⟨rev_no (by rw [hG.out]; exact HL3.out) _, hAb⟩
      · have HG : Hid (enG ⟨5, day, key, 0, 0, 0, 0, false, 0, 0, 0⟩ (x :: Y1) = (⟨5, day, key, 0, 0, 0, 0, false, 0, m, 0⟩, Y1, decide (m ≠ 0))) := Lib.hid (by
          show (if fnd x 0 plansL = 4 then _ else _) = _
          rw [HM.out, if_neg hm4])
        have hm4b : (m == 4) = false := beq_eq_false_iff_ne.2 hm4
        by_cases hn1 : n = 1
        · subst hn1
          have hY1 : Y1 = [] := by
            have h := HN.out
            match Y1, h with
            | [], _ => rfl
          subst hY1
          by_cases hm0 : m = 0
          · subst hm0
            obtain ⟨k0, k1, k2, k3, k4, k5, k6, k7, k8, k9, k10⟩ := ev_cells HE4.out
            obtain ⟨z0, z1, z2, z3, z4, z5, z6, z7, z8, z9, z10⟩ := ev_cells HZ4.out
            obtain ⟨r0, r1, r2, r3, r4, r5, r6, r7, r8, r9, r10⟩ := ev_frozen HZ4.out
            have hgg : ¬ ge = g0 := by have := HGe.out; omega
            have hgg2 : ¬ g0 = ge := by omega
            go_wp2_with fail
            go_region
            have hA := set_ev ⟨5, day, key, 0, 0, 0, 0, false, 0, 0, 0⟩ HZ4.out
            have hAb := set_ev_below ⟨5, day, key, 0, 0, 0, 0, false, 0, 0, 0⟩ HG0.out HB4.out
            clear k0 k1 k2 k3 k4 k5 k6 k7 k8 k9 k10 z0 z1 z2 z3 z4 z5 z6 z7 z8 z9 z10 r0 r1 r2 r3 r4 r5 r6 r7 r8 r9 r10
            generalize (((((((((((w4.setCell ⟨g0, 0, none⟩ (.int .i64 5)).setCell ⟨g0, 1, none⟩ (.int .i64 day)).setCell ⟨g0, 2, none⟩ (.int .u32 key)).setCell ⟨g0, 3, none⟩ (.int .i64 0)).setCell ⟨g0, 4, none⟩ (.int .i64 0)).setCell ⟨g0, 5, none⟩ (.float .f64 0)).setCell ⟨g0, 6, none⟩ (.float .f64 0)).setCell ⟨g0, 7, none⟩ (.bool false)).setCell ⟨g0, 8, none⟩ (.int .i64 0)).setCell ⟨g0, 9, none⟩ (.int .i64 0)).setCell ⟨g0, 10, none⟩ (.int .i64 0)) = wq at hA hAb ⊢
            have hA2 := hA.heap
            go_wp2_with fail
            (try simp only [Exit.inBlock, Exit.then])
            refine bodyPost_ret (Vw.results_cell_row2 (p := 4) (u := 5) (ty := 25) rfl _ wq.drew g0 25 _ _ _ rfl hA2 Tryz.underlying25 rfl (by kernel_rfl)) rfl ?_
            exact ⟨rev_no (by rw [HG.out]; rfl) _, hAb.drew⟩
          · have hm0b : (m == 0) = false := beq_eq_false_iff_ne.2 hm0
            obtain ⟨k0, k1, k2, k3, k4, k5, k6, k7, k8, k9, k10⟩ := ev_cells HE4.out
            obtain ⟨z0, z1, z2, z3, z4, z5, z6, z7, z8, z9, z10⟩ := ev_cells HZ4.out
            obtain ⟨r0, r1, r2, r3, r4, r5, r6, r7, r8, r9, r10⟩ := ev_frozen HZ4.out
            have hgg : ¬ ge = g0 := by have := HGe.out; omega
            have hgg2 : ¬ g0 = ge := by omega
            go_wp2_with fail
            go_region
            have hA := set_ev ⟨5, day, key, 0, 0, 0, 0, false, 0, m, 0⟩ HZ4.out
            have hAb := set_ev_below ⟨5, day, key, 0, 0, 0, 0, false, 0, m, 0⟩ HG0.out HB4.out
            clear k0 k1 k2 k3 k4 k5 k6 k7 k8 k9 k10 z0 z1 z2 z3 z4 z5 z6 z7 z8 z9 z10 r0 r1 r2 r3 r4 r5 r6 r7 r8 r9 r10
            generalize (((((((((((w4.setCell ⟨g0, 0, none⟩ (.int .i64 5)).setCell ⟨g0, 1, none⟩ (.int .i64 day)).setCell ⟨g0, 2, none⟩ (.int .u32 key)).setCell ⟨g0, 3, none⟩ (.int .i64 0)).setCell ⟨g0, 4, none⟩ (.int .i64 0)).setCell ⟨g0, 5, none⟩ (.float .f64 0)).setCell ⟨g0, 6, none⟩ (.float .f64 0)).setCell ⟨g0, 7, none⟩ (.bool false)).setCell ⟨g0, 8, none⟩ (.int .i64 0)).setCell ⟨g0, 9, none⟩ (.int .i64 m)).setCell ⟨g0, 10, none⟩ (.int .i64 0)) = wq at hA hAb ⊢
            have hA2 := hA.heap
            go_wp2_with fail
            (try simp only [Exit.inBlock, Exit.then])
            refine bodyPost_ret (Vw.results_cell_row2 (p := 4) (u := 5) (ty := 25) rfl _ wq.drew g0 25 _ _ _ rfl hA2 Tryz.underlying25 rfl (by kernel_rfl)) rfl ?_
            exact ⟨rev_is _ _ (by rw [HG.out]; simp [hm0]) (fun _ => by rw [HG.out]), hAb.drew⟩
        · have hn1b : ¬ (n : Int) = 1 := by omega
          have hn1c : ((n : Int) == 1) = false := beq_eq_false_iff_ne.2 hn1b
          have HY1 : Hid (Y1.isEmpty = false) := Lib.hid (by
            have h := HN.out
            cases Y1 with
            | nil => exact absurd h (by simp; omega)
            | cons _ _ => rfl)
          obtain ⟨k0, k1, k2, k3, k4, k5, k6, k7, k8, k9, k10⟩ := ev_cells HE4.out
          obtain ⟨z0, z1, z2, z3, z4, z5, z6, z7, z8, z9, z10⟩ := ev_cells HZ4.out
          obtain ⟨r0, r1, r2, r3, r4, r5, r6, r7, r8, r9, r10⟩ := ev_frozen HZ4.out
          have hgg : ¬ ge = g0 := by have := HGe.out; omega
          have hgg2 : ¬ g0 = ge := by omega
          go_wp2_with fail
          go_region
          have hA := set_ev ⟨5, day, key, 0, 0, 0, 0, false, 0, m, 0⟩ HZ4.out
          have hAb := set_ev_below ⟨5, day, key, 0, 0, 0, 0, false, 0, m, 0⟩ HG0.out HB4.out
          clear k0 k1 k2 k3 k4 k5 k6 k7 k8 k9 k10 z0 z1 z2 z3 z4 z5 z6 z7 z8 z9 z10 r0 r1 r2 r3 r4 r5 r6 r7 r8 r9 r10
          generalize (((((((((((w4.setCell ⟨g0, 0, none⟩ (.int .i64 5)).setCell ⟨g0, 1, none⟩ (.int .i64 day)).setCell ⟨g0, 2, none⟩ (.int .u32 key)).setCell ⟨g0, 3, none⟩ (.int .i64 0)).setCell ⟨g0, 4, none⟩ (.int .i64 0)).setCell ⟨g0, 5, none⟩ (.float .f64 0)).setCell ⟨g0, 6, none⟩ (.float .f64 0)).setCell ⟨g0, 7, none⟩ (.bool false)).setCell ⟨g0, 8, none⟩ (.int .i64 0)).setCell ⟨g0, 9, none⟩ (.int .i64 m)).setCell ⟨g0, 10, none⟩ (.int .i64 0)) = wq at hA hAb ⊢
          have hA2 := hA.heap
          go_wp2_with fail
          (try simp only [Exit.inBlock, Exit.then])
          refine bodyPost_ret (Vw.results_cell_row2 (p := 4) (u := 5) (ty := 25) rfl _ wq.drew g0 25 _ _ _ rfl hA2 Tryz.underlying25 rfl (by kernel_rfl)) rfl ?_
          exact ⟨rev_no (by rw [HG.out]; show (_ && Y1.isEmpty) = false; rw [HY1.out, Bool.and_false]) _, hAb.drew⟩
end Go.Proofs.YtkcjgmicoifhcaaGreatDoor.Cn
