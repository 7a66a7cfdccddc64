/- Texts joined: C7 A0 C8 C9. -/
import Derived.Test.YtkcjgmicoifhcaaGreatDoorM6
import Derived.Test.YtkcjgmicoifhcaaGreatDoorM7
import Derived.Lib.OthersKept
import Derived.Laws.OwnMore
import Derived.Laws.RangeAny

/- C7: The reader's days. (Printed by gen_c7.py.) -/
namespace Go.Proofs.YtkcjgmicoifhcaaGreatDoor.Cn
open Go.RowKit Go.Sort Go.Lib Go.Shelf
open Vw (Tab str Blk dayL dayT S S_all)
attribute [local go_sem ↓] Go.wp_at_zero Go.wp_at_succ

/-- Is a word a day's text? -/
noncomputable def dayB (x : List UInt8) : Bool := @decide (∃ d : Int, (0 ≤ d ∧ d ≤ 87658) ∧ dayL d = x) (Classical.propDecidable _)
open Classical in
/-- The day of a text. -/
noncomputable def dayN (x : List UInt8) : Int := if h : ∃ d : Int, (0 ≤ d ∧ d ≤ 87658) ∧ dayL d = x then h.choose else 0
theorem dayB_iff (x : List UInt8) : dayB x = true ↔ ∃ d : Int, (0 ≤ d ∧ d ≤ 87658) ∧ dayL d = x := by
  unfold dayB
  exact @decide_eq_true_iff _ (Classical.propDecidable _)
theorem dayN_of {d : Int} (h : 0 ≤ d ∧ d ≤ 87658) : dayB (dayL d) = true ∧ dayN (dayL d) = d := by
  have hx : ∃ e : Int, (0 ≤ e ∧ e ≤ 87658) ∧ dayL e = dayL d := ⟨d, h, rfl⟩
  refine ⟨(dayB_iff _).2 hx, ?_⟩
  unfold dayN
  rw [dif_pos hx]
  exact (Vw.days_same _ _ hx.choose_spec.1 h).1 hx.choose_spec.2
/-- A day's text cut at its lines. -/
theorem dayL_cut {d : Int} (h : 0 ≤ d ∧ d ≤ 87658) : ∃ (y m t : Nat), cutC 45 (dayL d) = [Vw.pad y 4, Vw.pad m 2, Vw.pad t 2] ∧ okD y m t = true ∧ dnum y m t = d ∧ y < 10000 ∧ m < 100 ∧ t < 100 := by
  obtain ⟨k, hk, h1⟩ := S_all d h
  have hm := Vw.day_month h1
  have hd1 : S (k + 1) = S k + Vw.md k := rfl
  have hmd : Vw.md k = Vw.mdN (1960 + (k / 12 : Nat)) (1 + (k % 12 : Nat)) := rfl
  have nn : ∀ u j, u < 18446744073709551616 → (45 : UInt8) ∉ Vw.pad u j := fun u j hu hc => by
    have := Vw.pad_digs u j hu 45 hc
    exact absurd this.1 (by decide)
  refine ⟨1960 + k / 12, 1 + k % 12, (d - S k + 1).toNat, ?_, ?_, ?_, by omega, by omega, by omega⟩
  · rw [Vw.dayL_at hk h1]
    unfold dayT Vw.cat
    rw [show Vw.pad (1960 + k / 12) 4 ++ [45] ++ Vw.pad (1 + k % 12) 2 ++ [45] ++ Vw.pad (d - S k + 1).toNat 2 = Vw.pad (1960 + k / 12) 4 ++ 45 :: (Vw.pad (1 + k % 12) 2 ++ 45 :: Vw.pad (d - S k + 1).toNat 2) by simp]
    rw [cutC_app _ _ _ (nn _ _ (by omega)), cutC_app _ _ _ (nn _ _ (by omega)), cutC_none _ _ (nn _ _ (by omega))]
  · unfold okD
    rw [← hm.2.2]
    simp only [Bool.and_eq_true, decide_eq_true_eq]
    refine ⟨by omega, by omega, by omega, ?_⟩
    have e1 : ((1960 + k / 12 : Nat) : Int) = 1960 + ((k / 12 : Nat) : Int) := by omega
    have e2 : ((1 + k % 12 : Nat) : Int) = 1 + ((k % 12 : Nat) : Int) := by omega
    rw [e1, e2, ← hmd]
    omega
  · unfold dnum
    rw [← hm.2.2, show 12 * (((1960 + k / 12 : Nat) : Int) - 1960).toNat + (((1 + k % 12 : Nat) : Int) - 1).toNat = k by omega]
    omega
theorem pad_atoi (u k : Nat) (hu : u < 10000) (hk : k ≤ 4) : atoiAll (Vw.pad u k) = .ok (u : Int) := by
  have hd := Vw.pad_digs u k (by omega)
  have h4 : (Lib.decDigits u).length ≤ 4 := by
    rw [decDigits_length]
    by_cases h0 : u < 10
    · rw [nDigits_small h0]; omega
    · by_cases h1 : u / 10 < 10
      · rw [nDigits_big h0, nDigits_small h1]; omega
      · by_cases h2 : u / 10 / 10 < 10
        · rw [nDigits_big h0, nDigits_big h1, nDigits_small h2]; omega
        · rw [nDigits_big h0, nDigits_big h1, nDigits_big h2, nDigits_small (by omega)]; omega
  have h1 := (Vw.dig_len u (by omega)).1
  have hl : 1 ≤ (Vw.pad u k).length ∧ (Vw.pad u k).length ≤ 18 := by
    unfold Vw.pad
    rw [List.length_append, List.length_replicate]
    omega
  have hdv : dv (Vw.pad u k) = u := Vw.dv_pad u k (by omega)
  rw [atoi_digs (Vw.pad u k) (fun h => by rw [h] at hl; simp at hl) hl.2 hd, hdv]
/-- What Atoi hands back. -/
theorem atoi_calls (l : List UInt8) (hl : l.length ≤ 1000000) (w : World) (hg : Gl w) :
    Calls Tryz.prog 79 #[.string (str l)] w fun e w' => ∃ (n : Int) (er : Value), e = .returned (.tuple #[.int .i64 n, er]) ∧ (∀ v, atoiAll l = .ok v → n = v) ∧ Below w.heap.size w w' := by
  have hs : (str l).size = l.length := Vw.str_size l
  cases h : atoiAll l with
  | ok v => exact (Tryz.strconv_Atoi_ok (str l) (by omega) v h w).mono fun e w' ⟨h1, h2⟩ => ⟨v, .nilIface, h1, (fun v' h' => by cases h'; rfl), below_or h2⟩
  | range =>
    obtain ⟨te, pe, hc⟩ := hg.rng
    exact (Tryz.strconv_Atoi_range (str l) (by omega) h _ w hc (.inr ⟨te, pe, rfl⟩)).mono fun e w' ⟨K, h1, _, _, h2⟩ => ⟨_, _, h1, (fun v' h' => nomatch h'), h2⟩
  | _ =>
    obtain ⟨te, pe, hc⟩ := hg.syn
    exact (Tryz.strconv_Atoi_syntax (str l) (by omega) h _ w hc (.inr ⟨te, pe, rfl⟩)).mono fun e w' ⟨K, h1, _, _, h2⟩ => ⟨0, _, h1, (fun v' h' => nomatch h'), h2⟩
/-- strings.Split at a line. -/
theorem split_calls (l : List UInt8) (hl : l.length ≤ 1000000) (w : World) (hg : Gl w) :
    Calls Tryz.prog 78 #[.string (str l), .string ⟨#[45]⟩] w fun e w' => e = .returned (.slice (some ⟨w.heap.size, 0, none⟩) (cutC 45 l).length (cutC 45 l).length) ∧ w' = w.alloc (.cells ((cutC 45 l).map fun x => Value.string (str x)).toArray 9) := by
  have hs : (str l).size = l.length := Vw.str_size l
  obtain ⟨m, hm⟩ := hg.mx
  obtain ⟨h1, h2⟩ := splitK_cut 45 l.length l (Nat.le_refl _)
  have hd := splitB_data ⟨#[45]⟩ 0 (countB (str l) ⟨#[45]⟩) (str l)
  have e1 : splitK (⟨#[45]⟩ : ByteArray).data.toList 0 (countB (str l) ⟨#[45]⟩) (str l).data.toList = cutC 45 l := h1
  rw [e1] at hd
  have e2 : countB (str l) ⟨#[45]⟩ + 1 = (cutC 45 l).length := h2
  refine (Tryz.strings_Split (str l) ⟨#[45]⟩ m w (by omega) hm (by decide)).mono fun e w' ⟨h3, h4⟩ => ⟨by rw [h3, e2], ?_⟩
  rw [h4, ← hd, List.map_map]
  congr 4
theorem day_key {x x0 x1 x2 : List UInt8} {n0 n1 n2 : Int} (hX : cutC 45 x = [x0, x1, x2]) (h0 : ∀ v, atoiAll x0 = .ok v → n0 = v) (h1 : ∀ v, atoiAll x1 = .ok v → n1 = v) (h2 : ∀ v, atoiAll x2 = .ok v → n2 = v) (h : dayB x = true) : okD n0 n1 n2 = true ∧ dayL (dnum n0 n1 n2) = x := by
  obtain ⟨d, hd1, hd2⟩ := (dayB_iff x).1 h
  obtain ⟨y, m, t, h3, h4, h5, h6, h7, h8⟩ := dayL_cut hd1
  rw [hd2, hX] at h3
  simp only [List.cons.injEq, and_true] at h3
  obtain ⟨rfl, rfl, rfl⟩ := h3
  obtain rfl := h0 _ (pad_atoi y 4 h6 (by decide))
  obtain rfl := h1 _ (pad_atoi m 2 (by omega) (by decide))
  obtain rfl := h2 _ (pad_atoi t 2 (by omega) (by decide))
  exact ⟨h4, by rw [h5]; exact hd2⟩
theorem dnum_range (y m d : Int) (h : okD y m d = true) : 0 ≤ dnum y m d ∧ dnum y m d ≤ 87658 := by
  unfold okD at h
  simp only [Bool.and_eq_true, decide_eq_true_eq] at h
  obtain ⟨h1, h2, h3⟩ := h
  obtain ⟨k, hk⟩ : ∃ k, 12 * (y - 1960).toNat + (m - 1).toNat = k := ⟨_, rfl⟩
  have hlt : k + 1 ≤ 2880 := by omega
  have e1 := Vw.S_le hlt
  rw [Vw.S_end] at e1
  have e2 : S (k + 1) = S k + Vw.md k := rfl
  have e3 := Vw.md_at (y - 1960).toNat (m - 1).toNat (by omega)
  rw [hk, show (1960 : Int) + ((y - 1960).toNat : Int) = y by omega, show (1 : Int) + ((m - 1).toNat : Int) = m by omega] at e3
  have e4 := S_bound k
  unfold dnum
  rw [hk]
  omega
theorem _root_.Go.RowKit.Below.fr2 {g g5 : Nat} {w w2 wr : World} (h : Below g5 w2 wr) (hF : Fr (fun k => k = g) w w2) (hg : g5 = w2.heap.size) : Fr (fun k => k = g) w wr :=
  hF.trans (Fr.of (by rw [← hg]; exact h))
set_option maxRecDepth 20000 in
set_option maxHeartbeats 16000000 in
theorem day_calls (b g : Nat) (L : List (List UInt8)) (ok : Bool) (hL : Short L) (w : World) (hR : Rd w g L ok) (hG : GlB b w) (hbg : b ≤ g) :
    Calls Tryz.prog 47 #[.pointer (some ⟨g, 0, none⟩)] w fun e w' => ∃ d : Int, e = .returned (.int .i64 d) ∧ Rd w' g L.tail (ok && dayB (hd L)) ∧ Fr (fun k => k = g) w w' ∧ ((ok && dayB (hd L)) = true → d = dayN (hd L)) := by
  have hlt := hR.lt
  have HN := Lib.hid (next_calls g L ok hL.1 w hR)
  have HG := Lib.hid (fun W (hF : Fr (fun k => k = g) w W) => (hG.fr hF (by omega) (fun k hk => by omega)).now)
  have HE : Hid (((ok && !L.isEmpty) && dayB (hd L)) = (ok && dayB (hd L))) := Lib.hid (by
    cases L with
    | nil =>
      have : dayB [] = false := by
        rw [Bool.eq_false_iff]
        intro h
        obtain ⟨d, hd1, hd2⟩ := (dayB_iff []).1 h
        have := (Vw.days_apart d d hd1 hd1).2
        rw [hd2] at this
        simp at this
      simp [hd, this]
    | cons x r => simp)
  have HLen : Hid ((hd L).length ≤ 1000000) := Lib.hid hL.hd
  rw [← HE.out]
  clear HE
  generalize hd L = x at *
  generalize (ok && !L.isEmpty) = ok' at *
  generalize L.tail = R at *
  clear hL hR hG hlt
  go_enter Tryz.func47, Tryz.ntmps47
  go_wp2_with fail
  refine HN.out.mono ?_
  rintro e w1 ⟨rfl, hR1, hF1⟩
  have HR1 := Lib.hid hR1
  have HF1 := Lib.hid hF1
  have HSp := Lib.hid (split_calls x HLen.out w1 (HG.out w1 hF1))
  clear hR1 hF1
  go_wp2_with fail
  refine HSp.out.mono ?_
  rintro e w2 ⟨rfl, hw2⟩
  have hal := (Below.refl w1.heap.size w1).alloc (Nat.le_refl _) (.cells ((cutC 45 x).map fun x => Value.string (str x)).toArray 9)
  have HWs : Hid (∀ (i : Nat) (y : List UInt8), (cutC 45 x)[i]? = some y → w2.cell? ⟨w1.heap.size, i, none⟩ = some (.string (str y))) := Lib.hid (fun i y hy => by
    have := (Blk.new w1 9 ((cutC 45 x).map fun x => Value.string (str x)).toArray).cell i
    rw [hw2, this]
    simp [hy])
  have HSz : Hid (w1.heap.size < w2.heap.size) := Lib.hid (by rw [hw2]; exact (Blk.new w1 9 _).lt)
  rw [← hw2] at hal
  have HR2 := Lib.hid (HR1.out.below hal)
  have HF2 := Lib.hid (HF1.out.trans (Fr.of hal))
  clear hal hw2
  obtain ⟨gs, hgs⟩ : ∃ gs, w1.heap.size = gs := ⟨_, rfl⟩
  rw [hgs] at HWs HSz
  rw [hgs]
  clear hgs
  have hbk := HR2.out
  obtain ⟨p, c, hb, _⟩ := hbk.lies
  have c1 : w2.cell? ⟨g, 1, none⟩ = some (.bool ok') := hb.cell 1
  have f1 := hb.frozen 1
  clear hb hbk
  by_cases q3 : (cutC 45 x).length = 3
  · rw [q3]
    obtain ⟨x0, x1, x2, hX⟩ : ∃ x0 x1 x2, cutC 45 x = [x0, x1, x2] := by
      match h : cutC 45 x, q3 with
      | [x0, x1, x2], _ => exact ⟨x0, x1, x2, rfl⟩
    have HX := Lib.hid hX
    have HB5 := Lib.hid (Blk.new w2 120 #[.int .i64 0, .int .i64 0, .int .i64 0])
    have hal := (Below.refl w2.heap.size w2).alloc (Nat.le_refl _) (.cells #[.int .i64 0, .int .i64 0, .int .i64 0] 120)
    have HBl := Lib.hid hal
    clear hX q3 hal c1 f1
    go_upto_region 8 with fail
    generalize w2.alloc (.cells #[.int .i64 0, .int .i64 0, .int .i64 0] 120) = w3 at *
    obtain ⟨g5, hg5⟩ : ∃ g5, w2.heap.size = g5 := ⟨_, rfl⟩
    have HG5 : Hid (g5 = w2.heap.size) := Lib.hid hg5.symm
    rw [hg5] at HB5 HBl
    rw [hg5]
    clear hg5
    go_loopw [22] (fun i wr => ∃ (k : Nat) (n0 n1 n2 : Int), k ≤ 3 ∧ i = .int .i64 (k : Int) ∧ Blk wr g5 120 #[.int .i64 n0, .int .i64 n1, .int .i64 n2] ∧ Below g5 w2 wr ∧ (1 ≤ k → ∀ v, atoiAll x0 = .ok v → n0 = v) ∧ (2 ≤ k → ∀ v, atoiAll x1 = .ok v → n1 = v) ∧ (3 ≤ k → ∀ v, atoiAll x2 = .ok v → n2 = v)) (fun i _ => 3 - (RowKit.intOf i).toNat)
    case atStart => exact ⟨0, 0, 0, 0, by decide, rfl, HB5.out, HBl.out, fun h => by omega, fun h => by omega, fun h => by omega⟩
    case round =>
      obtain ⟨k, n0, n1, n2, hk, rfl, hblk, hB, ha0, ha1, ha2⟩ := hrel
      have HBw := Lib.hid hB
      have HA0 := Lib.hid ha0
      have HA1 := Lib.hid ha1
      have HA2 := Lib.hid ha2
      clear ha0 ha1 ha2
      have hk4 : k = 0 ∨ k = 1 ∨ k = 2 ∨ k = 3 := by omega
      rcases hk4 with rfl | rfl | rfl | rfl
      · have e0 : ((0 : Nat) : Int) = 0 := rfl
        rw [e0]
        have HAt := Lib.hid (fun W (hF : Fr (fun k => k = g) w W) => atoi_calls x0 (Nat.le_trans (cutC_le 45 x x0 (by rw [HX.out]; simp)) HLen.out) W (HG.out W hF))
        have cs : wr.cell? ⟨gs, 0, none⟩ = some (.string (str x0)) := by
          have := HWs.out 0 x0 (by rw [HX.out]; rfl)
          rw [← this]
          exact hB.cell (show gs < g5 by rw [HG5.out]; exact HSz.out)
        have HFr := Lib.hid (hB.fr2 HF2.out HG5.out)
        clear hB
        go_wp2_with fail
        refine (HAt.out wr HFr.out).mono ?_
        rintro e w4 ⟨n, er, rfl, hn, hb4⟩
        have HBk4 := Lib.hid (Blk.below hblk hb4)
        have HB4 := Lib.hid (HBw.out.trans (hb4.mono (by rw [HG5.out]; exact HBw.out.size)))
        have cw : w4.cell? ⟨g5, 0, none⟩ = some (.int .i64 n0) := HBk4.out.cell 0
        have cf := HBk4.out.frozen 0
        have HNn := Lib.hid hn
        clear hb4 hn hblk
        go_wp2_with fail
        go_roundw
        case rel => exact ⟨1, n, n1, n2, by decide, rfl, HBk4.out.set_ 0 _, HB4.out.setCell (p := ⟨g5, 0, none⟩) (Nat.le_refl _) _, fun _ => HNn.out, fun h => by omega, fun h => by omega⟩
        case measure => simp [RowKit.intOf]
      · have e0 : ((1 : Nat) : Int) = 1 := rfl
        rw [e0]
        have HAt := Lib.hid (fun W (hF : Fr (fun k => k = g) w W) => atoi_calls x1 (Nat.le_trans (cutC_le 45 x x1 (by rw [HX.out]; simp)) HLen.out) W (HG.out W hF))
        have cs : wr.cell? ⟨gs, 1, none⟩ = some (.string (str x1)) := by
          have := HWs.out 1 x1 (by rw [HX.out]; rfl)
          rw [← this]
          exact hB.cell (show gs < g5 by rw [HG5.out]; exact HSz.out)
        have HFr := Lib.hid (hB.fr2 HF2.out HG5.out)
        clear hB
        go_wp2_with fail
        refine (HAt.out wr HFr.out).mono ?_
        rintro e w4 ⟨n, er, rfl, hn, hb4⟩
        have HBk4 := Lib.hid (Blk.below hblk hb4)
        have HB4 := Lib.hid (HBw.out.trans (hb4.mono (by rw [HG5.out]; exact HBw.out.size)))
        have cw : w4.cell? ⟨g5, 1, none⟩ = some (.int .i64 n1) := HBk4.out.cell 1
        have cf := HBk4.out.frozen 1
        have HNn := Lib.hid hn
        clear hb4 hn hblk
        go_wp2_with fail
        go_roundw
        case rel => exact ⟨2, n0, n, n2, by decide, rfl, HBk4.out.set_ 1 _, HB4.out.setCell (p := ⟨g5, 1, none⟩) (Nat.le_refl _) _, fun h => HA0.out (by omega), fun _ => HNn.out, fun h => by omega⟩
        case measure => simp [RowKit.intOf]
      · have e0 : ((2 : Nat) : Int) = 2 := rfl
        rw [e0]
        have HAt := Lib.hid (fun W (hF : Fr (fun k => k = g) w W) => atoi_calls x2 (Nat.le_trans (cutC_le 45 x x2 (by rw [HX.out]; simp)) HLen.out) W (HG.out W hF))
        have cs : wr.cell? ⟨gs, 2, none⟩ = some (.string (str x2)) := by
          have := HWs.out 2 x2 (by rw [HX.out]; rfl)
          rw [← this]
          exact hB.cell (show gs < g5 by rw [HG5.out]; exact HSz.out)
        have HFr := Lib.hid (hB.fr2 HF2.out HG5.out)
        clear hB
        go_wp2_with fail
        refine (HAt.out wr HFr.out).mono ?_
        rintro e w4 ⟨n, er, rfl, hn, hb4⟩
        have HBk4 := Lib.hid (Blk.below hblk hb4)
        have HB4 := Lib.hid (HBw.out.trans (hb4.mono (by rw [HG5.out]; exact HBw.out.size)))
        have cw : w4.cell? ⟨g5, 2, none⟩ = some (.int .i64 n2) := HBk4.out.cell 2
        have cf := HBk4.out.frozen 2
        have HNn := Lib.hid hn
        clear hb4 hn hblk
        go_wp2_with fail
        go_roundw
        case rel => exact ⟨3, n0, n1, n, by decide, rfl, HBk4.out.set_ 2 _, HB4.out.setCell (p := ⟨g5, 2, none⟩) (Nat.le_refl _) _, fun h => HA0.out (by omega), fun h => HA1.out (by omega), fun _ => HNn.out⟩
        case measure => simp [RowKit.intOf]
      · have e0 : ((3 : Nat) : Int) = 3 := rfl
        rw [e0]
        have HFr := Lib.hid (hB.fr2 HF2.out HG5.out)
        have HRr : Hid (Rd wr g R ok') := Lib.hid (HR2.out.below (by rw [← HG5.out]; exact hB))
        have hbk := HRr.out
        obtain ⟨p, c, hb, _⟩ := hbk.lies
        have c1 : wr.cell? ⟨g, 1, none⟩ = some (.bool ok') := hb.cell 1
        have f1 := hb.frozen 1
        have t0 : wr.cell? ⟨g5, 0, none⟩ = some (.int .i64 n0) := hblk.cell 0
        have t1 : wr.cell? ⟨g5, 1, none⟩ = some (.int .i64 n1) := hblk.cell 1
        have t2 : wr.cell? ⟨g5, 2, none⟩ = some (.int .i64 n2) := hblk.cell 2
        have HK := Lib.hid (day_key HX.out (HA0.out (by omega)) (HA1.out (by omega)) (HA2.out (by omega)))
        have HRg := Lib.hid (dnum_range n0 n1 n2)
        have HOf := Lib.hid (ofD_calls n0 n1 n2 wr)
        have HDy := Lib.hid (fun n => Vw.vday_calls n wr (HG.out wr HFr.out).tab)
        clear hb hbk hblk hB
        go_wp2_with fail
        refine HOf.out.mono ?_
        rintro e w4 ⟨rfl, rfl⟩
        rcases Bool.eq_false_or_eq_true (okD n0 n1 n2) with o1 | o1
        · rw [o1, if_pos rfl]
          have hrg := HRg.out o1
          generalize dnum n0 n1 n2 = D at *
          cases ok' with
          | false =>
            go_wp2_with fail
            go_ret
            exact ⟨_, rfl, by rw [Bool.false_and]; exact HRr.out.setOk false, HFr.out.trans (Fr.set (P := fun k => k = g) w4 rfl 1 _), fun h => by cases h⟩
          | true =>
            by_cases q : dayL D = x
            · have HYes : Hid (dayB x = true ∧ dayN x = D) := Lib.hid (by rw [← q]; exact dayN_of hrg)
              have d2 : ((str (dayL D)).toList == (str x).toList) = true := by rw [beq_str]; exact decide_eq_true q
              have d3 : (dayL D == x) = true := by simpa using q
              clear q
              go_wp2_with fail
              refine (HDy.out D).mono ?_
              rintro e w5 ⟨rfl, hb5⟩
              have HR5 := Lib.hid (HRr.out.below hb5)
              have HF5 := Lib.hid (HFr.out.trans (Fr.of hb5))
              have hbk := HR5.out
              obtain ⟨p, c, hb, _⟩ := hbk.lies
              have c5 : w5.cell? ⟨g, 1, none⟩ = some (.bool true) := hb.cell 1
              have f5 := hb.frozen 1
              clear hb hbk hb5
              go_wp2_with fail
              go_ret
              exact ⟨_, rfl, by rw [Bool.true_and, HYes.out.1]; exact HR5.out.setOk true, HF5.out.trans (Fr.set (P := fun k => k = g) w5 rfl 1 _), fun _ => HYes.out.2.symm⟩
            · have HNo : Hid (dayB x = false) := Lib.hid (Bool.eq_false_iff.2 fun h => q (HK.out h).2)
              have d2 : ((str (dayL D)).toList == (str x).toList) = false := by rw [beq_str]; exact decide_eq_false q
              have d3 : (dayL D == x) = false := by simpa using q
              clear q
              go_wp2_with fail
              refine (HDy.out D).mono ?_
              rintro e w5 ⟨rfl, hb5⟩
              have HR5 := Lib.hid (HRr.out.below hb5)
              have HF5 := Lib.hid (HFr.out.trans (Fr.of hb5))
              have hbk := HR5.out
              obtain ⟨p, c, hb, _⟩ := hbk.lies
              have c5 : w5.cell? ⟨g, 1, none⟩ = some (.bool true) := hb.cell 1
              have f5 := hb.frozen 1
              clear hb hbk hb5
              go_wp2_with fail
              go_ret
              exact ⟨_, rfl, by rw [Bool.true_and, HNo.out]; exact HR5.out.setOk false, HF5.out.trans (Fr.set (P := fun k => k = g) w5 rfl 1 _), fun h => by rw [Bool.true_and, HNo.out] at h; cases h⟩
        · rw [o1, if_neg (by decide)]
          have HNo : Hid (dayB x = false) := Lib.hid (Bool.eq_false_iff.2 fun h => by rw [(HK.out h).1] at o1; cases o1)
          cases ok' with
          | false =>
            go_wp2_with fail
            go_ret
            exact ⟨_, rfl, by rw [Bool.false_and]; exact HRr.out.setOk false, HFr.out.trans (Fr.set (P := fun k => k = g) w4 rfl 1 _), fun h => by cases h⟩
          | true =>
            go_wp2_with fail
            go_ret
            exact ⟨_, rfl, by rw [Bool.true_and, HNo.out]; exact HRr.out.setOk false, HFr.out.trans (Fr.set (P := fun k => k = g) w4 rfl 1 _), fun h => by rw [Bool.true_and, HNo.out] at h; cases h⟩
  · have HNo : Hid (dayB x = false) := Lib.hid (by
      rw [Bool.eq_false_iff]
      intro h
      obtain ⟨d, hd1, hd2⟩ := (dayB_iff x).1 h
      obtain ⟨y, m, t, h3, _⟩ := dayL_cut hd1
      rw [hd2] at h3
      exact q3 (by rw [h3]; rfl))
    generalize (cutC 45 x).length = n3 at *
    have q3' : ¬ ((n3 : Int) = 3) := by omega
    go_wp2_with fail
    go_ret
    exact ⟨_, rfl, by rw [HNo.out, Bool.and_false]; exact HR2.out.setOk false, HF2.out.trans (Fr.set (P := fun k => k = g) w2 rfl 1 _), fun h => by rw [HNo.out, Bool.and_false] at h; cases h⟩
end Go.Proofs.YtkcjgmicoifhcaaGreatDoor.Cn

/- A0: Rows of texts that grow (View's, at this program). -/
namespace Go.Proofs.YtkcjgmicoifhcaaGreatDoor.Cn
open Go.RowKit Go.Sort Go.Lib Go.Shelf
open Vw (Tab str Blk)

theorem info9 : (Tryz.prog.info? 9).map (fun i => (i.zero, i.size, i.bytes)) = some (some (.string ⟨#[]⟩), 1, 16) := by kernel_rfl
theorem own_build (w : World) (v : Value) : (w.alloc (.cells #[v] 9)).ownsRow w.heap.size 9 1 (.slice (some ⟨w.heap.size, 0, none⟩) 1 1) 1 [v] :=
  ⟨rfl, .inr ⟨w.heap.size, 1, #[v], rfl, Nat.le_refl _, heap_alloc_new w _, Nat.le_refl _, by unfold maxLen; omega, rfl, rfl⟩⟩
theorem own_below {w w1 : World} {base : Nat} {e : TypeId} {size : Nat} {v : Value} {n : Nat} {xs : List Value} (h : w.ownsRow base e size v n xs) (hb : Below w.heap.size w w1) : w1.ownsRow base e size v n xs := by
  refine ⟨h.1, ?_⟩
  rcases h.2 with hn | ⟨g, cap, cur, rfl, h1, h2, h3⟩
  · exact .inl hn
  · exact .inr ⟨g, cap, cur, rfl, h1, (hb.block g (Array.getElem?_eq_some_iff.1 h2).1).trans h2, h3⟩
theorem app_str (base : Nat) (v : Value) (n : Nat) (xs : List Value) (g : Nat) (l : List UInt8) (W : World) (HO : W.ownsRow base 9 1 v n xs) (HR : W.cell? ⟨g, 0, none⟩ = some (.string (str l))) (hbase : base ≤ W.heap.size) (hl : n ≤ 1000000) :
    ∃ v1 w1, (∀ ty, (Builtin.append_ #[36, 36] ty #[v, .slice (some ⟨g, 0, none⟩) 1 1]).run Tryz.prog W = .ok v1 w1) ∧ w1.ownsRow base 9 1 v1 (n + 1) (xs ++ [.string (str l)]) ∧ Below base W w1 := by
  obtain ⟨i0, hi, hz0, hz1, hz2⟩ := info_parts info9
  obtain ⟨v1, w1, hrun, ho, hg, _⟩ := run_append_own (P := Tryz.prog) W base 36 36 9 i0 _ 1 16 Tryz.underlying36 hi hz0 hz1 hz2 rfl (by decide) v n xs HO ⟨g, 0, none⟩ 1 1 [.string (str l)] rfl
    (by intro j u hu; match j, hu with
        | 0, hu => simp at hu; subst hu; exact HR
        | j + 1, hu => simp at hu) (by intro u hu; simp at hu; subst hu; rfl)
    (by unfold maxLen; omega) (by omega) hbase
  exact ⟨v1, w1, fun ty => hrun, ho, Below.grown (Below.refl _ _) hg hbase fun k hk => (HO.lt k hk).1⟩
theorem step_append_run {ops : Array Oper} {o : Oper} {a : Act} {K : Act → World → Prop} {Q : Exit → Act → World → Prop} {E : Prop} {W : World} {F : Value → World → Prop} (hgd : o.guard = none) (s x : Operand) (t : TypeId)
    (ho : o.op = .call { callee := .builtin .append, args := #[s, x], argTypes := #[t, t] }) (vs vx : Value) (hs : a.eval s = vs) (hx : a.eval x = vx)
    (hex : ∃ v1 w1, (∀ ty, (Builtin.append_ #[t, t] ty #[vs, vx]).run Tryz.prog W = .ok v1 w1) ∧ F v1 w1) (h : ∀ v1 w1, F v1 w1 → K (a.put o.dst v1) w1) :
    if Region.wanted o (yielded ops a.tmps) = true then Oper.wp Tryz.prog o a W K Q else E := by
  have hw : Region.wanted o (yielded ops a.tmps) = true := by simp [Region.wanted, hgd]
  rw [if_pos hw]
  obtain ⟨v1, w1, hrun, hF⟩ := hex
  unfold Oper.wp execOp
  simp only [ho, resolve, invoke, builtin, Sem.run_bind, Sem.run_pure, Result.andThen_ok, List.map_toArray, List.map_cons, List.map_nil, hs, hx, hrun]
  exact h _ _ hF
theorem wpList_append_run {ops : Array Oper} {rest : List Oper} {o : Oper} {a : Act} {Q : Exit → Act → World → Prop} {W : World} {F : Value → World → Prop} (hgd : o.guard = none) (s x : Operand) (t : TypeId)
    (ho : o.op = .call { callee := .builtin .append, args := #[s, x], argTypes := #[t, t] }) (vs vx : Value) (hs : a.eval s = vs) (hx : a.eval x = vx)
    (hex : ∃ v1 w1, (∀ ty, (Builtin.append_ #[t, t] ty #[vs, vx]).run Tryz.prog W = .ok v1 w1) ∧ F v1 w1) (h : ∀ v1 w1, F v1 w1 → wpList Tryz.prog ops Q rest (a.put o.dst v1) w1) :
    wpList Tryz.prog ops Q (o :: rest) a W := wpList_plain hgd fun _ hK => by
  obtain ⟨v1, w1, hrun, hF⟩ := hex
  unfold Oper.wp execOp
  simp only [ho, resolve, invoke, builtin, Sem.run_bind, Sem.run_pure, Result.andThen_ok, List.map_toArray, List.map_cons, List.map_nil, hs, hx, hrun]
  exact hK _ _ (h _ _ hF)
end Go.Proofs.YtkcjgmicoifhcaaGreatDoor.Cn

/- C8: console.cut: a line cut at each blank. -/
namespace Go.Proofs.YtkcjgmicoifhcaaGreatDoor.Cn
open Go.RowKit Go.Sort Go.Lib Go.Shelf
open Vw (Tab str Blk)
attribute [local go_sem ↓] Go.wp_at_zero Go.wp_at_succ

/-- Behind a first byte of a rune of many come bytes that are no letters. -/
theorem decode_cont (s : ByteArray) (pos : Nat) (h : pos < s.size) (ha : 128 ≤ (s[pos]'h).toNat) : ∀ k, k < (Utf8.decode s pos).2 → pos + k < s.size ∧ ∀ h2 : pos + k < s.size, 128 ≤ (s[pos + k]'h2).toNat := by
  have g0 : ∀ k (h2 : pos + k < s.size), s.get! (pos + k) = s[pos + k]'h2 := fun k h2 => by
    show s.get! (pos + k) = _
    simp [ByteArray.get!, getElem!_pos, h2]
    rfl
  have e0 := get_at s pos h
  have hn : ¬ (s[pos]'h).toNat < 128 := by omega
  have key : ∀ k, (decide (pos + k < s.size) && (s.get! (pos + k)).toNat / 64 == 2) = true → pos + k < s.size ∧ ∀ h2 : pos + k < s.size, 128 ≤ (s[pos + k]'h2).toNat := by
    intro k hk
    rw [Bool.and_eq_true, decide_eq_true_eq, beq_iff_eq] at hk
    refine ⟨hk.1, fun h2 => ?_⟩
    rw [g0 k h2] at hk
    omega
  have z : pos + 0 < s.size ∧ ∀ h2 : pos + 0 < s.size, 128 ≤ (s[pos + 0]'h2).toNat := ⟨h, fun _ => ha⟩
  intro k hk
  simp only [Utf8.decode, e0, hn, if_false] at hk
  split at hk
  · rename_i hc
    rw [Bool.and_eq_true] at hc
    have : k = 0 ∨ k = 1 := by split at hk <;> simp at hk <;> omega
    rcases this with rfl | rfl
    · exact z
    · exact key 1 hc.2
  · split at hk
    · rename_i hc
      rw [Bool.and_eq_true, Bool.and_eq_true] at hc
      have : k = 0 ∨ k = 1 ∨ k = 2 := by split at hk <;> simp at hk <;> omega
      rcases this with rfl | rfl | rfl
      · exact z
      · exact key 1 hc.1.2
      · exact key 2 hc.2
    · split at hk
      · rename_i hc
        rw [Bool.and_eq_true, Bool.and_eq_true, Bool.and_eq_true] at hc
        have : k = 0 ∨ k = 1 ∨ k = 2 ∨ k = 3 := by split at hk <;> simp at hk <;> omega
        rcases this with rfl | rfl | rfl | rfl
        · exact z
        · exact key 1 hc.1.1.2
        · exact key 2 hc.1.2
        · exact key 3 hc.2
      · simp at hk
        obtain rfl : k = 0 := by omega
        exact z
theorem str_get (l : List UInt8) (k : Nat) (h : k < (str l).size) : (str l)[k]'h = l[k]'(by rw [Vw.str_size] at h; exact h) := rfl
theorem str_extract (l : List UInt8) (a b : Nat) : (str l).extract a b = str ((l.drop a).take (b - a)) := by
  have h : ((str l).extract a b).data.toList = (l.drop a).take (b - a) := by
    rw [Lib.extract_data]
  obtain ⟨⟨e⟩⟩ : ∃ e, (str l).extract a b = e := ⟨_, rfl⟩
  have : ((str l).extract a b) = ⟨((str l).extract a b).data.toList.toArray⟩ := by
    cases (str l).extract a b
    rfl
  rw [this, h]
/-- One rune on: what was passed holds no blank, or is one. -/
theorem rune_step (l : List UInt8) (pos : Nat) (h : pos < l.length) :
    ((Utf8.decode (str l) pos).1 = 32 → l[pos]? = some 32 ∧ (Utf8.decode (str l) pos).2 = 1) ∧
    ((Utf8.decode (str l) pos).1 ≠ 32 → 1 ≤ (Utf8.decode (str l) pos).2 ∧ pos + (Utf8.decode (str l) pos).2 ≤ l.length ∧ (32 : UInt8) ∉ (l.drop pos).take (Utf8.decode (str l) pos).2) := by
  have hs : (str l).size = l.length := Vw.str_size l
  have h' : pos < (str l).size := by omega
  by_cases ha : ((str l)[pos]'h').toNat < 128
  · rw [decode_ascii (str l) pos h' ha]
    have e : (str l)[pos]'h' = l[pos] := rfl
    rw [e]
    constructor
    · intro h1
      refine ⟨?_, rfl⟩
      rw [List.getElem?_eq_getElem h]
      congr 1
      exact UInt8.toNat_inj.1 h1
    · intro h1
      refine ⟨Nat.le_refl _, by omega, ?_⟩
      rw [List.drop_eq_getElem_cons h]
      simp only [List.take_succ_cons, List.take_zero, List.mem_singleton]
      intro e2
      exact h1 (by simp only; rw [← e2]; rfl)
  · have hh := decode_high (str l) pos h' (by omega)
    have hc := decode_cont (str l) pos h' (by omega)
    constructor
    · intro h1; omega
    · intro _
      have hlast := hc ((Utf8.decode (str l) pos).2 - 1) (by omega)
      refine ⟨hh.2, by omega, ?_⟩
      intro hm
      obtain ⟨k, hk, he⟩ := List.mem_iff_getElem.1 hm
      rw [List.length_take, List.length_drop] at hk
      have h2 := (hc k (by omega)).2 (by omega)
      rw [str_get] at h2
      rw [List.getElem_take, List.getElem_drop] at he
      rw [he] at h2
      exact absurd h2 (by decide)
theorem own_iterAt {w : World} {base : Nat} {e : TypeId} {size : Nat} {v : Value} {n : Nat} {xs : List Value} (h : w.ownsRow base e size v n xs) {k : Nat} {s : ByteArray} {pos : Nat} (hk : w.heap[k]? = some (.stringIter s pos)) (pos' : Nat) : (w.iterAt k s pos').ownsRow base e size v n xs := by
  refine ⟨h.1, ?_⟩
  rcases h.2 with hn | ⟨g, cap, cur, rfl, h1, h2, h3⟩
  · exact .inl hn
  · refine .inr ⟨g, cap, cur, rfl, h1, ?_, h3⟩
    rw [Lib.iterAt_other w k g s pos' (by rintro rfl; rw [hk] at h2; cases h2)]
    exact h2
/-- A row of the call's own is words in memory. -/
theorem ws_own {w : World} {base : Nat} {v : Value} {n : Nat} {L : List (List UInt8)} (hn : n = L.length) (h : w.ownsRow base 9 1 v n (L.map fun x => Value.string (str x))) : ∃ p c, v = .slice p L.length c ∧ Ws w w.heap.size p L c := by
  subst hn
  rcases h.2 with ⟨rfl, h0⟩ | ⟨g, cap, cur, rfl, _, hg, hnc, _, hcs, htk⟩
  · have h2 : L = [] := by simpa using h0
    subst h2
    exact ⟨none, 0, rfl, Nat.le_refl _, .inl rfl⟩
  · have hlt : g < w.heap.size := (Array.getElem?_eq_some_iff.1 hg).1
    refine ⟨_, cap, rfl, hnc, .inr ⟨g, 0, rfl, hlt, hlt, fun i x hx => ?_⟩⟩
    have hil : i < L.length := (List.getElem?_eq_some_iff.1 hx).1
    rw [Nat.zero_add, cell_of_row w g _ cur 9 (0, 0) hg]
    have := congrArg (fun l => l[i]?) htk
    simp only [Nat.mul_one] at this
    rw [List.getElem?_take_of_lt hil, List.getElem?_map, hx] at this
    rw [← Array.getElem?_toList]
    exact this
end Go.Proofs.YtkcjgmicoifhcaaGreatDoor.Cn

/- C9: console.cut walked. -/
namespace Go.Proofs.YtkcjgmicoifhcaaGreatDoor.Cn
open Go.RowKit Go.Sort Go.Lib Go.Shelf
open Vw (Tab str Blk)
attribute [local go_sem ↓] Go.wp_at_zero Go.wp_at_succ

/-- Words as cells. -/
def sv (x : List UInt8) : Value := .string (str x)
theorem drop_split (l : List UInt8) (f pos : Nat) (hf : f ≤ pos) (hp : l[pos]? = some 32) : l.drop f = (l.drop f).take (pos - f) ++ 32 :: l.drop (pos + 1) := by
  obtain ⟨hlt, he⟩ := List.getElem?_eq_some_iff.1 hp
  have h1 := (List.take_append_drop (pos - f) (l.drop f)).symm
  rw [List.drop_drop, show f + (pos - f) = pos by omega, List.drop_eq_getElem_cons hlt, he] at h1
  exact h1
theorem take_more (l : List UInt8) (f pos n : Nat) (hf : f ≤ pos) (h1 : (32 : UInt8) ∉ (l.drop f).take (pos - f)) (h2 : (32 : UInt8) ∉ (l.drop pos).take n) : (32 : UInt8) ∉ (l.drop f).take (pos + n - f) := by
  rw [show pos + n - f = (pos - f) + n by omega, List.take_add, List.drop_drop, show f + (pos - f) = pos by omega, List.mem_append]
  exact fun h => h.elim h1 h2
set_option maxRecDepth 20000 in
set_option maxHeartbeats 8000000 in
theorem cut_calls (l : List UInt8) (hl : l.length ≤ 1000000) (w : World) :
    Calls Tryz.prog 21 #[.string (str l)] w fun e w' => (∃ p c, e = .returned (.slice p (cutC 32 l).length c) ∧ Ws w' w'.heap.size p (cutC 32 l) c) ∧ Below w.heap.size w w' := by
  have hs : (str l).size = l.length := Vw.str_size l
  have HSz := Lib.hid hs
  have hsI : (((str l).size : Nat) : Int) = (l.length : Int) := by omega
  obtain ⟨gi, hgi⟩ : ∃ gi, w.heap.size = gi := ⟨_, rfl⟩
  have HGi := Lib.hid hgi
  have HLl := Lib.hid hl
  go_enter Tryz.func21, Tryz.ntmps21
  go_wp2_with fail
  clear hgi hs
  go_loopw [3, 4] (fun v fv wr => ∃ (pos f : Nat) (acc : List (List UInt8)), fv = .int .i64 (f : Int) ∧ f ≤ pos ∧ pos ≤ l.length ∧ wr.heap[gi]? = some (.stringIter (str l) pos) ∧ wr.ownsRow (gi + 1) 9 1 v acc.length (acc.map sv) ∧ Below gi w wr ∧ Hid (acc ++ cutC 32 (l.drop f) = cutC 32 l ∧ (32 : UInt8) ∉ (l.drop f).take (pos - f) ∧ acc.length ≤ f)) (fun _ _ wr => l.length - wr.iterPos gi)
  case atStart => exact ⟨0, 0, [], rfl, Nat.le_refl _, Nat.zero_le _, by rw [← HGi.out]; exact World.iter_heap w (str l) 0, World.ownsRow_nil _ _ _ _, by rw [← HGi.out]; exact (Below.refl _ w).alloc (Nat.le_refl _) _, by simp, by simp, Nat.zero_le _⟩
  case round =>
    obtain ⟨pos, f, acc, rfl, hfp, hpl, hit, hown, hB, hh⟩ := hrel
    obtain ⟨hacc, hno, hal⟩ := hh.out
    have HO := Lib.hid hown
    have HB := Lib.hid hB
    have hgw : gi < wr.heap.size := (Array.getElem?_eq_some_iff.1 hit).1
    by_cases hp : pos < l.length
    · have hnx : ∀ ty, (Instr.next (.pointer (some ⟨gi, 0, none⟩)) true ty).run Tryz.prog wr = _ := fun ty => Lib.run_next_any_at wr gi (str l) pos ty hit (by rw [HSz.out]; exact hp)
      obtain ⟨st1, st2⟩ := rune_step l pos hp
      have HO2 := Lib.hid (own_iterAt hown hit (pos + (Utf8.decode (str l) pos).2))
      have HI2 := Lib.hid (Lib.iterAt_heap wr gi (str l) pos (pos + (Utf8.decode (str l) pos).2) hit)
      have HB2 := Lib.hid (Lib.below_iterAt hB (k := gi) (Nat.le_refl _) (str l) (pos + (Utf8.decode (str l) pos).2))
      have HG2 : Hid (gi + 1 ≤ (wr.iterAt gi (str l) (pos + (Utf8.decode (str l) pos).2)).heap.size) := Lib.hid (by rw [Lib.iterAt_size]; exact hgw)
      have HIP : Hid (wr.iterPos gi = pos) := Lib.hid (by simp [World.iterPos, hit])
      generalize (Utf8.decode (str l) pos).1 = rn at *
      generalize (Utf8.decode (str l) pos).2 = wd at *
      by_cases h32 : rn = 32
      · obtain ⟨hb, hw1⟩ := st1 h32
        subst h32
        have HNx : Hid ((acc ++ [(l.drop f).take (pos - f)]) ++ cutC 32 (l.drop (pos + 1)) = cutC 32 l ∧ (32 : UInt8) ∉ (l.drop (pos + 1)).take (pos + wd - (pos + 1)) ∧ (acc ++ [(l.drop f).take (pos - f)]).length ≤ pos + 1) := Lib.hid ⟨by
            rw [← hacc, List.append_assoc]
            congr 1
            conv => rhs; rw [drop_split l f pos hfp hb]
            rw [cutC_app 32 _ _ hno]
            rfl, by rw [hw1]; simp, by rw [List.length_append]; simp; omega⟩
        have hfI : (f : Int) ≤ (pos : Int) := by omega
        have hpI : (pos : Int) ≤ (l.length : Int) := by omega
        generalize hW2 : wr.iterAt gi (str l) (pos + wd) = W2 at *
        have hal2 := (Below.refl W2.heap.size W2).alloc (Nat.le_refl _) (.cells #[.string ((str l).extract f pos)] 9)
        have HA : Hid (∃ v1 w1, (∀ ty, (Builtin.append_ #[36, 36] ty #[u3, .slice (some ⟨W2.heap.size, 0, none⟩) 1 1]).run Tryz.prog (W2.alloc (.cells #[.string ((str l).extract f pos)] 9)) = .ok v1 w1) ∧ w1.ownsRow (gi + 1) 9 1 v1 (acc.length + 1) (acc.map sv ++ [.string (str ((l.drop f).take (pos - f)))]) ∧ Below (gi + 1) (W2.alloc (.cells #[.string ((str l).extract f pos)] 9)) w1) := Lib.hid (by
          have hc := (Blk.new W2 9 #[.string ((str l).extract f pos)]).cell 0
          rw [str_extract] at hc ⊢
          exact app_str (gi + 1) u3 acc.length (acc.map sv) W2.heap.size _ _ (own_below HO2.out (by rw [← str_extract]; exact hal2)) hc (Nat.le_trans HG2.out (by rw [← str_extract]; exact hal2.size)) (by have := HLl.out; omega))
        have HAl := Lib.hid hal2
        clear hh hacc hno hal hit hown hB st1 st2 hb hgw hal2
        go_wp2_with (at_builtin; refine Hid.out ?_)
        refine Lib.hid ?_
        refine wpList_append_run rfl (.tmp 15) (.tmp 20) 36 rfl _ _ rfl rfl HA.out ?_
        rintro v1 w5 ⟨f1, f2⟩
        have HO5 := Lib.hid f1
        have HB5 := Lib.hid (HB2.out.trans ((HAl.out.mono (Nat.le_of_succ_le HG2.out)).trans (f2.mono (Nat.le_succ gi))))
        have HI5 : Hid (w5.heap[gi]? = some (.stringIter (str l) (pos + wd))) := Lib.hid (by rw [f2.block gi (Nat.lt_succ_self gi), HAl.out.block gi (Nat.lt_of_succ_le HG2.out)]; exact HI2.out)
        clear f1 f2
        go_wp2_with fail
        go_roundw
        case rel => exact ⟨pos + wd, pos + 1, acc ++ [(l.drop f).take (pos - f)], by go_num, by omega, by omega, HI5.out, by rw [List.length_append, List.map_append]; exact HO5.out, HB5.out, HNx.out⟩
        case measure =>
          show l.length - w5.iterPos gi < l.length - wr.iterPos gi
          have e2 : w5.iterPos gi = pos + wd := by simp [World.iterPos, HI5.out]
          rw [HIP.out, e2]
          omega
      · obtain ⟨hw1, hw2, hw3⟩ := st2 h32
        have HNx : Hid (acc ++ cutC 32 (l.drop f) = cutC 32 l ∧ (32 : UInt8) ∉ (l.drop f).take (pos + wd - f) ∧ acc.length ≤ f) := Lib.hid ⟨hacc, take_more l f pos wd hfp hno hw3, hal⟩
        have h32' : ¬ ((rn : Int) = 32) := by omega
        generalize hW2 : wr.iterAt gi (str l) (pos + wd) = W2 at *
        clear hh hacc hno hal hit hown hB st1 st2 hgw hw3
        go_wp2_with fail
        go_roundw
        case rel => exact ⟨pos + wd, f, acc, rfl, by omega, by omega, HI2.out, HO2.out, HB2.out, HNx.out⟩
        case measure =>
          show l.length - W2.iterPos gi < l.length - wr.iterPos gi
          have e2 : W2.iterPos gi = pos + wd := by simp [World.iterPos, HI2.out]
          rw [HIP.out, e2]
          omega
    · have hnx : ∀ ty, (Instr.next (.pointer (some ⟨gi, 0, none⟩)) true ty).run Tryz.prog wr = _ := fun ty => Lib.run_next_end_at wr gi (str l) pos ty hit (by rw [HSz.out]; exact hp)
      obtain rfl : pos = l.length := by omega
      have hlast : (32 : UInt8) ∉ l.drop f := by
        rw [List.take_of_length_le (by rw [List.length_drop]; exact Nat.le_refl _)] at hno
        exact hno
      have HRes : Hid (acc ++ [l.drop f] = cutC 32 l) := Lib.hid (by rw [← hacc, cutC_none 32 _ hlast])
      have hfI : (f : Int) ≤ (l.length : Int) := by omega
      have hal2 := (Below.refl wr.heap.size wr).alloc (Nat.le_refl _) (.cells #[.string ((str l).extract f l.length)] 9)
      have HA : Hid (∃ v1 w1, (∀ ty, (Builtin.append_ #[36, 36] ty #[u3, .slice (some ⟨wr.heap.size, 0, none⟩) 1 1]).run Tryz.prog (wr.alloc (.cells #[.string ((str l).extract f l.length)] 9)) = .ok v1 w1) ∧ w1.ownsRow (gi + 1) 9 1 v1 (acc.length + 1) (acc.map sv ++ [.string (str (l.drop f))]) ∧ Below (gi + 1) (wr.alloc (.cells #[.string ((str l).extract f l.length)] 9)) w1) := Lib.hid (by
        have hc := (Blk.new wr 9 #[.string ((str l).extract f l.length)]).cell 0
        have e : (str l).extract f l.length = str (l.drop f) := by
          rw [str_extract, List.take_of_length_le (by rw [List.length_drop]; exact Nat.le_refl _)]
        rw [e] at hc hal2 ⊢
        exact app_str (gi + 1) u3 acc.length (acc.map sv) wr.heap.size _ _ (own_below hown hal2) hc (Nat.le_trans (Nat.succ_le_of_lt hgw) hal2.size) (by have := HLl.out; omega))
      have HAl := Lib.hid hal2
      have HG2 : Hid (gi + 1 ≤ wr.heap.size) := Lib.hid (Nat.succ_le_of_lt hgw)
      clear hh hacc hno hal hit hown hB hgw hal2 hlast
      go_wp2_with (at_builtin; refine Hid.out ?_)
      refine Lib.hid ?_
      refine wpList_append_run rfl (.tmp 24) (.tmp 28) 36 rfl _ _ rfl rfl HA.out ?_
      rintro v1 w5 ⟨f1, f2⟩
      have HB5 := Lib.hid (HB.out.trans ((HAl.out.mono (Nat.le_of_succ_le HG2.out)).trans (f2.mono (Nat.le_succ gi))))
      obtain ⟨pp, cc, rfl, hws⟩ := ws_own (L := acc ++ [l.drop f]) (by rw [List.length_append, List.length_singleton]) (by rw [List.map_append]; exact f1)
      have HWs := Lib.hid hws
      clear f1 f2 hws
      go_wp2_with fail
      go_ret
      exact ⟨⟨pp, cc, by rw [← HRes.out, List.length_append]; rfl, by rw [← HRes.out]; exact HWs.out⟩, by rw [HGi.out]; exact HB5.out⟩
end Go.Proofs.YtkcjgmicoifhcaaGreatDoor.Cn
