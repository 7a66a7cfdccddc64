/- Texts joined: C5 V22 C6 P2 V17 V19. -/
import Derived.Test.YtkcjgmicoifhcaaGreatDoorM6
import Derived.Test.YtkcjgmicoifhcaaGreatDoorM0
import Derived.Test.YtkcjgmicoifhcaaGreatDoorM5
import Derived.Lib.Split
import Derived.Lib.AtoiAll

/- C5: The reader's numbers with a point. (Printed by gen_c5.py.) -/
namespace Go.Proofs.YtkcjgmicoifhcaaGreatDoor.Cn
open Go.RowKit Go.Sort Go.Lib Go.Shelf
open Vw (Tab str Blk)
attribute [local go_sem ↓] Go.wp_at_zero Go.wp_at_succ

open Re in
theorem of_calls (u : Int) (w : World) : Calls Tryz.prog 124 #[.int .u64 u] w fun e w' => e = .returned (.tuple #[.float .f64 (ofN u), .bool (ofB u)]) ∧ w' = w := by
  have HG := Lib.hid (good_calls u.toNat w)
  have HB := Lib.hid (bits_calls u.toNat w)
  have h2 := frombits_run
  go_enter Tryz.func124, Tryz.ntmps124
  go_wp2_with fail
  refine HG.out.mono ?_
  rintro e w1 ⟨rfl, rfl⟩
  rcases Bool.eq_false_or_eq_true (goodR u.toNat) with e1 | e1
  · rw [e1]
    go_wp2_with fail
    refine HB.out.mono ?_
    rintro e w2 ⟨rfl, rfl⟩
    by_cases hu : bitsN u.toNat = u
    · obtain ⟨h3, h4⟩ := of_yes e1 hu
      have hb : (bitsN u.toNat != u) = false := by simpa using hu
      go_wp2_with fail
      go_ret2
      exact ⟨by rw [h3, h4]; rfl, rfl⟩
    · obtain ⟨h3, h4⟩ := of_no (.inr hu)
      have hb : (bitsN u.toNat != u) = true := by simpa using hu
      go_wp2_with fail
      go_ret2
      exact ⟨by rw [h3, h4]; rfl, rfl⟩
  · rw [e1]
    obtain ⟨h3, h4⟩ := of_no (.inl e1)
    go_wp2_with fail
    go_ret2
    exact ⟨by rw [h3, h4]; rfl, rfl⟩
/-- A hexadecimal numeral's end. -/
def hexP (l : List UInt8) : NumEnd Nat := if l = [] then NumEnd.syntax else hexU 0 l
theorem hexU_lt (l : List UInt8) : ∀ acc u, acc < 18446744073709551616 → hexU acc l = .ok u → u < 18446744073709551616 := by
  induction l with
  | nil => intro acc u h hu; simp only [hexU] at hu; injection hu with hu; omega
  | cons c r ih =>
    intro acc u h hu
    simp only [hexU] at hu
    split at hu
    · cases hu
    · rename_i d hd
      split at hu
      · cases hu
      · refine ih _ u ?_ hu
        have : d < 16 := by
          unfold hexD at hd
          split at hd
          · injection hd with hd; omega
          · split at hd
            · injection hd with hd; omega
            · cases hd
        omega
set_option maxRecDepth 20000 in
theorem pu16_calls (l : List UInt8) (hl : l.length ≤ 1000000) (w : World) (hg : Gl w) :
    Calls Tryz.prog 123 #[.string (str l), .int .i64 16, .int .i64 64] w fun e w' => ∃ (n : Int) (er : Value), 0 ≤ n ∧ n < 18446744073709551616 ∧ e = .returned (.tuple #[.int .u64 n, er]) ∧ ErrV (okE (hexP l)) er ∧ (∀ u : Nat, hexP l = .ok u → n = u) ∧ Below w.heap.size w w' := by
  have hs : (str l).size = l.length := Vw.str_size l
  have HI : Hid (Calls Tryz.prog 144 #[.string (str l), .int .i64 16, .int .i64 64] w fun e w' => e = .returned (Lib.uintTuple 174 (hexP l)) ∧ Below w.heap.size w w') := Lib.hid (by
    unfold hexP
    split
    · rename_i h0
      subst h0
      exact (Tryz.internal_strconv_ParseUint_empty 16 64 w).mono fun e w' ⟨h1, h2⟩ => ⟨h1, by subst h2; exact Below.refl _ _⟩
    · rename_i h0
      exact (pu16_in (str l) (by rw [hs]; intro h; exact h0 (List.eq_nil_of_length_eq_zero h)) (by omega) w).mono fun e w' ⟨h1, h2⟩ => ⟨h1, by subst h2; exact Lib.bytesWorld_below w 5 _⟩)
  obtain ⟨te1, pe1, hc1⟩ := hg.syn
  obtain ⟨te2, pe2, hc2⟩ := hg.rng
  have HS := Lib.hid (fun W (hB : Below w.heap.size w W) => Tryz.strconv_toError_syntax ⟨#[80, 97, 114, 115, 101, 85, 105, 110, 116]⟩ (str l) 16 64 _ W (by omega) (cell_below hc1 hB) (.inr ⟨te1, pe1, rfl⟩))
  have HG := Lib.hid (fun W (hB : Below w.heap.size w W) => Tryz.strconv_toError_range ⟨#[80, 97, 114, 115, 101, 85, 105, 110, 116]⟩ (str l) 16 64 _ W (by omega) (cell_below hc2 hB) (.inr ⟨te2, pe2, rfl⟩))
  have HU : Hid (∀ u, hexP l = .ok u → u < 18446744073709551616) := Lib.hid (fun u h => by
    unfold hexP at h
    split at h
    · cases h
    · exact hexU_lt l 0 u (by decide) h)
  clear hg hc1 hc2
  cases h : hexP l with
  | ok u =>
    rw [h] at HI HU
    have hu := HU.out u rfl
    clear h
    go_enter Tryz.func123, Tryz.ntmps123
    go_wp2_with fail
    refine HI.out.mono ?_
    rintro e w1 ⟨rfl, hb1⟩
    have HB := Lib.hid hb1
    clear hb1
    simp only [Lib.uintTuple]
    go_wp2_with fail
    go_ret2
    exact ⟨u, .nilIface, by omega, by omega, rfl, by simp [ErrV, okE], fun v hv => by cases hv; rfl, HB.out⟩
  | range =>
    rw [h] at HI
    clear h
    go_enter Tryz.func123, Tryz.ntmps123
    go_wp2_with fail
    refine HI.out.mono ?_
    rintro e w1 ⟨rfl, hb1⟩
    have HB := Lib.hid hb1
    have HS1 := Lib.hid (HG.out w1 hb1)
    clear hb1
    simp only [Lib.uintTuple]
    go_wp2_with fail
    refine HS1.out.mono ?_
    rintro e w2 ⟨K, rfl, _, _, hb2⟩
    have HB2 := Lib.hid (HB.out.trans (hb2.mono HB.out.size))
    clear hb2
    go_wp2_with fail
    go_ret2
    exact ⟨18446744073709551615, _, by omega, by omega, rfl, by simp [ErrV, okE], (fun v hv => by cases hv), HB2.out⟩
  | _ =>
    rw [h] at HI
    clear h
    go_enter Tryz.func123, Tryz.ntmps123
    go_wp2_with fail
    refine HI.out.mono ?_
    rintro e w1 ⟨rfl, hb1⟩
    have HB := Lib.hid hb1
    have HS1 := Lib.hid (HS.out w1 hb1)
    clear hb1
    simp only [Lib.uintTuple]
    go_wp2_with fail
    refine HS1.out.mono ?_
    rintro e w2 ⟨K, rfl, _, _, hb2⟩
    have HB2 := Lib.hid (HB.out.trans (hb2.mono HB.out.size))
    clear hb2
    go_wp2_with fail
    go_ret2
    exact ⟨0, _, by omega, by omega, rfl, by simp [ErrV, okE], (fun v hv => by cases hv), HB2.out⟩
/-- The number of a word of hexadecimal digits. -/
def realU (x : List UInt8) : Nat := match hexP x with | .ok u => u | _ => 0
/-- Whether a word is a good number's sixteen digits. -/
def realB (x : List UInt8) : Bool := okE (hexP x) && (Re.ofB (realU x) && (decide (x.length = 16) && decide (hexT (realU x) = x)))
theorem ofB_true {u : Nat} (h : Re.ofB u = true) : Re.ofN u = u ∧ Re.bitsN u = u := by
  have h2 := h
  unfold Re.ofB at h
  simp only [Bool.and_eq_true, beq_iff_eq, Int.toNat_natCast] at h
  refine ⟨?_, h.2⟩
  unfold Re.ofN
  rw [if_pos h2]
  simp
set_option maxRecDepth 20000 in
set_option maxHeartbeats 8000000 in
theorem real_calls (b g : Nat) (L : List (List UInt8)) (ok : Bool) (hL : Short L) (w : World) (hR : Rd w g L ok) (hG : GlB b w) (hT : ∀ W, Below b w W → W.cell? ⟨5, 15, none⟩ = some (.int .u8 4)) (hbg : b ≤ g) :
    Calls Tryz.prog 82 #[.pointer (some ⟨g, 0, none⟩)] w fun e w' => ∃ f : Nat, e = .returned (.float .f64 f) ∧ Rd w' g L.tail (ok && realB (hd L)) ∧ Fr (fun k => k = g) w w' ∧ ((ok && realB (hd L)) = true → f = realU (hd L)) := by
  have hlt := hR.lt
  have HN := Lib.hid (next_calls g L ok hL.1 w hR)
  have HPu := Lib.hid (fun W (hF : Fr (fun k => k = g) w W) => pu16_calls (hd L) hL.hd W (hG.fr hF (by omega) (fun k hk => by omega)).now)
  have HTz := Lib.hid (fun W (hF : Fr (fun k => k = g) w W) => hT W (hF.below (by omega) (fun k hk => by omega)))
  have HE : Hid (((ok && !L.isEmpty) && realB (hd L)) = (ok && realB (hd L))) := Lib.hid (by
    cases L with
    | nil => simp [realB, hd, hexP, okE]
    | cons x r => simp)
  have hsz : (str (hd L)).size = (hd L).length := Vw.str_size _
  rw [← HE.out]
  clear HE
  generalize hd L = x at *
  generalize (ok && !L.isEmpty) = ok' at *
  generalize L.tail = R at *
  clear hL hR hG hlt hT
  cases hU : hexP x with
  | range =>
    have E0 : okE (hexP x) = false := by rw [hU]; rfl
    have hB : realB x = false := by unfold realB; rw [E0]; rfl
    rw [hB, Bool.and_false]
    cases ok' with
    | false =>
      go_enter Tryz.func82, Tryz.ntmps82
      go_wp2_with fail
      refine HN.out.mono ?_
      rintro e w1 ⟨rfl, hR1, hF1⟩
      have HF1 := Lib.hid hF1
      have HR1 := Lib.hid hR1
      have HP1 := Lib.hid (HPu.out w1 hF1)
      clear hF1 hR1
      go_wp2_with fail
      refine HP1.out.mono ?_
      rintro e w2 ⟨n, er, hn0, hn1, rfl, her, hok, hb2⟩
      have HR2 := Lib.hid (HR1.out.below hb2)
      have HF2 := Lib.hid (HF1.out.trans (Fr.of hb2))
      have HT2 := Lib.hid (HTz.out w2 HF2.out)
      obtain ⟨pe, rfl⟩ : ∃ p, er = .iface 175 p := by simpa [ErrV, E0] using her
      clear hb2 her hok hn0 hn1
      go_wp2_with fail
      refine (of_calls n _).mono ?_
      rintro e w3 ⟨rfl, rfl⟩
      have hbk := HR2.out
      obtain ⟨p, c, hb, _⟩ := hbk.lies
      have c1 : w3.cell? ⟨g, 1, none⟩ = some (.bool false) := hb.cell 1
      have f1 := hb.frozen 1
      clear hb hbk
      go_wp2_with fail
      go_ret
      exact ⟨_, rfl, HR2.out.setOk _, HF2.out.trans (Fr.set (P := fun k => k = g) w3 rfl 1 _), fun h => by cases h⟩
    | true =>
      go_enter Tryz.func82, Tryz.ntmps82
      go_wp2_with fail
      refine HN.out.mono ?_
      rintro e w1 ⟨rfl, hR1, hF1⟩
      have HF1 := Lib.hid hF1
      have HR1 := Lib.hid hR1
      have HP1 := Lib.hid (HPu.out w1 hF1)
      clear hF1 hR1
      go_wp2_with fail
      refine HP1.out.mono ?_
      rintro e w2 ⟨n, er, hn0, hn1, rfl, her, hok, hb2⟩
      have HR2 := Lib.hid (HR1.out.below hb2)
      have HF2 := Lib.hid (HF1.out.trans (Fr.of hb2))
      have HT2 := Lib.hid (HTz.out w2 HF2.out)
      obtain ⟨pe, rfl⟩ : ∃ p, er = .iface 175 p := by simpa [ErrV, E0] using her
      clear hb2 her hok hn0 hn1
      go_wp2_with fail
      refine (of_calls n _).mono ?_
      rintro e w3 ⟨rfl, rfl⟩
      have hbk := HR2.out
      obtain ⟨p, c, hb, _⟩ := hbk.lies
      have c1 : w3.cell? ⟨g, 1, none⟩ = some (.bool true) := hb.cell 1
      have f1 := hb.frozen 1
      clear hb hbk
      go_wp2_with fail
      go_ret
      exact ⟨_, rfl, HR2.out.setOk _, HF2.out.trans (Fr.set (P := fun k => k = g) w3 rfl 1 _), fun h => by cases h⟩
  | ok u =>
    have E0 : okE (hexP x) = true := by rw [hU]; rfl
    have hRU : realU x = u := by unfold realU; rw [hU]
    have hu64 : u < 18446744073709551616 := by
      unfold hexP at hU
      split at hU
      · cases hU
      · exact hexU_lt x 0 u (by decide) hU
    unfold realB
    rw [E0, hRU, Bool.true_and]
    cases ok' with
    | false =>
      rw [Bool.false_and]
      go_enter Tryz.func82, Tryz.ntmps82
      go_wp2_with fail
      refine HN.out.mono ?_
      rintro e w1 ⟨rfl, hR1, hF1⟩
      have HF1 := Lib.hid hF1
      have HR1 := Lib.hid hR1
      have HP1 := Lib.hid (HPu.out w1 hF1)
      clear hF1 hR1
      go_wp2_with fail
      refine HP1.out.mono ?_
      rintro e w2 ⟨n, er, hn0, hn1, rfl, her, hok, hb2⟩
      have HR2 := Lib.hid (HR1.out.below hb2)
      have HF2 := Lib.hid (HF1.out.trans (Fr.of hb2))
      have HT2 := Lib.hid (HTz.out w2 HF2.out)
      obtain rfl : er = .nilIface := by simpa [ErrV, E0] using her
      obtain rfl := hok _ hU
      clear hb2 her hok hn0 hn1
      go_wp2_with fail
      refine (of_calls (u : Int) _).mono ?_
      rintro e w3 ⟨rfl, rfl⟩
      have hbk := HR2.out
      obtain ⟨p, c, hb, _⟩ := hbk.lies
      have c1 : w3.cell? ⟨g, 1, none⟩ = some (.bool false) := hb.cell 1
      have f1 := hb.frozen 1
      clear hb hbk
      go_wp2_with fail
      go_ret
      exact ⟨_, rfl, HR2.out.setOk _, HF2.out.trans (Fr.set (P := fun k => k = g) w3 rfl 1 _), fun h => by cases h⟩
    | true =>
      rw [Bool.true_and]
      rcases Bool.eq_false_or_eq_true (Re.ofB (u : Int)) with e1 | e1
      · obtain ⟨hF1, hF2⟩ := ofB_true e1
        have HX := Lib.hid (fun W hW => hexw_calls u u hu64 W hW (fun W2 => by have := Re.bits_calls u W2; rw [hF2] at this; exact this))
        rw [e1, Bool.true_and]
        by_cases q1 : x.length = 16
        · have d1 : decide ((x.length : Int) = 16) = true := decide_eq_true (by omega)
          have d1b : ((x.length : Int) == 16) = true := by simp; omega
          rw [decide_eq_true q1, Bool.true_and]
          by_cases q2 : hexT u = x
          · have d2 : ((str (hexT u)).toList == (str x).toList) = true := by rw [beq_str]; exact decide_eq_true q2
            have d3 : (hexT u == x) = true := by simpa using q2
            rw [decide_eq_true q2]
            have HQ2 := Lib.hid q2
            clear q1 q2
            go_enter Tryz.func82, Tryz.ntmps82
            go_wp2_with fail
            refine HN.out.mono ?_
            rintro e w1 ⟨rfl, hR1, hF1⟩
            have HF1 := Lib.hid hF1
            have HR1 := Lib.hid hR1
            have HP1 := Lib.hid (HPu.out w1 hF1)
            clear hF1 hR1
            go_wp2_with fail
            refine HP1.out.mono ?_
            rintro e w2 ⟨n, er, hn0, hn1, rfl, her, hok, hb2⟩
            have HR2 := Lib.hid (HR1.out.below hb2)
            have HF2 := Lib.hid (HF1.out.trans (Fr.of hb2))
            have HT2 := Lib.hid (HTz.out w2 HF2.out)
            obtain rfl : er = .nilIface := by simpa [ErrV, E0] using her
            obtain rfl := hok _ hU
            clear hb2 her hok hn0 hn1
            go_wp2_with fail
            refine (of_calls (u : Int) _).mono ?_
            rintro e w3 ⟨rfl, rfl⟩
            have hbk := HR2.out
            obtain ⟨p, c, hb, _⟩ := hbk.lies
            have c1 : w3.cell? ⟨g, 1, none⟩ = some (.bool true) := hb.cell 1
            have f1 := hb.frozen 1
            clear hb hbk
            rw [e1, hF1]
            go_wp2_with fail
            refine HX.out w3 HT2.out |>.mono ?_
            rintro e w4 ⟨rfl, hb4⟩
            have HR4 := Lib.hid (HR2.out.below hb4)
            have HF4 := Lib.hid (HF2.out.trans (Fr.of hb4))
            have hbk := HR4.out
            obtain ⟨p, c, hb, _⟩ := hbk.lies
            have c1 : w4.cell? ⟨g, 1, none⟩ = some (.bool true) := hb.cell 1
            have f1 := hb.frozen 1
            clear hb hbk hb4
            go_wp2_with fail
            go_ret
            exact ⟨_, rfl, HR4.out.setOk _, HF4.out.trans (Fr.set (P := fun k => k = g) w4 rfl 1 _), fun _ => rfl⟩
          · have d2 : ((str (hexT u)).toList == (str x).toList) = false := by rw [beq_str]; exact decide_eq_false q2
            have d3 : (hexT u == x) = false := by simpa using q2
            rw [decide_eq_false q2]
            clear q1
            go_enter Tryz.func82, Tryz.ntmps82
            go_wp2_with fail
            refine HN.out.mono ?_
            rintro e w1 ⟨rfl, hR1, hF1⟩
            have HF1 := Lib.hid hF1
            have HR1 := Lib.hid hR1
            have HP1 := Lib.hid (HPu.out w1 hF1)
            clear hF1 hR1
            go_wp2_with fail
            refine HP1.out.mono ?_
            rintro e w2 ⟨n, er, hn0, hn1, rfl, her, hok, hb2⟩
            have HR2 := Lib.hid (HR1.out.below hb2)
            have HF2 := Lib.hid (HF1.out.trans (Fr.of hb2))
            have HT2 := Lib.hid (HTz.out w2 HF2.out)
            obtain rfl : er = .nilIface := by simpa [ErrV, E0] using her
            obtain rfl := hok _ hU
            clear hb2 her hok hn0 hn1
            go_wp2_with fail
            refine (of_calls (u : Int) _).mono ?_
            rintro e w3 ⟨rfl, rfl⟩
            have hbk := HR2.out
            obtain ⟨p, c, hb, _⟩ := hbk.lies
            have c1 : w3.cell? ⟨g, 1, none⟩ = some (.bool true) := hb.cell 1
            have f1 := hb.frozen 1
            clear hb hbk
            rw [e1, hF1]
            go_wp2_with fail
            refine HX.out w3 HT2.out |>.mono ?_
            rintro e w4 ⟨rfl, hb4⟩
            have HR4 := Lib.hid (HR2.out.below hb4)
            have HF4 := Lib.hid (HF2.out.trans (Fr.of hb4))
            have hbk := HR4.out
            obtain ⟨p, c, hb, _⟩ := hbk.lies
            have c1 : w4.cell? ⟨g, 1, none⟩ = some (.bool true) := hb.cell 1
            have f1 := hb.frozen 1
            clear hb hbk hb4
            go_wp2_with fail
            go_ret
            exact ⟨_, rfl, HR4.out.setOk _, HF4.out.trans (Fr.set (P := fun k => k = g) w4 rfl 1 _), fun h => by cases h⟩
        · have d1 : decide ((x.length : Int) = 16) = false := decide_eq_false (by omega)
          have d1b : ((x.length : Int) == 16) = false := by simp; omega
          rw [decide_eq_false q1, Bool.false_and]
          clear q1
          go_enter Tryz.func82, Tryz.ntmps82
          go_wp2_with fail
          refine HN.out.mono ?_
          rintro e w1 ⟨rfl, hR1, hF1⟩
          have HF1 := Lib.hid hF1
          have HR1 := Lib.hid hR1
          have HP1 := Lib.hid (HPu.out w1 hF1)
          clear hF1 hR1
          go_wp2_with fail
          refine HP1.out.mono ?_
          rintro e w2 ⟨n, er, hn0, hn1, rfl, her, hok, hb2⟩
          have HR2 := Lib.hid (HR1.out.below hb2)
          have HF2 := Lib.hid (HF1.out.trans (Fr.of hb2))
          have HT2 := Lib.hid (HTz.out w2 HF2.out)
          obtain rfl : er = .nilIface := by simpa [ErrV, E0] using her
          obtain rfl := hok _ hU
          clear hb2 her hok hn0 hn1
          go_wp2_with fail
          refine (of_calls (u : Int) _).mono ?_
          rintro e w3 ⟨rfl, rfl⟩
          have hbk := HR2.out
          obtain ⟨p, c, hb, _⟩ := hbk.lies
          have c1 : w3.cell? ⟨g, 1, none⟩ = some (.bool true) := hb.cell 1
          have f1 := hb.frozen 1
          clear hb hbk
          rw [e1, hF1]
          go_wp2_with fail
          go_ret
          exact ⟨_, rfl, HR2.out.setOk _, HF2.out.trans (Fr.set (P := fun k => k = g) w3 rfl 1 _), fun h => by cases h⟩
      · rw [e1, Bool.false_and]
        go_enter Tryz.func82, Tryz.ntmps82
        go_wp2_with fail
        refine HN.out.mono ?_
        rintro e w1 ⟨rfl, hR1, hF1⟩
        have HF1 := Lib.hid hF1
        have HR1 := Lib.hid hR1
        have HP1 := Lib.hid (HPu.out w1 hF1)
        clear hF1 hR1
        go_wp2_with fail
        refine HP1.out.mono ?_
        rintro e w2 ⟨n, er, hn0, hn1, rfl, her, hok, hb2⟩
        have HR2 := Lib.hid (HR1.out.below hb2)
        have HF2 := Lib.hid (HF1.out.trans (Fr.of hb2))
        have HT2 := Lib.hid (HTz.out w2 HF2.out)
        obtain rfl : er = .nilIface := by simpa [ErrV, E0] using her
        obtain rfl := hok _ hU
        clear hb2 her hok hn0 hn1
        go_wp2_with fail
        refine (of_calls (u : Int) _).mono ?_
        rintro e w3 ⟨rfl, rfl⟩
        have hbk := HR2.out
        obtain ⟨p, c, hb, _⟩ := hbk.lies
        have c1 : w3.cell? ⟨g, 1, none⟩ = some (.bool true) := hb.cell 1
        have f1 := hb.frozen 1
        clear hb hbk
        rw [e1]
        go_wp2_with fail
        go_ret
        exact ⟨_, rfl, HR2.out.setOk _, HF2.out.trans (Fr.set (P := fun k => k = g) w3 rfl 1 _), fun h => by cases h⟩
  | _ =>
    have E0 : okE (hexP x) = false := by rw [hU]; rfl
    have hB : realB x = false := by unfold realB; rw [E0]; rfl
    rw [hB, Bool.and_false]
    cases ok' with
    | false =>
      go_enter Tryz.func82, Tryz.ntmps82
      go_wp2_with fail
      refine HN.out.mono ?_
      rintro e w1 ⟨rfl, hR1, hF1⟩
      have HF1 := Lib.hid hF1
      have HR1 := Lib.hid hR1
      have HP1 := Lib.hid (HPu.out w1 hF1)
      clear hF1 hR1
      go_wp2_with fail
      refine HP1.out.mono ?_
      rintro e w2 ⟨n, er, hn0, hn1, rfl, her, hok, hb2⟩
      have HR2 := Lib.hid (HR1.out.below hb2)
      have HF2 := Lib.hid (HF1.out.trans (Fr.of hb2))
      have HT2 := Lib.hid (HTz.out w2 HF2.out)
      obtain ⟨pe, rfl⟩ : ∃ p, er = .iface 175 p := by simpa [ErrV, E0] using her
      clear hb2 her hok hn0 hn1
      go_wp2_with fail
      refine (of_calls n _).mono ?_
      rintro e w3 ⟨rfl, rfl⟩
      have hbk := HR2.out
      obtain ⟨p, c, hb, _⟩ := hbk.lies
      have c1 : w3.cell? ⟨g, 1, none⟩ = some (.bool false) := hb.cell 1
      have f1 := hb.frozen 1
      clear hb hbk
      go_wp2_with fail
      go_ret
      exact ⟨_, rfl, HR2.out.setOk _, HF2.out.trans (Fr.set (P := fun k => k = g) w3 rfl 1 _), fun h => by cases h⟩
    | true =>
      go_enter Tryz.func82, Tryz.ntmps82
      go_wp2_with fail
      refine HN.out.mono ?_
      rintro e w1 ⟨rfl, hR1, hF1⟩
      have HF1 := Lib.hid hF1
      have HR1 := Lib.hid hR1
      have HP1 := Lib.hid (HPu.out w1 hF1)
      clear hF1 hR1
      go_wp2_with fail
      refine HP1.out.mono ?_
      rintro e w2 ⟨n, er, hn0, hn1, rfl, her, hok, hb2⟩
      have HR2 := Lib.hid (HR1.out.below hb2)
      have HF2 := Lib.hid (HF1.out.trans (Fr.of hb2))
      have HT2 := Lib.hid (HTz.out w2 HF2.out)
      obtain ⟨pe, rfl⟩ : ∃ p, er = .iface 175 p := by simpa [ErrV, E0] using her
      clear hb2 her hok hn0 hn1
      go_wp2_with fail
      refine (of_calls n _).mono ?_
      rintro e w3 ⟨rfl, rfl⟩
      have hbk := HR2.out
      obtain ⟨p, c, hb, _⟩ := hbk.lies
      have c1 : w3.cell? ⟨g, 1, none⟩ = some (.bool true) := hb.cell 1
      have f1 := hb.frozen 1
      clear hb hbk
      go_wp2_with fail
      go_ret
      exact ⟨_, rfl, HR2.out.setOk _, HF2.out.trans (Fr.set (P := fun k => k = g) w3 rfl 1 _), fun h => by cases h⟩
end Go.Proofs.YtkcjgmicoifhcaaGreatDoor.Cn

/- V22: date.Of at a month's first day; date.First: a number, whatever it is. -/
namespace Go.Proofs.YtkcjgmicoifhcaaGreatDoor.Vw
open Go.RowKit Go.Sort Go.Lib Go.Shelf

theorem yr_bound {y : Int} (h : 1960 ≤ y ∧ y ≤ 2199) : -1000 ≤ yr y ∧ yr y ≤ 200000 := by
  unfold yr lg
  omega
set_option maxRecDepth 20000 in
set_option maxHeartbeats 4000000 in
theorem of_calls (y m : Int) (hy : 1960 ≤ y ∧ y ≤ 2199) (hm : 1 ≤ m ∧ m ≤ 12) (w : World) :
    Calls Tryz.prog 80 #[.int .i64 y, .int .i64 m, .int .i64 1] w fun e w' => (∃ a : Int, (-1000 ≤ a ∧ a ≤ 300000) ∧ e = .returned (.tuple #[.int .i64 a, .int .i64 0])) ∧ w' = w := by
  have HD := Lib.hid (fun i (hi : 1 ≤ i ∧ i ≤ 12) W => days_calls y i (by omega) (by omega) hi W)
  have HDm := Lib.hid (days_calls y m (by omega) (by omega) hm)
  have HM := Lib.hid (fun i (hi : 1 ≤ i ∧ i ≤ 12) => mdN_le y i hi)
  have HY := Lib.hid (years_calls y (by omega) (by omega))
  have HYb := Lib.hid (yr_bound hy)
  have hmd := mdN_le y m hm
  have y1 : ¬ y < 1960 := by omega
  have y2 : ¬ 2199 < y := by omega
  have y3 : ¬ mdN y m < 1 := by omega
  generalize hq : mdN y m = M0 at *
  generalize hq2 : yr y = Y0 at *
  clear hq hq2
  go_enter Tryz.func80, Tryz.ntmps80
  go_wp2_with fail
  refine (HDm.out _).mono ?_
  rintro e w1 ⟨rfl, rfl⟩
  go_wp2_with fail
  refine (HY.out _).mono ?_
  rintro e w1 ⟨rfl, rfl⟩
  go_wp2_with fail
  go_loop [8, 9] (fun v i => ∃ (k : Nat) (a : Int), 1 ≤ k ∧ (k : Int) ≤ m ∧ v = .int .i64 a ∧ i = .int .i64 (k : Int) ∧ -1000 ≤ a ∧ a ≤ 200000 + 31 * (k : Int)) (fun _ i => m.toNat - (RowKit.intOf i).toNat)
  case atStart => exact ⟨1, Y0, Nat.le_refl _, hm.1, rfl, rfl, by have := HYb.out; omega, by have := HYb.out; omega⟩
  case round =>
    obtain ⟨k, a, hk1, hkm, rfl, rfl, ha1, ha2⟩ := hrel
    by_cases h2 : (k : Int) < m
    · have hkk : 1 ≤ (k : Int) ∧ (k : Int) ≤ 12 := by omega
      have HDk := Lib.hid (HD.out k hkk)
      have hMk := HM.out k hkk
      generalize mdN y k = Mk at *
      go_wp2_with fail
      refine (HDk.out _).mono ?_
      rintro e w1 ⟨rfl, rfl⟩
      go_wp2_with fail
      go_round
      case rel => exact ⟨k + 1, a + Mk, by omega, by omega, by go_num, by go_num, by omega, by omega⟩
      case measure => simp [RowKit.intOf]; omega
    · go_wp2_with fail
      go_ret2
      exact ⟨⟨_, by omega, rfl⟩, rfl⟩
end Go.Proofs.YtkcjgmicoifhcaaGreatDoor.Vw

/- C6: date.Of at every year, month and day. -/
namespace Go.Proofs.YtkcjgmicoifhcaaGreatDoor.Cn
open Go.RowKit Go.Sort Go.Lib Go.Shelf
open Vw (Tab str Blk S md mdN mdN_le yr yr_S md_at days_calls years_calls)
attribute [local go_sem ↓] Go.wp_at_zero Go.wp_at_succ

/-- Is there such a day? -/
def okD (y m d : Int) : Bool := decide (1960 ≤ y ∧ y ≤ 2199) && (decide (1 ≤ m ∧ m ≤ 12) && decide (1 ≤ d ∧ d ≤ mdN y m))
/-- A day's number. -/
def dnum (y m d : Int) : Int := S (12 * (y - 1960).toNat + (m - 1).toNat) + d - 1
set_option maxRecDepth 20000 in
theorem days_out (y m : Int) (hm : m < 1 ∨ 12 < m) (w : World) : Calls Tryz.prog 71 #[.int .i64 y, .int .i64 m] w fun e w' => e = .returned (.int .i64 0) ∧ w' = w := by
  by_cases h : m < 1
  · clear hm
    go_enter Tryz.func71, Tryz.ntmps71
    go_wp2_with fail
    go_ret
    exact ⟨rfl, rfl⟩
  · have h2 : 12 < m := by omega
    clear hm
    go_enter Tryz.func71, Tryz.ntmps71
    go_wp2_with fail
    go_ret
    exact ⟨rfl, rfl⟩
theorem S_bound (k : Nat) : 0 ≤ S k ∧ S k ≤ 31 * (k : Int) := by
  induction k with
  | zero => simp [S]
  | succ k ih =>
    have := Vw.md_le k
    simp only [S]
    omega
theorem of_out1 (y m d : Int) (h : y < 1960 ∨ 2199 < y ∨ d < 1) (w : World) : Calls Tryz.prog 80 #[.int .i64 y, .int .i64 m, .int .i64 d] w fun e w' => e = .returned (.tuple #[.int .i64 0, .int .i64 15]) ∧ w' = w := by
  by_cases h1 : y < 1960
  · clear h
    go_enter Tryz.func80, Tryz.ntmps80
    go_wp2_with fail
    go_ret2
    exact ⟨rfl, rfl⟩
  · by_cases h2 : 2199 < y
    · clear h
      go_enter Tryz.func80, Tryz.ntmps80
      go_wp2_with fail
      go_ret2
      exact ⟨rfl, rfl⟩
    · have h3 : d < 1 := by omega
      clear h
      go_enter Tryz.func80, Tryz.ntmps80
      go_wp2_with fail
      go_ret2
      exact ⟨rfl, rfl⟩
theorem of_out2 (y m d M : Int) (h1 : ¬ y < 1960) (h2 : ¬ 2199 < y) (h3 : ¬ d < 1) (hM : ∀ W, Calls Tryz.prog 71 #[.int .i64 y, .int .i64 m] W fun e w' => e = .returned (.int .i64 M) ∧ w' = W) (h : M < d) (w : World) : Calls Tryz.prog 80 #[.int .i64 y, .int .i64 m, .int .i64 d] w fun e w' => e = .returned (.tuple #[.int .i64 0, .int .i64 15]) ∧ w' = w := by
  have HM := Lib.hid hM
  clear hM
  go_enter Tryz.func80, Tryz.ntmps80
  go_wp2_with fail
  refine (HM.out _).mono ?_
  rintro e w1 ⟨rfl, rfl⟩
  go_wp2_with fail
  go_ret2
  exact ⟨rfl, rfl⟩
set_option maxRecDepth 20000 in
set_option maxHeartbeats 4000000 in
theorem of_in (y m d : Int) (hy : 1960 ≤ y ∧ y ≤ 2199) (hm : 1 ≤ m ∧ m ≤ 12) (hd : 1 ≤ d ∧ d ≤ mdN y m) (w : World) : Calls Tryz.prog 80 #[.int .i64 y, .int .i64 m, .int .i64 d] w fun e w' => e = .returned (.tuple #[.int .i64 (dnum y m d), .int .i64 0]) ∧ w' = w := by
  obtain ⟨j, rfl⟩ : ∃ j : Nat, y = 1960 + (j : Int) := ⟨(y - 1960).toNat, by omega⟩
  have hmd := mdN_le (1960 + (j : Int)) m hm
  have HD := Lib.hid (fun i (hi : 1 ≤ i ∧ i ≤ 12) W => days_calls (1960 + (j : Int)) i (by omega) (by omega) hi W)
  have HDm := Lib.hid (days_calls (1960 + (j : Int)) m (by omega) (by omega) hm)
  have HY := Lib.hid (years_calls (1960 + (j : Int)) (by omega) (by omega))
  rw [yr_S j] at HY
  have HRes : Hid (∀ k : Nat, (k : Int) = m → S (12 * j + (k - 1)) + d - 1 = dnum (1960 + (j : Int)) m d) := Lib.hid (fun k hk => by
    unfold dnum
    rw [show ((1960 + (j : Int)) - 1960).toNat = j by omega, show (m - 1).toNat = k - 1 by omega])
  have HSt : Hid (∀ k : Nat, 1 ≤ k → k ≤ 12 → S (12 * j + (k + 1 - 1)) = S (12 * j + (k - 1)) + mdN (1960 + (j : Int)) (k : Int)) := Lib.hid (fun k h1 h2 => by
    have := md_at j (k - 1) (by omega)
    rw [show (12 * j + (k + 1 - 1)) = (12 * j + (k - 1)) + 1 by omega]
    show S (12 * j + (k - 1)) + md (12 * j + (k - 1)) = _
    rw [this, show (1 : Int) + ((k - 1 : Nat) : Int) = (k : Int) by omega])
  have HSb := Lib.hid S_bound
  have HM := Lib.hid (fun i (hi : 1 ≤ i ∧ i ≤ 12) => mdN_le (1960 + (j : Int)) i hi)
  have hj : j ≤ 239 := by omega
  have HJ := Lib.hid hj
  have y1 : ¬ 1960 + (j : Int) < 1960 := by omega
  have y2 : ¬ 2199 < 1960 + (j : Int) := by omega
  have y3 : ¬ d < 1 := by omega
  have y4 : ¬ mdN (1960 + (j : Int)) m < d := by omega
  have hd31 : d ≤ 31 := by omega
  generalize dnum (1960 + (j : Int)) m d = RES at *
  generalize hq : mdN (1960 + (j : Int)) m = M0 at HDm y4
  clear hq hd hy hmd
  generalize hYY : 1960 + (j : Int) = Y at *
  have HYY := Lib.hid hYY
  clear hYY hj
  go_enter Tryz.func80, Tryz.ntmps80
  go_wp2_with fail
  refine (HDm.out _).mono ?_
  rintro e w1 ⟨rfl, rfl⟩
  go_wp2_with fail
  refine (HY.out _).mono ?_
  rintro e w1 ⟨rfl, rfl⟩
  go_wp2_with fail
  go_loop [8, 9] (fun v i => ∃ (k : Nat) (a : Int), 1 ≤ k ∧ (k : Int) ≤ m ∧ v = .int .i64 a ∧ i = .int .i64 (k : Int) ∧ Hid (a = S (12 * j + (k - 1)))) (fun _ i => m.toNat - (RowKit.intOf i).toNat)
  case atStart => exact ⟨1, S (12 * j), Nat.le_refl _, hm.1, rfl, rfl, rfl⟩
  case round =>
    obtain ⟨k, a, hk1, hkm, rfl, rfl, ha⟩ := hrel
    have hab : 0 ≤ a ∧ a ≤ 100000 := by
      have h1 := HSb.out (12 * j + (k - 1))
      have h2 := HJ.out
      rw [← ha.out] at h1
      omega
    by_cases h2 : (k : Int) < m
    · have hkk : 1 ≤ (k : Int) ∧ (k : Int) ≤ 12 := by omega
      have HDk := Lib.hid (HD.out k hkk)
      have hMk := HM.out k hkk
      have HNx : Hid (a + mdN Y (k : Int) = S (12 * j + (k + 1 - 1))) := Lib.hid (by rw [HSt.out k hk1 (by omega), ha.out])
      generalize mdN Y (k : Int) = Mk at *
      clear ha
      go_wp2_with fail
      refine (HDk.out _).mono ?_
      rintro e w2 ⟨rfl, rfl⟩
      go_wp2_with fail
      refine ⟨⟨k + 1, a + Mk, by omega, by omega, ?_, by go_num, HNx⟩, by simp [RowKit.intOf]; omega⟩
      go_num
    · obtain rfl : m = (k : Int) := by omega
      have HF : Hid (a + d - 1 = RES) := Lib.hid (by rw [ha.out]; exact HRes.out k rfl)
      clear ha
      go_wp2_with fail
      go_ret2
      exact ⟨by first | rfl | (rw [HF.out]; rfl), rfl⟩
theorem ofD_calls (y m d : Int) (w : World) : Calls Tryz.prog 80 #[.int .i64 y, .int .i64 m, .int .i64 d] w fun e w' => e = .returned (if okD y m d then .tuple #[.int .i64 (dnum y m d), .int .i64 0] else .tuple #[.int .i64 0, .int .i64 15]) ∧ w' = w := by
  by_cases h1 : y < 1960 ∨ 2199 < y ∨ d < 1
  · have : okD y m d = false := by simp [okD]; omega
    rw [this]
    exact of_out1 y m d h1 w
  · by_cases hm : 1 ≤ m ∧ m ≤ 12
    · by_cases hd : d ≤ mdN y m
      · have : okD y m d = true := by simp [okD]; omega
        rw [this]
        exact of_in y m d (by omega) hm (by omega) w
      · have : okD y m d = false := by simp [okD]; omega
        rw [this]
        exact of_out2 y m d (mdN y m) (by omega) (by omega) (by omega) (fun W => days_calls y m (by omega) (by omega) hm W) (by omega) w
    · have : okD y m d = false := by simp [okD]; omega
      rw [this]
      exact of_out2 y m d 0 (by omega) (by omega) (by omega) (fun W => days_out y m (by omega) W) (by omega) w
end Go.Proofs.YtkcjgmicoifhcaaGreatDoor.Cn

/- P2: A text cut at each instance of a letter, plain. -/
namespace Go.Proofs.YtkcjgmicoifhcaaGreatDoor.Cn
open Go.Lib

/-- The pieces between the instances of a letter. -/
def cutC (c : UInt8) : List UInt8 → List (List UInt8)
  | [] => [[]]
  | b :: r => if b = c then [] :: cutC c r else match cutC c r with | [] => [[b]] | h :: t => (b :: h) :: t
theorem cutC_app (c : UInt8) (r : List UInt8) : ∀ A : List UInt8, c ∉ A → cutC c (A ++ c :: r) = A :: cutC c r
  | [], _ => by simp [cutC]
  | b :: A, h => by
    have ih := cutC_app c r A fun h1 => h (by simp [h1])
    have hb : ¬ b = c := fun e => h (by simp [e])
    rw [List.cons_append, cutC, if_neg hb, ih]
theorem cutC_none (c : UInt8) : ∀ A : List UInt8, c ∉ A → cutC c A = [A]
  | [], _ => rfl
  | b :: A, h => by
    have ih := cutC_none c A fun h1 => h (by simp [h1])
    have hb : ¬ b = c := fun e => h (by simp [e])
    rw [cutC, if_neg hb, ih]
theorem first_of (c : UInt8) : ∀ s : List UInt8, c ∉ s ∨ ∃ A r, s = A ++ c :: r ∧ c ∉ A
  | [] => .inl (by simp)
  | b :: s => by
    by_cases hb : b = c
    · subst hb
      exact .inr ⟨[], s, rfl, by simp⟩
    · rcases first_of c s with h | ⟨A, r, rfl, h⟩
      · exact .inl (by simp [h]; exact fun e => hb e.symm)
      · exact .inr ⟨b :: A, r, rfl, by simp [h]; exact fun e => hb e.symm⟩
theorem indexByte_app (c : UInt8) (r : List UInt8) : ∀ A : List UInt8, c ∉ A → indexByte (A ++ c :: r) c = A.length
  | [], _ => by simp [indexByte]
  | b :: A, h => by
    have ih := indexByte_app c r A fun h1 => h (by simp [h1])
    have hb : (b == c) = false := by simpa using fun e => h (by simp [e])
    have hn : ((A.length : Int) == -1) = false := by simp
    simp [indexByte, ih, hb, hn]
theorem indexByte_not (c : UInt8) : ∀ A : List UInt8, c ∉ A → indexByte A c = -1
  | [], _ => rfl
  | b :: A, h => by
    have ih := indexByte_not c A fun h1 => h (by simp [h1])
    have hb : (b == c) = false := by simpa using fun e => h (by simp [e])
    simp [indexByte, ih, hb]
theorem splitK_cut (c : UInt8) (n : Nat) : ∀ s : List UInt8, s.length ≤ n → splitK [c] 0 (count s [c]) s = cutC c s ∧ count s [c] + 1 = (cutC c s).length := by
  induction n with
  | zero =>
    intro s hs
    obtain rfl := List.eq_nil_of_length_eq_zero (Nat.le_zero.1 hs)
    rw [count_miss (by rw [index_one]; rfl)]
    exact ⟨rfl, rfl⟩
  | succ n ih =>
    intro s hs
    rcases first_of c s with h | ⟨A, r, rfl, h⟩
    · rw [cutC_none c s h, count_miss (by rw [index_one, indexByte_not c s h])]
      exact ⟨rfl, rfl⟩
    · have hi : index (A ++ c :: r) [c] = A.length := by rw [index_one, indexByte_app c r A h]
      have hd : (A ++ c :: r).drop (A.length + 1) = r := by
        rw [List.drop_append]
        simp
      have hr : r.length ≤ n := by simp at hs; omega
      obtain ⟨h1, h2⟩ := ih r hr
      rw [count_hit (by simp) hi, show (A.length + [c].length) = A.length + 1 from rfl, hd, Nat.add_comm 1, splitK, hi]
      have hne : ((A.length : Int) == -1) = false := by simp
      rw [hne, cutC_app c r A h]
      simp only [Bool.false_eq_true, if_false, Int.toNat_natCast]
      rw [show (A.length + [c].length) = A.length + 1 from rfl, hd, h1, Nat.add_zero, List.take_append_of_le_length (Nat.le_refl _), List.take_length]
      exact ⟨rfl, by rw [List.length_cons]; omega⟩
theorem cutC_le (c : UInt8) : ∀ (s x : List UInt8), x ∈ cutC c s → x.length ≤ s.length
  | [], x, h => by simp [cutC] at h; simp [h]
  | b :: s, x, h => by
    have ih := cutC_le c s
    rw [cutC] at h
    split at h
    · rcases List.mem_cons.1 h with rfl | h
      · simp
      · have := ih x h; simp; omega
    · split at h
      · simp at h; simp [h]
      · rename_i h0 t he
        rcases List.mem_cons.1 h with rfl | h
        · have := ih h0 (by rw [he]; simp)
          simp; omega
        · have := ih x (by rw [he]; simp [h])
          simp; omega
theorem cutC_len (c : UInt8) : ∀ s : List UInt8, 1 ≤ (cutC c s).length ∧ (cutC c s).length ≤ s.length + 1
  | [] => by simp [cutC]
  | b :: s => by
    have ih := cutC_len c s
    rw [cutC]
    split
    · simp; omega
    · split
      · simp
      · rename_i h0 t he
        rw [he] at ih
        simp at ih ⊢
        omega
theorem parse10_digs : ∀ (l : List UInt8) (acc k : Nat), Digs l → acc < 10 ^ k → l.length + k ≤ 18 → parseUint10 acc l = .ok (acc * 10 ^ l.length + dv l)
  | [], acc, k, _, _, _ => by simp [parseUint10, dv]
  | c :: r, acc, k, hd, ha, hl => by
    have hc := hd c (by simp)
    rw [List.length_cons] at hl
    have hk : (10 : Nat) ^ (k + 1) ≤ 10 ^ 18 := Nat.pow_le_pow_right (by decide) (by omega)
    have hk' : (10 : Nat) ^ (k + 1) = 10 * 10 ^ k := by rw [Nat.pow_succ]; omega
    have e18 : (10 : Nat) ^ 18 = 1000000000000000000 := by decide
    rw [e18] at hk
    have h2 : acc * 10 + (c.toNat - 48) < 10 ^ (k + 1) := by omega
    unfold parseUint10
    rw [if_pos hc, if_neg (by omega), if_neg (by omega), parse10_digs r _ (k + 1) (fun d hd' => hd d (by simp [hd'])) h2 (by omega), dv_cons, List.length_cons, Nat.pow_succ]
    congr 1
    generalize 10 ^ r.length = P
    rw [Nat.add_mul, Nat.mul_assoc, Nat.mul_comm 10 P, Nat.add_assoc]
theorem atoi_digs (w : List UInt8) (h0 : w ≠ []) (h1 : w.length ≤ 18) (hd : Digs w) : atoiAll w = .ok (dv w : Int) := by
  have hlt := dv_lt w hd
  have hp : (10 : Nat) ^ w.length ≤ 10 ^ 18 := Nat.pow_le_pow_right (by decide) h1
  have e18 : (10 : Nat) ^ 18 = 1000000000000000000 := by decide
  match w, h0, hd with
  | c :: r, _, hd =>
    have hc := hd c (by simp)
    have n1 : ¬ (c.toNat = 43 ∨ c.toNat = 45) := by omega
    have n2 : ¬ c.toNat = 45 := by omega
    have hp2 := parse10_digs (c :: r) 0 0 hd (by simp) (by simpa using h1)
    rw [Nat.zero_mul, Nat.zero_add] at hp2
    have n3 : ¬ 9223372036854775808 ≤ dv (c :: r) := by omega
    unfold atoiAll parseMag
    simp only [if_neg n1]
    rw [if_neg (by simp), hp2]
    simp [n2, n3]
end Go.Proofs.YtkcjgmicoifhcaaGreatDoor.Cn

/- V17: Moneys and days are told apart by their texts. Plain. -/
namespace Go.Proofs.YtkcjgmicoifhcaaGreatDoor.Vw
open Go.RowKit Go.Sort Go.Lib Go.Shelf

/-- The number that digits tell. -/
def dv (l : List UInt8) : Nat := l.foldl (fun acc c => acc * 10 + (c.toNat - 48)) 0
theorem dv_snoc (l : List UInt8) (c : UInt8) : dv (l ++ [c]) = dv l * 10 + (c.toNat - 48) := by unfold dv; rw [List.foldl_append]; rfl
theorem one_digit (d : Nat) (h : d < 10) : (UInt8.ofNat (48 + d)).toNat = 48 + d := by
  rw [UInt8.toNat_ofNat']
  omega
theorem dv_dec (k : Nat) : ∀ u, u < 10 ^ (k + 1) → dv (Lib.decDigits u) = u := by
  induction k with
  | zero =>
    intro u h
    rw [dec_one u (by omega)]
    have := one_digit u (by omega)
    show 0 * 10 + ((UInt8.ofNat (48 + u)).toNat - 48) = u
    omega
  | succ k ih =>
    intro u h
    by_cases h10 : u < 10
    · rw [dec_one u h10]
      have := one_digit u h10
      show 0 * 10 + ((UInt8.ofNat (48 + u)).toNat - 48) = u
      omega
    · rw [dec_more u h10, dec_one (u % 10) (by omega), dv_snoc, ih (u / 10) (by rw [Nat.pow_succ] at h; omega), one_digit (u % 10) (by omega)]
      omega
theorem dv_all (u : Nat) (h : u < 18446744073709551616) : dv (Lib.decDigits u) = u := dv_dec 19 u (by omega)
theorem dv_zeros (n : Nat) (l : List UInt8) : dv (List.replicate n 48 ++ l) = dv l := by
  unfold dv
  rw [List.foldl_append]
  congr 1
  induction n with
  | zero => rfl
  | succ n ih => rw [List.replicate_succ, List.foldl_cons]; exact ih
theorem dv_pad (u k : Nat) (h : u < 18446744073709551616) : dv (pad u k) = u := by unfold pad; rw [dv_zeros, dv_all u h]
theorem dig_ge (k : Nat) : ∀ u, u < 10 ^ (k + 1) → ∀ c ∈ Lib.decDigits u, 48 ≤ c.toNat ∧ c.toNat ≤ 57 := by
  induction k with
  | zero =>
    intro u h c hc
    rw [dec_one u (by omega)] at hc
    simp only [List.mem_singleton] at hc
    subst hc
    have := one_digit u (by omega)
    omega
  | succ k ih =>
    intro u h c hc
    by_cases h10 : u < 10
    · rw [dec_one u h10] at hc
      simp only [List.mem_singleton] at hc
      subst hc
      have := one_digit u h10
      omega
    · rw [dec_more u h10, dec_one (u % 10) (by omega)] at hc
      rcases List.mem_append.1 hc with h1 | h1
      · exact ih (u / 10) (by rw [Nat.pow_succ] at h; omega) c h1
      · simp only [List.mem_singleton] at h1
        subst h1
        have := one_digit (u % 10) (by omega)
        omega
theorem pad2_len (u : Nat) (h : u < 100) : (pad u 2).length = 2 := by
  rw [← pad_two u h, List.length_append, dec_one (u / 10 % 10) (by omega), dec_one (u % 10) (by omega)]
  rfl
theorem money_body {m n : Nat} (hm : m < 18446744073709551616) (hn : n < 18446744073709551616) (h : Lib.decDigits (m / 100) ++ (46 :: pad (m % 100) 2) = Lib.decDigits (n / 100) ++ (46 :: pad (n % 100) 2)) : m = n := by
  have hl : (46 :: pad (m % 100) 2).length = (46 :: pad (n % 100) 2).length := by
    rw [List.length_cons, List.length_cons, pad2_len _ (by omega), pad2_len _ (by omega)]
  obtain ⟨h1, h2⟩ := List.append_inj' h hl
  have e1 := congrArg dv h1
  rw [dv_all _ (by omega), dv_all _ (by omega)] at e1
  have e2 := congrArg dv (List.cons.inj h2).2
  rw [dv_pad _ _ (by omega), dv_pad _ _ (by omega)] at e2
  omega
theorem no_minus {u : Nat} (h : u < 18446744073709551616) (r s : List UInt8) : Lib.decDigits u ++ r ≠ 45 :: s := by
  intro e
  have h1 := (dig_len u h).1
  cases hd : Lib.decDigits u with
  | nil => rw [hd] at h1; simp at h1
  | cons c t =>
    rw [hd] at e
    have := (List.cons.inj e).1
    have h2 := dig_ge 19 u (by omega) c (by rw [hd]; simp)
    subst this
    have : (45 : UInt8).toNat = 45 := rfl
    omega
theorem money_apart (a b : Int) (ha : -9223372036854775808 ≤ a ∧ a ≤ 9223372036854775807) (hb : -9223372036854775808 ≤ b ∧ b ≤ 9223372036854775807) : moneyL a = moneyL b ↔ a = b := by
  refine ⟨fun h => ?_, fun h => by rw [h]⟩
  unfold moneyL at h
  by_cases h1 : a < 0
  · rw [if_pos h1] at h
    by_cases h2 : b < 0
    · rw [if_pos h2] at h
      have := money_body (by omega) (by omega) (List.cons.inj h).2
      omega
    · rw [if_neg h2] at h
      exact absurd h.symm (no_minus (by omega) _ _)
  · rw [if_neg h1] at h
    by_cases h2 : b < 0
    · rw [if_pos h2] at h
      exact absurd h (no_minus (by omega) _ _)
    · rw [if_neg h2] at h
      have := money_body (by omega) (by omega) h
      omega
theorem beq_str (a b : List UInt8) : ((str a).toList == (str b).toList) = decide (a = b) := by
  rw [Lib.toList_data, Lib.toList_data, Bool.eq_iff_iff]
  simp
end Go.Proofs.YtkcjgmicoifhcaaGreatDoor.Vw

/- V19: Days' texts stand in the order of the days. Plain. -/
namespace Go.Proofs.YtkcjgmicoifhcaaGreatDoor.Vw
open Go.RowKit Go.Sort Go.Lib Go.Shelf

theorem bl_app (x y : List UInt8) : ∀ (a b : List UInt8), a.length = b.length → Op.bytesLess (a ++ x) (b ++ y) = (Op.bytesLess a b || (decide (a = b) && Op.bytesLess x y))
  | [], [], _ => by simp [Op.bytesLess]
  | [], _ :: _, h => by simp at h
  | _ :: _, [], h => by simp at h
  | c :: a, d :: b, h => by
    have ih := bl_app x y a b (by simpa using h)
    rw [List.cons_append, List.cons_append]
    simp only [Op.bytesLess]
    rw [ih]
    by_cases hc : c = d
    · subst hc
      simp
    · have h1 : (c == d) = false := by simpa using hc
      have h2 : decide (c :: a = d :: b) = false := by
        apply decide_eq_false
        intro h
        exact hc (List.cons.inj h).1
      rw [h1, h2]
      simp
theorem foldl_dv (l : List UInt8) : ∀ acc, l.foldl (fun acc c => acc * 10 + (c.toNat - 48)) acc = acc * 10 ^ l.length + dv l := by
  induction l with
  | nil => intro acc; simp [dv]
  | cons c r ih =>
    intro acc
    have e : dv (c :: r) = (0 * 10 + (c.toNat - 48)) * 10 ^ r.length + dv r := by
      show r.foldl _ (0 * 10 + (c.toNat - 48)) = _
      exact ih _
    rw [List.foldl_cons, ih, e, List.length_cons, Nat.pow_succ]
    generalize 10 ^ r.length = P
    rw [Nat.add_mul, Nat.zero_mul, Nat.zero_add, Nat.mul_assoc, Nat.mul_comm 10 P, Nat.add_assoc]
theorem dv_cons (c : UInt8) (r : List UInt8) : dv (c :: r) = (c.toNat - 48) * 10 ^ r.length + dv r := by
  show r.foldl _ (0 * 10 + (c.toNat - 48)) = _
  rw [foldl_dv]
  simp
def Digs (l : List UInt8) : Prop := ∀ c ∈ l, 48 ≤ c.toNat ∧ c.toNat ≤ 57
theorem dv_lt (l : List UInt8) (h : Digs l) : dv l < 10 ^ l.length := by
  induction l with
  | nil => decide
  | cons c r ih =>
    have h1 := ih fun d hd => h d (by simp [hd])
    have h2 := h c (by simp)
    rw [dv_cons, List.length_cons, Nat.pow_succ]
    generalize 10 ^ r.length = P at *
    have : (c.toNat - 48) * P ≤ 9 * P := Nat.mul_le_mul_right _ (by omega)
    omega
theorem bl_dig : ∀ (a b : List UInt8), a.length = b.length → Digs a → Digs b → Op.bytesLess a b = decide (dv a < dv b) ∧ (a = b ↔ dv a = dv b)
  | [], [], _, _, _ => by simp [Op.bytesLess, dv]
  | [], _ :: _, h, _, _ => by simp at h
  | _ :: _, [], h, _, _ => by simp at h
  | c :: a, d :: b, h, ha, hb => by
    have hl : a.length = b.length := by simpa using h
    have ga : Digs a := fun x hx => ha x (by simp [hx])
    have gb : Digs b := fun x hx => hb x (by simp [hx])
    obtain ⟨i1, i2⟩ := bl_dig a b hl ga gb
    have la := dv_lt a ga
    have lb := dv_lt b gb
    have hc := ha c (by simp)
    have hd := hb d (by simp)
    rw [dv_cons, dv_cons]
    simp only [Op.bytesLess]
    rw [i1, hl] at *
    generalize hP : 10 ^ b.length = P at *
    by_cases e : c = d
    · subst e
      constructor
      · have : ¬ c < c := by simp
        simp [this]
      · rw [List.cons.injEq, i2]
        constructor
        · rintro ⟨_, h⟩; rw [h]
        · intro h; exact ⟨rfl, by omega⟩
    · have e2 : (c == d) = false := by simpa using e
      have hne : c.toNat ≠ d.toNat := fun h => e (UInt8.toNat_inj.1 h)
      rw [e2]
      have key : (c.toNat < d.toNat → (c.toNat - 48) * P + dv a < (d.toNat - 48) * P + dv b) ∧ (d.toNat < c.toNat → (d.toNat - 48) * P + dv b < (c.toNat - 48) * P + dv a) := by
        constructor
        · intro h
          have := Nat.mul_le_mul_right P (show c.toNat - 48 + 1 ≤ d.toNat - 48 by omega)
          rw [Nat.add_mul, Nat.one_mul] at this
          omega
        · intro h
          have := Nat.mul_le_mul_right P (show d.toNat - 48 + 1 ≤ c.toNat - 48 by omega)
          rw [Nat.add_mul, Nat.one_mul] at this
          omega
      constructor
      · rw [Bool.false_and, Bool.or_false]
        rw [Bool.eq_iff_iff]
        simp only [decide_eq_true_eq]
        rw [UInt8.lt_iff_toNat_lt]
        constructor
        · exact key.1
        · intro h
          refine Decidable.byContradiction fun hn => ?_
          have := key.2 (by omega)
          omega
      · constructor
        · intro h; exact absurd (List.cons.inj h).1 e
        · intro h
          exfalso
          rcases Nat.lt_or_gt_of_ne hne with h1 | h1
          · have := key.1 h1; omega
          · have := key.2 h1; omega
theorem pad_digs (u k : Nat) (h : u < 18446744073709551616) : Digs (pad u k) := by
  intro c hc
  unfold pad at hc
  rcases List.mem_append.1 hc with h1 | h1
  · have := List.eq_of_mem_replicate h1
    subst this
    decide
  · exact dig_ge 19 u (by omega) c h1
theorem pad4_len (y : Nat) (h : 1000 ≤ y ∧ y < 10000) : (pad y 4).length = 4 := by
  rw [dec_four y h, dec_more y (by omega), dec_more (y / 10) (by omega), dec_more (y / 10 / 10) (by omega), dec_one (y / 10 / 10 / 10) (by omega), dec_one (y / 10 / 10 % 10) (by omega), dec_one (y / 10 % 10) (by omega), dec_one (y % 10) (by omega)]
  rfl
theorem pad_lt {a b k : Nat} (ha : a < 18446744073709551616) (hb : b < 18446744073709551616) (hl : (pad a k).length = (pad b k).length) : Op.bytesLess (pad a k) (pad b k) = decide (a < b) ∧ (pad a k = pad b k ↔ a = b) := by
  have := bl_dig (pad a k) (pad b k) hl (pad_digs a k ha) (pad_digs b k hb)
  rw [dv_pad a k ha, dv_pad b k hb] at this
  exact this
theorem day_len10 (y m d : Nat) (hy : 1000 ≤ y ∧ y < 10000) (hm : m < 100) (hd : d < 100) : (dayT y m d).length = 10 := by
  unfold dayT
  rw [cat_len, cat_len, cat_len, cat_len, pad4_len y hy, pad2_len m hm, pad2_len d hd]
  rfl
theorem dayT_less (y m d y2 m2 d2 : Nat) (hy : 1000 ≤ y ∧ y < 10000) (hy2 : 1000 ≤ y2 ∧ y2 < 10000) (hm : m < 100) (hm2 : m2 < 100) (hd : d < 100) (hd2 : d2 < 100) :
    Op.bytesLess (dayT y m d) (dayT y2 m2 d2) = decide (y < y2 ∨ (y = y2 ∧ (m < m2 ∨ (m = m2 ∧ d < d2)))) := by
  have p := pad_lt (a := y) (b := y2) (k := 4) (by omega) (by omega) (by rw [pad4_len y hy, pad4_len y2 hy2])
  have q := pad_lt (a := m) (b := m2) (k := 2) (by omega) (by omega) (by rw [pad2_len m hm, pad2_len m2 hm2])
  have r := pad_lt (a := d) (b := d2) (k := 2) (by omega) (by omega) (by rw [pad2_len d hd, pad2_len d2 hd2])
  have e : ∀ y m d : Nat, dayT y m d = pad y 4 ++ ([45] ++ (pad m 2 ++ ([45] ++ pad d 2))) := fun y m d => by unfold dayT cat; simp
  rw [e, e, bl_app _ _ _ _ (by rw [pad4_len y hy, pad4_len y2 hy2]), bl_app _ _ [45] [45] rfl, bl_app _ _ _ _ (by rw [pad2_len m hm, pad2_len m2 hm2]), bl_app _ _ [45] [45] rfl, p.1, q.1, r.1]
  have hmm : Op.bytesLess [45] [45] = false := by decide
  rw [hmm]
  have d1 : decide (pad y 4 = pad y2 4) = decide (y = y2) := by rw [Bool.eq_iff_iff]; simp [p.2]
  have d2 : decide (pad m 2 = pad m2 2) = decide (m = m2) := by rw [Bool.eq_iff_iff]; simp [q.2]
  rw [d1, d2, Bool.eq_iff_iff]
  simp
theorem bl_irrefl (a : List UInt8) : Op.bytesLess a a = false := by
  induction a with
  | nil => rfl
  | cons c r ih => simp [Op.bytesLess, ih]
/-- Two days' texts. -/
theorem days_apart (u v : Int) (hu : 0 ≤ u ∧ u ≤ 87658) (hv : 0 ≤ v ∧ v ≤ 87658) : Op.bytesLess (dayL u) (dayL v) = decide (u < v) ∧ (dayL u).length = 10 := by
  obtain ⟨k, hk, hn⟩ := S_all u hu
  obtain ⟨j, hj, hm⟩ := S_all v hv
  obtain ⟨a1, a2, a3⟩ := day_month hn
  obtain ⟨b1, b2, b3⟩ := day_month hm
  rw [dayL_at hk hn, dayL_at hj hm]
  refine ⟨?_, day_len10 _ _ _ (by omega) (by omega) (by omega)⟩
  rw [dayT_less _ _ _ _ _ _ (by omega) (by omega) (by omega) (by omega) (by omega) (by omega), Bool.eq_iff_iff]
  simp only [decide_eq_true_eq]
  have hkj : (1960 + k / 12 < 1960 + j / 12 ∨ (1960 + k / 12 = 1960 + j / 12 ∧ 1 + k % 12 < 1 + j % 12)) ↔ k < j := by omega
  by_cases e : k = j
  · subst e
    omega
  · by_cases l : k < j
    · have h1 := hkj.2 l
      have h2 := S_le (show k + 1 ≤ j by omega)
      omega
    · have h2 := S_le (show j + 1 ≤ k by omega)
      omega
theorem days_same (u v : Int) (hu : 0 ≤ u ∧ u ≤ 87658) (hv : 0 ≤ v ∧ v ≤ 87658) : dayL u = dayL v ↔ u = v := by
  refine ⟨fun h => ?_, fun h => by rw [h]⟩
  have h1 := (days_apart u v hu hv).1
  have h2 := (days_apart v u hv hu).1
  rw [h, bl_irrefl] at h1 h2
  have h1 := h1.symm
  have h2 := h2.symm
  simp only [decide_eq_false_iff_not] at h1 h2
  omega
end Go.Proofs.YtkcjgmicoifhcaaGreatDoor.Vw
