/- Texts joined: Of R2 R3 R4. -/
import Derived.Test.YtkcjgmicoifhcaaGreatDoorM0
import Derived.Test.YtkcjgmicoifhcaaGreatDoorM13
import Derived.Test.YtkcjgmicoifhcaaGreatDoorM11
import Derived.Deep.QuietTactic
import Derived.BigQuiet
import Derived.Test.YtkcjgmicoifhcaaGreatDoorM8

/- Of: The reference's Of: its one new block, told whole. -/
namespace Go.Proofs.YtkcjgmicoifhcaaGreatDoor.Re
open Go.RowKit

set_option maxRecDepth 20000 in
set_option maxHeartbeats 1000000 in
theorem rof_exact (u : Int) (w : World) : Calls Tryz.prog 126 #[.int .u64 u] w fun e w' => e = .returned (.agg #[.float .f64 (ofN u), .bool (ofB u)]) ∧ w' = w.alloc (.cells #[.float .f64 (ofN u), .bool (ofB u)] 162) := by
  have HG := Lib.hid (fun W => rgood_calls u.toNat W)
  have HB := Lib.hid (fun W => rbits_calls u.toNat W)
  have h2 := frombits_run
  have hn0 : (w.alloc (.cells #[.float .f64 0, .bool false] 162)).heap[w.heap.size]? = some (.cells #[.float .f64 0, .bool false] 162 (0, 0)) := heap_alloc_new w _
  have hnew : ∀ x y, (w.alloc (.cells #[.float .f64 x, .bool y] 162)).heap[w.heap.size]? = some (.cells #[.float .f64 x, .bool y] 162 (0, 0)) := fun x y => heap_alloc_new w _
  have HN := Lib.hid hnew
  have hset : ∀ x y, ((w.alloc (.cells #[.float .f64 0, .bool false] 162)).setCell ⟨w.heap.size, 0, none⟩ (.float .f64 x)).setCell ⟨w.heap.size, 1, none⟩ (.bool y) = w.alloc (.cells #[.float .f64 x, .bool y] 162) := fun x y => by
    rw [World.setCell_alloc_at _ _ _ _ _ rfl, World.setCell_alloc_at _ _ _ _ _ rfl]
    rfl
  have HSet := Lib.hid hset
  generalize hwa : w.alloc (.cells #[.float .f64 0, .bool false] 162) = wa at hn0 HSet
  have c0 : wa.cell? ⟨w.heap.size, 0, none⟩ = some (.float .f64 0) := cell_of_row wa _ 0 _ _ _ hn0
  have c1 : wa.cell? ⟨w.heap.size, 1, none⟩ = some (.bool false) := cell_of_row wa _ 1 _ _ _ hn0
  have hst := fun (a : Addr) (n : Nat) (W : World) => run_store Tryz.prog W a (.float .f64 n) .plain rfl
  have f0 : wa.frozen? ⟨w.heap.size, 0, none⟩ = false := frozen_of_row wa _ 0 _ _ hn0
  have f1 : wa.frozen? ⟨w.heap.size, 1, none⟩ = false := frozen_of_row wa _ 1 _ _ hn0
  clear hset hnew hn0
  go_enter Tryz.func126, Tryz.ntmps126
  go_wp2_with fail
  refine (HG.out _).mono ?_
  rintro e w1 ⟨rfl, rfl⟩
  clear hwa
  rcases Bool.eq_false_or_eq_true (goodR u.toNat) with e1 | e1
  · rw [e1]
    go_wp2_with fail
    refine (HB.out _).mono ?_
    rintro e w2 ⟨rfl, rfl⟩
    by_cases hu : bitsN u.toNat = u
    · obtain ⟨h3, h4⟩ := of_yes e1 hu
      have hb : (bitsN u.toNat != u) = false := by simpa using hu
      go_wp2_with fail
      rw [HSet.out]
      (try simp only [Exit.inBlock, Exit.then])
      refine bodyPost_ret (results_cell_row (p := 2) (ty := 162) rfl _ _ w.heap.size 162 _ _ _ rfl (HN.out _ _) Tryz.underlying162 rfl (by kernel_rfl)) rfl ?_
      exact ⟨by rw [h3, h4], by rw [h3, h4]⟩
    · obtain ⟨h3, h4⟩ := of_no (.inr hu)
      have hb : (bitsN u.toNat != u) = true := by simpa using hu
      go_wp2_with fail
      rw [HSet.out]
      (try simp only [Exit.inBlock, Exit.then])
      refine bodyPost_ret (results_cell_row (p := 2) (ty := 162) rfl _ _ w.heap.size 162 _ _ _ rfl (HN.out _ _) Tryz.underlying162 rfl (by kernel_rfl)) rfl ?_
      exact ⟨by rw [h3, h4], by rw [h3, h4]⟩
  · rw [e1]
    obtain ⟨h3, h4⟩ := of_no (.inl e1)
    go_wp2_with fail
    rw [HSet.out]
    (try simp only [Exit.inBlock, Exit.then])
    refine bodyPost_ret (results_cell_row (p := 2) (ty := 162) rfl _ _ w.heap.size 162 _ _ _ rfl (HN.out _ _) Tryz.underlying162 rfl (by kernel_rfl)) rfl ?_
    exact ⟨by rw [h3, h4], by rw [h3, h4]⟩
end Go.Proofs.YtkcjgmicoifhcaaGreatDoor.Re

/- R2: The reference's float. -/
namespace Go.Proofs.YtkcjgmicoifhcaaGreatDoor.Cn
open Go.RowKit Go.Sort Go.Lib Go.Shelf
open Vw (Tab str Blk)
attribute [local go_sem ↓] Go.wp_at_zero Go.wp_at_succ

/-- A small hexadecimal digit's number; -1: it is none. -/
def lowD (c : UInt8) : Int := if 48 ≤ c.toNat ∧ c.toNat ≤ 57 then (c.toNat : Int) - 48 else if 97 ≤ c.toNat ∧ c.toNat ≤ 102 then (c.toNat : Int) - 87 else -1
theorem lowD_fin : ∀ c : Fin 256, lowD (UInt8.ofNat c.val) < 16 ∧ -1 ≤ lowD (UInt8.ofNat c.val) ∧ (0 ≤ lowD (UInt8.ofNat c.val) → hx (lowD (UInt8.ofNat c.val)).toNat = UInt8.ofNat c.val) := by decide +kernel
theorem lowD_at (c : UInt8) : lowD c < 16 ∧ -1 ≤ lowD c ∧ (0 ≤ lowD c → hx (lowD c).toNat = c) := by
  have := lowD_fin ⟨c.toNat, c.toNat_lt⟩
  simpa using this
theorem hx_low : ∀ d : Fin 16, lowD (hx d.val) = (d.val : Int) := by decide +kernel
/-- Their number. -/
def hvL (l : List UInt8) : Nat := l.foldl (fun a c => a * 16 + (lowD c).toNat) 0
theorem hvL_snoc (l : List UInt8) (c : UInt8) : hvL (l ++ [c]) = hvL l * 16 + (lowD c).toNat := by unfold hvL; rw [List.foldl_append]; rfl
def Low (l : List UInt8) : Prop := ∀ c ∈ l, 0 ≤ lowD c
theorem hexL_hvL : ∀ (n : Nat) (l : List UInt8), l.length = n → Low l → hexL (hvL l) n = l ∧ hvL l < 16 ^ n
  | 0, l, h, _ => by
    obtain rfl := List.length_eq_zero_iff.1 h
    exact ⟨rfl, by decide⟩
  | n + 1, l, h, hl => by
    rcases List.eq_nil_or_concat l with h0 | ⟨a, c, h0⟩
    · rw [h0] at h; simp at h
    · rw [List.concat_eq_append] at h0
      subst h0
      have hn : a.length = n := by simpa using h
      obtain ⟨i1, i2⟩ := hexL_hvL n a hn fun d hd => hl d (by simp [hd])
      have hc := hl c (by simp)
      obtain ⟨c1, _, c2⟩ := lowD_at c
      have h3 := c2 hc
      rw [hvL_snoc, hexL]
      have h4 : (hvL a * 16 + (lowD c).toNat) / 16 = hvL a := by omega
      have h5 : (hvL a * 16 + (lowD c).toNat) % 16 = (lowD c).toNat := by omega
      rw [h4, h5, i1, h3, Nat.pow_succ]
      exact ⟨rfl, by omega⟩
theorem hexL_low : ∀ (j u : Nat), Low (hexL u j)
  | 0, _ => fun c hc => by simp [hexL] at hc
  | j + 1, u => fun c hc => by
    rw [hexL, List.mem_append] at hc
    rcases hc with h | h
    · exact hexL_low j _ c h
    · obtain rfl := List.mem_singleton.1 h
      have := hx_low ⟨u % 16, Nat.mod_lt _ (by decide)⟩
      simp only at this
      rw [this]
      omega
theorem real_low {l : List UInt8} (h16 : l.length = 16) (hl : Low l) : realU l = hvL l ∧ hvL l < 18446744073709551616 ∧ realB l = Re.ofB (hvL l) := by
  obtain ⟨h1, h2⟩ := hexL_hvL 16 l h16 hl
  have h3 : hvL l < 18446744073709551616 := by
    have : (16 : Nat) ^ 16 = 18446744073709551616 := by decide
    omega
  have h4 : hexT (hvL l) = l := h1
  have h5 := hexT_ok (hvL l) h3
  rw [h4] at h5
  have h6 : realU l = hvL l := by unfold realU; rw [h5]
  refine ⟨h6, h3, ?_⟩
  unfold realB
  rw [h5, h6, h4, h16]
  simp [okE]
theorem real_high {l : List UInt8} (h : ¬ Low l) : realB l = false := by
  cases hb : realB l with
  | false => rfl
  | true =>
    unfold realB at hb
    simp only [Bool.and_eq_true, decide_eq_true_eq] at hb
    exact absurd (hb.2.2.2 ▸ hexL_low 16 _) h
theorem real_long {l : List UInt8} (h : ¬ l.length = 16) : realB l = false := by
  cases hb : realB l with
  | false => rfl
  | true =>
    unfold realB at hb
    simp only [Bool.and_eq_true, decide_eq_true_eq] at hb
    exact absurd hb.2.2.1 h
theorem hex_at : ∀ d : Fin 16, ∀ W, (Instr.index 9 (.string ⟨#[48, 49, 50, 51, 52, 53, 54, 55, 56, 57, 97, 98, 99, 100, 101, 102]⟩) (.int .i64 (d.val : Int))).run Tryz.prog W = .ok (.int .u8 ((hx d.val).toNat : Int)) W := by
  intro d W
  have : d = 0 ∨ d = 1 ∨ d = 2 ∨ d = 3 ∨ d = 4 ∨ d = 5 ∨ d = 6 ∨ d = 7 ∨ d = 8 ∨ d = 9 ∨ d = 10 ∨ d = 11 ∨ d = 12 ∨ d = 13 ∨ d = 14 ∨ d = 15 := by omega
  rcases this with rfl | rfl | rfl | rfl | rfl | rfl | rfl | rfl | rfl | rfl | rfl | rfl | rfl | rfl | rfl | rfl <;> (show _ = _; kernel_rfl)
set_option maxRecDepth 40000 in
set_option maxHeartbeats 16000000 in
theorem rfloat_calls (l : List UInt8) (_hl : l.length ≤ 1000000) (w : World) :
    Calls Tryz.prog 86 #[.string (str l)] w fun e w' => (∃ f : Nat, e = .returned (.tuple #[.float .f64 f, .bool (realB l)]) ∧ (realB l = true → f = realU l) ∧ f < 18446744073709551616) ∧ Below w.heap.size w w' := by
  have hs : (str l).size = l.length := Vw.str_size l
  by_cases h16 : l.length = 16
  · have hs2 : (str l).size = 16 := by omega
    clear _hl
    go_enter Tryz.func86, Tryz.ntmps86
    go_wp2_with fail
    go_loopw [4, 5] (fun vu vi wr => ∃ (k : Nat) (a : Int), k ≤ 16 ∧ vi = .int .i64 (k : Int) ∧ vu = .int .u64 a ∧ 0 ≤ a ∧ a < 18446744073709551616 ∧ Below w.heap.size w wr ∧ Hid (Low (l.take k) ∧ a = (hvL (l.take k) : Int))) (fun _ vi _ => 16 - (RowKit.intOf vi).toNat)
    case atStart => exact ⟨0, 0, by omega, rfl, rfl, by omega, by omega, Below.refl _ _, Lib.hid ⟨by intro c hc; simp at hc, by simp [hvL]⟩⟩
    case round =>
      obtain ⟨k, a, hk, rfl, rfl, ha0, ha1, hb, hh⟩ := hrel
      have HB := Lib.hid hb
      clear hb
      by_cases hkn : k < 16
      · have hk2 : k < (str l).size := by omega
        have hk3 : k < l.length := by omega
        have hkI : (k : Int) < 16 := by omega
        have HC : Hid ((str l)[k]'hk2 = l[k]) := Lib.hid (str_get l k hk2)
        obtain ⟨c, hc⟩ : ∃ c, l[k] = c := ⟨_, rfl⟩
        rw [hc] at HC
        obtain ⟨c1, c2, c3⟩ := lowD_at c
        go_wp2_with fail
        go_loopw [6, 7] (fun vd vj wr => ∃ j : Nat, j ≤ 16 ∧ vj = .int .i64 (j : Int) ∧ vd = .int .i64 (if lowD c < (j : Int) then lowD c else -1) ∧ Below w.heap.size w wr) (fun _ vj _ => 16 - (RowKit.intOf vj).toNat)
        case atStart => exact ⟨0, by omega, rfl, by rw [ite_eq_right_iff.2 (by omega)], HB.out⟩
        case round =>
          obtain ⟨j, hj, rfl, rfl, hb⟩ := hrel
          have HB := Lib.hid hb
          clear hb
          by_cases hj16 : j < 16
          · have hix := hex_at ⟨j, hj16⟩
            have hjI : (j : Int) < 16 := by omega
            simp only at hix
            have hcS := HC.out
            by_cases hjc : lowD c = (j : Int)
            · have hxj : hx j = c := by
                have := c3 (by omega)
                rwa [hjc, Int.toNat_natCast] at this
              have HR : Hid ((j : Int) = if lowD c < ((j + 1 : Nat) : Int) then lowD c else -1) := Lib.hid (by rw [if_pos (by omega)]; omega)
              rw [hxj] at hix
              generalize (if lowD c < (j : Int) then lowD c else -1) = dv0 at *
              clear hjc c1 c2 c3 hxj hh
              go_wp2_with fail
              go_quiet (fail)
              generalize hW : World.drewN _ _ = w2
              have HB2 : Hid (Below w.heap.size w w2) := Lib.hid (by rw [← hW]; exact Vw.below_drewN HB.out _)
              clear hW hix hcS
              go_wp2_with fail
              go_roundw
              case rel => exact ⟨j + 1, by omega, by go_num, congrArg (Value.int .i64) HR.out, HB2.out⟩
              all_goals (simp [RowKit.intOf]; omega)
            · have HR : Hid ((if lowD c < (j : Int) then lowD c else -1) = if lowD c < ((j + 1 : Nat) : Int) then lowD c else -1) := Lib.hid (by
                by_cases h : lowD c < (j : Int)
                · rw [if_pos h, if_pos (by omega)]
                · rw [if_neg h, if_neg (by omega)])
              have hne : ¬ ((hx j).toNat : Int) = (c.toNat : Int) := fun h => hjc (by
                have h1 : hx j = c := UInt8.toNat_inj.1 (by omega)
                have h2 := hx_low ⟨j, hj16⟩
                simp only at h2
                rw [h1] at h2
                exact h2)
              have hne2 : (((hx j).toNat : Int) == (c.toNat : Int)) = false := beq_eq_false_iff_ne.2 hne
              generalize (if lowD c < (j : Int) then lowD c else -1) = dv0 at *
              generalize hx j = y at *
              clear hjc c1 c2 c3 hh
              go_wp2_with fail
              go_quiet (fail)
              generalize hW : World.drewN _ _ = w2
              have HB2 : Hid (Below w.heap.size w w2) := Lib.hid (by rw [← hW]; exact Vw.below_drewN HB.out _)
              clear hW hix hcS
              go_wp2_with fail
              go_roundw
              case rel => exact ⟨j + 1, by omega, by go_num, congrArg (Value.int .i64) HR.out, HB2.out⟩
              all_goals (simp [RowKit.intOf]; omega)
          · obtain rfl : j = 16 := by omega
            have hdc : (if lowD c < ((16 : Nat) : Int) then lowD c else -1) = lowD c := if_pos (by omega)
            rw [hdc]
            clear hdc
            have hcS := HC.out
            by_cases hneg : lowD c < 0
            · have HE := Lib.hid (real_high (l := l) fun hL => by have := hL _ (List.getElem_mem hk3); rw [hc] at this; omega)
              generalize lowD c = dc at *
              clear hh c3
              go_wp2_with fail
              go_ret2
              exact ⟨⟨0, by rw [HE.out]; rfl, fun h => absurd (HE.out.symm.trans h) (by decide), by decide⟩, HB.out⟩
            · have h1 : hvL (l.take (k + 1)) = hvL (l.take k) * 16 + (lowD c).toNat := by rw [List.take_succ_eq_append_getElem hk3, hvL_snoc, hc]
              have h2 : Low (l.take (k + 1)) := by
                rw [List.take_succ_eq_append_getElem hk3]
                intro d hd
                rw [List.mem_append] at hd
                rcases hd with hd | hd
                · exact hh.out.1 d hd
                · obtain rfl := List.mem_singleton.1 hd
                  rw [hc]
                  omega
              have h3 : hvL (l.take (k + 1)) < 18446744073709551616 := by
                have h4 := (hexL_hvL _ _ rfl h2).2
                have h5 : (l.take (k + 1)).length ≤ 16 := by rw [List.length_take]; omega
                have h6 : (16 : Nat) ^ (l.take (k + 1)).length ≤ 16 ^ 16 := Nat.pow_le_pow_right (by decide) h5
                have h7 : (16 : Nat) ^ 16 = 18446744073709551616 := by decide
                omega
              have hov : a * 16 + lowD c < 18446744073709551616 := by
                have := hh.out.2
                omega
              have HN : Hid (Low (l.take (k + 1)) ∧ a * 16 + lowD c = (hvL (l.take (k + 1)) : Int)) := Lib.hid ⟨h2, by have := hh.out.2; omega⟩
              have hd0 : 0 ≤ lowD c := by omega
              clear hh h1 h2 h3 c3
              generalize lowD c = dc at *
              go_wp2_with fail
              go_roundw
              case rel => exact ⟨k + 1, a * 16 + dc, by omega, by go_num, by go_num, by omega, hov, HB.out, HN⟩
              all_goals (simp [RowKit.intOf]; omega)
      · obtain rfl : k = 16 := by omega
        have hh2 := hh.out
        rw [← h16, List.take_length] at hh2
        obtain ⟨q1, q2, q3⟩ := real_low h16 hh2.1
        have HE := Lib.hid q3
        have HU := Lib.hid q1
        have HA := Lib.hid hh2.2
        have HO := Lib.hid (Re.rof_exact a wr)
        have HOb : Hid (Re.ofB a = realB l ∧ (realB l = true → Re.ofN a = realU l) ∧ Re.ofN a < 18446744073709551616) := Lib.hid (by
          rw [HE.out, HU.out, HA.out]
          refine ⟨rfl, fun h => ?_, ?_⟩
          · unfold Re.ofN; rw [if_pos h]; rfl
          · unfold Re.ofN; split
            · simpa using q2
            · decide)
        rw [HOb.out.1] at HO
        clear hh hh2 q1 q2 q3 hs
        generalize Re.ofN a = f at *
        generalize hrb : realB l = rb at *
        have hst0 : ∀ (a : Addr) (n : Nat) (W : World), (store a (.float .f64 n)).run Tryz.prog W = match W.cell? a with
            | some _ => if W.frozen? a then .halt (.unsupported (.unsafePointer "a write to bytes that a string shares")) W else .ok () (W.setCell a (.float .f64 n))
            | none => match World.farStore Tryz.prog W a (.float .f64 n) (Mode.plain == Mode.atomic) with | .ok (w', _) => .ok () w' | .error h => .halt h W := fun _ _ _ => rfl
        go_wp2_with fail
        refine HO.out.mono ?_
        rintro e w1 ⟨rfl, rfl⟩
        have hal := (Below.refl wr.heap.size wr).alloc (Nat.le_refl _) (.cells #[.float .f64 f, .bool rb] 162)
        have HB1 := Lib.hid (HB.out.trans (hal.mono HB.out.size))
        clear hal
        generalize wr.alloc (.cells #[.float .f64 f, .bool rb] 162) = w1 at *
        go_upto_region 17 with fail
        have hal := (Below.refl w1.heap.size w1).alloc (Nat.le_refl _) (.cells #[.float .f64 f, .bool rb] 162)
        have HD2 := Lib.hid (Blk.new w1 162 #[.float .f64 f, .bool rb])
        have HB2 := Lib.hid (HB1.out.trans (hal.mono HB1.out.size))
        clear hal
        generalize w1.alloc (.cells #[.float .f64 f, .bool rb] 162) = w2 at *
        generalize w1.heap.size = g2 at *
        have k0 : w2.cell? ⟨g2, 0, none⟩ = some (.float .f64 f) := HD2.out.cell 0
        have k1 : w2.cell? ⟨g2, 1, none⟩ = some (.bool rb) := HD2.out.cell 1
        go_quiet (fail)
        generalize hW : World.drewN _ _ = w3
        have HB3 : Hid (Below w.heap.size w w3) := Lib.hid (by rw [← hW]; exact Vw.below_drewN HB2.out _)
        clear hW k0 k1
        go_wp2_with fail
        go_ret2
        exact ⟨⟨f, by rw [hrb]; rfl, by rw [hrb]; exact HOb.out.2.1, HOb.out.2.2⟩, HB3.out⟩
  · have HE := Lib.hid (real_long h16)
    clear _hl
    generalize l.length = n at *
    have h16I : ¬ (n : Int) = 16 := by omega
    go_enter Tryz.func86, Tryz.ntmps86
    go_wp2_with fail
    go_ret2
    exact ⟨⟨0, by rw [HE.out]; rfl, fun h => absurd (HE.out.symm.trans h) (by decide), by decide⟩, Below.refl _ _⟩
end Go.Proofs.YtkcjgmicoifhcaaGreatDoor.Cn

/- R3: The reference's Start, Of and day. -/
namespace Go.Proofs.YtkcjgmicoifhcaaGreatDoor.Cn
open Go.RowKit Go.Sort Go.Lib Go.Shelf
open Vw (Tab str Blk S md mdN)
attribute [local go_sem ↓] Go.wp_at_zero Go.wp_at_succ

set_option maxRecDepth 20000 in
set_option maxHeartbeats 4000000 in
theorem rstart_calls (n : Nat) (hn : n ≤ 2880) (w : World) :
    Calls Tryz.prog 125 #[.int .i64 (n : Int)] w fun e w' => e = .returned (.int .i64 (S n)) ∧ w' = w := by
  have HD := Lib.hid (fun (y m : Int) (h0 : 0 ≤ y) (h1 : y ≤ 3000) (hm : 1 ≤ m ∧ m ≤ 12) W => Vw.rdays_calls y m h0 h1 hm W)
  have HS := Lib.hid S_bound
  have HM := Lib.hid Vw.md_walk
  have hnI : (n : Int) ≤ 2880 := by omega
  go_enter Tryz.func125, Tryz.ntmps125
  go_wp2_with fail
  go_loop [3, 4] (fun va vi => ∃ (k : Nat) (a : Int), k ≤ n ∧ vi = .int .i64 (k : Int) ∧ va = .int .i64 a ∧ 0 ≤ a ∧ a ≤ 100000 ∧ Hid (a = S k)) (fun _ vi => n - (RowKit.intOf vi).toNat)
  case atStart => exact ⟨0, 0, by omega, rfl, rfl, by omega, by omega, Lib.hid rfl⟩
  case round =>
    obtain ⟨k, a, hk, rfl, rfl, ha0, ha1, hh⟩ := hrel
    have HH := Lib.hid hh.out
    clear hh
    by_cases hkn : k < n
    · have hkI : (k : Int) < (n : Int) := by omega
      have hq : (k : Int).tdiv 12 = (k : Int) / 12 := Int.tdiv_eq_ediv_of_nonneg (by omega)
      have hr : (k : Int).tmod 12 = (k : Int) % 12 := Int.tmod_eq_emod_of_nonneg (by omega)
      have hM : mdN (1960 + (k : Int) / 12) (1 + (k : Int) % 12) = md k := HM.out k
      have HC := Lib.hid (HD.out (1960 + (k : Int) / 12) (1 + (k : Int) % 12) (by omega) (by omega) (by omega) w)
      rw [hM] at HC
      have hb := HS.out (k + 1)
      have HN : Hid (a + md k = S (k + 1)) := Lib.hid (by rw [HH.out]; rfl)
      have hs : a + md k ≤ 100000 ∧ 0 ≤ a + md k := by rw [HN.out]; omega
      obtain ⟨hs1, hs2⟩ := hs
      have hc1 : 0 ≤ (k : Int) / 12 := by omega
      have hc2 : (k : Int) / 12 ≤ 240 := by omega
      have hc3 : 0 ≤ (k : Int) % 12 := by omega
      have hc4 : (k : Int) % 12 ≤ 11 := by omega
      generalize md k = mk at *
      clear hb hM
      go_wp2_with fail
      refine HC.out.mono ?_
      rintro e w1 ⟨rfl, rfl⟩
      go_wp2_with fail
      refine ⟨⟨k + 1, a + mk, by omega, by go_num, by go_num, hs2, hs1, HN⟩, by simp [RowKit.intOf]; omega⟩
    · obtain rfl : n = k := by omega
      go_wp2_with fail
      go_ret
      exact ⟨by rw [← HH.out]; rfl, rfl⟩
theorem okD_no {y m d : Int} (h : y < 1960 ∨ 2199 < y ∨ m < 1 ∨ 12 < m ∨ d < 1 ∨ mdN y m < d) : okD y m d = false := by
  unfold okD
  simp only [Bool.and_eq_false_iff, decide_eq_false_iff_not]
  omega
theorem okD_yes {y m d : Int} (hy : 1960 ≤ y ∧ y ≤ 2199) (hm : 1 ≤ m ∧ m ≤ 12) (hd : 1 ≤ d ∧ d ≤ mdN y m) : okD y m d = true := by
  unfold okD
  simp only [Bool.and_eq_true, decide_eq_true_eq]
  exact ⟨hy, hm, hd⟩
set_option maxRecDepth 20000 in
set_option maxHeartbeats 4000000 in
theorem rofd_calls (y m d : Int) (hy0 : 0 ≤ y) (hy1 : y ≤ 10000) (hm0 : 0 ≤ m) (hm1 : m ≤ 100) (hd0 : 0 ≤ d) (hd1 : d ≤ 100) (w : World) :
    Calls Tryz.prog 85 #[.int .i64 y, .int .i64 m, .int .i64 d] w fun e w' => e = .returned (if okD y m d then .tuple #[.int .i64 (dnum y m d), .int .i64 0] else .tuple #[.int .i64 0, .int .i64 15]) ∧ w' = w := by
  by_cases q1 : y < 1960
  · rw [okD_no (.inl q1)]
    go_enter Tryz.func85, Tryz.ntmps85
    go_wp2_with fail
    go_ret2
    exact ⟨rfl, rfl⟩
  by_cases q2 : 2199 < y
  · rw [okD_no (.inr (.inl q2))]
    go_enter Tryz.func85, Tryz.ntmps85
    go_wp2_with fail
    go_ret2
    exact ⟨rfl, rfl⟩
  by_cases q3 : m < 1
  · rw [okD_no (.inr (.inr (.inl q3)))]
    go_enter Tryz.func85, Tryz.ntmps85
    go_wp2_with fail
    go_ret2
    exact ⟨rfl, rfl⟩
  by_cases q4 : 12 < m
  · rw [okD_no (.inr (.inr (.inr (.inl q4))))]
    go_enter Tryz.func85, Tryz.ntmps85
    go_wp2_with fail
    go_ret2
    exact ⟨rfl, rfl⟩
  by_cases q5 : d < 1
  · rw [okD_no (.inr (.inr (.inr (.inr (.inl q5)))))]
    go_enter Tryz.func85, Tryz.ntmps85
    go_wp2_with fail
    go_ret2
    exact ⟨rfl, rfl⟩
  have HD := Lib.hid (Vw.rdays_calls y m (by omega) (by omega) (by omega) w)
  by_cases q6 : mdN y m < d
  · rw [okD_no (.inr (.inr (.inr (.inr (.inr q6)))))]
    generalize mdN y m = M at *
    go_enter Tryz.func85, Tryz.ntmps85
    go_wp2_with fail
    refine HD.out.mono ?_
    rintro e w1 ⟨rfl, rfl⟩
    go_wp2_with fail
    go_ret2
    exact ⟨rfl, rfl⟩
  rw [okD_yes (by omega) (by omega) (by omega)]
  have HS := Lib.hid (rstart_calls (12 * (y - 1960).toNat + (m - 1).toNat) (by omega) w)
  have hn : ((12 * (y - 1960).toNat + (m - 1).toNat : Nat) : Int) = 12 * (y - 1960) + m - 1 := by omega
  rw [hn] at HS
  have HV : Hid (dnum y m d = S (12 * (y - 1960).toNat + (m - 1).toNat) + d - 1) := Lib.hid rfl
  have hb := S_bound (12 * (y - 1960).toNat + (m - 1).toNat)
  have hs0 : 0 ≤ S (12 * (y - 1960).toNat + (m - 1).toNat) := hb.1
  have hs1 : S (12 * (y - 1960).toNat + (m - 1).toNat) ≤ 100000 := by have := hb.2; omega
  rw [HV.out]
  clear HV hb hn
  generalize S (12 * (y - 1960).toNat + (m - 1).toNat) = s at *
  generalize mdN y m = M at *
  go_enter Tryz.func85, Tryz.ntmps85
  go_wp2_with fail
  refine HD.out.mono ?_
  rintro e w1 ⟨rfl, rfl⟩
  go_wp2_with fail
  refine HS.out.mono ?_
  rintro e w2 ⟨rfl, rfl⟩
  go_wp2_with fail
  go_ret2
  exact ⟨rfl, rfl⟩
end Go.Proofs.YtkcjgmicoifhcaaGreatDoor.Cn

/- R4: The reference's day. -/
namespace Go.Proofs.YtkcjgmicoifhcaaGreatDoor.Cn
open Go.RowKit Go.Sort Go.Lib Go.Shelf
open Vw (Tab str Blk S md mdN dayL dayT)
attribute [local go_sem ↓] Go.wp_at_zero Go.wp_at_succ

theorem pad_of {l : List UInt8} {k : Nat} (hl : l.length = k) (hd : Digs l) (hk : dv l < 18446744073709551616) (hlen : (pad (dv l) k).length = k) : pad (dv l) k = l :=
  (bl_dig _ _ (by rw [hlen, hl]) (pad_digs _ _ hk) hd).2.2 (dv_pad _ _ hk)
theorem day_T (y m t : Nat) (h : okD y m t = true) : dayL (dnum y m t) = dayT y m t := by
  unfold okD at h
  simp only [Bool.and_eq_true, decide_eq_true_eq] at h
  obtain ⟨h1, h2, h3⟩ := h
  obtain ⟨k, hk⟩ : ∃ k, 12 * ((y : Int) - 1960).toNat + ((m : Int) - 1).toNat = k := ⟨_, rfl⟩
  have e3 := Vw.md_at ((y : Int) - 1960).toNat ((m : Int) - 1).toNat (by omega)
  rw [hk, show (1960 : Int) + (((y : Int) - 1960).toNat : Int) = y by omega, show (1 : Int) + (((m : Int) - 1).toNat : Int) = m by omega] at e3
  have e4 : S (k + 1) = S k + md k := rfl
  have e5 : dnum y m t = S k + t - 1 := by unfold dnum; rw [hk]
  rw [e5, Vw.dayL_at (k := k) (by omega) (by omega)]
  congr 1 <;> omega
/-- The parts of a date's text. -/
abbrev dp0 (x : List UInt8) : List UInt8 := (x.drop 0).take (4 - 0)
abbrev dp1 (x : List UInt8) : List UInt8 := (x.drop 5).take (7 - 5)
abbrev dp2 (x : List UInt8) : List UInt8 := (x.drop 8).take (10 - 8)
theorem day_back (x : List UInt8) (h10 : x.length = 10) (h4 : x[4]? = some 45) (h7 : x[7]? = some 45) (d0 : Digs (dp0 x)) (d1 : Digs (dp1 x)) (d2 : Digs (dp2 x)) (hok : okD (dv (dp0 x)) (dv (dp1 x)) (dv (dp2 x)) = true) :
    dayB x = true ∧ dayN x = dnum (dv (dp0 x)) (dv (dp1 x)) (dv (dp2 x)) := by
  have hr := dnum_range _ _ _ hok
  have hT := day_T _ _ _ hok
  have l0 : (dp0 x).length = 4 := by simp [dp0, h10]
  have l1 : (dp1 x).length = 2 := by simp [dp1, h10]
  have l2 : (dp2 x).length = 2 := by simp [dp2, h10]
  have b0 := dv_lt _ d0
  have b1 := dv_lt _ d1
  have b2 := dv_lt _ d2
  rw [l0] at b0
  rw [l1] at b1
  rw [l2] at b2
  have hy : 1960 ≤ dv (dp0 x) := by
    unfold okD at hok
    simp only [Bool.and_eq_true, decide_eq_true_eq] at hok
    omega
  have p0 := pad_of l0 d0 (by omega) (pad4_len _ ⟨by omega, by omega⟩)
  have p1 := pad_of l1 d1 (by omega) (pad2_len _ (by omega))
  have p2 := pad_of l2 d2 (by omega) (pad2_len _ (by omega))
  have hx : dayL (dnum (dv (dp0 x)) (dv (dp1 x)) (dv (dp2 x))) = x := by
    rw [hT]
    show (((pad (dv (dp0 x)) 4 ++ [45]) ++ pad (dv (dp1 x)) 2) ++ [45]) ++ pad (dv (dp2 x)) 2 = x
    rw [p0, p1, p2]
    match x, h10, h4, h7 with
    | [a, b, c, d, e, f, g, h, i, j], _, h4, h7 =>
      simp at h4 h7
      subst h4 h7
      rfl
  have h2 := dayN_of hr
  rw [hx] at h2
  exact h2
theorem day_shape {x : List UInt8} (h : dayB x = true) : x.length = 10 ∧ x[4]? = some 45 ∧ x[7]? = some 45 ∧ Digs (dp0 x) ∧ Digs (dp1 x) ∧ Digs (dp2 x) ∧ okD (dv (dp0 x)) (dv (dp1 x)) (dv (dp2 x)) = true := by
  obtain ⟨d, hd1, hd2⟩ := (dayB_iff x).1 h
  obtain ⟨y, m, t, _, h4, h5, h6, h7, h8⟩ := dayL_cut hd1
  have hy : 1960 ≤ y := by
    unfold okD at h4
    simp only [Bool.and_eq_true, decide_eq_true_eq] at h4
    omega
  have hx : x = pad y 4 ++ 45 :: (pad m 2 ++ 45 :: pad t 2) := by
    rw [← hd2, ← h5, day_T y m t h4]
    show (((pad y 4 ++ [45]) ++ pad m 2) ++ [45]) ++ pad t 2 = _
    simp
  have l0 := pad4_len y ⟨by omega, by omega⟩
  have l1 := pad2_len m (by omega)
  have l2 := pad2_len t (by omega)
  have g0 := pad_digs y 4 (by omega)
  have g1 := pad_digs m 2 (by omega)
  have g2 := pad_digs t 2 (by omega)
  have v0 := dv_pad y 4 (by omega)
  have v1 := dv_pad m 2 (by omega)
  have v2 := dv_pad t 2 (by omega)
  generalize pad y 4 = a at *
  generalize pad m 2 = b at *
  generalize pad t 2 = c at *
  match a, l0, b, l1, c, l2 with
  | [a0, a1, a2, a3], _, [b0, b1], _, [c0, c1], _ =>
    subst hx
    refine ⟨rfl, rfl, rfl, g0, g1, g2, ?_⟩
    show okD (dv [a0, a1, a2, a3]) (dv [b0, b1]) (dv [c0, c1]) = true
    rw [v0, v1, v2]
    exact h4
theorem info3 : (Tryz.prog.info? 3).map (fun i => (i.zero, i.size, i.bytes)) = some (some (.int .i64 0), 1, 8) := by kernel_rfl
theorem info2 : (Tryz.prog.info? 2).map (fun i => (i.zero, i.size, i.bytes)) = some (some (.int .i64 0), 1, 8) := by kernel_rfl
theorem make3 (W : World) : (Instr.makeSlice 126 (.int .i64 3) (.int .i64 3)).run Tryz.prog W = .ok (.slice (some ⟨W.heap.size, 0, none⟩) 3 3) (W.alloc (.cells #[.int .i64 0, .int .i64 0, .int .i64 0] 3)) := by
  obtain ⟨i0, hi, hz0, hz1, hz2⟩ := info_parts info3
  have h := run_make (P := Tryz.prog) W 126 3 i0 (.int .i64 0) Tryz.underlying126 hi hz0 .i64 .i64 3 3 (by omega) (by omega) (by rw [hz2]; omega) (by omega)
  rw [hz1] at h
  have em : madeCells (Value.int .i64 0).cells (Int.toNat 3 * 1) = #[.int .i64 0, .int .i64 0, .int .i64 0] := by kernel_rfl
  rw [h, em]
  rfl
theorem make2 (W : World) : (Instr.makeSlice 129 (.int .i64 2) (.int .i64 2)).run Tryz.prog W = .ok (.slice (some ⟨W.heap.size, 0, none⟩) 2 2) (W.alloc (.cells #[.int .i64 0, .int .i64 0] 2)) := by
  obtain ⟨i0, hi, hz0, hz1, hz2⟩ := info_parts info2
  have h := run_make (P := Tryz.prog) W 129 2 i0 (.int .i64 0) Tryz.underlying129 hi hz0 .i64 .i64 2 2 (by omega) (by omega) (by rw [hz2]; omega) (by omega)
  rw [hz1] at h
  have em : madeCells (Value.int .i64 0).cells (Int.toNat 2 * 1) = #[.int .i64 0, .int .i64 0] := by kernel_rfl
  rw [h, em]
  rfl
theorem below_set {B g : Nat} {w wr : World} (h : Below B w wr) (hg : B ≤ g) (i : Nat) (v : Value) : Below B w (wr.setCell ⟨g, i, none⟩ v) := h.setCell (p := ⟨g, i, none⟩) hg _
theorem blk_at {w : World} {g g1 i : Nat} {t : TypeId} {cs : Array Value} {v : Value} (h : Blk w g t cs) (hne : g ≠ g1) : Blk (w.setCell ⟨g1, i, none⟩ v) g t cs := blk_put h hne i v
theorem blk_drew {w : World} {g : Nat} {t : TypeId} {cs : Array Value} (h : Blk w g t cs) : Blk w.drew g t cs := ⟨h.heap⟩
set_option maxRecDepth 40000 in
set_option maxHeartbeats 32000000 in
theorem day_main (x x0 x1 x2 : List UInt8) (w : World) (hs2 : (str x).size = 10) (h4 : 4 < (str x).size) (h7 : 7 < (str x).size) (_f4 : ((((str x)[4]'h4).toNat : Int) == 45) = true) (_f7 : ((((str x)[7]'h7).toNat : Int) == 45) = true) (g4 : (((str x)[4]'h4).toNat : Int) = 45) (g7 : (((str x)[7]'h7).toNat : Int) = 45)
    (s0 : (str x).extract 0 4 = str x0) (s1 : (str x).extract 5 7 = str x1) (s2 : (str x).extract 8 10 = str x2) (l0 : x0.length = 4) (l1 : x1.length = 2) (l2 : x2.length = 2)
    (hno : ¬ (Digs x0 ∧ Digs x1 ∧ Digs x2) → dayB x = false) (hfin : Digs x0 → Digs x1 → Digs x2 → dayB x = okD (dv x0) (dv x1) (dv x2) ∧ (dayB x = true → dayN x = dnum (dv x0) (dv x1) (dv x2))) :
    Calls Tryz.prog 53 #[.string (str x)] w fun e w' => (∃ d : Int, e = .returned (.tuple #[.int .i64 d, .bool (dayB x)]) ∧ (dayB x = true → d = dayN x)) ∧ Below w.heap.size w w' := by
  have z0 : (str x0).size = 4 := by rw [Vw.str_size, l0]
  have z1 : (str x1).size = 2 := by rw [Vw.str_size, l1]
  have z2 : (str x2).size = 2 := by rw [Vw.str_size, l2]
  have HNo0 : Hid (¬ Digs x0 → dayB x = false) := Lib.hid fun h => hno fun h' => h h'.1
  have HNo1 : Hid (¬ Digs x1 → dayB x = false) := Lib.hid fun h => hno fun h' => h h'.2.1
  have HNo2 : Hid (¬ Digs x2 → dayB x = false) := Lib.hid fun h => hno fun h' => h h'.2.2
  have HF := Lib.hid hfin
  have hmk := make3
  have hB1 := (Below.refl w.heap.size w).alloc (Nat.le_refl _) (.cells #[.int .i64 0, .int .i64 0, .int .i64 0] 3)
  have hN1 := Blk.new w 3 #[.int .i64 0, .int .i64 0, .int .i64 0]
  obtain ⟨w1, hw1⟩ : ∃ w1, w.alloc (.cells #[.int .i64 0, .int .i64 0, .int .i64 0] 3) = w1 := ⟨_, rfl⟩
  rw [hw1] at hB1 hN1
  have hB2 := hB1.trans (((Below.refl w1.heap.size w1).alloc (Nat.le_refl _) (.cells #[.string (str x0), .string (str x1), .string (str x2)] 9)).mono hB1.size)
  have hN2 := hN1.below ((Below.refl w1.heap.size w1).alloc (Nat.le_refl _) (.cells #[.string (str x0), .string (str x1), .string (str x2)] 9))
  have hC2 := Blk.new w1 9 #[.string (str x0), .string (str x1), .string (str x2)]
  have hlt := hN1.lt
  obtain ⟨g1, hg1⟩ : ∃ g1, w.heap.size = g1 := ⟨_, rfl⟩
  obtain ⟨g2, hg2⟩ : ∃ g2, w1.heap.size = g2 := ⟨_, rfl⟩
  have hne : g2 ≠ g1 := by omega
  have HB2 := Lib.hid hB2.drew
  have HN2 : Hid (Blk (w1.alloc (.cells #[.string (str x0), .string (str x1), .string (str x2)] 9)).drew g1 3 #[.int .i64 0, .int .i64 0, .int .i64 0]) := Lib.hid (by rw [← hg1]; exact blk_drew hN2)
  have HC2 : Hid (Blk (w1.alloc (.cells #[.string (str x0), .string (str x1), .string (str x2)] 9)).drew g2 9 #[.string (str x0), .string (str x1), .string (str x2)]) := Lib.hid (by rw [← hg2]; exact blk_drew hC2)
  have HG1 := Lib.hid hg1
  have HNe := Lib.hid hne
  clear hno hfin hB1 hN1 hB2 hN2 hC2 hlt hne
  go_enter Tryz.func53, Tryz.ntmps53
  go_wp2_with fail
  try rw [hw1]
  go_region
  try rw [hg1]
  try rw [hg2]
  generalize (w1.alloc (.cells #[.string (str x0), .string (str x1), .string (str x2)] 9)).drew = w2 at *
  clear hmk hw1 s0 s1 s2 _f4 _f7 g4 g7 hg1 hg2
  go_wp2_with fail
  go_loopw [6] (fun vi wr => ∃ (i : Nat) (n0 n1 n2 : Int), i ≤ 3 ∧ vi = .int .i64 (i : Int) ∧ Blk wr g1 3 #[.int .i64 n0, .int .i64 n1, .int .i64 n2] ∧ Blk wr g2 9 #[.string (str x0), .string (str x1), .string (str x2)] ∧ Below w.heap.size w wr ∧ Hid ((1 ≤ i → Digs x0 ∧ n0 = (dv x0 : Int)) ∧ (2 ≤ i → Digs x1 ∧ n1 = (dv x1 : Int)) ∧ (3 ≤ i → Digs x2 ∧ n2 = (dv x2 : Int)) ∧ (i ≤ 0 → n0 = 0) ∧ (i ≤ 1 → n1 = 0) ∧ (i ≤ 2 → n2 = 0))) (fun vi _ => 3 - (RowKit.intOf vi).toNat)
  case atStart => exact ⟨0, 0, 0, 0, by decide, rfl, HN2.out, HC2.out, HB2.out, Lib.hid ⟨fun h => absurd h (by decide), fun h => absurd h (by decide), fun h => absurd h (by decide), fun _ => rfl, fun _ => rfl, fun _ => rfl⟩⟩
  case round =>
    obtain ⟨i, n0, n1, n2, hi, rfl, hn, hcut, hbel, hh⟩ := hrel
    have hc : i = 0 ∨ i = 1 ∨ i = 2 ∨ i = 3 := by omega
    have d0 : wr.cell? ⟨g2, 0, none⟩ = some (.string (str x0)) := hcut.cell 0
    have d1 : wr.cell? ⟨g2, 1, none⟩ = some (.string (str x1)) := hcut.cell 1
    have d2 : wr.cell? ⟨g2, 2, none⟩ = some (.string (str x2)) := hcut.cell 2
    have e0 : wr.cell? ⟨g1, 0, none⟩ = some (.int .i64 n0) := hn.cell 0
    have e1 : wr.cell? ⟨g1, 1, none⟩ = some (.int .i64 n1) := hn.cell 1
    have e2 : wr.cell? ⟨g1, 2, none⟩ = some (.int .i64 n2) := hn.cell 2
    rcases hc with rfl | rfl | rfl | rfl
    · -- part 0
      have hZ : n0 = 0 := hh.out.2.2.2.1 (by decide)
      subst hZ
      have HH := Lib.hid hh.out
      clear hh
      have HB := Lib.hid hbel
      have HC := Lib.hid hcut
      have HN := Lib.hid hn
      clear hbel hcut hn
      go_wp2_with fail
      go_loopw [7] (fun vk wr => ∃ (k : Nat) (a : Int), k ≤ 4 ∧ vk = .int .i64 (k : Int) ∧ Blk wr g1 3 #[.int .i64 a, .int .i64 n1, .int .i64 n2] ∧ Blk wr g2 9 #[.string (str x0), .string (str x1), .string (str x2)] ∧ Below w.heap.size w wr ∧ 0 ≤ a ∧ a ≤ 10000 ∧ Hid (Digs (x0.take k) ∧ a = (dv (x0.take k) : Int))) (fun vk _ => 4 - (RowKit.intOf vk).toNat)
      case atStart => exact ⟨0, 0, by decide, rfl, HN.out, HC.out, HB.out, by decide, by decide, Lib.hid ⟨by intro c hc; simp at hc, by simp [dv]⟩⟩
      case round =>
        obtain ⟨k, a, hk, rfl, hn, hcut, hbel, ha0, ha1, hh⟩ := hrel
        have HB := Lib.hid hbel
        have HC := Lib.hid hcut
        have HN := Lib.hid hn
        have c0 : wr.cell? ⟨g2, 0, none⟩ = some (.string (str x0)) := hcut.cell 0
        have m0 : wr.cell? ⟨g1, 0, none⟩ = some (.int .i64 a) := hn.cell 0
        have fz : wr.frozen? ⟨g1, 0, none⟩ = false := hn.frozen 0
        clear hbel hcut hn
        by_cases hk4 : k < 4
        · have hk2 : k < (str x0).size := by omega
          have hk3 : k < x0.length := by omega
          by_cases hd : 48 ≤ (x0[k]).toNat ∧ (x0[k]).toNat ≤ 57
          · have hx0 : (48 : Int) ≤ (((str x0)[k]'hk2).toNat : Int) := by rw [str_get]; omega
            have hx1 : (((str x0)[k]'hk2).toNat : Int) ≤ 57 := by rw [str_get]; omega
            have HN1 : Hid (Digs (x0.take (k + 1)) ∧ a * 10 + ((((str x0)[k]'hk2).toNat : Int) - 48) = (dv (x0.take (k + 1)) : Int)) := Lib.hid ⟨digs_take_succ hk3 hh.out.1 hd, by
              have h1 := dv_take_succ hk3
              have h2 := hh.out.2
              rw [str_get]
              omega⟩
            have hov : a * 10 + ((((str x0)[k]'hk2).toNat : Int) - 48) ≤ 10000 := by
              rw [HN1.out.2]
              have h1 := dv_lt _ HN1.out.1
              have h2 : (x0.take (k + 1)).length ≤ 4 := by rw [List.length_take]; omega
              have h3 : (10 : Nat) ^ (x0.take (k + 1)).length ≤ 10 ^ 4 := Nat.pow_le_pow_right (by decide) h2
              omega
            have hnn : 0 ≤ a * 10 + ((((str x0)[k]'hk2).toNat : Int) - 48) := by omega
            have hkI : (k : Int) < 4 := by omega
            clear hd hh
            go_wp2_with fail
            go_region
            all_goals (go_wp2_with fail)
            all_goals go_roundw
            all_goals first
              | (case rel => exact ⟨k + 1, a * 10 + ((((str x0)[k]'hk2).toNat : Int) - 48), by omega, by go_num, blk_drew (HN.out.set_ 0 _), blk_drew (blk_at HC.out HNe.out), (below_set HB.out (by rw [HG1.out]; exact Nat.le_refl _) 0 _).drew, hnn, hov, HN1⟩)
              | (simp [RowKit.intOf]; omega)
          · have HE : Hid (dayB x = false) := Lib.hid (HNo0.out fun h => hd (h _ (List.getElem_mem hk3)))
            have hx : (((str x0)[k]'hk2).toNat : Int) < 48 ∨ 57 < (((str x0)[k]'hk2).toNat : Int) := by rw [str_get]; omega
            have hkI : (k : Int) < 4 := by omega
            clear hh hd
            rcases hx with hx | hx
            · go_wp2_with fail
              go_ret2
              exact ⟨⟨0, by rw [HE.out]; rfl, fun h => absurd (HE.out.symm.trans h) (by decide)⟩, HB.out⟩
            · have hx2 : (48 : Int) ≤ (((str x0)[k]'hk2).toNat : Int) := by omega
              go_wp2_with fail
              go_ret2
              exact ⟨⟨0, by rw [HE.out]; rfl, fun h => absurd (HE.out.symm.trans h) (by decide)⟩, HB.out⟩
        · obtain rfl : k = 4 := by omega
          have hh2 := hh.out
          rw [show x0.take 4 = x0 by rw [← l0, List.take_length]] at hh2
          have HO : Hid ((1 ≤ 1 → Digs x0 ∧ a = (dv x0 : Int)) ∧ (2 ≤ 1 → Digs x1 ∧ n1 = (dv x1 : Int)) ∧ (3 ≤ 1 → Digs x2 ∧ n2 = (dv x2 : Int)) ∧ (1 ≤ 0 → a = 0) ∧ (1 ≤ 1 → n1 = 0) ∧ (1 ≤ 2 → n2 = 0)) := Lib.hid ⟨fun _ => hh2, fun h => absurd h (by decide), fun h => absurd h (by decide), fun h => absurd h (by decide), fun _ => HH.out.2.2.2.2.1 (by decide), fun _ => HH.out.2.2.2.2.2 (by decide)⟩
          clear hh hh2
          go_wp2_with fail
          go_roundw
          case rel => exact ⟨1, a, n1, n2, by decide, by go_num, HN.out, HC.out, HB.out, HO⟩
          all_goals (simp [RowKit.intOf])
    · -- part 1
      have hZ : n1 = 0 := hh.out.2.2.2.2.1 (by decide)
      subst hZ
      have HH := Lib.hid hh.out
      clear hh
      have HB := Lib.hid hbel
      have HC := Lib.hid hcut
      have HN := Lib.hid hn
      clear hbel hcut hn
      go_wp2_with fail
      go_loopw [7] (fun vk wr => ∃ (k : Nat) (a : Int), k ≤ 2 ∧ vk = .int .i64 (k : Int) ∧ Blk wr g1 3 #[.int .i64 n0, .int .i64 a, .int .i64 n2] ∧ Blk wr g2 9 #[.string (str x0), .string (str x1), .string (str x2)] ∧ Below w.heap.size w wr ∧ 0 ≤ a ∧ a ≤ 10000 ∧ Hid (Digs (x1.take k) ∧ a = (dv (x1.take k) : Int))) (fun vk _ => 2 - (RowKit.intOf vk).toNat)
      case atStart => exact ⟨0, 0, by decide, rfl, HN.out, HC.out, HB.out, by decide, by decide, Lib.hid ⟨by intro c hc; simp at hc, by simp [dv]⟩⟩
      case round =>
        obtain ⟨k, a, hk, rfl, hn, hcut, hbel, ha0, ha1, hh⟩ := hrel
        have HB := Lib.hid hbel
        have HC := Lib.hid hcut
        have HN := Lib.hid hn
        have c1 : wr.cell? ⟨g2, 1, none⟩ = some (.string (str x1)) := hcut.cell 1
        have m1 : wr.cell? ⟨g1, 1, none⟩ = some (.int .i64 a) := hn.cell 1
        have fz : wr.frozen? ⟨g1, 1, none⟩ = false := hn.frozen 1
        clear hbel hcut hn
        by_cases hk4 : k < 2
        · have hk2 : k < (str x1).size := by omega
          have hk3 : k < x1.length := by omega
          by_cases hd : 48 ≤ (x1[k]).toNat ∧ (x1[k]).toNat ≤ 57
          · have hx0 : (48 : Int) ≤ (((str x1)[k]'hk2).toNat : Int) := by rw [str_get]; omega
            have hx1 : (((str x1)[k]'hk2).toNat : Int) ≤ 57 := by rw [str_get]; omega
            have HN1 : Hid (Digs (x1.take (k + 1)) ∧ a * 10 + ((((str x1)[k]'hk2).toNat : Int) - 48) = (dv (x1.take (k + 1)) : Int)) := Lib.hid ⟨digs_take_succ hk3 hh.out.1 hd, by
              have h1 := dv_take_succ hk3
              have h2 := hh.out.2
              rw [str_get]
              omega⟩
            have hov : a * 10 + ((((str x1)[k]'hk2).toNat : Int) - 48) ≤ 10000 := by
              rw [HN1.out.2]
              have h1 := dv_lt _ HN1.out.1
              have h2 : (x1.take (k + 1)).length ≤ 4 := by rw [List.length_take]; omega
              have h3 : (10 : Nat) ^ (x1.take (k + 1)).length ≤ 10 ^ 4 := Nat.pow_le_pow_right (by decide) h2
              omega
            have hnn : 0 ≤ a * 10 + ((((str x1)[k]'hk2).toNat : Int) - 48) := by omega
            have hkI : (k : Int) < 2 := by omega
            clear hd hh
            go_wp2_with fail
            go_region
            all_goals (go_wp2_with fail)
            all_goals go_roundw
            all_goals first
              | (case rel => exact ⟨k + 1, a * 10 + ((((str x1)[k]'hk2).toNat : Int) - 48), by omega, by go_num, blk_drew (HN.out.set_ 1 _), blk_drew (blk_at HC.out HNe.out), (below_set HB.out (by rw [HG1.out]; exact Nat.le_refl _) 1 _).drew, hnn, hov, HN1⟩)
              | (simp [RowKit.intOf]; omega)
          · have HE : Hid (dayB x = false) := Lib.hid (HNo1.out fun h => hd (h _ (List.getElem_mem hk3)))
            have hx : (((str x1)[k]'hk2).toNat : Int) < 48 ∨ 57 < (((str x1)[k]'hk2).toNat : Int) := by rw [str_get]; omega
            have hkI : (k : Int) < 2 := by omega
            clear hh hd
            rcases hx with hx | hx
            · go_wp2_with fail
              go_ret2
              exact ⟨⟨0, by rw [HE.out]; rfl, fun h => absurd (HE.out.symm.trans h) (by decide)⟩, HB.out⟩
            · have hx2 : (48 : Int) ≤ (((str x1)[k]'hk2).toNat : Int) := by omega
              go_wp2_with fail
              go_ret2
              exact ⟨⟨0, by rw [HE.out]; rfl, fun h => absurd (HE.out.symm.trans h) (by decide)⟩, HB.out⟩
        · obtain rfl : k = 2 := by omega
          have hh2 := hh.out
          rw [show x1.take 2 = x1 by rw [← l1, List.take_length]] at hh2
          have HO : Hid ((1 ≤ 2 → Digs x0 ∧ n0 = (dv x0 : Int)) ∧ (2 ≤ 2 → Digs x1 ∧ a = (dv x1 : Int)) ∧ (3 ≤ 2 → Digs x2 ∧ n2 = (dv x2 : Int)) ∧ (2 ≤ 0 → n0 = 0) ∧ (2 ≤ 1 → a = 0) ∧ (2 ≤ 2 → n2 = 0)) := Lib.hid ⟨fun _ => HH.out.1 (by decide), fun _ => hh2, fun h => absurd h (by decide), fun h => absurd h (by decide), fun h => absurd h (by decide), fun _ => HH.out.2.2.2.2.2 (by decide)⟩
          clear hh hh2
          go_wp2_with fail
          go_roundw
          case rel => exact ⟨2, n0, a, n2, by decide, by go_num, HN.out, HC.out, HB.out, HO⟩
          all_goals (simp [RowKit.intOf])
    · -- part 2
      have hZ : n2 = 0 := hh.out.2.2.2.2.2 (by decide)
      subst hZ
      have HH := Lib.hid hh.out
      clear hh
      have HB := Lib.hid hbel
      have HC := Lib.hid hcut
      have HN := Lib.hid hn
      clear hbel hcut hn
      go_wp2_with fail
      go_loopw [7] (fun vk wr => ∃ (k : Nat) (a : Int), k ≤ 2 ∧ vk = .int .i64 (k : Int) ∧ Blk wr g1 3 #[.int .i64 n0, .int .i64 n1, .int .i64 a] ∧ Blk wr g2 9 #[.string (str x0), .string (str x1), .string (str x2)] ∧ Below w.heap.size w wr ∧ 0 ≤ a ∧ a ≤ 10000 ∧ Hid (Digs (x2.take k) ∧ a = (dv (x2.take k) : Int))) (fun vk _ => 2 - (RowKit.intOf vk).toNat)
      case atStart => exact ⟨0, 0, by decide, rfl, HN.out, HC.out, HB.out, by decide, by decide, Lib.hid ⟨by intro c hc; simp at hc, by simp [dv]⟩⟩
      case round =>
        obtain ⟨k, a, hk, rfl, hn, hcut, hbel, ha0, ha1, hh⟩ := hrel
        have HB := Lib.hid hbel
        have HC := Lib.hid hcut
        have HN := Lib.hid hn
        have c2 : wr.cell? ⟨g2, 2, none⟩ = some (.string (str x2)) := hcut.cell 2
        have m2 : wr.cell? ⟨g1, 2, none⟩ = some (.int .i64 a) := hn.cell 2
        have fz : wr.frozen? ⟨g1, 2, none⟩ = false := hn.frozen 2
        clear hbel hcut hn
        by_cases hk4 : k < 2
        · have hk2 : k < (str x2).size := by omega
          have hk3 : k < x2.length := by omega
          by_cases hd : 48 ≤ (x2[k]).toNat ∧ (x2[k]).toNat ≤ 57
          · have hx0 : (48 : Int) ≤ (((str x2)[k]'hk2).toNat : Int) := by rw [str_get]; omega
            have hx1 : (((str x2)[k]'hk2).toNat : Int) ≤ 57 := by rw [str_get]; omega
            have HN1 : Hid (Digs (x2.take (k + 1)) ∧ a * 10 + ((((str x2)[k]'hk2).toNat : Int) - 48) = (dv (x2.take (k + 1)) : Int)) := Lib.hid ⟨digs_take_succ hk3 hh.out.1 hd, by
              have h1 := dv_take_succ hk3
              have h2 := hh.out.2
              rw [str_get]
              omega⟩
            have hov : a * 10 + ((((str x2)[k]'hk2).toNat : Int) - 48) ≤ 10000 := by
              rw [HN1.out.2]
              have h1 := dv_lt _ HN1.out.1
              have h2 : (x2.take (k + 1)).length ≤ 4 := by rw [List.length_take]; omega
              have h3 : (10 : Nat) ^ (x2.take (k + 1)).length ≤ 10 ^ 4 := Nat.pow_le_pow_right (by decide) h2
              omega
            have hnn : 0 ≤ a * 10 + ((((str x2)[k]'hk2).toNat : Int) - 48) := by omega
            have hkI : (k : Int) < 2 := by omega
            clear hd hh
            go_wp2_with fail
            go_region
            all_goals (go_wp2_with fail)
            all_goals go_roundw
            all_goals first
              | (case rel => exact ⟨k + 1, a * 10 + ((((str x2)[k]'hk2).toNat : Int) - 48), by omega, by go_num, blk_drew (HN.out.set_ 2 _), blk_drew (blk_at HC.out HNe.out), (below_set HB.out (by rw [HG1.out]; exact Nat.le_refl _) 2 _).drew, hnn, hov, HN1⟩)
              | (simp [RowKit.intOf]; omega)
          · have HE : Hid (dayB x = false) := Lib.hid (HNo2.out fun h => hd (h _ (List.getElem_mem hk3)))
            have hx : (((str x2)[k]'hk2).toNat : Int) < 48 ∨ 57 < (((str x2)[k]'hk2).toNat : Int) := by rw [str_get]; omega
            have hkI : (k : Int) < 2 := by omega
            clear hh hd
            rcases hx with hx | hx
            · go_wp2_with fail
              go_ret2
              exact ⟨⟨0, by rw [HE.out]; rfl, fun h => absurd (HE.out.symm.trans h) (by decide)⟩, HB.out⟩
            · have hx2 : (48 : Int) ≤ (((str x2)[k]'hk2).toNat : Int) := by omega
              go_wp2_with fail
              go_ret2
              exact ⟨⟨0, by rw [HE.out]; rfl, fun h => absurd (HE.out.symm.trans h) (by decide)⟩, HB.out⟩
        · obtain rfl : k = 2 := by omega
          have hh2 := hh.out
          rw [show x2.take 2 = x2 by rw [← l2, List.take_length]] at hh2
          have HO : Hid ((1 ≤ 3 → Digs x0 ∧ n0 = (dv x0 : Int)) ∧ (2 ≤ 3 → Digs x1 ∧ n1 = (dv x1 : Int)) ∧ (3 ≤ 3 → Digs x2 ∧ a = (dv x2 : Int)) ∧ (3 ≤ 0 → n0 = 0) ∧ (3 ≤ 1 → n1 = 0) ∧ (3 ≤ 2 → a = 0)) := Lib.hid ⟨fun _ => HH.out.1 (by decide), fun _ => HH.out.2.1 (by decide), fun _ => hh2, fun h => absurd h (by decide), fun h => absurd h (by decide), fun h => absurd h (by decide)⟩
          clear hh hh2
          go_wp2_with fail
          go_roundw
          case rel => exact ⟨3, n0, n1, a, by decide, by go_num, HN.out, HC.out, HB.out, HO⟩
          all_goals (simp [RowKit.intOf])
    · obtain ⟨q0, q1, q2, _⟩ := hh.out
      obtain ⟨v0, rfl⟩ := q0 (by decide)
      obtain ⟨v1, rfl⟩ := q1 (by decide)
      obtain ⟨v2, rfl⟩ := q2 (by decide)
      obtain ⟨r1, r2⟩ := HF.out v0 v1 v2
      have b0 := dv_lt _ v0
      have b1 := dv_lt _ v1
      have b2 := dv_lt _ v2
      rw [l0] at b0
      rw [l1] at b1
      rw [l2] at b2
      have HD := Lib.hid (fun W => rofd_calls (dv x0) (dv x1) (dv x2) (by omega) (by omega) (by omega) (by omega) (by omega) (by omega) W)
      have HR1 := Lib.hid r1
      have HR2 := Lib.hid r2
      have HB := Lib.hid hbel
      clear hh r1 r2 v0 v1 v2 b0 b1 b2 q0 q1 q2 hn hcut hbel
      generalize (dv x0 : Int) = y at *
      generalize (dv x1 : Int) = m at *
      generalize (dv x2 : Int) = d at *
      cases hok : okD y m d with
      | true =>
        rw [hok] at HD HR1
        go_wp2_with fail
        go_quiet ((go_at_call 85; exact Calls.quiet_of_same (HD.out _)))
        generalize hW : World.drewN _ _ = w3
        have HB3 : Hid (Below w.heap.size w w3) := Lib.hid (by rw [← hW]; exact Vw.below_drewN HB.out _)
        clear hW d0 d1 d2 e0 e1 e2
        go_wp2_with fail
        go_ret2
        exact ⟨⟨dnum y m d, by rw [HR1.out]; rfl, fun h => (HR2.out h).symm⟩, HB3.out⟩
      | false =>
        rw [hok] at HD HR1
        go_wp2_with fail
        go_quiet ((go_at_call 85; exact Calls.quiet_of_same (HD.out _)))
        generalize hW : World.drewN _ _ = w3
        have HB3 : Hid (Below w.heap.size w w3) := Lib.hid (by rw [← hW]; exact Vw.below_drewN HB.out _)
        clear hW d0 d1 d2 e0 e1 e2
        go_wp2_with fail
        go_ret2
        exact ⟨⟨0, by rw [HR1.out]; rfl, fun h => absurd (HR1.out.symm.trans h) (by decide)⟩, HB3.out⟩
set_option maxRecDepth 40000 in
set_option maxHeartbeats 16000000 in
theorem rdayR_calls (x : List UInt8) (_hl : x.length ≤ 1000000) (w : World) :
    Calls Tryz.prog 53 #[.string (str x)] w fun e w' => (∃ d : Int, e = .returned (.tuple #[.int .i64 d, .bool (dayB x)]) ∧ (dayB x = true → d = dayN x)) ∧ Below w.heap.size w w' := by
  have hs : (str x).size = x.length := Vw.str_size x
  have hno : ∀ {P : Prop}, (dayB x = true → P) → ¬ P → dayB x = false := fun h hn => by
    cases hb : dayB x with
    | false => rfl
    | true => exact absurd (h hb) hn
  by_cases h10 : x.length = 10
  · have hs2 : (str x).size = 10 := by omega
    by_cases h4 : (x[4]'(by omega)).toNat = 45
    · by_cases h7 : (x[7]'(by omega)).toNat = 45
      · have f4 : ((((str x)[4]'(by omega)).toNat : Int) == 45) = true := by rw [str_get]; exact beq_iff_eq.2 (by omega)
        have f7 : ((((str x)[7]'(by omega)).toNat : Int) == 45) = true := by rw [str_get]; exact beq_iff_eq.2 (by omega)
        have g4 : (((str x)[4]'(by omega)).toNat : Int) = 45 := by rw [str_get]; omega
        have g7 : (((str x)[7]'(by omega)).toNat : Int) = 45 := by rw [str_get]; omega
        have s0 : (str x).extract 0 4 = str (dp0 x) := str_extract x 0 4
        have s1 : (str x).extract 5 7 = str (dp1 x) := str_extract x 5 7
        have s2 : (str x).extract 8 10 = str (dp2 x) := str_extract x 8 10
        exact day_main x _ _ _ w hs2 (by omega) (by omega) f4 f7 g4 g7 s0 s1 s2 (by simp [h10]) (by simp [h10]) (by simp [h10])
          (fun h => hno (fun h' => (day_shape h').2.2.2) (fun h' => h ⟨h'.1, h'.2.1, h'.2.2.1⟩))
          (fun v0 v1 v2 => by
            have p4 : x[4]? = some 45 := by rw [List.getElem?_eq_getElem (by omega)]; exact congrArg some (UInt8.toNat_inj.1 h4)
            have p7 : x[7]? = some 45 := by rw [List.getElem?_eq_getElem (by omega)]; exact congrArg some (UInt8.toNat_inj.1 h7)
            cases hok : okD (dv (dp0 x)) (dv (dp1 x)) (dv (dp2 x)) with
            | true =>
              obtain ⟨e1, e2⟩ := day_back x h10 p4 p7 v0 v1 v2 hok
              exact ⟨e1, fun _ => e2⟩
            | false =>
              have e1 : dayB x = false := hno (fun h => (day_shape h).2.2.2.2.2.2) (by rw [hok]; decide)
              exact ⟨e1, fun h => absurd (e1.symm.trans h) (by decide)⟩)
      · have HE := Lib.hid (hno (fun h => (day_shape h).2.2.1) fun h => h7 (by rw [List.getElem?_eq_getElem (by omega)] at h; rw [Option.some.inj h]; rfl))
        have f4 : ((((str x)[4]'(by omega)).toNat : Int) == 45) = true := by rw [str_get]; exact beq_iff_eq.2 (by omega)
        have f7 : ((((str x)[7]'(by omega)).toNat : Int) == 45) = false := by rw [str_get]; exact beq_eq_false_iff_ne.2 (by omega)
        have g4 : (((str x)[4]'(by omega)).toNat : Int) = 45 := by rw [str_get]; omega
        have g7 : ¬ (((str x)[7]'(by omega)).toNat : Int) = 45 := by rw [str_get]; omega
        clear hno
        go_enter Tryz.func53, Tryz.ntmps53
        go_wp2_with fail
        go_ret2
        exact ⟨⟨0, by rw [HE.out]; rfl, fun h => absurd (HE.out.symm.trans h) (by decide)⟩, Below.refl _ _⟩
    · have HE := Lib.hid (hno (fun h => (day_shape h).2.1) fun h => h4 (by rw [List.getElem?_eq_getElem (by omega)] at h; rw [Option.some.inj h]; rfl))
      have f4 : ((((str x)[4]'(by omega)).toNat : Int) == 45) = false := by rw [str_get]; exact beq_eq_false_iff_ne.2 (by omega)
      have g4 : ¬ (((str x)[4]'(by omega)).toNat : Int) = 45 := by rw [str_get]; omega
      clear hno
      go_enter Tryz.func53, Tryz.ntmps53
      go_wp2_with fail
      go_ret2
      exact ⟨⟨0, by rw [HE.out]; rfl, fun h => absurd (HE.out.symm.trans h) (by decide)⟩, Below.refl _ _⟩
  · have HE := Lib.hid (hno (fun h => (day_shape h).1) h10)
    clear hno _hl
    generalize x.length = n at *
    have hI : ¬ (n : Int) = 10 := by omega
    go_enter Tryz.func53, Tryz.ntmps53
    go_wp2_with fail
    go_ret2
    exact ⟨⟨0, by rw [HE.out]; rfl, fun h => absurd (HE.out.symm.trans h) (by decide)⟩, Below.refl _ _⟩
end Go.Proofs.YtkcjgmicoifhcaaGreatDoor.Cn
