/- Texts joined: P3 D1 P4 P5. -/
import Derived.Test.YtkcjgmicoifhcaaGreatDoorM10
import Derived.Test.YtkcjgmicoifhcaaGreatDoorM3
import Derived.Deep.RegionHeld3

/- P3: Events of a form, plain; hexadecimal digits back. -/
namespace Go.Proofs.YtkcjgmicoifhcaaGreatDoor.Cn
open Go.RowKit Go.Sort Go.Lib Go.Shelf
open Vw (Tab str Blk)
open Ev (E C fineC goodE fieldB rateB planB takeB testF hasL letters kindB zeroE)
open Re (goodR isZ bitsN ofB ofN)

/-- A number with a point that can be written: its bits are its own. -/
structure Num (x : Nat) : Prop where
  bits : bitU x = x
  is : ofB x = true
  of : ofN x = x
theorem num_of {x : Nat} (h1 : goodR x = true) (h2 : bitsN x = x) : Num x := by
  obtain ⟨h3, h4⟩ := Re.of_yes (u := (x : Int)) (by simpa using h1) (by simpa using h2)
  exact ⟨by unfold bitU; rw [h2]; simp, h3, by simpa using h4⟩
theorem num_take {err : Int} {x : Nat} (hg : err = 0 → goodR x = true) (h : takeB err x = true) : Num x := by
  unfold takeB at h
  rw [Bool.and_eq_true, Bool.or_eq_true] at h
  have h0 : goodR x = true := hg (by simpa using h.1)
  refine num_of h0 ?_
  unfold bitsN
  rw [if_pos h0]
  split
  · rename_i hz
    rcases h.2 with h3 | h3
    · rw [hz] at h3; cases h3
    · have : (x : Int) = 0 := by simpa using h3
      omega
  · rfl
theorem num_rate {x : Nat} (h : rateB x true = true) : Num x := by
  have h' : (takeB (Re.pm x).2 x && decide ((Re.pm x).1 ≤ 250000)) = true := h
  rw [Bool.and_eq_true] at h'
  exact num_take (Ev.pm_good x) h'.1
/-- The fields of an event of a form. -/
structure Fld (e : E) (L A R U S P : Bool) : Prop where
  loan : fieldB e.loan 1000 L = true
  amount : fieldB e.amount 1000000000 A = true
  rate : rateB e.rate R = true
  sub : (U || !e.sub) = true
  status : fieldB e.status 5 S = true
  plan : planB e.plan e.family e.income P = true
theorem field_yes {n hi : Int} (h : fieldB n hi true = true) : 1 ≤ n ∧ n ≤ hi := by
  have h' : (decide (1 ≤ n) && decide (n ≤ hi)) = true := h
  simpa using h'
theorem field_no {n hi : Int} (h : fieldB n hi false = true) : n = 0 := by
  have h' : (n == 0) = true := h
  simpa using h'
theorem rate_no {x : Nat} (h : rateB x false = true) : x = 0 := by
  have h' : ((x : Int) == 0) = true := h
  have : (x : Int) = 0 := by simpa using h'
  omega
theorem plan_no {p f : Int} {x : Nat} (h : planB p f x false = true) : p = 0 ∧ x = 0 ∧ f = 0 := by
  have h' : (p == 0 && ((x : Int) == 0 && f == 0)) = true := h
  rw [Bool.and_eq_true, Bool.and_eq_true] at h'
  have h1 : p = 0 := by simpa using h'.1
  have h2 : (x : Int) = 0 := by simpa using h'.2.1
  have h3 : f = 0 := by simpa using h'.2.2
  exact ⟨h1, by omega, h3⟩
theorem plan_yes {p f : Int} {x : Nat} (h : planB p f x true = true) : (p = 4 ∧ Num x ∧ 1 ≤ f ∧ f ≤ 30) ∨ ((p = 1 ∨ p = 2 ∨ p = 3) ∧ x = 0 ∧ f = 0) := by
  have h' : (if p == 4 then takeB (Re.tk x 100).2 x && (decide ((Re.tk x 100).1 ≤ 1000000000) && (decide (1 ≤ f) && decide (f ≤ 30))) else (p == 1 || p == 2 || p == 3) && ((x : Int) == 0 && f == 0)) = true := h
  split at h'
  · rename_i hp
    rw [Bool.and_eq_true, Bool.and_eq_true, Bool.and_eq_true] at h'
    exact .inl ⟨by simpa using hp, num_take (Ev.tk_good x 100) h'.1, by simpa using h'.2.2.1, by simpa using h'.2.2.2⟩
  · rw [Bool.and_eq_true, Bool.and_eq_true, Bool.or_eq_true, Bool.or_eq_true] at h'
    have h2 : (x : Int) = 0 := by simpa using h'.2.1
    have h3 : f = 0 := by simpa using h'.2.2
    exact .inr ⟨by simpa [or_assoc] using h'.1, by omega, h3⟩
theorem good_parts (e : E) (h : goodE e = true) : (1 ≤ e.kind ∧ e.kind ≤ 8) ∧ (0 ≤ e.day ∧ e.day ≤ 87658) ∧ Fld e (hasL (letters e.kind) 108) (hasL (letters e.kind) 97) (hasL (letters e.kind) 114) (hasL (letters e.kind) 117) (hasL (letters e.kind) 115) (hasL (letters e.kind) 112) := by
  unfold goodE at h
  simp only [Bool.and_eq_true] at h
  obtain ⟨h1, h2, h3, h4, h5, h6, h7, h8⟩ := h
  exact ⟨by simpa [kindB] using h1, by simpa [Ev.dayB] using h2, ⟨h4, h3, h6, h8, h7, h5⟩⟩
theorem good_kinds (e : E) (h : goodE e = true) : (0 ≤ e.day ∧ e.day ≤ 87658) ∧
    ((e.kind = 1 ∧ Fld e true true true true false false) ∨ (e.kind = 2 ∧ Fld e true false false false true false) ∨ (e.kind = 3 ∧ Fld e false true false false false false) ∨ (e.kind = 4 ∧ Fld e true true false false false false) ∨
     (e.kind = 5 ∧ Fld e false false false false false true) ∨ (e.kind = 6 ∧ Fld e false false false false false false) ∨ (e.kind = 7 ∧ Fld e true false false false false false) ∨ (e.kind = 8 ∧ Fld e true false false false false false)) := by
  obtain ⟨h1, h2, h3⟩ := good_parts e h
  refine ⟨h2, ?_⟩
  have h4 : e.kind = 1 ∨ e.kind = 2 ∨ e.kind = 3 ∨ e.kind = 4 ∨ e.kind = 5 ∨ e.kind = 6 ∨ e.kind = 7 ∨ e.kind = 8 := by omega
  rcases h4 with h4 | h4 | h4 | h4 | h4 | h4 | h4 | h4 <;> rw [h4] at h3
  · exact .inl ⟨h4, h3⟩
  · exact .inr (.inl ⟨h4, h3⟩)
  · exact .inr (.inr (.inl ⟨h4, h3⟩))
  · exact .inr (.inr (.inr (.inl ⟨h4, h3⟩)))
  · exact .inr (.inr (.inr (.inr (.inl ⟨h4, h3⟩))))
  · exact .inr (.inr (.inr (.inr (.inr (.inl ⟨h4, h3⟩)))))
  · exact .inr (.inr (.inr (.inr (.inr (.inr (.inl ⟨h4, h3⟩))))))
  · exact .inr (.inr (.inr (.inr (.inr (.inr (.inr ⟨h4, h3⟩))))))
/-- The kind and the plan of an event of a form. -/
theorem good_kp (e : E) (h : goodE e = true) : (e.plan = 0 ∧ (e.kind = 1 ∨ e.kind = 2 ∨ e.kind = 3 ∨ e.kind = 4 ∨ e.kind = 6 ∨ e.kind = 7 ∨ e.kind = 8)) ∨ (e.kind = 5 ∧ (e.plan = 1 ∨ e.plan = 2 ∨ e.plan = 3 ∨ e.plan = 4)) := by
  rcases (good_kinds e h).2 with ⟨h4, h3⟩ | ⟨h4, h3⟩ | ⟨h4, h3⟩ | ⟨h4, h3⟩ | ⟨h4, h3⟩ | ⟨h4, h3⟩ | ⟨h4, h3⟩ | ⟨h4, h3⟩
  case inr.inr.inr.inr.inl =>
    rcases plan_yes h3.plan with h5 | h5
    · exact .inr ⟨h4, .inr (.inr (.inr h5.1))⟩
    · exact .inr ⟨h4, by omega⟩
  all_goals (have h5 := (plan_no h3.plan).1; exact .inl ⟨h5, by omega⟩)
theorem good_fit (e : E) (h : goodE e = true) (hr : e.rate < 18446744073709551616) (hi : e.income < 18446744073709551616) : FitE e := by
  obtain ⟨_, _, h3⟩ := good_parts e h
  have hf : ∀ {n hi : Int} {b : Bool}, 1 ≤ hi → fieldB n hi b = true → 0 ≤ n ∧ n ≤ hi := fun {n hi b} hh h => by
    cases b with
    | true => have := field_yes h; omega
    | false => have := field_no h; omega
  have h4 := hf (by decide) h3.loan
  have h5 := hf (by decide) h3.amount
  have h6 := hf (by decide) h3.status
  have h7 : 0 ≤ e.family ∧ e.family ≤ 30 := by
    have h8 := h3.plan
    cases hP : hasL (letters e.kind) 112 with
    | true =>
      rw [hP] at h8
      rcases plan_yes h8 with h9 | h9 <;> omega
    | false =>
      rw [hP] at h8
      have := plan_no h8
      omega
  exact ⟨by omega, by omega, by omega, h6, hr, hi⟩
/-- The form of a kind and a plan. -/
def frm (k p : Int) : Fm := (forms.find? (fun f => f.kind == k && f.plan == p)).getD ⟨[], 0, 0, []⟩
theorem frm_idx (e : E) (h : goodE e = true) : ∃ i : Nat, i < 11 ∧ forms[i]? = some (frm e.kind e.plan) ∧ fIdx (fun f => f.kind == e.kind && f.plan == e.plan) 0 forms = (i : Int) := by
  rcases good_kp e h with ⟨h1, h2⟩ | ⟨h1, h2⟩
  · rcases h2 with h2 | h2 | h2 | h2 | h2 | h2 | h2 <;> rw [h1, h2]
    · exact ⟨0, by decide, rfl, rfl⟩
    · exact ⟨1, by decide, rfl, rfl⟩
    · exact ⟨2, by decide, rfl, rfl⟩
    · exact ⟨3, by decide, rfl, rfl⟩
    · exact ⟨8, by decide, rfl, rfl⟩
    · exact ⟨9, by decide, rfl, rfl⟩
    · exact ⟨10, by decide, rfl, rfl⟩
  · rcases h2 with h2 | h2 | h2 | h2 <;> rw [h1, h2]
    · exact ⟨4, by decide, rfl, rfl⟩
    · exact ⟨5, by decide, rfl, rfl⟩
    · exact ⟨6, by decide, rfl, rfl⟩
    · exact ⟨7, by decide, rfl, rfl⟩
theorem hexD_fin : ∀ d : Fin 16, hexD (hx d.val) = some d.val := by decide +kernel
theorem hexU_hexL (u : Nat) : ∀ (j acc k : Nat), j + k ≤ 16 → acc < 16 ^ k → hexU acc (hexL u j) = .ok (acc * 16 ^ j + u % 16 ^ j)
  | 0, acc, k, _, _ => by simp [hexL, hexU, Nat.mod_one]
  | j + 1, acc, k, hk, ha => by
    rw [hexL_cons]
    simp only [hexU]
    have hd := hexD_fin ⟨u / 16 ^ j % 16, Nat.mod_lt _ (by decide)⟩
    simp only at hd
    rw [hd]
    have hp : (16 : Nat) ^ k ≤ 16 ^ 15 := Nat.pow_le_pow_right (by decide) (by omega)
    have e15 : (16 : Nat) ^ 15 = 1152921504606846976 := by decide
    simp only
    rw [if_neg (by omega), hexU_hexL u j _ (k + 1) (by omega) (by
      have := Nat.mod_lt (u / 16 ^ j) (show 0 < 16 by decide)
      rw [Nat.pow_succ]
      omega)]
    congr 1
    rw [Nat.pow_succ, Nat.add_mul, Nat.mod_mul, Nat.mul_assoc, Nat.mul_comm 16 (16 ^ j), Nat.mul_comm (u / 16 ^ j % 16)]
    omega
theorem hexT_ok (u : Nat) (h : u < 18446744073709551616) : hexP (hexT u) = .ok u := by
  unfold hexP hexT
  have hl := hexL_length u 16
  rw [if_neg (by intro h0; rw [h0] at hl; cases hl), hexU_hexL u 16 0 0 (by decide) (by decide)]
  have e16 : (16 : Nat) ^ 16 = 18446744073709551616 := by decide
  rw [e16, Nat.mod_eq_of_lt h]
  simp
/-- A number with a point, written and read. -/
theorem real_back {x : Nat} (h : Num x) (hx : x < 18446744073709551616) : realB (hexT (bitU x)) = true ∧ realU (hexT (bitU x)) = x := by
  rw [h.bits]
  have h1 := hexT_ok x hx
  have h2 : realU (hexT x) = x := by unfold realU; rw [h1]
  refine ⟨?_, h2⟩
  unfold realB
  rw [h2, h1, h.is]
  have hl : (hexT x).length = 16 := hexL_length x 16
  simp [okE, hl]
end Go.Proofs.YtkcjgmicoifhcaaGreatDoor.Cn

/- D1: console.Line. (Printed by gen_d1.py.) -/
namespace Go.Proofs.YtkcjgmicoifhcaaGreatDoor.Cn
open Go.RowKit Go.Sort Go.Lib Go.Shelf
open Vw (Tab str Blk)
open Ev (E C fineC goodE)
attribute [local go_sem ↓] Go.wp_at_zero Go.wp_at_succ

set_option maxRecDepth 20000 in
theorem same_calls (c : C) (gc : Nat) (f : Fm) (w : World) (hc : Blk w gc 27 c.cells) :
    Calls Tryz.prog 17 #[f.v, .pointer (some ⟨gc, 0, none⟩)] w fun e w' => e = .returned (.bool (f.kind == c.e.kind && f.plan == c.e.plan)) ∧ Below w.heap.size w w' := by
  have hal := (Below.refl w.heap.size w).alloc (Nat.le_refl _) (.cells f.cells 48)
  have HX := Lib.hid (Blk.new w 48 f.cells)
  have HC := Lib.hid (hc.below hal)
  have HB := Lib.hid hal
  clear hal hc
  go_enter Tryz.func17, Tryz.ntmps17
  go_upto_region 1 with fail
  generalize w.alloc (.cells f.cells 48) = w1 at *
  have c0 : w1.cell? ⟨w.heap.size, 1, none⟩ = some (.int .i64 f.kind) := HX.out.cell 1
  have c1 : w1.cell? ⟨w.heap.size, 2, none⟩ = some (.int .i64 f.plan) := HX.out.cell 2
  have d0 : w1.cell? ⟨gc, 2, none⟩ = some (.int .i64 c.e.kind) := HC.out.cell 2
  have d1 : w1.cell? ⟨gc, 11, none⟩ = some (.int .i64 c.e.plan) := HC.out.cell 11
  by_cases hk : f.kind = c.e.kind
  · go_wp2_with fail
    go_ret
    exact ⟨by simp [hk], HB.out⟩
  · go_wp2_with fail
    go_ret
    exact ⟨by simp [hk], HB.out⟩
/-- The words of an event's line. -/
noncomputable def lnW (c : C) : List (List UInt8) := [decDigits c.key.toNat, Vw.dayL c.e.day, (frm c.e.kind c.e.plan).words] ++ (frm c.e.kind c.e.plan).has.map (fun x => wordL x.toNat c.e)
/-- A command's line. -/
noncomputable def lnC (c : C) : List UInt8 := if c.undo then (decDigits c.key.toNat ++ [32, 117, 110, 100, 111, 32]) ++ decDigits c.of.toNat else Lib.join (lnW c) [32]
/-- What Line answers. -/
noncomputable def linV (c : C) : Value := .tuple #[.string (str (if fineC c then lnC c else [])), .int .i64 (if fineC c then 0 else 11)]
theorem linV_no {c : C} (h : fineC c = false) : (.tuple #[.string ⟨#[]⟩, .int .i64 11] : Value) = linV c := by unfold linV; rw [h]; rfl
theorem linV_yes {c : C} {l : List UInt8} (h : fineC c = true) (hl : lnC c = l) : (.tuple #[.string (str l), .int .i64 0] : Value) = linV c := by unfold linV; rw [h, ← hl]; rfl
/-- A command's numbers fit. -/
structure FitC (c : C) : Prop where
  key : 0 ≤ c.key ∧ c.key < 4294967296
  of : 0 ≤ c.of ∧ c.of < 4294967296
  rate : c.e.rate < 18446744073709551616
  income : c.e.income < 18446744073709551616
theorem fine_ev {c : C} (h : fineC c = true) (hu : c.undo = false) : c.of = 0 ∧ goodE c.e = true ∧ c.e.key = c.key := by
  unfold fineC at h
  rw [hu] at h
  simp only [Bool.false_eq_true, if_false, Bool.and_eq_true] at h
  exact ⟨by simpa using h.1, h.2.1, by simpa using h.2.2⟩
set_option maxRecDepth 40000 in
set_option maxHeartbeats 16000000 in
theorem line_no (c : C) (hf : FitC c) (w : World) (hn : fineC c = false) :
    Calls Tryz.prog 9 #[c.v] w fun e w' => e = .returned (linV c) ∧ Below w.heap.size w w' := by
  have hal := (Below.refl w.heap.size w).alloc (Nat.le_refl _) (.cells c.cells 27)
  have HC0 := Lib.hid (Blk.new w 27 c.cells)
  have HF := Lib.hid (Ev.fine_calls c (w.alloc (.cells c.cells 27)) hf.rate hf.income)
  have HN := Lib.hid hn
  have HB0 := Lib.hid hal
  rw [hn] at HF
  clear hal hf hn
  go_enter Tryz.func9, Tryz.ntmps9
  go_upto_region 1 with fail
  generalize w.alloc (.cells c.cells 27) = w0 at *
  obtain ⟨gc, hgc⟩ : ∃ gc, w.heap.size = gc := ⟨_, rfl⟩
  rw [hgc] at HC0
  rw [hgc]
  have k0 : w0.cell? ⟨gc, 0, none⟩ = some (.bool c.undo) := HC0.out.cell 0
  have k1 : w0.cell? ⟨gc, 1, none⟩ = some (.int .u32 c.key) := HC0.out.cell 1
  have k2 : w0.cell? ⟨gc, 2, none⟩ = some (.int .i64 c.e.kind) := HC0.out.cell 2
  have k3 : w0.cell? ⟨gc, 3, none⟩ = some (.int .i64 c.e.day) := HC0.out.cell 3
  have k4 : w0.cell? ⟨gc, 4, none⟩ = some (.int .u32 c.e.key) := HC0.out.cell 4
  have k5 : w0.cell? ⟨gc, 5, none⟩ = some (.int .i64 c.e.loan) := HC0.out.cell 5
  have k6 : w0.cell? ⟨gc, 6, none⟩ = some (.int .i64 c.e.amount) := HC0.out.cell 6
  have k7 : w0.cell? ⟨gc, 7, none⟩ = some (.float .f64 c.e.rate) := HC0.out.cell 7
  have k8 : w0.cell? ⟨gc, 8, none⟩ = some (.float .f64 c.e.income) := HC0.out.cell 8
  have k9 : w0.cell? ⟨gc, 9, none⟩ = some (.bool c.e.sub) := HC0.out.cell 9
  have k10 : w0.cell? ⟨gc, 10, none⟩ = some (.int .i64 c.e.status) := HC0.out.cell 10
  have k11 : w0.cell? ⟨gc, 11, none⟩ = some (.int .i64 c.e.plan) := HC0.out.cell 11
  have k12 : w0.cell? ⟨gc, 12, none⟩ = some (.int .i64 c.e.family) := HC0.out.cell 12
  have k13 : w0.cell? ⟨gc, 13, none⟩ = some (.int .u32 c.of) := HC0.out.cell 13
  go_wp2_with fail
  refine HF.out.mono ?_
  rintro r w1 ⟨rfl, hb1⟩
  have HB1 := Lib.hid (HB0.out.trans (hb1.mono HB0.out.size))
  clear hb1
  go_wp2_with fail
  go_ret2
  exact ⟨congrArg Ending.returned (linV_no HN.out), HB1.out⟩
set_option maxRecDepth 40000 in
set_option maxHeartbeats 16000000 in
theorem line_undo (c : C) (hf : FitC c) (w : World) (hg : Gl w) (hy : fineC c = true) (hu : c.undo = true) :
    Calls Tryz.prog 9 #[c.v] w fun e w' => e = .returned (linV c) ∧ Below w.heap.size w w' := by
  have hal := (Below.refl w.heap.size w).alloc (Nat.le_refl _) (.cells c.cells 27)
  have HC0 := Lib.hid (Blk.new w 27 c.cells)
  have HF := Lib.hid (Ev.fine_calls c (w.alloc (.cells c.cells 27)) hf.rate hf.income)
  obtain ⟨kn, hkn⟩ : ∃ n : Nat, c.key = n := ⟨c.key.toNat, by have := hf.key; omega⟩
  obtain ⟨on, hon⟩ : ∃ n : Nat, c.of = n := ⟨c.of.toNat, by have := hf.of; omega⟩
  have hk1 : kn < 4294967296 := by have := hf.key; omega
  have ho1 : on < 4294967296 := by have := hf.of; omega
  have HV : Hid (lnC c = (decDigits kn ++ [32, 117, 110, 100, 111, 32]) ++ decDigits on) := Lib.hid (by unfold lnC; rw [hu, hkn, hon]; rfl)
  have HY := Lib.hid hy
  have HU := Lib.hid hu
  have HKn := Lib.hid hkn
  have HOn := Lib.hid hon
  have hw1 : IntKind.u64.wrap (kn : Int) = (kn : Int) := by rw [IntKind.wrap_u64]; omega
  have hw2 : IntKind.u64.wrap (on : Int) = (on : Int) := by rw [IntKind.wrap_u64]; omega
  have HK := Lib.hid (fun W (hB : Below w.heap.size w W) => Vw.fmtUint kn (by omega) W (hg.below hB).tab)
  have HO := Lib.hid (fun W (hB : Below w.heap.size w W) => Vw.fmtUint on (by omega) W (hg.below hB).tab)
  have hl1 := (dig_len kn (by omega)).2
  have hl2 := (dig_len on (by omega)).2
  have hadd1 := fun W => Vw.add_run (decDigits kn) [32, 117, 110, 100, 111, 32] (by simp; omega) W
  have hadd2 := fun W => Vw.add_run (decDigits kn ++ [32, 117, 110, 100, 111, 32]) (decDigits on) (by rw [List.length_append]; simp; omega) W
  have HB0 := Lib.hid hal
  rw [hy] at HF
  clear hal hf hl1 hl2 hy hu hkn hon
  go_enter Tryz.func9, Tryz.ntmps9
  go_upto_region 1 with fail
  generalize w.alloc (.cells c.cells 27) = w0 at *
  obtain ⟨gc, hgc⟩ : ∃ gc, w.heap.size = gc := ⟨_, rfl⟩
  rw [hgc] at HC0
  rw [hgc]
  have k0 : w0.cell? ⟨gc, 0, none⟩ = some (.bool c.undo) := HC0.out.cell 0
  have k1 : w0.cell? ⟨gc, 1, none⟩ = some (.int .u32 c.key) := HC0.out.cell 1
  have k2 : w0.cell? ⟨gc, 2, none⟩ = some (.int .i64 c.e.kind) := HC0.out.cell 2
  have k3 : w0.cell? ⟨gc, 3, none⟩ = some (.int .i64 c.e.day) := HC0.out.cell 3
  have k4 : w0.cell? ⟨gc, 4, none⟩ = some (.int .u32 c.e.key) := HC0.out.cell 4
  have k5 : w0.cell? ⟨gc, 5, none⟩ = some (.int .i64 c.e.loan) := HC0.out.cell 5
  have k6 : w0.cell? ⟨gc, 6, none⟩ = some (.int .i64 c.e.amount) := HC0.out.cell 6
  have k7 : w0.cell? ⟨gc, 7, none⟩ = some (.float .f64 c.e.rate) := HC0.out.cell 7
  have k8 : w0.cell? ⟨gc, 8, none⟩ = some (.float .f64 c.e.income) := HC0.out.cell 8
  have k9 : w0.cell? ⟨gc, 9, none⟩ = some (.bool c.e.sub) := HC0.out.cell 9
  have k10 : w0.cell? ⟨gc, 10, none⟩ = some (.int .i64 c.e.status) := HC0.out.cell 10
  have k11 : w0.cell? ⟨gc, 11, none⟩ = some (.int .i64 c.e.plan) := HC0.out.cell 11
  have k12 : w0.cell? ⟨gc, 12, none⟩ = some (.int .i64 c.e.family) := HC0.out.cell 12
  have k13 : w0.cell? ⟨gc, 13, none⟩ = some (.int .u32 c.of) := HC0.out.cell 13
  go_wp2_with fail
  refine HF.out.mono ?_
  rintro r w1 ⟨rfl, hb1⟩
  have HB1 := Lib.hid (HB0.out.trans (hb1.mono HB0.out.size))
  have HC1 := Lib.hid (HC0.out.below hb1)
  clear hb1 k0 k1 k2 k3 k4 k5 k6 k7 k8 k9 k10 k11 k12 k13
  have k1 : w1.cell? ⟨gc, 1, none⟩ = some (.int .u32 c.key) := HC1.out.cell 1
  rw [HKn.out] at k1
  go_wp2_with fail
  refine (HK.out w1 HB1.out).mono ?_
  rintro r w2 ⟨rfl, hb2⟩
  have HB2 := Lib.hid (HB1.out.trans (hb2.mono HB1.out.size))
  have HC2 := Lib.hid (HC1.out.below hb2)
  clear hb2 k1
  have k0 : w2.cell? ⟨gc, 0, none⟩ = some (.bool c.undo) := HC2.out.cell 0
  rw [HU.out] at k0
  have k13 : w2.cell? ⟨gc, 13, none⟩ = some (.int .u32 c.of) := HC2.out.cell 13
  rw [HOn.out] at k13
  go_wp2_with fail
  refine (HO.out w2 HB2.out).mono ?_
  rintro r w3 ⟨rfl, hb3⟩
  have HB3 := Lib.hid (HB2.out.trans (hb3.mono HB2.out.size))
  clear hb3 k0 k13
  go_wp2_with fail
  go_ret2
  exact ⟨congrArg Ending.returned (linV_yes HY.out (HV.out.trans (by simp))), HB3.out⟩
/-- Words in memory, growing. -/
def rowW (l : List (List UInt8)) : List Value := l.map sv
theorem rowW_snoc (l : List (List UInt8)) (x : List UInt8) : rowW (l ++ [x]) = rowW l ++ [.string (str x)] := by unfold rowW; rw [List.map_append]; rfl
theorem bl_alloc {w w1 : World} {o : Obj} (h : Below w.heap.size w w1) : Below w.heap.size w (w1.alloc o) := h.alloc h.size _
theorem bl_drew {w w1 : World} (h : Below w.heap.size w w1) : Below w.heap.size w w1.drew := h.drew
theorem own_base {w : World} {b base : Nat} {e : TypeId} {size : Nat} {v : Value} {n : Nat} {xs : List Value} (h : w.ownsRow base e size v n xs) (hb : b ≤ base) : w.ownsRow b e size v n xs := by
  refine ⟨h.1, ?_⟩
  rcases h.2 with hn | ⟨g, cap, cur, rfl, h1, h2, h3⟩
  · exact .inl hn
  · exact .inr ⟨g, cap, cur, rfl, Nat.le_trans hb h1, h2, h3⟩
theorem hexT_len (u : Nat) : (hexT u).length = 16 := hexL_length u 16
theorem stW_len (n : Int) : (stW n).length ≤ 21 := by
  unfold stW
  by_cases h1 : n = 1
  · rw [if_pos h1]; simp
  rw [if_neg h1]
  by_cases h2 : n = 2
  · rw [if_pos h2]; simp
  rw [if_neg h2]
  by_cases h3 : n = 3
  · rw [if_pos h3]; simp
  rw [if_neg h3]
  by_cases h4 : n = 4
  · rw [if_pos h4]; simp
  rw [if_neg h4]
  by_cases h5 : n = 5
  · rw [if_pos h5]; simp
  rw [if_neg h5]
  simp
theorem flag_len (b : Bool) : (itoa (if b then 1 else 0)).length ≤ 21 := by
  cases b with
  | true => exact itoa_length_le 1 (by decide) (by decide)
  | false => exact itoa_length_le 0 (by decide) (by decide)
theorem wordL_len (e : E) (h : FitE e) (f : Nat) : (wordL f e).length ≤ 21 := by
  unfold wordL
  by_cases h1 : f = 108
  · rw [if_pos h1]; exact itoa_length_le e.loan h.loan.1 h.loan.2
  rw [if_neg h1]
  by_cases h2 : f = 97
  · rw [if_pos h2]; exact itoa_length_le e.amount h.amount.1 h.amount.2
  rw [if_neg h2]
  by_cases h3 : f = 114
  · rw [if_pos h3, hexT_len]; decide
  rw [if_neg h3]
  by_cases h4 : f = 105
  · rw [if_pos h4, hexT_len]; decide
  rw [if_neg h4]
  by_cases h5 : f = 115
  · rw [if_pos h5]; exact stW_len _
  rw [if_neg h5]
  by_cases h6 : f = 117
  · rw [if_pos h6]; exact flag_len _
  rw [if_neg h6]
  exact itoa_length_le e.family h.family.1 h.family.2
theorem short_words (kn : Nat) (hk : kn < 4294967296) (e : E) (h : FitE e) (f : Fm) (hf : f ∈ forms) (hd : (Vw.dayL e.day).length ≤ 1000) : Short ([decDigits kn, Vw.dayL e.day, f.words] ++ f.has.map (fun x => wordL x.toNat e)) := by
  have h1 := (has_letters f hf).1
  have h2 := words_short f hf
  have h3 := (dig_len kn (by omega)).2
  refine ⟨by simp; omega, fun x hx => ?_⟩
  rw [List.mem_append] at hx
  rcases hx with hx | hx
  · simp at hx
    rcases hx with rfl | rfl | rfl <;> omega
  · obtain ⟨y, _, rfl⟩ := List.mem_map.1 hx
    have := wordL_len e h y.toNat
    omega
theorem own_build3 (w : World) (a b c : Value) : (w.alloc (.cells #[a, b, c] 9)).ownsRow w.heap.size 9 1 (.slice (some ⟨w.heap.size, 0, none⟩) 3 3) 3 [a, b, c] :=
  ⟨rfl, .inr ⟨w.heap.size, 3, #[a, b, c], rfl, Nat.le_refl _, heap_alloc_new w _, Nat.le_refl _, by unfold maxLen; omega, rfl, rfl⟩⟩
set_option maxRecDepth 40000 in
set_option maxHeartbeats 32000000 in
theorem line_event (c : C) (hf : FitC c) (w : World) (hg : Gl w) (hT : w.cell? ⟨5, 15, none⟩ = some (.int .u8 4)) (hy : fineC c = true) (hu : c.undo = false) :
    Calls Tryz.prog 9 #[c.v] w fun e w' => e = .returned (linV c) ∧ Below w.heap.size w w' := by
  obtain ⟨hof, hge, hkey⟩ := fine_ev hy hu
  have hal := (Below.refl w.heap.size w).alloc (Nat.le_refl _) (.cells c.cells 27)
  have HC0 := Lib.hid (Blk.new w 27 c.cells)
  have HF := Lib.hid (Ev.fine_calls c (w.alloc (.cells c.cells 27)) hf.rate hf.income)
  obtain ⟨kn, hkn⟩ : ∃ n : Nat, c.key = n := ⟨c.key.toNat, by have := hf.key; omega⟩
  have hk1 : kn < 4294967296 := by have := hf.key; omega
  have HG := Lib.hid (fun W (hB : Below w.heap.size w W) => hg.below hB)
  have HT := Lib.hid (fun W (hB : Below w.heap.size w W) => cell_below hT hB)
  have HFit := Lib.hid (good_fit c.e hge hf.rate hf.income)
  obtain ⟨i, hi, hfi, hix⟩ := frm_idx c.e hge
  obtain ⟨f, hfr⟩ : ∃ f, frm c.e.kind c.e.plan = f := ⟨_, rfl⟩
  rw [hfr] at hfi
  have HHas := Lib.hid (has_letters f (List.mem_of_getElem? hfi))
  have HIx := Lib.hid (fun W gc (hC : Blk W gc 27 c.cells) (hB : Below w.heap.size w W) => by
    have := idx_17 (.pointer (some ⟨gc, 0, none⟩)) (fun f => f.kind == c.e.kind && f.plan == c.e.plan) W (hg.below hB) (fun f W2 _ hB2 => same_calls c gc f W2 (hC.below hB2))
    rw [hix] at this
    exact this)
  have HFm := Lib.hid (fun W (hB : Below w.heap.size w W) => (hg.below hB).forms i f hfi)
  have HV : Hid (lnC c = Lib.join ([decDigits kn, Vw.dayL c.e.day, f.words] ++ f.has.map (fun x => wordL x.toNat c.e)) [32]) := Lib.hid (by unfold lnC; rw [hu]; unfold lnW; rw [hkn, hfr]; rfl)
  have HSh : Hid (Short ([decDigits kn, Vw.dayL c.e.day, f.words] ++ f.has.map (fun x => wordL x.toNat c.e))) := Lib.hid (short_words kn hk1 c.e (good_fit c.e hge hf.rate hf.income) f (List.mem_of_getElem? hfi) (by have hd := (good_parts c.e hge).2.1; have := (Vw.days_apart _ _ hd hd).2; omega))
  have HY := Lib.hid hy
  have HU := Lib.hid hu
  have HKn := Lib.hid hkn
  have hw1 : IntKind.u64.wrap (kn : Int) = (kn : Int) := by rw [IntKind.wrap_u64]; omega
  have HK := Lib.hid (fun W (hB : Below w.heap.size w W) => Vw.fmtUint kn (by omega) W (hg.below hB).tab)
  have HD := Lib.hid (fun W (hB : Below w.heap.size w W) => Vw.vday_calls c.e.day W (hg.below hB).tab)
  have hi0 : (0 : Int) ≤ (i : Int) := by omega
  have hi1 : (i : Int) < 11 := by omega
  have HB0 := Lib.hid hal
  rw [hy] at HF
  clear hal hf hy hu hkn hof hge hkey hix hfr hfi hg hT hi
  go_enter Tryz.func9, Tryz.ntmps9
  go_upto_region 1 with fail
  generalize w.alloc (.cells c.cells 27) = w0 at *
  obtain ⟨gc, hgc⟩ : ∃ gc, w.heap.size = gc := ⟨_, rfl⟩
  have HGc := Lib.hid hgc
  rw [hgc] at HC0
  rw [hgc]
  clear hgc
  have k0 : w0.cell? ⟨gc, 0, none⟩ = some (.bool c.undo) := HC0.out.cell 0
  have k1 : w0.cell? ⟨gc, 1, none⟩ = some (.int .u32 c.key) := HC0.out.cell 1
  have k2 : w0.cell? ⟨gc, 2, none⟩ = some (.int .i64 c.e.kind) := HC0.out.cell 2
  have k3 : w0.cell? ⟨gc, 3, none⟩ = some (.int .i64 c.e.day) := HC0.out.cell 3
  have k4 : w0.cell? ⟨gc, 4, none⟩ = some (.int .u32 c.e.key) := HC0.out.cell 4
  have k5 : w0.cell? ⟨gc, 5, none⟩ = some (.int .i64 c.e.loan) := HC0.out.cell 5
  have k6 : w0.cell? ⟨gc, 6, none⟩ = some (.int .i64 c.e.amount) := HC0.out.cell 6
  have k7 : w0.cell? ⟨gc, 7, none⟩ = some (.float .f64 c.e.rate) := HC0.out.cell 7
  have k8 : w0.cell? ⟨gc, 8, none⟩ = some (.float .f64 c.e.income) := HC0.out.cell 8
  have k9 : w0.cell? ⟨gc, 9, none⟩ = some (.bool c.e.sub) := HC0.out.cell 9
  have k10 : w0.cell? ⟨gc, 10, none⟩ = some (.int .i64 c.e.status) := HC0.out.cell 10
  have k11 : w0.cell? ⟨gc, 11, none⟩ = some (.int .i64 c.e.plan) := HC0.out.cell 11
  have k12 : w0.cell? ⟨gc, 12, none⟩ = some (.int .i64 c.e.family) := HC0.out.cell 12
  have k13 : w0.cell? ⟨gc, 13, none⟩ = some (.int .u32 c.of) := HC0.out.cell 13
  go_wp2_with fail
  refine HF.out.mono ?_
  rintro r w1 ⟨rfl, hb1⟩
  have HB1 := Lib.hid (HB0.out.trans (hb1.mono HB0.out.size))
  have HC1 := Lib.hid (HC0.out.below hb1)
  clear hb1 k0 k1 k2 k3 k4 k5 k6 k7 k8 k9 k10 k11 k12 k13
  have k1 : w1.cell? ⟨gc, 1, none⟩ = some (.int .u32 c.key) := HC1.out.cell 1
  rw [HKn.out] at k1
  go_wp2_with fail
  refine (HK.out w1 HB1.out).mono ?_
  rintro r w2 ⟨rfl, hb2⟩
  have HB2 := Lib.hid (HB1.out.trans (hb2.mono HB1.out.size))
  have HC2 := Lib.hid (HC1.out.below hb2)
  clear hb2 k1
  have k0 : w2.cell? ⟨gc, 0, none⟩ = some (.bool c.undo) := HC2.out.cell 0
  rw [HU.out] at k0
  go_wp2_with fail
  refine (HIx.out w2 gc HC2.out HB2.out).mono ?_
  rintro r w3 ⟨rfl, hb3⟩
  have HB3 := Lib.hid (HB2.out.trans (hb3.mono HB2.out.size))
  have HC3 := Lib.hid (HC2.out.below hb3)
  clear hb3 k0
  have hgl := HFm.out w3 HB3.out
  have a0 : w3.cell? ⟨0, i * 4, none⟩ = some (.string (str f.words)) := hgl 0 _ rfl
  have a1 : w3.cell? ⟨0, i * 4 + 1, none⟩ = some (.int .i64 f.kind) := hgl 1 _ rfl
  have a2 : w3.cell? ⟨0, i * 4 + 2, none⟩ = some (.int .i64 f.plan) := hgl 2 _ rfl
  have a3 : w3.cell? ⟨0, i * 4 + 3, none⟩ = some (.string (str f.has)) := hgl 3 _ rfl
  clear hgl
  go_upto_region 7 with fail
  have hal4 := (Below.refl w3.heap.size w3).alloc (Nat.le_refl _) (.cells f.cells 48)
  have HX4 := Lib.hid (Blk.new w3 48 f.cells)
  have HC4 := Lib.hid (HC3.out.below hal4)
  have HB4 := Lib.hid (HB3.out.trans (hal4.mono HB3.out.size))
  clear hal4 a0 a1 a2 a3 hi0 hi1
  generalize w3.alloc (.cells f.cells 48) = w4 at *
  generalize w3.heap.size = gx at *
  have b0 : w4.cell? ⟨gx, 0, none⟩ = some (.string (str f.words)) := HX4.out.cell 0
  have b0' : w4.drew.cell? ⟨gx, 0, none⟩ = some (.string (str f.words)) := HX4.out.cell 0
  have d3 : w4.drew.cell? ⟨gc, 3, none⟩ = some (.int .i64 c.e.day) := HC4.out.cell 3
  have HD4 := Lib.hid (HD.out w4.drew HB4.out.drew)
  go_cut [6] from 29 to 36 (fun v W => W.ownsRow w4.heap.size 9 1 v 3 (rowW [decDigits kn, Vw.dayL c.e.day, f.words]) ∧ Below w4.heap.size w4 W)
  case first =>
    go_region_with (go_at_call 18; refine HD4.out.mono ?_; rintro r w5 ⟨rfl, hb5⟩; have HB5 := Lib.hid hb5; have b1 : w5.cell? ⟨gx, 0, none⟩ = some (.string (str f.words)) := cell_below b0' hb5; clear hb5)
    all_goals (go_wp2_with fail)
    all_goals go_meet
    all_goals case rel => exact ⟨own_base (own_build3 _ _ _ _) HB5.out.size, ((Below.refl w4.heap.size w4).drew.trans HB5.out).alloc HB5.out.size _⟩
  case rest =>
    obtain ⟨hO5, hB5⟩ := hcut
    have HO5 := Lib.hid hO5
    have HB5 := Lib.hid hB5
    clear hO5 hB5 b0 b0' d3
    obtain ⟨gb, hgb⟩ : ∃ gb, w4.heap.size = gb := ⟨_, rfl⟩
    rw [hgb] at HO5 HB5
    have HGb := Lib.hid hgb
    clear hgb
    generalize wc = w5 at *
    have HC5 : Hid (∀ W, Below gb w4 W → Blk W gc 27 c.cells) := Lib.hid (fun W hW => HC4.out.below (by rw [HGb.out]; exact hW))
    have HX5 : Hid (∀ W, Below gb w4 W → Blk W gx 48 f.cells) := Lib.hid (fun W hW => HX4.out.below (by rw [HGb.out]; exact hW))
    have HBw : Hid (∀ W, Below gb w4 W → Below w.heap.size w W) := Lib.hid (fun W hW => HB4.out.trans (hW.mono (by rw [← HGb.out]; exact HB4.out.size)))
    have HGs : Hid (gb ≤ w5.heap.size) := Lib.hid (by rw [← HGb.out]; exact HB5.out.size)
    have b3 : w5.cell? ⟨gx, 3, none⟩ = some (.string (str f.has)) := (HX5.out w5 HB5.out).cell 3
    have hsz : (str f.has).size = f.has.length := Vw.str_size _
    have hln : (f.has.length : Int) ≤ 4 := by have := HHas.out.1; omega
    go_wp2_with fail
    go_loopw [40, 6] (fun iv v wr => ∃ k : Nat, k ≤ f.has.length ∧ iv = .int .i64 (k : Int) ∧ wr.ownsRow gb 9 1 v (3 + k) (rowW ([decDigits kn, Vw.dayL c.e.day, f.words] ++ (f.has.take k).map (fun x => wordL x.toNat c.e))) ∧ Below gb w4 wr) (fun iv _ _ => f.has.length - (RowKit.intOf iv).toNat)
    case atStart => exact ⟨0, Nat.zero_le _, rfl, by simpa using HO5.out, HB5.out⟩
    case round =>
      obtain ⟨k, hk, rfl, hOk, hBk⟩ := hrel
      have HOk := Lib.hid hOk
      have HBk := Lib.hid hBk
      by_cases h2 : k < f.has.length
      · have HSn : Hid (rowW ([decDigits kn, Vw.dayL c.e.day, f.words] ++ (f.has.take (k + 1)).map (fun x => wordL x.toNat c.e)) = rowW ([decDigits kn, Vw.dayL c.e.day, f.words] ++ (f.has.take k).map (fun x => wordL x.toNat c.e)) ++ [.string (str (wordL (f.has[k]'h2).toNat c.e))]) := Lib.hid (by
          rw [List.take_succ_eq_append_getElem h2, List.map_append, ← List.append_assoc]
          exact rowW_snoc _ _)
        have hcx := HHas.out.2 _ (List.getElem_mem h2)
        have HW := Lib.hid (word_calls (f.has[k]'h2) hcx c.e HFit.out wr.drew (HG.out _ (HBw.out wr hBk).drew) (HT.out _ (HBw.out wr hBk).drew))
        have HWe : Hid (Calls Tryz.prog 19 #[.int .u8 (((str f.has)[k]'(by rw [Vw.str_size]; exact h2)).toNat : Int), c.e.v] wr.drew fun r w' => r = .returned (.string (str (wordL (f.has[k]'h2).toNat c.e))) ∧ Below wr.drew.heap.size wr.drew w') := HW
        generalize wordL (f.has[k]'h2).toNat c.e = wl at *
        have b3 : wr.drew.cell? ⟨gx, 3, none⟩ = some (.string (str f.has)) := (HX5.out wr hBk).cell 3
        have HLr : Hid (gb ≤ wr.heap.size) := Lib.hid (by rw [← HGb.out]; exact hBk.size)
        have e0 : wr.drew.cell? ⟨gc, 2, none⟩ = some (.int .i64 c.e.kind) := (HC5.out wr HBk.out).cell 2
        have e1 : wr.drew.cell? ⟨gc, 3, none⟩ = some (.int .i64 c.e.day) := (HC5.out wr HBk.out).cell 3
        have e2 : wr.drew.cell? ⟨gc, 4, none⟩ = some (.int .u32 c.e.key) := (HC5.out wr HBk.out).cell 4
        have e3 : wr.drew.cell? ⟨gc, 5, none⟩ = some (.int .i64 c.e.loan) := (HC5.out wr HBk.out).cell 5
        have e4 : wr.drew.cell? ⟨gc, 6, none⟩ = some (.int .i64 c.e.amount) := (HC5.out wr HBk.out).cell 6
        have e5 : wr.drew.cell? ⟨gc, 7, none⟩ = some (.float .f64 c.e.rate) := (HC5.out wr HBk.out).cell 7
        have e6 : wr.drew.cell? ⟨gc, 8, none⟩ = some (.float .f64 c.e.income) := (HC5.out wr HBk.out).cell 8
        have e7 : wr.drew.cell? ⟨gc, 9, none⟩ = some (.bool c.e.sub) := (HC5.out wr HBk.out).cell 9
        have e8 : wr.drew.cell? ⟨gc, 10, none⟩ = some (.int .i64 c.e.status) := (HC5.out wr HBk.out).cell 10
        have e9 : wr.drew.cell? ⟨gc, 11, none⟩ = some (.int .i64 c.e.plan) := (HC5.out wr HBk.out).cell 11
        have e10 : wr.drew.cell? ⟨gc, 12, none⟩ = some (.int .i64 c.e.family) := (HC5.out wr HBk.out).cell 12
        have HKE : Hid (∀ W, Below gb wr W → W.cell? ⟨gx, 3, none⟩ = some (.string (str f.has)) ∧ W.cell? ⟨gc, 2, none⟩ = some (.int .i64 c.e.kind) ∧ W.cell? ⟨gc, 3, none⟩ = some (.int .i64 c.e.day) ∧ W.cell? ⟨gc, 4, none⟩ = some (.int .u32 c.e.key) ∧ W.cell? ⟨gc, 5, none⟩ = some (.int .i64 c.e.loan) ∧ W.cell? ⟨gc, 6, none⟩ = some (.int .i64 c.e.amount) ∧ W.cell? ⟨gc, 7, none⟩ = some (.float .f64 c.e.rate) ∧ W.cell? ⟨gc, 8, none⟩ = some (.float .f64 c.e.income) ∧ W.cell? ⟨gc, 9, none⟩ = some (.bool c.e.sub) ∧ W.cell? ⟨gc, 10, none⟩ = some (.int .i64 c.e.status) ∧ W.cell? ⟨gc, 11, none⟩ = some (.int .i64 c.e.plan) ∧ W.cell? ⟨gc, 12, none⟩ = some (.int .i64 c.e.family)) := Lib.hid (fun W hB => ⟨(HX5.out W (hBk.trans hB)).cell 3, (HC5.out W (hBk.trans hB)).cell 2, (HC5.out W (hBk.trans hB)).cell 3, (HC5.out W (hBk.trans hB)).cell 4, (HC5.out W (hBk.trans hB)).cell 5, (HC5.out W (hBk.trans hB)).cell 6, (HC5.out W (hBk.trans hB)).cell 7, (HC5.out W (hBk.trans hB)).cell 8, (HC5.out W (hBk.trans hB)).cell 9, (HC5.out W (hBk.trans hB)).cell 10, (HC5.out W (hBk.trans hB)).cell 11, (HC5.out W (hBk.trans hB)).cell 12⟩)
        have hk0 : (0 : Int) ≤ (k : Int) := by omega
        have hk1 : (k : Int) < (f.has.length : Int) := by omega
        have hszI : (((str f.has).size : Nat) : Int) = (f.has.length : Int) := by rw [hsz]
        have hk4 : 3 + k ≤ 1000000 := by omega
        have HK4 := Lib.hid hk4
        clear hOk hBk hcx HW hk4
        have hk2 : k + 1 ≤ f.has.length := h2
        go_upto_region 11 with fail
        go_region_held3 (fun w' => w'.cell? ⟨gx, 3, none⟩ = some (.string (str f.has)) ∧ w'.cell? ⟨gc, 2, none⟩ = some (.int .i64 c.e.kind) ∧ w'.cell? ⟨gc, 3, none⟩ = some (.int .i64 c.e.day) ∧ w'.cell? ⟨gc, 4, none⟩ = some (.int .u32 c.e.key) ∧ w'.cell? ⟨gc, 5, none⟩ = some (.int .i64 c.e.loan) ∧ w'.cell? ⟨gc, 6, none⟩ = some (.int .i64 c.e.amount) ∧ w'.cell? ⟨gc, 7, none⟩ = some (.float .f64 c.e.rate) ∧ w'.cell? ⟨gc, 8, none⟩ = some (.float .f64 c.e.income) ∧ w'.cell? ⟨gc, 9, none⟩ = some (.bool c.e.sub) ∧ w'.cell? ⟨gc, 10, none⟩ = some (.int .i64 c.e.status) ∧ w'.cell? ⟨gc, 11, none⟩ = some (.int .i64 c.e.plan) ∧ w'.cell? ⟨gc, 12, none⟩ = some (.int .i64 c.e.family)) (first | go_keep | exact HKE.out _ (by assumption))
          (first
            | ((refine step_append_run (by rfl) (.tmp 43) (.tmp 51) _ (by rfl) _ _ (by rfl) (by rfl) (app_str gb _ (3 + k) _ _ wl _ (own_below HOk.out (by repeat (first | assumption | exact Below.refl _ _ | apply bl_alloc | apply bl_drew))) ((Blk.new w6 9 #[.string (str wl)]).cell 0) (Nat.le_trans HLr.out (bl_alloc g1).size) HK4.out) ?_; rintro v1 w8 ⟨f1, f2⟩; have g2 : Below gb wr w8 := ((bl_alloc g1).mono HLr.out).trans f2))
            | ((go_at_call 19; refine HWe.out.mono ?_; rintro r w6 ⟨rfl, hb6⟩; have g1 : Below wr.heap.size wr w6 := (Below.refl _ _).drew.trans hb6; have g3 : Below gb wr w6 := g1.mono HLr.out)))
        have F1 := Lib.hid f1
        have F2 := Lib.hid f2
        have G1 := Lib.hid g1
        clear f1 f2 g1 hb6 g2 g3
        all_goals (go_wp2_with fail)
        all_goals go_roundw
        all_goals first
          | (case rel => exact ⟨k + 1, hk2, by go_num, by rw [HSn.out]; exact F1.out, HBk.out.trans (((bl_alloc G1.out).mono HLr.out).trans F2.out)⟩)
          | (simp [RowKit.intOf]; omega)
      · obtain rfl : f.has.length = k := by omega
        rw [List.take_length] at hOk
        have hlen : 3 + f.has.length = ([decDigits kn, Vw.dayL c.e.day, f.words] ++ f.has.map (fun x => wordL x.toNat c.e)).length := by simp; omega
        obtain ⟨p, q, hv, hws⟩ := ws_own hlen hOk
        have HJ := Lib.hid (join_calls _ HSh.out wr _ p q hws)
        have HB9 := Lib.hid (HBw.out wr hBk)
        subst hv
        clear hOk hBk hws hlen
        obtain ⟨J, hJ⟩ : ∃ J, ([decDigits kn, Vw.dayL c.e.day, f.words] ++ f.has.map (fun x => wordL x.toNat c.e)) = J := ⟨_, rfl⟩
        rw [hJ] at HJ HV
        have b3 : wr.cell? ⟨gx, 3, none⟩ = some (.string (str f.has)) := (HX5.out wr HBk.out).cell 3
        go_wp2_with fail
        refine HJ.out.mono ?_
        rintro r w10 ⟨rfl, hb10⟩
        have HB10 := Lib.hid (HB9.out.trans (hb10.mono HB9.out.size))
        clear hb10 b3
        go_wp2_with fail
        go_ret2
        exact ⟨congrArg Ending.returned (linV_yes HY.out HV.out), HB10.out⟩
/-- Line of any command. -/
theorem line_calls (c : C) (hf : FitC c) (w : World) (hg : Gl w) (hT : w.cell? ⟨5, 15, none⟩ = some (.int .u8 4)) :
    Calls Tryz.prog 9 #[c.v] w fun e w' => e = .returned (linV c) ∧ Below w.heap.size w w' := by
  cases hy : fineC c with
  | false => exact line_no c hf w hy
  | true =>
    cases hu : c.undo with
    | true => exact line_undo c hf w hg hy hu
    | false => exact line_event c hf w hg hT hy hu
end Go.Proofs.YtkcjgmicoifhcaaGreatDoor.Cn

/- P4: Words and their texts; numbers, keys, days written and read: plain. -/
namespace Go.Proofs.YtkcjgmicoifhcaaGreatDoor.Cn
open Go.RowKit Go.Sort Go.Lib Go.Shelf
open Vw (Tab str Blk)
open Ev (E C fineC goodE)

theorem cutC_cat (c : UInt8) (b : List UInt8) : ∀ (n : Nat) (a : List UInt8), a.length ≤ n → cutC c (a ++ c :: b) = cutC c a ++ cutC c b
  | n, a, hn => by
    rcases first_of c a with h | ⟨A, r, rfl, h⟩
    · rw [cutC_app c b a h, cutC_none c a h]; rfl
    · match n, hn with
      | 0, hn => simp at hn
      | n + 1, hn =>
        have hr : r.length ≤ n := by simp at hn; omega
        have e : A ++ c :: r ++ c :: b = A ++ c :: (r ++ c :: b) := by simp
        rw [e, cutC_app c _ A h, cutC_app c _ A h, cutC_cat c b n r hr]; rfl
theorem join_one (x : List UInt8) : Lib.join [x] [32] = x := by simp [Lib.join]
theorem join_cons2 (x y : List UInt8) (r : List (List UInt8)) : Lib.join (x :: y :: r) [32] = x ++ 32 :: Lib.join (y :: r) [32] := by simp [Lib.join, List.intercalate]
theorem cut_join : ∀ L : List (List UInt8), L ≠ [] → cutC 32 (Lib.join L [32]) = (L.map (cutC 32)).flatten
  | [], h => (h rfl).elim
  | [x], _ => by rw [join_one]; simp
  | x :: y :: r, _ => by
    rw [join_cons2, cutC_cat 32 _ x.length x (Nat.le_refl _), cut_join (y :: r) (by simp)]
    simp
theorem join_app : ∀ (A B : List (List UInt8)), A ≠ [] → B ≠ [] → Lib.join (A ++ B) [32] = Lib.join A [32] ++ 32 :: Lib.join B [32]
  | [], _, h, _ => (h rfl).elim
  | [x], B, _, hB => by
    match B, hB with
    | y :: r, _ => rw [List.singleton_append, join_cons2, join_one]
  | x :: y :: r, B, _, hB => by
    have ih := join_app (y :: r) B (by simp) hB
    rw [List.cons_append, List.cons_append, join_cons2, ← List.cons_append, ih, join_cons2]
    simp
theorem cutC_ne (c : UInt8) (s : List UInt8) : cutC c s ≠ [] := by
  intro h
  have := (cutC_len c s).1
  rw [h] at this
  simp at this
theorem join_cut : ∀ (n : Nat) (s : List UInt8), s.length ≤ n → Lib.join (cutC 32 s) [32] = s
  | n, s, hn => by
    rcases first_of 32 s with h | ⟨A, r, rfl, h⟩
    · rw [cutC_none 32 s h, join_one]
    · match n, hn with
      | 0, hn => simp at hn
      | n + 1, hn =>
        have hr : r.length ≤ n := by simp at hn; omega
        rw [cutC_app 32 r A h]
        have ih := join_cut n r hr
        have h1 := cutC_ne 32 r
        rw [show A :: cutC 32 r = [A] ++ cutC 32 r from rfl, join_app [A] _ (by simp) h1, join_one, ih]
theorem cut_no (c : UInt8) : ∀ (n : Nat) (s : List UInt8), s.length ≤ n → ∀ x ∈ cutC c s, c ∉ x
  | n, s, hn, x, hx => by
    rcases first_of c s with h | ⟨A, r, rfl, h⟩
    · rw [cutC_none c s h] at hx
      simp at hx
      rw [hx]
      exact h
    · match n, hn with
      | 0, hn => simp at hn
      | n + 1, hn =>
        have hr : r.length ≤ n := by simp at hn; omega
        rw [cutC_app c r A h] at hx
        rcases List.mem_cons.1 hx with rfl | hx
        · exact h
        · exact cut_no c n r hr x hx
theorem cut_mem (c d : UInt8) (s : List UInt8) (h : d ∈ s) : d = c ∨ ∃ x ∈ cutC c s, d ∈ x := by
  induction s with
  | nil => simp at h
  | cons b r ih =>
    rw [cutC]
    rcases List.mem_cons.1 h with rfl | h
    · split
      · exact .inl (by assumption)
      · split
        · exact .inr ⟨[d], by simp, by simp⟩
        · rename_i hh t _
          exact .inr ⟨d :: hh, by simp, by simp⟩
    · rcases ih h with h1 | ⟨x, h1, h2⟩
      · exact .inl h1
      · split
        · exact .inr ⟨x, by simp [h1], h2⟩
        · split
          · rename_i hn; rw [hn] at h1; simp at h1
          · rename_i hh t he
            rw [he] at h1
            rcases List.mem_cons.1 h1 with rfl | h1
            · exact .inr ⟨b :: x, by simp, by simp [h2]⟩
            · exact .inr ⟨x, by simp [h1], h2⟩
/-- Numbers. -/
theorem nDigits_le (k : Nat) : ∀ u, u < 10 ^ (k + 1) → nDigits u ≤ k + 1 := by
  induction k with
  | zero => intro u h; rw [nDigits_small (by simpa using h)]; omega
  | succ k ih =>
    intro u h
    by_cases h1 : u < 10
    · rw [nDigits_small h1]; omega
    · rw [nDigits_big h1]
      have := ih (u / 10) (by rw [Nat.pow_succ] at h; omega)
      omega
theorem num_dec (u : Nat) (h : u < 10000000000) : numP (decDigits u) = (u : Int) ∧ numB (decDigits u) = true := by
  have h1 : numOK (decDigits u) = true := by
    refine (numOK_iff _).2 ⟨?_, ?_, ?_, digs_u u (by omega)⟩
    · intro h0
      have := (Vw.dig_len u (by omega)).1
      rw [h0] at this
      simp at this
    · rw [decDigits_length]
      exact nDigits_le 9 u (by simpa using h)
    · by_cases h2 : u < 10
      · left
        rw [decDigits_length, nDigits_small h2]
        exact Nat.le_refl _
      · exact .inr (dec_head u (by omega) h2)
  have h2 : numP (decDigits u) = (u : Int) := by
    unfold numP
    rw [if_pos h1, dv_all u (by omega)]
  exact ⟨h2, by unfold numB; rw [h2]; simp⟩
theorem num_nil : numB [] = false := by decide
theorem num_back {w : List UInt8} (h : numB w = true) : 0 ≤ numP w ∧ numP w < 10000000000 ∧ itoa (numP w) = w ∧ decDigits (numP w).toNat = w := by
  have h0 : 0 ≤ numP w := by simpa [numB] using h
  have h1 := numP_lt w
  refine ⟨h0, h1, ?_⟩
  have h2 : numOK w = true := by
    cases hc : numOK w with
    | true => rfl
    | false =>
      unfold numP at h0
      rw [hc] at h0
      simp at h0
  have h3 : numP w = (dv w : Int) := by unfold numP; rw [if_pos h2]
  rw [h3, itoa_nonneg]
  exact ⟨dec_of w h2, by rw [Int.toNat_natCast]; exact dec_of w h2⟩
theorem num_int {n : Int} (h0 : 0 ≤ n) (h1 : n < 10000000000) : numP (itoa n) = n ∧ numB (itoa n) = true := by
  obtain ⟨u, rfl⟩ : ∃ u : Nat, n = u := ⟨n.toNat, by omega⟩
  rw [itoa_nonneg]
  exact num_dec u (by omega)
theorem key_dec {n : Int} (h0 : 0 ≤ n) (h1 : n < 4294967296) : keyB (decDigits n.toNat) = true ∧ keyV (decDigits n.toNat) = n := by
  obtain ⟨h2, h3⟩ := num_dec n.toNat (by omega)
  unfold keyB keyV
  rw [h2, h3]
  refine ⟨?_, ?_⟩
  · simp; omega
  · rw [IntKind.wrap_u32]; omega
theorem key_nil : keyB [] = false := by decide
theorem key_back {w : List UInt8} (h : keyB w = true) : 0 ≤ keyV w ∧ keyV w < 4294967296 ∧ decDigits (keyV w).toNat = w := by
  unfold keyB at h
  rw [Bool.and_eq_true] at h
  obtain ⟨h1, h2, _, h4⟩ := num_back h.1
  have h5 : max (numP w) 0 ≤ 4294967295 := by simpa using h.2
  have h6 : keyV w = numP w := by unfold keyV; rw [IntKind.wrap_u32]; omega
  rw [h6]
  exact ⟨h1, by omega, h4⟩
theorem digs_no {l : List UInt8} (h : Digs l) : (32 : UInt8) ∉ l := fun hc => absurd (h 32 hc).1 (by decide)
theorem dec_no (u : Nat) (h : u < 18446744073709551616) : (32 : UInt8) ∉ decDigits u := digs_no (digs_u u h)
theorem day_no {d : Int} (h : 0 ≤ d ∧ d ≤ 87658) : (32 : UInt8) ∉ Vw.dayL d := by
  obtain ⟨y, m, t, h1, _, _, h2, h3, h4⟩ := dayL_cut h
  intro hc
  rcases cut_mem 45 32 _ hc with h5 | ⟨x, h5, h6⟩
  · exact absurd h5 (by decide)
  · rw [h1] at h5
    simp at h5
    rcases h5 with rfl | rfl | rfl
    · exact absurd (Vw.pad_digs y 4 (by omega) 32 h6).1 (by decide)
    · exact absurd (Vw.pad_digs m 2 (by omega) 32 h6).1 (by decide)
    · exact absurd (Vw.pad_digs t 2 (by omega) 32 h6).1 (by decide)
theorem hx_no : ∀ d : Fin 16, hx d.val ≠ 32 := by decide +kernel
theorem hex_no (u : Nat) : ∀ j, (32 : UInt8) ∉ hexL u j
  | 0 => by simp [hexL]
  | j + 1 => by
    rw [hexL_cons]
    intro h
    rcases List.mem_cons.1 h with h | h
    · exact hx_no ⟨_, Nat.mod_lt (u / 16 ^ j) (by decide)⟩ h.symm
    · exact hex_no u j h
theorem stW_no (n : Int) : (32 : UInt8) ∉ stW n := by
  unfold stW
  by_cases h1 : n = 1
  · rw [if_pos h1]; decide
  rw [if_neg h1]
  by_cases h2 : n = 2
  · rw [if_pos h2]; decide
  rw [if_neg h2]
  by_cases h3 : n = 3
  · rw [if_pos h3]; decide
  rw [if_neg h3]
  by_cases h4 : n = 4
  · rw [if_pos h4]; decide
  rw [if_neg h4]
  by_cases h5 : n = 5
  · rw [if_pos h5]; decide
  rw [if_neg h5]
  decide
theorem itoa_no {n : Int} (h0 : 0 ≤ n) (h1 : n < 10000000000) : (32 : UInt8) ∉ itoa n := by
  obtain ⟨u, rfl⟩ : ∃ u : Nat, n = u := ⟨n.toNat, by omega⟩
  rw [itoa_nonneg]
  exact dec_no u (by omega)
end Go.Proofs.YtkcjgmicoifhcaaGreatDoor.Cn

/- P5: What was written is read; what was read is written so: plain. -/
namespace Go.Proofs.YtkcjgmicoifhcaaGreatDoor.Cn
open Go.RowKit Go.Sort Go.Lib Go.Shelf
open Vw (Tab str Blk)
open Ev (E C fineC goodE)

/-- Letters: written, then read. -/
theorem let_l {e : E} (h0 : 0 ≤ e.loan) (h1 : e.loan < 10000000000) (z : E) : getE 108 z (wordL 108 e) = { z with loan := e.loan } ∧ getB 108 (wordL 108 e) = true := by
  obtain ⟨h2, h3⟩ := num_int h0 h1
  refine ⟨?_, h3⟩
  show { z with loan := max (numP (itoa e.loan)) 0 } = _
  rw [h2, Int.max_eq_left h0]
theorem let_a {e : E} (h0 : 0 ≤ e.amount) (h1 : e.amount < 10000000000) (z : E) : getE 97 z (wordL 97 e) = { z with amount := e.amount } ∧ getB 97 (wordL 97 e) = true := by
  obtain ⟨h2, h3⟩ := num_int h0 h1
  refine ⟨?_, h3⟩
  show { z with amount := max (numP (itoa e.amount)) 0 } = _
  rw [h2, Int.max_eq_left h0]
theorem let_f {e : E} (h0 : 0 ≤ e.family) (h1 : e.family < 10000000000) (z : E) : getE 102 z (wordL 102 e) = { z with family := e.family } ∧ getB 102 (wordL 102 e) = true := by
  obtain ⟨h2, h3⟩ := num_int h0 h1
  refine ⟨?_, h3⟩
  show { z with family := max (numP (itoa e.family)) 0 } = _
  rw [h2, Int.max_eq_left h0]
theorem let_r {e : E} (h : Num e.rate) (hr : e.rate < 18446744073709551616) (z : E) : getE 114 z (wordL 114 e) = { z with rate := e.rate } ∧ getB 114 (wordL 114 e) = true := by
  obtain ⟨h2, h3⟩ := real_back h hr
  refine ⟨?_, h2⟩
  show { z with rate := realU (hexT (bitU e.rate)) } = _
  rw [h3]
theorem let_i {e : E} (h : Num e.income) (hr : e.income < 18446744073709551616) (z : E) : getE 105 z (wordL 105 e) = { z with income := e.income } ∧ getB 105 (wordL 105 e) = true := by
  obtain ⟨h2, h3⟩ := real_back h hr
  refine ⟨?_, h2⟩
  show { z with income := realU (hexT (bitU e.income)) } = _
  rw [h3]
theorem let_s {e : E} (h : 1 ≤ e.status ∧ e.status ≤ 5) (z : E) : getE 115 z (wordL 115 e) = { z with status := e.status } ∧ getB 115 (wordL 115 e) = true := by
  have h2 := stN_stW e.status h
  refine ⟨?_, ?_⟩
  · show { z with status := stN (stW e.status) } = _
    rw [h2]
  · show decide (0 < stN (stW e.status)) = true
    rw [h2]
    simp
    omega
theorem let_u (e z : E) : getE 117 z (wordL 117 e) = { z with sub := e.sub } ∧ getB 117 (wordL 117 e) = true := by
  have h1 : wordL 117 e = itoa (if e.sub then 1 else 0) := rfl
  have h0 : getE 117 z (wordL 117 e) = { z with sub := max (numP (wordL 117 e)) 0 == 1 } := rfl
  have h2 : getB 117 (wordL 117 e) = (numB (wordL 117 e) && decide (max (numP (wordL 117 e)) 0 ≤ 1)) := rfl
  rw [h0, h2, h1]
  cases e.sub with
  | true =>
    obtain ⟨h3, h4⟩ := num_int (n := 1) (by decide) (by decide)
    simp only [if_true]
    rw [h3, h4]
    exact ⟨rfl, rfl⟩
  | false =>
    obtain ⟨h3, h4⟩ := num_int (n := 0) (by decide) (by decide)
    simp only [Bool.false_eq_true, if_false]
    rw [h3, h4]
    exact ⟨rfl, rfl⟩
/-- All letters of an event of a form, written, then read; what stands behind stays. -/
theorem all_back (e : E) (h : goodE e = true) (hr : e.rate < 18446744073709551616) (hi : e.income < 18446744073709551616) (X : List (List UInt8)) :
    getAll (frm e.kind e.plan).has ⟨(frm e.kind e.plan).kind, e.day, e.key, 0, 0, 0, 0, false, 0, (frm e.kind e.plan).plan, 0⟩ ((frm e.kind e.plan).has.map (fun x => wordL x.toNat e) ++ X) true = (e, X, true) := by
  obtain ⟨_, hk⟩ := good_kinds e h
  obtain ⟨kind, day, key, loan, amount, rate, income, sub, status, plan, family⟩ := e
  rcases hk with ⟨h4, h3⟩ | ⟨h4, h3⟩ | ⟨h4, h3⟩ | ⟨h4, h3⟩ | ⟨h4, h3⟩ | ⟨h4, h3⟩ | ⟨h4, h3⟩ | ⟨h4, h3⟩
  · obtain ⟨h5, h6, h7⟩ := plan_no h3.plan
    have a1 := field_yes h3.loan
    have a2 := field_yes h3.amount
    have a3 := num_rate h3.rate
    have a4 := field_no h3.status
    simp only at h4 h5 h6 h7 a1 a2 a3 a4 hr
    subst h4 h5 h6 h7 a4
    obtain ⟨e, he⟩ : ∃ e : E, e = ⟨1, day, key, loan, amount, rate, 0, sub, 0, 0, 0⟩ := ⟨_, rfl⟩
    have b1 := let_l (e := e) (by rw [he]; simp only; omega) (by rw [he]; simp only; omega)
    have b2 := let_a (e := e) (by rw [he]; simp only; omega) (by rw [he]; simp only; omega)
    have b3 := let_r (e := e) (by rw [he]; exact a3) (by rw [he]; exact hr)
    have b4 := let_u e
    rw [← he]
    rw [show frm e.kind e.plan = forms[0]'(by decide) by rw [he]; rfl]
    show (getE 117 (getE 114 (getE 97 (getE 108 ⟨1, e.day, e.key, 0, 0, 0, 0, false, 0, 0, 0⟩ (wordL 108 e)) (wordL 97 e)) (wordL 114 e)) (wordL 117 e), X, (((true && getB 108 (wordL 108 e)) && getB 97 (wordL 97 e)) && getB 114 (wordL 114 e)) && getB 117 (wordL 117 e)) = (e, X, true)
    rw [(b1 _).1, (b2 _).1, (b3 _).1, (b4 _).1, (b1 e).2, (b2 e).2, (b3 e).2, (b4 e).2, he]
    rfl
  · obtain ⟨h5, h6, h7⟩ := plan_no h3.plan
    have a1 := field_yes h3.loan
    have a2 := field_no h3.amount
    have a3 := rate_no h3.rate
    have a4 := field_yes h3.status
    have a5 : sub = false := by simpa using h3.sub
    simp only at h4 h5 h6 h7 a1 a2 a3 a4
    subst h4 h5 h6 h7 a2 a3 a5
    obtain ⟨e, he⟩ : ∃ e : E, e = ⟨2, day, key, loan, 0, 0, 0, false, status, 0, 0⟩ := ⟨_, rfl⟩
    have b1 := let_l (e := e) (by rw [he]; simp only; omega) (by rw [he]; simp only; omega)
    have b2 := let_s (e := e) (by rw [he]; exact a4)
    rw [← he]
    rw [show frm e.kind e.plan = forms[1]'(by decide) by rw [he]; rfl]
    show (getE 115 (getE 108 ⟨2, e.day, e.key, 0, 0, 0, 0, false, 0, 0, 0⟩ (wordL 108 e)) (wordL 115 e), X, (true && getB 108 (wordL 108 e)) && getB 115 (wordL 115 e)) = (e, X, true)
    rw [(b1 _).1, (b2 _).1, (b1 e).2, (b2 e).2, he]
    rfl
  · obtain ⟨h5, h6, h7⟩ := plan_no h3.plan
    have a1 := field_no h3.loan
    have a2 := field_yes h3.amount
    have a3 := rate_no h3.rate
    have a4 := field_no h3.status
    have a5 : sub = false := by simpa using h3.sub
    simp only at h4 h5 h6 h7 a1 a2 a3 a4
    subst h4 h5 h6 h7 a1 a3 a4 a5
    obtain ⟨e, he⟩ : ∃ e : E, e = ⟨3, day, key, 0, amount, 0, 0, false, 0, 0, 0⟩ := ⟨_, rfl⟩
    have b1 := let_a (e := e) (by rw [he]; simp only; omega) (by rw [he]; simp only; omega)
    rw [← he]
    rw [show frm e.kind e.plan = forms[2]'(by decide) by rw [he]; rfl]
    show (getE 97 ⟨3, e.day, e.key, 0, 0, 0, 0, false, 0, 0, 0⟩ (wordL 97 e), X, true && getB 97 (wordL 97 e)) = (e, X, true)
    rw [(b1 _).1, (b1 e).2, he]
    rfl
  · obtain ⟨h5, h6, h7⟩ := plan_no h3.plan
    have a1 := field_yes h3.loan
    have a2 := field_yes h3.amount
    have a3 := rate_no h3.rate
    have a4 := field_no h3.status
    have a5 : sub = false := by simpa using h3.sub
    simp only at h4 h5 h6 h7 a1 a2 a3 a4
    subst h4 h5 h6 h7 a3 a4 a5
    obtain ⟨e, he⟩ : ∃ e : E, e = ⟨4, day, key, loan, amount, 0, 0, false, 0, 0, 0⟩ := ⟨_, rfl⟩
    have b1 := let_l (e := e) (by rw [he]; simp only; omega) (by rw [he]; simp only; omega)
    have b2 := let_a (e := e) (by rw [he]; simp only; omega) (by rw [he]; simp only; omega)
    rw [← he]
    rw [show frm e.kind e.plan = forms[3]'(by decide) by rw [he]; rfl]
    show (getE 97 (getE 108 ⟨4, e.day, e.key, 0, 0, 0, 0, false, 0, 0, 0⟩ (wordL 108 e)) (wordL 97 e), X, (true && getB 108 (wordL 108 e)) && getB 97 (wordL 97 e)) = (e, X, true)
    rw [(b1 _).1, (b2 _).1, (b1 e).2, (b2 e).2, he]
    rfl
  · have a1 := field_no h3.loan
    have a2 := field_no h3.amount
    have a3 := rate_no h3.rate
    have a4 := field_no h3.status
    have a5 : sub = false := by simpa using h3.sub
    simp only at h4 a1 a2 a3 a4
    subst h4 a1 a2 a3 a4 a5
    rcases plan_yes h3.plan with ⟨h5, h6, h7⟩ | ⟨h5, h6, h7⟩
    · simp only at h5 h6 h7 hi
      subst h5
      obtain ⟨e, he⟩ : ∃ e : E, e = ⟨5, day, key, 0, 0, 0, income, false, 0, 4, family⟩ := ⟨_, rfl⟩
      have b1 := let_i (e := e) (by rw [he]; exact h6) (by rw [he]; exact hi)
      have b2 := let_f (e := e) (by rw [he]; simp only; omega) (by rw [he]; simp only; omega)
      rw [← he]
      rw [show frm e.kind e.plan = forms[7]'(by decide) by rw [he]; rfl]
      show (getE 102 (getE 105 ⟨5, e.day, e.key, 0, 0, 0, 0, false, 0, 4, 0⟩ (wordL 105 e)) (wordL 102 e), X, (true && getB 105 (wordL 105 e)) && getB 102 (wordL 102 e)) = (e, X, true)
      rw [(b1 _).1, (b2 _).1, (b1 e).2, (b2 e).2, he]
      rfl
    · simp only at h5 h6 h7
      subst h6 h7
      rcases h5 with rfl | rfl | rfl <;> rfl
  · obtain ⟨h5, h6, h7⟩ := plan_no h3.plan
    have a1 := field_no h3.loan
    have a2 := field_no h3.amount
    have a3 := rate_no h3.rate
    have a4 := field_no h3.status
    have a5 : sub = false := by simpa using h3.sub
    simp only at h4 h5 h6 h7 a1 a2 a3 a4
    subst h4 h5 h6 h7 a1 a2 a3 a4 a5
    rfl
  · obtain ⟨h5, h6, h7⟩ := plan_no h3.plan
    have a1 := field_yes h3.loan
    have a2 := field_no h3.amount
    have a3 := rate_no h3.rate
    have a4 := field_no h3.status
    have a5 : sub = false := by simpa using h3.sub
    simp only at h4 h5 h6 h7 a1 a2 a3 a4
    subst h4 h5 h6 h7 a2 a3 a4 a5
    obtain ⟨e, he⟩ : ∃ e : E, e = ⟨7, day, key, loan, 0, 0, 0, false, 0, 0, 0⟩ := ⟨_, rfl⟩
    have b1 := let_l (e := e) (by rw [he]; simp only; omega) (by rw [he]; simp only; omega)
    rw [← he]
    rw [show frm e.kind e.plan = forms[9]'(by decide) by rw [he]; rfl]
    show (getE 108 ⟨7, e.day, e.key, 0, 0, 0, 0, false, 0, 0, 0⟩ (wordL 108 e), X, true && getB 108 (wordL 108 e)) = (e, X, true)
    rw [(b1 _).1, (b1 e).2, he]
    rfl
  · obtain ⟨h5, h6, h7⟩ := plan_no h3.plan
    have a1 := field_yes h3.loan
    have a2 := field_no h3.amount
    have a3 := rate_no h3.rate
    have a4 := field_no h3.status
    have a5 : sub = false := by simpa using h3.sub
    simp only at h4 h5 h6 h7 a1 a2 a3 a4
    subst h4 h5 h6 h7 a2 a3 a4 a5
    obtain ⟨e, he⟩ : ∃ e : E, e = ⟨8, day, key, loan, 0, 0, 0, false, 0, 0, 0⟩ := ⟨_, rfl⟩
    have b1 := let_l (e := e) (by rw [he]; simp only; omega) (by rw [he]; simp only; omega)
    rw [← he]
    rw [show frm e.kind e.plan = forms[10]'(by decide) by rw [he]; rfl]
    show (getE 108 ⟨8, e.day, e.key, 0, 0, 0, 0, false, 0, 0, 0⟩ (wordL 108 e), X, true && getB 108 (wordL 108 e)) = (e, X, true)
    rw [(b1 _).1, (b1 e).2, he]
    rfl
/-- The form that a text begins with. -/
theorem find_form {f : Fm} (hf : f ∈ forms) (tl : List UInt8) : forms.find? (headB (f.words ++ 32 :: tl)) = some f := by
  simp [forms] at hf
  rcases hf with rfl | rfl | rfl | rfl | rfl | rfl | rfl | rfl | rfl | rfl | rfl <;> rfl
theorem join_tail (s : List UInt8) (Y : List (List UInt8)) : ∃ tl, Lib.join (cutC 32 s ++ Y) [32] ++ [32] = s ++ 32 :: tl := by
  have h0 := join_cut s.length s (Nat.le_refl _)
  match Y with
  | [] => exact ⟨[], by rw [List.append_nil, h0]⟩
  | y :: r =>
    rw [join_app _ _ (cutC_ne 32 s) (by simp), h0]
    exact ⟨Lib.join (y :: r) [32] ++ [32], by simp⟩
/-- An event's words, read; what stands behind stays. -/
theorem ev_back (e : E) (h : goodE e = true) (hr : e.rate < 18446744073709551616) (hi : e.income < 18446744073709551616) (X : List (List UInt8)) :
    evR e.key (Vw.dayL e.day :: (cutC 32 (frm e.kind e.plan).words ++ ((frm e.kind e.plan).has.map (fun x => wordL x.toNat e) ++ X))) true = (e, X, true) := by
  obtain ⟨i, hi1, hfi, _⟩ := frm_idx e h
  obtain ⟨hdy, _⟩ := good_kinds e h
  obtain ⟨hd1, hd2⟩ := dayN_of hdy
  have ha := all_back e h hr hi X
  have hmem := List.mem_of_getElem? hfi
  obtain ⟨Y, hY⟩ : ∃ Y, (frm e.kind e.plan).has.map (fun x => wordL x.toNat e) ++ X = Y := ⟨_, rfl⟩
  rw [hY] at ha ⊢
  generalize frm e.kind e.plan = f at *
  obtain ⟨tl, htl⟩ := join_tail f.words Y
  unfold evR
  rw [List.tail_cons, htl, find_form hmem tl]
  have hdd : hd (Vw.dayL e.day :: (cutC 32 f.words ++ Y)) = Vw.dayL e.day := rfl
  simp only
  rw [hdd, hd1, hd2, List.drop_left]
  rw [show decide ((cutC 32 f.words).length ≤ (cutC 32 f.words ++ Y).length) = true by simp]
  exact ha
end Go.Proofs.YtkcjgmicoifhcaaGreatDoor.Cn
