/- Lines, kind by kind: plain. (Printed by gen_t2.py.) -/
import Derived.Test.YtkcjgmicoifhcaaGreatDoorM11
import Derived.Test.YtkcjgmicoifhcaaGreatDoorM15
import Derived.Deep.RegionHeld3
namespace Go.Proofs.YtkcjgmicoifhcaaGreatDoor.Cn
open Go.RowKit Go.Sort Go.Lib Go.Shelf
open Vw (Tab str Blk)
open Ev (E C fineC)

theorem ws_at {w : World} {g gk c : Nat} {L : List (List UInt8)} (h : Ws w g (some ⟨gk, 0, none⟩) L c) (i : Nat) (x : List UInt8) (hx : L[i]? = some x) : w.cell? ⟨gk, i, none⟩ = some (.string (str x)) := by
  rcases h.lies with h1 | ⟨b, off, h1, _, _, hc⟩
  · rw [h1] at hx
    simp at hx
  · injection h1 with h2
    injection h2 with h3 h4 _
    subst h3
    subst h4
    have := hc i x hx
    rwa [Nat.zero_add] at this
theorem kinds_at (w : World) : Calls Tryz.prog 31 #[] w fun e w' => (∃ gk : Nat, e = .returned (.slice (some ⟨gk, 0, none⟩) 8 8) ∧ ∀ i x, kindsL[i]? = some x → w'.cell? ⟨gk, i, none⟩ = some (.string (str x))) ∧ Below w.heap.size w w' :=
  (kinds_calls w).mono fun e w' ⟨h1, h2⟩ => by
    subst h2
    exact ⟨⟨_, h1, fun i x hx => ws_at (ws_made w kindsL 8 rfl) i x hx⟩, (Below.refl _ _).alloc (Nat.le_refl _) _⟩
theorem stats_at (w : World) : Calls Tryz.prog 33 #[] w fun e w' => (∃ gk : Nat, e = .returned (.slice (some ⟨gk, 0, none⟩) 5 5) ∧ ∀ i x, statL[i]? = some x → w'.cell? ⟨gk, i, none⟩ = some (.string (str x))) ∧ Below w.heap.size w w' :=
  (stats_calls w).mono fun e w' ⟨h1, h2⟩ => by
    subst h2
    exact ⟨⟨_, h1, fun i x hx => ws_at (ws_made w statL 5 rfl) i x hx⟩, (Below.refl _ _).alloc (Nat.le_refl _) _⟩
theorem plans_at (w : World) : Calls Tryz.prog 34 #[] w fun e w' => (∃ gk : Nat, e = .returned (.slice (some ⟨gk, 0, none⟩) 4 4) ∧ ∀ i x, plansL[i]? = some x → w'.cell? ⟨gk, i, none⟩ = some (.string (str x))) ∧ Below w.heap.size w w' :=
  (plans_calls w).mono fun e w' ⟨h1, h2⟩ => by
    subst h2
    exact ⟨⟨_, h1, fun i x hx => ws_at (ws_made w plansL 4 rfl) i x hx⟩, (Below.refl _ _).alloc (Nat.le_refl _) _⟩
theorem add_eq {a b c : List UInt8} (h : a ++ b = c) (hl : a.length + b.length ≤ 9223372036854775807) (W : World) : (Op.stringOp .add (str a) (str b)).run Tryz.prog W = .ok (.string (str c)) W := by
  rw [← h]
  exact Vw.add_run a b hl W
theorem lnC_ev (kn : Nat) (e : E) (o : Int) (f : Fm) (h : frm e.kind e.plan = f) : lnC ⟨false, (kn : Int), e, o⟩ = Lib.join ([decDigits kn, Vw.dayL e.day, f.words] ++ f.has.map (fun x => wordL x.toNat e)) [32] := by
  subst h
  rfl
theorem ln_1t (kn : Nat) (dy ek ln am st fm o : Int) (rt ic : Nat) : lnC ⟨false, (kn : Int), ⟨1, dy, ek, ln, am, rt, ic, true, st, 0, fm⟩, o⟩ = ((decDigits kn ++ ((([32] ++ Vw.dayL dy) ++ [32]) ++ [100, 105, 115, 98, 117, 114, 115, 101])) ++ ((((([32] ++ itoa ln) ++ [32]) ++ itoa am) ++ [32]) ++ hexT (bitU rt))) ++ [32, 49] := by
  rw [lnC_ev kn _ _ ⟨[100, 105, 115, 98, 117, 114, 115, 101], 1, 0, [108, 97, 114, 117]⟩ rfl]
  show Lib.join [decDigits kn, Vw.dayL dy, [100, 105, 115, 98, 117, 114, 115, 101], itoa ln, itoa am, hexT (bitU rt), itoa 1] [32] = _
  rw [show itoa 1 = [49] from (itoa_nonneg 1).trans (Vw.dec_one 1 (by decide))]
  simp [Lib.join, List.intercalate]
theorem ln_1f (kn : Nat) (dy ek ln am st fm o : Int) (rt ic : Nat) : lnC ⟨false, (kn : Int), ⟨1, dy, ek, ln, am, rt, ic, false, st, 0, fm⟩, o⟩ = ((decDigits kn ++ ((([32] ++ Vw.dayL dy) ++ [32]) ++ [100, 105, 115, 98, 117, 114, 115, 101])) ++ ((((([32] ++ itoa ln) ++ [32]) ++ itoa am) ++ [32]) ++ hexT (bitU rt))) ++ [32, 48] := by
  rw [lnC_ev kn _ _ ⟨[100, 105, 115, 98, 117, 114, 115, 101], 1, 0, [108, 97, 114, 117]⟩ rfl]
  show Lib.join [decDigits kn, Vw.dayL dy, [100, 105, 115, 98, 117, 114, 115, 101], itoa ln, itoa am, hexT (bitU rt), itoa 0] [32] = _
  rw [show itoa 0 = [48] from (itoa_nonneg 0).trans (Vw.dec_one 0 (by decide))]
  simp [Lib.join, List.intercalate]
theorem ln_3 (kn : Nat) (dy ek ln am st fm o : Int) (rt ic : Nat) (sb : Bool) : lnC ⟨false, (kn : Int), ⟨3, dy, ek, ln, am, rt, ic, sb, st, 0, fm⟩, o⟩ = (decDigits kn ++ ((([32] ++ Vw.dayL dy) ++ [32]) ++ [112, 97, 121])) ++ ([32] ++ itoa am) := by
  rw [lnC_ev kn _ _ ⟨[112, 97, 121], 3, 0, [97]⟩ rfl]
  show Lib.join [decDigits kn, Vw.dayL dy, [112, 97, 121], itoa am] [32] = _
  simp [Lib.join, List.intercalate]
theorem ln_4 (kn : Nat) (dy ek ln am st fm o : Int) (rt ic : Nat) (sb : Bool) : lnC ⟨false, (kn : Int), ⟨4, dy, ek, ln, am, rt, ic, sb, st, 0, fm⟩, o⟩ = (decDigits kn ++ ((([32] ++ Vw.dayL dy) ++ [32]) ++ [102, 101, 101])) ++ ((([32] ++ itoa ln) ++ [32]) ++ itoa am) := by
  rw [lnC_ev kn _ _ ⟨[102, 101, 101], 4, 0, [108, 97]⟩ rfl]
  show Lib.join [decDigits kn, Vw.dayL dy, [102, 101, 101], itoa ln, itoa am] [32] = _
  simp [Lib.join, List.intercalate]
theorem ln_51 (kn : Nat) (dy ek ln am st fm o : Int) (rt ic : Nat) (sb : Bool) : lnC ⟨false, (kn : Int), ⟨5, dy, ek, ln, am, rt, ic, sb, st, 1, fm⟩, o⟩ = (decDigits kn ++ ((([32] ++ Vw.dayL dy) ++ [32]) ++ [101, 110, 114, 111, 108, 108])) ++ ([32] ++ [115, 116, 97, 110, 100, 97, 114, 100]) := by
  rw [lnC_ev kn _ _ ⟨[101, 110, 114, 111, 108, 108, 32, 115, 116, 97, 110, 100, 97, 114, 100], 5, 1, []⟩ rfl]
  show Lib.join [decDigits kn, Vw.dayL dy, [101, 110, 114, 111, 108, 108, 32, 115, 116, 97, 110, 100, 97, 114, 100]] [32] = _
  simp [Lib.join, List.intercalate]
theorem ln_52 (kn : Nat) (dy ek ln am st fm o : Int) (rt ic : Nat) (sb : Bool) : lnC ⟨false, (kn : Int), ⟨5, dy, ek, ln, am, rt, ic, sb, st, 2, fm⟩, o⟩ = (decDigits kn ++ ((([32] ++ Vw.dayL dy) ++ [32]) ++ [101, 110, 114, 111, 108, 108])) ++ ([32] ++ [101, 120, 116, 101, 110, 100, 101, 100]) := by
  rw [lnC_ev kn _ _ ⟨[101, 110, 114, 111, 108, 108, 32, 101, 120, 116, 101, 110, 100, 101, 100], 5, 2, []⟩ rfl]
  show Lib.join [decDigits kn, Vw.dayL dy, [101, 110, 114, 111, 108, 108, 32, 101, 120, 116, 101, 110, 100, 101, 100]] [32] = _
  simp [Lib.join, List.intercalate]
theorem ln_53 (kn : Nat) (dy ek ln am st fm o : Int) (rt ic : Nat) (sb : Bool) : lnC ⟨false, (kn : Int), ⟨5, dy, ek, ln, am, rt, ic, sb, st, 3, fm⟩, o⟩ = (decDigits kn ++ ((([32] ++ Vw.dayL dy) ++ [32]) ++ [101, 110, 114, 111, 108, 108])) ++ ([32] ++ [103, 114, 97, 100, 117, 97, 116, 101, 100]) := by
  rw [lnC_ev kn _ _ ⟨[101, 110, 114, 111, 108, 108, 32, 103, 114, 97, 100, 117, 97, 116, 101, 100], 5, 3, []⟩ rfl]
  show Lib.join [decDigits kn, Vw.dayL dy, [101, 110, 114, 111, 108, 108, 32, 103, 114, 97, 100, 117, 97, 116, 101, 100]] [32] = _
  simp [Lib.join, List.intercalate]
theorem ln_54 (kn : Nat) (dy ek ln am st fm o : Int) (rt ic : Nat) (sb : Bool) : lnC ⟨false, (kn : Int), ⟨5, dy, ek, ln, am, rt, ic, sb, st, 4, fm⟩, o⟩ = ((decDigits kn ++ ((([32] ++ Vw.dayL dy) ++ [32]) ++ [101, 110, 114, 111, 108, 108])) ++ ([32] ++ [105, 110, 99, 111, 109, 101])) ++ ((([32] ++ hexT (bitU ic)) ++ [32]) ++ itoa fm) := by
  rw [lnC_ev kn _ _ ⟨[101, 110, 114, 111, 108, 108, 32, 105, 110, 99, 111, 109, 101], 5, 4, [105, 102]⟩ rfl]
  show Lib.join [decDigits kn, Vw.dayL dy, [101, 110, 114, 111, 108, 108, 32, 105, 110, 99, 111, 109, 101], hexT (bitU ic), itoa fm] [32] = _
  simp [Lib.join, List.intercalate]
theorem ln_6 (kn : Nat) (dy ek ln am st fm o : Int) (rt ic : Nat) (sb : Bool) : lnC ⟨false, (kn : Int), ⟨6, dy, ek, ln, am, rt, ic, sb, st, 0, fm⟩, o⟩ = (decDigits kn ++ ((([32] ++ Vw.dayL dy) ++ [32]) ++ [102, 111, 114, 103, 105, 118, 101])) := by
  rw [lnC_ev kn _ _ ⟨[102, 111, 114, 103, 105, 118, 101], 6, 0, []⟩ rfl]
  show Lib.join [decDigits kn, Vw.dayL dy, [102, 111, 114, 103, 105, 118, 101]] [32] = _
  simp [Lib.join, List.intercalate]
theorem ln_7 (kn : Nat) (dy ek ln am st fm o : Int) (rt ic : Nat) (sb : Bool) : lnC ⟨false, (kn : Int), ⟨7, dy, ek, ln, am, rt, ic, sb, st, 0, fm⟩, o⟩ = (decDigits kn ++ ((([32] ++ Vw.dayL dy) ++ [32]) ++ [99, 111, 110, 115, 111, 108, 105, 100, 97, 116, 101])) ++ ([32] ++ itoa ln) := by
  rw [lnC_ev kn _ _ ⟨[99, 111, 110, 115, 111, 108, 105, 100, 97, 116, 101], 7, 0, [108]⟩ rfl]
  show Lib.join [decDigits kn, Vw.dayL dy, [99, 111, 110, 115, 111, 108, 105, 100, 97, 116, 101], itoa ln] [32] = _
  simp [Lib.join, List.intercalate]
theorem ln_8 (kn : Nat) (dy ek ln am st fm o : Int) (rt ic : Nat) (sb : Bool) : lnC ⟨false, (kn : Int), ⟨8, dy, ek, ln, am, rt, ic, sb, st, 0, fm⟩, o⟩ = (decDigits kn ++ ((([32] ++ Vw.dayL dy) ++ [32]) ++ [100, 105, 115, 99, 104, 97, 114, 103, 101])) ++ ([32] ++ itoa ln) := by
  rw [lnC_ev kn _ _ ⟨[100, 105, 115, 99, 104, 97, 114, 103, 101], 8, 0, [108]⟩ rfl]
  show Lib.join [decDigits kn, Vw.dayL dy, [100, 105, 115, 99, 104, 97, 114, 103, 101], itoa ln] [32] = _
  simp [Lib.join, List.intercalate]
theorem takeH {P : Program} {ops : Array Oper} {Q : Exit → Act → World → Prop} {md : Region.Mode} {S : World → Prop} {i : Nat} {N : Option Tmp} {oi : Oper} {v : Value} {fuel : Nat} {listed : Array Bool} {a : Act} {w : World} (hi : ops[i]? = some oi) (hN : oi.dst = N)
    (hs : Region.noSelect ops = true) (hf : Region.free md ops listed i = true) (hr : (Region.ready md ops listed).contains i = true)
    (hQ : ∀ c a w, Q (.panic c) (a.put N v) w → Q (.panic c) a w) (hy : YieldsIf P ops S oi v a) (hS : S w)
    (h : wpAnyH P md ops Q S fuel (listed.setIfInBounds i true) (a.put N v) w) : wpAnyH P md ops Q S (fuel + 1) listed a w := by
  subst hN
  exact wpAnyH_take hi hs hf hr hQ hy hS h
theorem kind_at {kd : Int} (h : 1 ≤ kd ∧ kd ≤ 8) : ∃ (kj : Nat) (W : List UInt8), kd = (kj : Int) + 1 ∧ kj < 8 ∧ kindsL[kj]? = some W := by
  obtain ⟨kj, rfl⟩ : ∃ kj : Nat, kd = (kj : Int) + 1 := ⟨(kd - 1).toNat, by omega⟩
  have hk : kj < kindsL.length := by show kj < 8; omega
  exact ⟨kj, kindsL[kj], rfl, by omega, List.getElem?_eq_getElem hk⟩
theorem stat_at {st : Int} (h : 1 ≤ st ∧ st ≤ 5) : ∃ sj : Nat, st = (sj : Int) + 1 ∧ sj < 5 ∧ statL[sj]? = some (stW st) := by
  have h2 : st = 1 ∨ st = 2 ∨ st = 3 ∨ st = 4 ∨ st = 5 := by omega
  rcases h2 with rfl | rfl | rfl | rfl | rfl
  · exact ⟨0, rfl, by decide, rfl⟩
  · exact ⟨1, rfl, by decide, rfl⟩
  · exact ⟨2, rfl, by decide, rfl⟩
  · exact ⟨3, rfl, by decide, rfl⟩
  · exact ⟨4, rfl, by decide, rfl⟩
theorem ln_2 (kn : Nat) (dy ek ln am st fm o : Int) (rt ic : Nat) (sb : Bool) : lnC ⟨false, (kn : Int), ⟨2, dy, ek, ln, am, rt, ic, sb, st, 0, fm⟩, o⟩ = (decDigits kn ++ ((([32] ++ Vw.dayL dy) ++ [32]) ++ [115, 116, 97, 116, 117, 115])) ++ ((([32] ++ itoa ln) ++ [32]) ++ stW st) := by
  rw [lnC_ev kn _ _ ⟨[115, 116, 97, 116, 117, 115], 2, 0, [108, 115]⟩ rfl]
  show Lib.join [decDigits kn, Vw.dayL dy, [115, 116, 97, 116, 117, 115], itoa ln, stW st] [32] = _
  simp [Lib.join, List.intercalate]
theorem ln_5 (kn : Nat) (dy ek ln am st pl fm o : Int) (rt ic : Nat) (sb : Bool) (h : pl = 1 ∨ pl = 2 ∨ pl = 3) : ∃ (pj : Nat) (W : List UInt8), pl = (pj : Int) + 1 ∧ pj < 4 ∧ plansL[pj]? = some W ∧ lnC ⟨false, (kn : Int), ⟨5, dy, ek, ln, am, rt, ic, sb, st, pl, fm⟩, o⟩ = (decDigits kn ++ ((([32] ++ Vw.dayL dy) ++ [32]) ++ [101, 110, 114, 111, 108, 108])) ++ ([32] ++ W) := by
  rcases h with rfl | rfl | rfl
  · exact ⟨0, _, rfl, by decide, rfl, ln_51 kn dy ek ln am st fm o rt ic sb⟩
  · exact ⟨1, _, rfl, by decide, rfl, ln_52 kn dy ek ln am st fm o rt ic sb⟩
  · exact ⟨2, _, rfl, by decide, rfl, ln_53 kn dy ek ln am st fm o rt ic sb⟩
end Go.Proofs.YtkcjgmicoifhcaaGreatDoor.Cn
