/- Texts joined: C0 C1 C2 C3 C4. -/
import Derived.Test.YtkcjgmicoifhcaaGreatDoorM5
import Derived.Lib.AtoiErrMem
import Derived.WalkMore
import Derived.Lib.ConvBytes
import Derived.Lib.AtoiAllMem
import Derived.Laws.Strings3
import Derived.Laws.Closers25
import Derived.Laws.Closers25b
import Derived.WalkKit
import Derived.BigCall
import Derived.BigGuard
import Derived.Laws.Bits64b
import Derived.Laws.BitsAllLaws
import Derived.Laws.IdiomStrings

/- C0: What the library's and the program's variables hold; console.number. -/
namespace Go.Proofs.YtkcjgmicoifhcaaGreatDoor.Cn
open Go.RowKit Go.Sort Go.Lib Go.Shelf
open Vw (Tab str Blk)
attribute [local go_sem ↓] Go.wp_at_zero Go.wp_at_succ

/-- A line's form: its words, kind, plan, fields. -/
structure Fm where
  words : List UInt8
  kind : Int
  plan : Int
  has : List UInt8
abbrev Fm.cells (f : Fm) : Array Value := #[.string (str f.words), .int .i64 f.kind, .int .i64 f.plan, .string (str f.has)]
/-- All lines of events. -/
def forms : List Fm := [⟨[100, 105, 115, 98, 117, 114, 115, 101], 1, 0, [108, 97, 114, 117]⟩, ⟨[115, 116, 97, 116, 117, 115], 2, 0, [108, 115]⟩, ⟨[112, 97, 121], 3, 0, [97]⟩, ⟨[102, 101, 101], 4, 0, [108, 97]⟩,
  ⟨[101, 110, 114, 111, 108, 108, 32, 115, 116, 97, 110, 100, 97, 114, 100], 5, 1, []⟩, ⟨[101, 110, 114, 111, 108, 108, 32, 101, 120, 116, 101, 110, 100, 101, 100], 5, 2, []⟩, ⟨[101, 110, 114, 111, 108, 108, 32, 103, 114, 97, 100, 117, 97, 116, 101, 100], 5, 3, []⟩, ⟨[101, 110, 114, 111, 108, 108, 32, 105, 110, 99, 111, 109, 101], 5, 4, [105, 102]⟩,
  ⟨[102, 111, 114, 103, 105, 118, 101], 6, 0, []⟩, ⟨[99, 111, 110, 115, 111, 108, 105, 100, 97, 116, 101], 7, 0, [108]⟩, ⟨[100, 105, 115, 99, 104, 97, 114, 103, 101], 8, 0, [108]⟩]
/-- What the variables hold. -/
structure Gl (w : World) : Prop where
  tab : Tab w
  syn : ∃ te pe, w.cell? ⟨6, 0, none⟩ = some (.iface te pe)
  rng : ∃ te pe, w.cell? ⟨7, 0, none⟩ = some (.iface te pe)
  mx : ∃ m : Int, w.cell? ⟨3, 0, none⟩ = some (.int .i64 m)
  forms : ∀ (k : Nat) (f : Fm), forms[k]? = some f → ∀ (j : Nat) (v : Value), f.cells[j]? = some v → w.cell? ⟨0, k * 4 + j, none⟩ = some v
theorem cell_lt {w : World} {p : Addr} {v : Value} (h : w.cell? p = some v) : p.block < w.heap.size := by
  unfold World.cell? at h
  split at h
  · rename_i c _ _ hb
    exact (Array.getElem?_eq_some_iff.1 hb).1
  · cases h
theorem cell_below {w w1 : World} {p : Addr} {v : Value} (h : w.cell? p = some v) (hb : Below w.heap.size w w1) : w1.cell? p = some v := (hb.cell (cell_lt h)).trans h
theorem Gl.below {w w1 : World} (h : Gl w) (hb : Below w.heap.size w w1) : Gl w1 := by
  refine ⟨h.tab.below hb, ?_, ?_, ?_, fun k f hf j v hv => cell_below (h.forms k f hf j v hv) hb⟩
  · obtain ⟨te, pe, h1⟩ := h.syn
    exact ⟨te, pe, cell_below h1 hb⟩
  · obtain ⟨te, pe, h1⟩ := h.rng
    exact ⟨te, pe, cell_below h1 hb⟩
  · obtain ⟨m, h1⟩ := h.mx
    exact ⟨m, cell_below h1 hb⟩
theorem below_or {w w' : World} (h : w' = w ∨ ∃ t, w' = Lib.bytesWorld w 5 t) : Below w.heap.size w w' := by
  rcases h with rfl | ⟨t, rfl⟩
  · exact Below.refl _ _
  · exact Lib.bytesWorld_below w 5 t
/-- An error's value: none just where all is well. -/
def ErrV (ok : Bool) (v : Value) : Prop := if ok then v = .nilIface else ∃ p, v = .iface 175 p
/-- How a parse ends, and its number. -/
def okE {α : Type} (x : NumEnd α) : Bool := match x with | .ok _ => true | _ => false
theorem pint_calls (l : List UInt8) (hl : l.length ≤ 1000000) (w : World) (hg : Gl w) :
    Calls Tryz.prog 119 #[.string (str l), .int .i64 10, .int .i64 64] w fun e w' => ∃ (n : Int) (er : Value), e = .returned (.tuple #[.int .i64 n, er]) ∧ ErrV (okE (parseIntB 64 l)) er ∧ (∀ v, parseIntB 64 l = .ok v → n = v) ∧ Below w.heap.size w w' := by
  have hs : (str l).size = l.length := Vw.str_size l
  cases h : parseIntB 64 l with
  | ok v => exact (Tryz.strconv_ParseInt_10_at64_ok (str l) (by omega) v h w).mono fun e w' ⟨h1, h2⟩ => ⟨v, .nilIface, h1, by simp [ErrV, okE], fun v' h' => by cases h'; rfl, below_or h2⟩
  | range =>
    obtain ⟨te, pe, hc⟩ := hg.rng
    exact (Tryz.strconv_ParseInt_10_at64_range (str l) (by omega) h _ w hc (.inr ⟨te, pe, rfl⟩)).mono fun e w' ⟨N, h1, _, _, h2⟩ => ⟨_, _, h1, by simp [ErrV, okE], (fun v' h' => nomatch h'), h2⟩
  | _ =>
    obtain ⟨te, pe, hc⟩ := hg.syn
    exact (Tryz.strconv_ParseInt_10_at64_syntax (str l) (by omega) h _ w hc (.inr ⟨te, pe, rfl⟩)).mono fun e w' ⟨N, h1, _, _, h2⟩ => ⟨0, _, h1, by simp [ErrV, okE], (fun v' h' => nomatch h'), h2⟩
/-- FormatInt at base 10. -/
theorem fmtInt (n : Int) (h0 : -9223372036854775808 ≤ n) (h1 : n ≤ 9223372036854775807) (w : World) (ht : Tab w) :
    Calls Tryz.prog 42 #[.int .i64 n, .int .i64 10] w fun e w' => e = .returned (.string (str (Lib.itoa n))) ∧ Below w.heap.size w w' :=
  (Tryz.strconv_FormatInt_10 n h0 h1 w ht).mono fun e w' ⟨h2, k, os, h3⟩ => ⟨h2, by
    subst h3
    have hd := Vw.below_drewN (Below.refl w.heap.size w) k
    exact hd.trans ((Vw.below_grow (w.drewN k) os).mono hd.size)⟩
theorem beq_str (a b : List UInt8) : ((str a).toList == (str b).toList) = decide (a = b) := by
  have e : ∀ l : List UInt8, (str l).toList = l := fun l => by
    rw [ByteArray.toList_eq]
  rw [e, e]
  by_cases h : a = b
  · simp [h]
  · simp [h]
set_option maxRecDepth 20000 in
theorem number_calls (l : List UInt8) (hl : l.length ≤ 1000000) (w : World) (hg : Gl w) :
    Calls Tryz.prog 77 #[.string (str l)] w fun e w' => e = .returned (.int .i64 (numP l)) ∧ Below w.heap.size w w' := by
  have hn := num_prog l
  have hsz : (str l).size = l.length := Vw.str_size l
  have HP := Lib.hid (pint_calls l hl w hg)
  have HF := Lib.hid (fun n h0 h1 W (hB : Below w.heap.size w W) => fmtInt n h0 h1 W (hg.below hB).tab)
  have HL : Hid (l.length ≤ 1000000) := Lib.hid hl
  clear hg hl
  cases h : parseIntB 64 l with
  | ok v =>
    rw [h] at hn HP
    simp only at hn
    have hb := parseIntB_bounds h
    have hb' : -9223372036854775808 ≤ v ∧ v ≤ 9223372036854775807 := by
      have e : ((2 ^ (64 - 1) : Nat) : Int) = 9223372036854775808 := by decide
      rw [e] at hb
      omega
    have HF1 := Lib.hid (fun W hB => HF.out v hb'.1 hb'.2 W hB)
    have HN := Lib.hid hn
    clear hn hb hb' HF h
    by_cases q1 : l.length ≤ 10
    · have d1 : decide ((l.length : Int) ≤ 10) = true := decide_eq_true (by omega)
      by_cases q2 : itoa v = l
      · have d2 : ((str (itoa v)).toList == (str l).toList) = true := by rw [beq_str]; exact decide_eq_true q2
        by_cases q3 : 0 ≤ v
        · have d3 : decide (0 ≤ v) = true := decide_eq_true q3
          have HR : Hid (numP l = v) := Lib.hid (by rw [← HN.out, if_pos ⟨q1, q2, q3⟩])
          have HQ2 := Lib.hid q2
          clear q1 q2 q3
          go_enter Tryz.func77, Tryz.ntmps77
          go_wp2_with fail
          refine HP.out.mono ?_
          rintro e w1 ⟨n, er, rfl, her, hv, hb1⟩
          obtain rfl : n = v := hv v rfl
          obtain rfl : er = .nilIface := by simpa [ErrV, okE] using her
          have HB := Lib.hid hb1
          clear her hv
          have HF2 := Lib.hid (HF1.out w1 hb1)
          clear hb1
          go_wp2_with fail
          refine HF2.out.mono ?_
          rintro e w2 ⟨rfl, hb2⟩
          have HB2 := Lib.hid (HB.out.trans (hb2.mono HB.out.size))
          clear hb2
          go_wp2_with fail
          go_ret
          exact ⟨by rw [HR.out]; rfl, HB2.out⟩
        · have d3 : decide (0 ≤ v) = false := decide_eq_false q3
          have HR : Hid (numP l = -1) := Lib.hid (by rw [← HN.out, if_neg fun h => q3 h.2.2])
          have HQ2 := Lib.hid q2
          clear q1 q2 q3
          go_enter Tryz.func77, Tryz.ntmps77
          go_wp2_with fail
          refine HP.out.mono ?_
          rintro e w1 ⟨n, er, rfl, her, hv, hb1⟩
          obtain rfl : n = v := hv v rfl
          obtain rfl : er = .nilIface := by simpa [ErrV, okE] using her
          have HB := Lib.hid hb1
          clear her hv
          have HF2 := Lib.hid (HF1.out w1 hb1)
          clear hb1
          go_wp2_with fail
          refine HF2.out.mono ?_
          rintro e w2 ⟨rfl, hb2⟩
          have HB2 := Lib.hid (HB.out.trans (hb2.mono HB.out.size))
          clear hb2
          go_wp2_with fail
          go_ret
          exact ⟨by rw [HR.out]; rfl, HB2.out⟩
      · have d2 : ((str (itoa v)).toList == (str l).toList) = false := by rw [beq_str]; exact decide_eq_false q2
        have HR : Hid (numP l = -1) := Lib.hid (by rw [← HN.out, if_neg fun h => q2 h.2.1])
        clear q1
        go_enter Tryz.func77, Tryz.ntmps77
        go_wp2_with fail
        refine HP.out.mono ?_
        rintro e w1 ⟨n, er, rfl, her, hv, hb1⟩
        obtain rfl : n = v := hv v rfl
        obtain rfl : er = .nilIface := by simpa [ErrV, okE] using her
        have HB := Lib.hid hb1
        clear her hv
        have HF2 := Lib.hid (HF1.out w1 hb1)
        clear hb1
        go_wp2_with fail
        refine HF2.out.mono ?_
        rintro e w2 ⟨rfl, hb2⟩
        have HB2 := Lib.hid (HB.out.trans (hb2.mono HB.out.size))
        clear hb2
        go_wp2_with fail
        go_ret
        exact ⟨by rw [HR.out]; rfl, HB2.out⟩
    · have d1 : decide ((l.length : Int) ≤ 10) = false := decide_eq_false (by omega)
      have HR : Hid (numP l = -1) := Lib.hid (by rw [← HN.out, if_neg fun h => q1 h.1])
      clear q1
      go_enter Tryz.func77, Tryz.ntmps77
      go_wp2_with fail
      refine HP.out.mono ?_
      rintro e w1 ⟨n, er, rfl, her, hv, hb1⟩
      obtain rfl : n = v := hv v rfl
      obtain rfl : er = .nilIface := by simpa [ErrV, okE] using her
      have HB := Lib.hid hb1
      clear her hv
      clear hb1
      go_wp2_with fail
      go_ret
      exact ⟨by rw [HR.out]; rfl, HB.out⟩
  | range =>
    rw [h] at hn HP
    simp only at hn
    have HN := Lib.hid hn
    clear hn
    go_enter Tryz.func77, Tryz.ntmps77
    go_wp2_with fail
    refine HP.out.mono ?_
    rintro e w1 ⟨n, er, rfl, her, _, hb1⟩
    obtain ⟨p, rfl⟩ : ∃ p, er = .iface 175 p := by simpa [ErrV, okE] using her
    have HB := Lib.hid hb1
    clear hb1 her
    go_wp2_with fail
    go_ret
    exact ⟨by rw [← HN.out]; rfl, HB.out⟩
  | _ =>
    rw [h] at hn HP
    simp only at hn
    have HN := Lib.hid hn
    clear hn
    go_enter Tryz.func77, Tryz.ntmps77
    go_wp2_with fail
    refine HP.out.mono ?_
    rintro e w1 ⟨n, er, rfl, her, _, hb1⟩
    obtain ⟨p, rfl⟩ : ∃ p, er = .iface 175 p := by simpa [ErrV, okE] using her
    have HB := Lib.hid hb1
    clear hb1 her
    go_wp2_with fail
    go_ret
    exact ⟨by rw [← HN.out]; rfl, HB.out⟩
end Go.Proofs.YtkcjgmicoifhcaaGreatDoor.Cn

/- C1: The reader of words: next, num, key. -/
namespace Go.Proofs.YtkcjgmicoifhcaaGreatDoor.Cn
open Go.RowKit Go.Sort Go.Lib Go.Shelf
open Vw (Tab str Blk)
attribute [local go_sem ↓] Go.wp_at_zero Go.wp_at_succ

/-- All blocks but some stand as they stood. -/
structure Fr (P : Nat → Prop) (w w' : World) : Prop where
  io : Below 0 w w'
  same : ∀ k, k < w.heap.size → ¬ P k → w'.heap[k]? = w.heap[k]?
theorem Fr.refl (P : Nat → Prop) (w : World) : Fr P w w := ⟨Below.refl _ _, fun _ _ _ => rfl⟩
theorem Fr.trans {P : Nat → Prop} {a b c : World} (h : Fr P a b) (h2 : Fr P b c) : Fr P a c :=
  ⟨h.io.trans h2.io, fun k hk hp => (h2.same k (Nat.lt_of_lt_of_le hk h.io.size) hp).trans (h.same k hk hp)⟩
theorem Fr.mono {P Q : Nat → Prop} {a b : World} (h : Fr P a b) (hq : ∀ k, P k → Q k) : Fr Q a b := ⟨h.io, fun k hk hp => h.same k hk fun h => hp (hq k h)⟩
theorem Fr.of {P : Nat → Prop} {a b : World} (h : Below a.heap.size a b) : Fr P a b := ⟨h.mono (Nat.zero_le _), fun k hk _ => h.block k hk⟩
theorem Fr.set {P : Nat → Prop} (w : World) {g : Nat} (hp : P g) (i : Nat) (v : Value) : Fr P w (w.setCell ⟨g, i, none⟩ v) :=
  ⟨(Below.refl 0 w).setCell (p := ⟨g, i, none⟩) (Nat.zero_le _) v, fun k _ hk => Below.heap_setCell _ _ _ _ fun e => hk (by rw [show k = g from e]; exact hp)⟩
theorem Fr.below {P : Nat → Prop} {a b : World} (h : Fr P a b) {B : Nat} (hB : B ≤ a.heap.size) (hp : ∀ k, P k → B ≤ k) : Below B a b :=
  ⟨h.io.os, h.io.tape, h.io.output, h.io.size, fun k hk => h.same k (by omega) fun h => by have := hp k h; omega⟩
theorem Fr.blk {P : Nat → Prop} {a b : World} (h : Fr P a b) {g : Nat} {t : TypeId} {cs : Array Value} (hb : Blk a g t cs) (hp : ¬ P g) : Blk b g t cs := ⟨(h.same g hb.lt hp).trans hb.heap⟩
/-- Words in memory, below a block. -/
structure Ws (w : World) (g : Nat) (p : Option Addr) (L : List (List UInt8)) (c : Nat) : Prop where
  cap : L.length ≤ c
  lies : L = [] ∨ ∃ b off, p = some ⟨b, off, none⟩ ∧ b < g ∧ b < w.heap.size ∧ ∀ (i : Nat) (x : List UInt8), L[i]? = some x → w.cell? ⟨b, off + i, none⟩ = some (.string (str x))
theorem Ws.fr {P : Nat → Prop} {w w' : World} {g : Nat} {p : Option Addr} {L : List (List UInt8)} {c : Nat} (h : Ws w g p L c) (hf : Fr P w w') (hp : ∀ k, P k → g ≤ k) : Ws w' g p L c := by
  refine ⟨h.cap, ?_⟩
  rcases h.lies with h1 | ⟨b, off, rfl, h1, h2, h3⟩
  · exact .inl h1
  · refine .inr ⟨b, off, rfl, h1, Nat.lt_of_lt_of_le h2 hf.io.size, fun i x hx => ?_⟩
    rw [← h3 i x hx]
    unfold World.cell?
    rw [hf.same b h2 fun h => by have := hp b h; omega]
/-- The reader. -/
structure Rd (w : World) (g : Nat) (L : List (List UInt8)) (ok : Bool) : Prop where
  lies : ∃ p c, Blk w g 59 #[.slice p L.length c, .bool ok] ∧ Ws w g p L c
theorem Rd.fr {P : Nat → Prop} {w w' : World} {g : Nat} {L : List (List UInt8)} {ok : Bool} (h : Rd w g L ok) (hf : Fr P w w') (hp : ∀ k, P k → g < k) : Rd w' g L ok := by
  obtain ⟨p, c, h1, h2⟩ := h.lies
  exact ⟨p, c, hf.blk h1 fun h => by have := hp g h; omega, h2.fr hf fun k hk => Nat.le_of_lt (hp k hk)⟩
theorem Rd.below {w w' : World} {g : Nat} {L : List (List UInt8)} {ok : Bool} (h : Rd w g L ok) (hb : Below w.heap.size w w') : Rd w' g L ok :=
  h.fr (P := fun _ => False) (Fr.of hb) fun _k hk => hk.elim
theorem Rd.lt {w : World} {g : Nat} {L : List (List UInt8)} {ok : Bool} (h : Rd w g L ok) : g < w.heap.size := by
  obtain ⟨p, c, h1, _⟩ := h.lies
  exact h1.lt
theorem Rd.setOk {w : World} {g : Nat} {L : List (List UInt8)} {ok : Bool} (h : Rd w g L ok) (b : Bool) : Rd (w.setCell ⟨g, 1, none⟩ (.bool b)) g L b := by
  obtain ⟨p, c, h1, h2⟩ := h.lies
  exact ⟨p, c, h1.set_ 1 (.bool b), h2.fr (P := fun k => k = g) (Fr.set (P := fun k => k = g) w rfl 1 _) fun k hk => by omega⟩
/-- The next word, and what is left. -/
def hd (L : List (List UInt8)) : List UInt8 := L.headD []
set_option maxRecDepth 20000 in
theorem next_calls (g : Nat) (L : List (List UInt8)) (ok : Bool) (hl : L.length ≤ 1000000) (w : World) (hR : Rd w g L ok) :
    Calls Tryz.prog 23 #[.pointer (some ⟨g, 0, none⟩)] w fun e w' => e = .returned (.string (str (hd L))) ∧ Rd w' g L.tail (ok && !L.isEmpty) ∧ Fr (fun k => k = g) w w' := by
  obtain ⟨p, c, hb, hw⟩ := hR.lies
  cases L with
  | nil =>
    have c0 : w.cell? ⟨g, 0, none⟩ = some (.slice p 0 c) := hb.cell 0
    have c1 : w.cell? ⟨g, 1, none⟩ = some (.bool ok) := hb.cell 1
    have f1 := hb.frozen 1
    have HR := Lib.hid hR
    clear hb hw hR
    go_enter Tryz.func23, Tryz.ntmps23
    go_wp2_with fail
    go_ret
    exact ⟨rfl, by simpa using HR.out.setOk false, Fr.set (P := fun k => k = g) w rfl 1 _⟩
  | cons x r =>
    rcases hw.lies with h1 | ⟨b, off, rfl, hbg, hbl, hc⟩
    · cases h1
    · have c0 : w.cell? ⟨g, 0, none⟩ = some (.slice (some ⟨b, off, none⟩) (r.length + 1) c) := hb.cell 0
      have f0 := hb.frozen 0
      have cx : w.cell? ⟨b, off, none⟩ = some (.string (str x)) := hc 0 x rfl
      have hcap := hw.cap
      rw [List.length_cons] at hcap hl
      have k1 : (1 : Int) ≤ ((r.length + 1 : Nat) : Int) := by omega
      have k2 : ((r.length + 1 : Nat) : Int) ≤ (c : Int) := by omega
      have HR : Hid (Rd (w.setCell ⟨g, 0, none⟩ (.slice (some ⟨b, off + 1, none⟩) r.length (c - 1))) g r ok) := Lib.hid ⟨some ⟨b, off + 1, none⟩, c - 1, hb.set_ 0 _, by omega, by
        by_cases hr : r = []
        · exact .inl hr
        · refine .inr ⟨b, off + 1, rfl, hbg, by rw [World.size_setCell]; exact hbl, fun i y hy => ?_⟩
          have := hc (i + 1) y (by simpa using hy)
          rw [show off + 1 + i = off + (i + 1) by omega, ← this]
          unfold World.cell?
          rw [Below.heap_setCell _ _ _ _ (show b ≠ g by omega)]⟩
      have HR1 : Hid (c = 1 → Rd (w.setCell ⟨g, 0, none⟩ (.slice (some ⟨b, off, none⟩) r.length 0)) g r ok) := Lib.hid (fun h1 => by
        have h0 : r.length = 0 := by omega
        exact ⟨some ⟨b, off, none⟩, 0, hb.set_ 0 _, by omega, .inl (List.eq_nil_of_length_eq_zero h0)⟩)
      clear hb hw hR hc
      go_enter Tryz.func23, Tryz.ntmps23
      go_wp2_with fail
      all_goals go_ret
      all_goals first
        | exact ⟨rfl, by simpa using HR.out, Fr.set (P := fun k => k = g) w rfl 0 _⟩
        | exact ⟨rfl, by simpa using HR1.out (by assumption), Fr.set (P := fun k => k = g) w rfl 0 _⟩
end Go.Proofs.YtkcjgmicoifhcaaGreatDoor.Cn

/- C2: The reader's numbers and keys. -/
namespace Go.Proofs.YtkcjgmicoifhcaaGreatDoor.Cn
open Go.RowKit Go.Sort Go.Lib Go.Shelf
open Vw (Tab str Blk)
attribute [local go_sem ↓] Go.wp_at_zero Go.wp_at_succ

/-- The variables, in whatever world is as this one was below a block. -/
def GlB (b : Nat) (w : World) : Prop := ∀ W, Below b w W → Gl W
theorem GlB.of {w : World} (h : Gl w) : GlB w.heap.size w := fun _ hB => h.below hB
theorem GlB.step {b : Nat} {w W : World} (h : GlB b w) (hB : Below b w W) : GlB b W := fun _ hB2 => h _ (hB.trans hB2)
theorem GlB.now {b : Nat} {w : World} (h : GlB b w) : Gl w := h w (Below.refl _ _)
theorem GlB.fr {b : Nat} {w W : World} (h : GlB b w) {P : Nat → Prop} (hf : Fr P w W) (hb : b ≤ w.heap.size) (hp : ∀ k, P k → b ≤ k) : GlB b W := h.step (hf.below hb hp)
/-- No word is longer than any line. -/
def Short (L : List (List UInt8)) : Prop := L.length ≤ 1000000 ∧ ∀ x ∈ L, x.length ≤ 1000000
theorem Short.hd {L : List (List UInt8)} (h : Short L) : (hd L).length ≤ 1000000 := by
  cases L with
  | nil => exact Nat.zero_le _
  | cons x r => exact h.2 x (by simp)
theorem Short.tail {L : List (List UInt8)} (h : Short L) : Short L.tail :=
  ⟨by have := h.1; rw [List.length_tail]; omega, fun x hx => h.2 x (List.mem_of_mem_tail hx)⟩
theorem numP_nil : numP [] = -1 := by decide
/-- Whether a number was read. -/
def numB (l : List UInt8) : Bool := decide (0 ≤ numP l)
set_option maxRecDepth 20000 in
theorem num_calls (b g : Nat) (L : List (List UInt8)) (ok : Bool) (hL : Short L) (w : World) (hR : Rd w g L ok) (hG : GlB b w) (hbg : b ≤ g) :
    Calls Tryz.prog 46 #[.pointer (some ⟨g, 0, none⟩)] w fun e w' => e = .returned (.int .i64 (max (numP (hd L)) 0)) ∧ Rd w' g L.tail (ok && numB (hd L)) ∧ Fr (fun k => k = g) w w' := by
  have hlt := hR.lt
  have HN := Lib.hid (next_calls g L ok hL.1 w hR)
  have HNum := Lib.hid (fun W (hF : Fr (fun k => k = g) w W) => number_calls (hd L) hL.hd W (hG.fr hF (by omega) (fun k hk => by omega)).now)
  have HE : Hid (((ok && !L.isEmpty) && numB (hd L)) = (ok && numB (hd L))) := Lib.hid (by
    cases L with
    | nil => simp [numB, hd, numP_nil]
    | cons x r => simp)
  have hm : numP (hd L) < 10000000000 := numP_lt _
  have hm2 : -1 ≤ numP (hd L) := numP_ge _
  unfold numB at HE ⊢
  generalize numP (hd L) = n at *
  generalize hd L = x at *
  generalize (ok && !L.isEmpty) = ok' at *
  generalize L.tail = R at *
  clear hL hR hG hlt
  rw [← HE.out]
  by_cases q : 0 ≤ n
  · have d : decide (0 ≤ n) = true := decide_eq_true q
    have hmx : max n 0 = n := by omega
    rw [hmx, d]
    cases ok' with
    | false =>
      go_enter Tryz.func46, Tryz.ntmps46
      go_wp2_with fail
      refine HN.out.mono ?_
      rintro e w1 ⟨rfl, hR1, hF1⟩
      have HF1 := Lib.hid hF1
      have HN2 := Lib.hid (HNum.out w1 hF1)
      clear hF1
      go_wp2_with fail
      refine HN2.out.mono ?_
      rintro e w2 ⟨rfl, hb2⟩
      have hR2 := hR1.below hb2
      have HF2 := Lib.hid (HF1.out.trans (Fr.of hb2))
      have HR2 := Lib.hid hR2
      obtain ⟨p, c, hb, _⟩ := hR2.lies
      have c1 : w2.cell? ⟨g, 1, none⟩ = some (.bool false) := hb.cell 1
      have f1 := hb.frozen 1
      clear hb hb2 hR1 hR2
      go_wp2_with fail
      go_ret
      exact ⟨rfl, HR2.out.setOk _, HF2.out.trans (Fr.set (P := fun k => k = g) w2 rfl 1 _)⟩
    | true =>
      go_enter Tryz.func46, Tryz.ntmps46
      go_wp2_with fail
      refine HN.out.mono ?_
      rintro e w1 ⟨rfl, hR1, hF1⟩
      have HF1 := Lib.hid hF1
      have HN2 := Lib.hid (HNum.out w1 hF1)
      clear hF1
      go_wp2_with fail
      refine HN2.out.mono ?_
      rintro e w2 ⟨rfl, hb2⟩
      have hR2 := hR1.below hb2
      have HF2 := Lib.hid (HF1.out.trans (Fr.of hb2))
      have HR2 := Lib.hid hR2
      obtain ⟨p, c, hb, _⟩ := hR2.lies
      have c1 : w2.cell? ⟨g, 1, none⟩ = some (.bool true) := hb.cell 1
      have f1 := hb.frozen 1
      clear hb hb2 hR1 hR2
      go_wp2_with fail
      go_ret
      exact ⟨rfl, HR2.out.setOk _, HF2.out.trans (Fr.set (P := fun k => k = g) w2 rfl 1 _)⟩
  · have d : decide (0 ≤ n) = false := decide_eq_false q
    have hmx : max n 0 = 0 := by omega
    rw [hmx, d]
    cases ok' with
    | false =>
      go_enter Tryz.func46, Tryz.ntmps46
      go_wp2_with fail
      refine HN.out.mono ?_
      rintro e w1 ⟨rfl, hR1, hF1⟩
      have HF1 := Lib.hid hF1
      have HN2 := Lib.hid (HNum.out w1 hF1)
      clear hF1
      go_wp2_with fail
      refine HN2.out.mono ?_
      rintro e w2 ⟨rfl, hb2⟩
      have hR2 := hR1.below hb2
      have HF2 := Lib.hid (HF1.out.trans (Fr.of hb2))
      have HR2 := Lib.hid hR2
      obtain ⟨p, c, hb, _⟩ := hR2.lies
      have c1 : w2.cell? ⟨g, 1, none⟩ = some (.bool false) := hb.cell 1
      have f1 := hb.frozen 1
      clear hb hb2 hR1 hR2
      go_wp2_with fail
      go_ret
      exact ⟨rfl, HR2.out.setOk _, HF2.out.trans (Fr.set (P := fun k => k = g) w2 rfl 1 _)⟩
    | true =>
      go_enter Tryz.func46, Tryz.ntmps46
      go_wp2_with fail
      refine HN.out.mono ?_
      rintro e w1 ⟨rfl, hR1, hF1⟩
      have HF1 := Lib.hid hF1
      have HN2 := Lib.hid (HNum.out w1 hF1)
      clear hF1
      go_wp2_with fail
      refine HN2.out.mono ?_
      rintro e w2 ⟨rfl, hb2⟩
      have hR2 := hR1.below hb2
      have HF2 := Lib.hid (HF1.out.trans (Fr.of hb2))
      have HR2 := Lib.hid hR2
      obtain ⟨p, c, hb, _⟩ := hR2.lies
      have c1 : w2.cell? ⟨g, 1, none⟩ = some (.bool true) := hb.cell 1
      have f1 := hb.frozen 1
      clear hb hb2 hR1 hR2
      go_wp2_with fail
      go_ret
      exact ⟨rfl, HR2.out.setOk _, HF2.out.trans (Fr.set (P := fun k => k = g) w2 rfl 1 _)⟩
end Go.Proofs.YtkcjgmicoifhcaaGreatDoor.Cn

/- C3: strconv.ParseUint at base 16, at every string (the shelf's text for base 10 turned to it). -/
namespace Go.Proofs.YtkcjgmicoifhcaaGreatDoor.Cn
open Go.RowKit Go.Sort Go.Lib Go.Shelf
open Vw (Tab str Blk)

/-- A letter's small one. -/
def lowN (c : UInt8) : Nat := (c ||| 32).toNat
theorem low_fin : ∀ c : Fin 256, bits .or .u8 (c.val : Int) 32 = ((UInt8.ofNat c.val ||| 32).toNat : Int) := by decide +kernel
theorem low_bits (c : UInt8) : bits .or .u8 (c.toNat : Int) 32 = (lowN c : Int) := by
  have := low_fin ⟨c.toNat, c.toNat_lt⟩
  simpa [lowN] using this
/-- A hexadecimal digit's number. -/
def hexD (c : UInt8) : Option Nat := if 48 ≤ c.toNat ∧ c.toNat ≤ 57 then some (c.toNat - 48) else if 97 ≤ lowN c ∧ lowN c ≤ 102 then some (lowN c - 87) else none
/-- How hexadecimal digits end. -/
def hexU (acc : Nat) : List UInt8 → NumEnd Nat
  | [] => .ok acc
  | c :: r => match hexD c with
    | none => NumEnd.syntax
    | some d => if 1152921504606846976 ≤ acc then .range else hexU (acc * 16 + d) r
theorem low_calls (c : UInt8) (W : World) : Calls Tryz.prog 159 #[.int .u8 (c.toNat : Int)] W fun e w' => e = .returned (.int .u8 (lowN c : Int)) ∧ w' = W := by
  rw [← low_bits]
  exact Tryz.internal_strconv_lower _ W
set_option maxHeartbeats 32000000 in
set_option maxRecDepth 100000 in
theorem pu16_in (t : ByteArray) (hne : t.size ≠ 0) (hmax : t.size ≤ 9223372036854775806) (w : World) :
    Calls Tryz.prog 144 #[.string t, .int .i64 16, .int .i64 64] w fun e w' => e = .returned (Lib.uintTuple 174 (hexU 0 t.data.toList)) ∧ w' = Lib.bytesWorld w 5 t := by
  have hemp : t.toList.isEmpty = false := by
    rw [← decide_eq_emptyBytes]
    exact decide_eq_false (fun h => hne (by rw [h]; rfl))
  have hcv := Lib.run_convert_string_bytes (P := Tryz.prog) w 9 76 5 t (u := .string) Tryz.underlying9 Tryz.underlying76 Tryz.underlying5
  have hB : ∀ j, j < t.size → (Lib.bytesWorld w 5 t).cell? ⟨w.heap.size, j, none⟩ = some (.int .u8 (t.data.toList.getD j 0).toNat) := fun j hj => Lib.bytesWorld_cell w 5 t j hj
  obtain ⟨W1, hW1⟩ : ∃ W1, W1 = Lib.bytesWorld w 5 t := ⟨_, rfl⟩
  rw [← hW1] at hcv hB ⊢
  clear hW1
  obtain ⟨bs, hL⟩ : ∃ bs, bs = t.data.toList := ⟨_, rfl⟩
  have hLn : bs.length = t.size := by rw [hL, Lib.size_eq]
  rw [← hL] at hB ⊢
  clear hL
  have hmv : IntKind.u64.wrap (IntKind.u64.wrap 18446744073709551616 - 1) = 18446744073709551615 := by
    rw [IntKind.wrap_u64, IntKind.wrap_u64]
    decide
  go_enter Tryz.func144, Tryz.ntmps144
  go_wp2
  go_loop [12, 13, 101] (fun vu vn vi => ∃ (k acc : Nat) (a : Int), vu = .bool false ∧ vn = .int .u64 a ∧ vi = .int .i64 k ∧ k ≤ t.size ∧ Hid (a = (acc : Int) ∧ acc < 18446744073709551616 ∧ hexU 0 bs = hexU acc (bs.drop k)))
    (fun _ _ vi => t.size - (RowKit.intOf vi).toNat)
  case atStart => exact ⟨0, 0, 0, rfl, rfl, rfl, by omega, rfl, by omega, rfl⟩
  case round =>
    obtain ⟨k, acc, a, rfl, rfl, rfl, hk, hh⟩ := hrel
    obtain ⟨ha, hacc, hdec⟩ := hh.out
    clear hh
    have a0 : 0 ≤ a := by omega
    have a1 : a < 18446744073709551616 := by omega
    by_cases hkn : k < t.size
    · have hc := hB k hkn
      have hdrop : bs.drop k = bs[k]'(by omega) :: bs.drop (k + 1) := List.drop_eq_getElem_cons (by omega)
      have hget : bs.getD k 0 = bs[k]'(by omega) := by simp [List.getD, List.getElem?_eq_getElem (show k < bs.length by omega)]
      rw [hdrop] at hdec
      rw [hget] at hc
      generalize bs[k]'(by omega) = c at hc hdec
      have hc256 : c.toNat < 256 := c.toNat_lt
      clear hB hdrop hget
      by_cases hdig : 48 ≤ c.toNat ∧ c.toNat ≤ 57
      · obtain ⟨hd0, hd1⟩ := hdig
        have hD : hexD c = some (c.toNat - 48) := by simp [hexD, hd0, hd1]
        by_cases hcut : 1152921504606846976 ≤ acc
        · have hF : hexU acc (c :: bs.drop (k + 1)) = .range := by simp [hexU, hD, hcut]
          rw [hF] at hdec
          have icut : 1152921504606846976 ≤ a := by omega
          clear hcut hacc hF ha hD
          go_wp2
          go_ret2
          exact ⟨rfl, rfl⟩
        · have hF : hexU acc (c :: bs.drop (k + 1)) = hexU (acc * 16 + (c.toNat - 48)) (bs.drop (k + 1)) := by simp [hexU, hD, hcut]
          have HN : Hid (a * 16 + ((c.toNat : Int) - 48) = ((acc * 16 + (c.toNat - 48) : Nat) : Int) ∧ acc * 16 + (c.toNat - 48) < 18446744073709551616 ∧ hexU 0 bs = hexU (acc * 16 + (c.toNat - 48)) (bs.drop (k + 1))) := Lib.hid ⟨by omega, by omega, hdec.trans hF⟩
          have icut : a < 1152921504606846976 := by omega
          have iov : a * 16 + ((c.toNat : Int) - 48) < 18446744073709551616 := by omega
          clear hcut hacc hF hdec ha hD
          go_wp2
          refine ⟨⟨k + 1, acc * 16 + (c.toNat - 48), a * 16 + ((c.toNat : Int) - 48), rfl, (by first | rfl | (congr 1; omega)), (by first | rfl | (congr 1; omega)), by omega, HN⟩, by simp [RowKit.intOf]; omega⟩
      · by_cases h95 : c.toNat = 95
        · obtain rfl : c = 95 := UInt8.toNat_inj.1 h95
          have HLw := Lib.hid (fun W => low_calls 95 W)
          rw [show lowN 95 = 127 from rfl] at HLw
          have hF : hexU acc (95 :: bs.drop (k + 1))  = NumEnd.syntax := rfl
          rw [hF] at hdec
          clear hacc hF ha hdig h95
          go_wp2_with (go_at_call 159; refine (HLw.out _).mono ?_; rintro e w' ⟨rfl, rfl⟩)
          all_goals go_ret2
          all_goals first | exact ⟨rfl, rfl⟩ | exact ⟨by rw [hdec]; rfl, rfl⟩
        · have HLw := Lib.hid (fun W => low_calls c W)
          have hDd : hexD c = if 97 ≤ lowN c ∧ lowN c ≤ 102 then some (lowN c - 87) else none := by unfold hexD; rw [if_neg hdig]
          have hm256 : lowN c < 256 := (c ||| 32).toNat_lt
          have h95' : ¬ ((c.toNat : Int) = 95) := by omega
          generalize lowN c = m at *
          by_cases hlet : 97 ≤ m ∧ m ≤ 102
          · obtain ⟨hl0, hl1⟩ := hlet
            have hD : hexD c = some (m - 87) := by rw [hDd, if_pos ⟨hl0, hl1⟩]
            by_cases hcut : 1152921504606846976 ≤ acc
            · have hF : hexU acc (c :: bs.drop (k + 1)) = .range := by simp [hexU, hD, hcut]
              rw [hF] at hdec
              have icut : 1152921504606846976 ≤ a := by omega
              clear hcut hacc hF ha hD hDd
              go_wp2_with (go_at_call 159; refine (HLw.out _).mono ?_; rintro e w' ⟨rfl, rfl⟩)
              all_goals go_ret2
              all_goals first | exact ⟨rfl, rfl⟩ | exact ⟨by rw [hdec]; rfl, rfl⟩
            · have hF : hexU acc (c :: bs.drop (k + 1)) = hexU (acc * 16 + (m - 87)) (bs.drop (k + 1)) := by simp [hexU, hD, hcut]
              have HN : Hid (a * 16 + ((m : Int) - 97 + 10) = ((acc * 16 + (m - 87) : Nat) : Int) ∧ acc * 16 + (m - 87) < 18446744073709551616 ∧ hexU 0 bs = hexU (acc * 16 + (m - 87)) (bs.drop (k + 1))) := Lib.hid ⟨by omega, by omega, hdec.trans hF⟩
              have icut : a < 1152921504606846976 := by omega
              have iov : a * 16 + ((m : Int) - 97 + 10) < 18446744073709551616 := by omega
              clear hcut hacc hF hdec ha hD hDd
              go_wp2_with (go_at_call 159; refine (HLw.out _).mono ?_; rintro e w' ⟨rfl, rfl⟩)
              all_goals refine ⟨⟨k + 1, acc * 16 + (m - 87), a * 16 + ((m : Int) - 97 + 10), rfl, (by first | rfl | (congr 1; omega)), (by first | rfl | (congr 1; omega)), by omega, HN⟩, by simp [RowKit.intOf]; omega⟩
          · have hD : hexD c = none := by rw [hDd, if_neg hlet]
            have hF : hexU acc (c :: bs.drop (k + 1))  = NumEnd.syntax := by simp [hexU, hD]
            rw [hF] at hdec
            clear hacc hF ha hD hDd
            by_cases q1 : m < 97
            · clear hlet
              go_wp2_with (go_at_call 159; refine (HLw.out _).mono ?_; rintro e w' ⟨rfl, rfl⟩)
              all_goals go_ret2
              all_goals first | exact ⟨rfl, rfl⟩ | exact ⟨by rw [hdec]; rfl, rfl⟩
            · have q2 : 103 ≤ m := by omega
              clear hlet
              by_cases q3 : m ≤ 122
              · go_wp2_with (go_at_call 159; refine (HLw.out _).mono ?_; rintro e w' ⟨rfl, rfl⟩)
                all_goals go_ret2
                all_goals first | exact ⟨rfl, rfl⟩ | exact ⟨by rw [hdec]; rfl, rfl⟩
              · go_wp2_with (go_at_call 159; refine (HLw.out _).mono ?_; rintro e w' ⟨rfl, rfl⟩)
                all_goals go_ret2
                all_goals first | exact ⟨rfl, rfl⟩ | exact ⟨by rw [hdec]; rfl, rfl⟩
    · have hkk : k = t.size := by omega
      subst hkk
      have hF : hexU acc (bs.drop t.size) = .ok acc := by rw [List.drop_eq_nil_of_le (by omega)]; rfl
      rw [hF] at hdec
      subst ha
      clear hacc hF a0 a1
      go_wp2
      go_ret2
      exact ⟨rfl, rfl⟩
end Go.Proofs.YtkcjgmicoifhcaaGreatDoor.Cn

/- C4: strconv.FormatUint at base 16; console.hex. (Printed by gen_c4.py.) -/
namespace Go.Proofs.YtkcjgmicoifhcaaGreatDoor.Cn
open Go.RowKit Go.Sort Go.Lib Go.Shelf
open Vw (Tab str Blk)
attribute [local go_sem ↓] Go.wp_at_zero Go.wp_at_succ

/-- A hexadecimal digit. -/
def hx (d : Nat) : UInt8 := if d < 10 then UInt8.ofNat (48 + d) else UInt8.ofNat (87 + d)
/-- Hexadecimal digits, the last j. -/
def hexL (u : Nat) : Nat → List UInt8
  | 0 => []
  | j + 1 => hexL (u / 16) j ++ [hx (u % 16)]
theorem hexL_length (u j : Nat) : (hexL u j).length = j := by
  induction j generalizing u with
  | zero => rfl
  | succ j ih => rw [hexL, List.length_append, ih]; rfl
/-- One digit more, ahead. -/
theorem hexL_cons (u j : Nat) : hexL u (j + 1) = hx (u / 16 ^ j % 16) :: hexL u j := by
  induction j generalizing u with
  | zero => simp [hexL]
  | succ j ih =>
    rw [hexL, ih, hexL, List.cons_append, Nat.div_div_eq_div_mul, show 16 * 16 ^ j = 16 ^ (j + 1) by rw [Nat.pow_succ, Nat.mul_comm]]
theorem hx_fin : ∀ d : Fin 16, (#[48, 49, 50, 51, 52, 53, 54, 55, 56, 57, 97, 98, 99, 100, 101, 102, 103, 104, 105, 106, 107, 108, 109, 110, 111, 112, 113, 114, 115, 116, 117, 118, 119, 120, 121, 122] : Array UInt8)[d.val]? = some (hx d.val) := by decide +kernel
theorem pow2_calls (W : World) : Calls Tryz.prog 110 #[.int .i64 16] W fun e w' => e = .returned (.bool true) ∧ w' = W := by
  have h : bits .and .i64 16 15 = 0 := by kernel_rfl
  go_enter Tryz.func110, Tryz.ntmps110
  go_wp2_with fail
  go_ret
  exact ⟨rfl, rfl⟩
theorem tz64_calls (W : World) (h : W.cell? ⟨5, 15, none⟩ = some (.int .u8 4)) : Calls Tryz.prog 133 #[.int .u64 16] W fun e w' => e = .returned (.int .i64 4) ∧ w' = W := by
  have h1 : bits .and .u64 16 (IntKind.u64.wrap (-16)) = 16 := by kernel_rfl
  have h2 : IntKind.u64.wrap (16 * 285870213051353865) / 288230376151711744 = 15 := by kernel_rfl
  go_enter Tryz.func133, Tryz.ntmps133
  go_wp2_with fail
  go_ret
  exact ⟨rfl, rfl⟩
theorem tz_calls (W : World) (h : W.cell? ⟨5, 15, none⟩ = some (.int .u8 4)) : Calls Tryz.prog 111 #[.int .u64 16] W fun e w' => e = .returned (.int .i64 4) ∧ w' = W := by
  have HT := Lib.hid (tz64_calls W h)
  clear h
  go_enter Tryz.func111, Tryz.ntmps111
  go_wp2_with fail
  refine HT.out.mono ?_
  rintro e w1 ⟨rfl, rfl⟩
  go_wp2_with fail
  go_ret
  exact ⟨rfl, rfl⟩
theorem and15 (u : Nat) (h : u < 18446744073709551616) : bits .and .u64 (u : Int) 15 = ((u % 16 : Nat) : Int) := by
  have := u64_and_nat u 15 h (by decide)
  rw [show ((15 : Nat) : Int) = 15 from rfl] at this
  rw [this, Nat.and_two_pow_sub_one_eq_mod u 4]
theorem hexAt_fin : ∀ d : Fin 16, (((⟨#[48, 49, 50, 51, 52, 53, 54, 55, 56, 57, 97, 98, 99, 100, 101, 102, 103, 104, 105, 106, 107, 108, 109, 110, 111, 112, 113, 114, 115, 116, 117, 118, 119, 120, 121, 122]⟩ : ByteArray)[d.val]?).map (·.toNat)) = some (hx d.val).toNat := by decide +kernel
theorem hexAt (d : Nat) (hd : d < 16) (h : d < (⟨#[48, 49, 50, 51, 52, 53, 54, 55, 56, 57, 97, 98, 99, 100, 101, 102, 103, 104, 105, 106, 107, 108, 109, 110, 111, 112, 113, 114, 115, 116, 117, 118, 119, 120, 121, 122]⟩ : ByteArray).size) : ((⟨#[48, 49, 50, 51, 52, 53, 54, 55, 56, 57, 97, 98, 99, 100, 101, 102, 103, 104, 105, 106, 107, 108, 109, 110, 111, 112, 113, 114, 115, 116, 117, 118, 119, 120, 121, 122]⟩ : ByteArray)[d]'h).toNat = (hx d).toNat := by
  have := hexAt_fin ⟨d, hd⟩
  rw [ByteArray.getElem?_lt' _ _ h] at this
  exact Option.some.inj this
/-- The digits' cells: noughts, then digits. -/
structure Dg (w : World) (g : Nat) (L : List UInt8) : Prop where
  blk : ∃ cs, Blk w g 145 cs ∧ cs.size = 65 ∧ L.length ≤ 64 ∧ ∀ (j : Nat) (x : UInt8), L[j]? = some x → cs[65 - L.length + j]? = some (.int .u8 (x.toNat : Int))
theorem Dg.put {w : World} {g : Nat} {L : List UInt8} (h : Dg w g L) (c : UInt8) (hl : L.length < 64) : Dg (w.setCell ⟨g, 64 - L.length, none⟩ (.int .u8 (c.toNat : Int))) g (c :: L) := by
  obtain ⟨cs, h1, h2, h3, h4⟩ := h.blk
  refine ⟨_, h1.set_ (64 - L.length) (.int .u8 (c.toNat : Int)), by rw [Array.size_setIfInBounds, h2], by simp; omega, fun j x hx => ?_⟩
  rw [List.length_cons]
  rw [Array.getElem?_setIfInBounds]
  cases j with
  | zero =>
    obtain rfl : c = x := by simpa using hx
    rw [if_pos (by omega), if_pos (by omega)]
  | succ j =>
    rw [if_neg (by omega), show 65 - (L.length + 1) + (j + 1) = 65 - L.length + j by omega]
    exact h4 j x (by simpa using hx)
theorem Dg.cell {w : World} {g : Nat} {L : List UInt8} (h : Dg w g L) (i : Nat) (hi : i < 65) : ∃ v, w.cell? ⟨g, i, none⟩ = some v := by
  obtain ⟨cs, h1, h2, _, _⟩ := h.blk
  exact ⟨cs[i]'(by omega), by rw [h1.cell i, Array.getElem?_eq_getElem]⟩
theorem Dg.frozen {w : World} {g : Nat} {L : List UInt8} (h : Dg w g L) (i : Nat) : w.frozen? ⟨g, i, none⟩ = false := by
  obtain ⟨cs, h1, _, _, _⟩ := h.blk
  exact h1.frozen i
theorem Dg.digit {w : World} {g : Nat} {L : List UInt8} (h : Dg w g L) (j : Nat) (x : UInt8) (hx : L[j]? = some x) : w.cell? ⟨g, 65 - L.length + j, none⟩ = some (.int .u8 (x.toNat : Int)) := by
  obtain ⟨cs, h1, _, _, h4⟩ := h.blk
  rw [h1.cell]
  exact h4 j x hx
theorem slice65 (g k : Nat) (h : k < 65) (W : World) : (Instr.sliceAt 145 (.pointer (some ⟨g, 0, none⟩)) (some (.int .i64 (k : Int))) none none).run Tryz.prog W = .ok (.slice (some ⟨g, k, none⟩) (65 - k) (65 - k)) W := by
  have hal : Tryz.prog.arrayLen 145 = 65 := by kernel_rfl
  have hne : ¬ (65 : Nat) = k := by omega
  rw [run_sliceAt_array_l W 145 ⟨g, 0, none⟩ (by kernel_rfl) .i64 (k : Int) (by omega) (by rw [hal]; omega), hal]
  go_simp
/-- As many digits as a number has. -/
def hexN (u : Nat) : Nat := if h : u < 16 then 1 else hexN (u / 16) + 1
termination_by u
decreasing_by omega
theorem hexN_small {u : Nat} (h : u < 16) : hexN u = 1 := by rw [hexN, dif_pos h]
theorem hexN_big {u : Nat} (h : ¬ u < 16) : hexN u = hexN (u / 16) + 1 := by rw [hexN, dif_neg h]
theorem hexN_le (k : Nat) : ∀ u, u < 16 ^ (k + 1) → hexN u ≤ k + 1 := by
  induction k with
  | zero => intro u h; rw [hexN_small (by omega)]; exact Nat.le_refl _
  | succ k ih =>
    intro u h
    by_cases h16 : u < 16
    · rw [hexN_small h16]; omega
    · rw [hexN_big h16]
      have := ih (u / 16) (by rw [Nat.pow_succ] at h; omega)
      omega
set_option maxRecDepth 100000 in
set_option maxHeartbeats 8000000 in
theorem bits16_calls (u : Nat) (hu : u < 18446744073709551616) (w : World) (hT : w.cell? ⟨5, 15, none⟩ = some (.int .u8 4)) :
    Calls Tryz.prog 69 #[.slice none 0 0, .int .u64 (u : Int), .int .i64 16, .bool false, .bool false] w fun e w' => e = .returned (.tuple #[.slice none 0 0, .string (str (hexL u (hexN u)))]) ∧ Below w.heap.size w w' := by
  have hal := (Below.refl w.heap.size w).alloc (Nat.le_refl _) (.cells Tryz.zeroCells145 145)
  have HT := Lib.hid (tz_calls _ (cell_below hT hal))
  have hD0 : Dg (w.alloc (.cells Tryz.zeroCells145 145)) w.heap.size [] := ⟨_, Blk.new w 145 Tryz.zeroCells145, by kernel_rfl, by simp, fun j x hx => by simp at hx⟩
  have HD0 := Lib.hid hD0
  have HB0 := Lib.hid hal
  have HU := Lib.hid hu
  clear hal hT hD0 hu
  go_enter Tryz.func69, Tryz.ntmps69
  go_upto_region 7 with fail
  generalize w.alloc (.cells Tryz.zeroCells145 145) = w1 at *
  go_wp2_with (first | (go_at_call 110; refine (pow2_calls _).mono ?_; rintro e w2 ⟨rfl, rfl⟩) | (go_at_call 111; refine HT.out.mono ?_; rintro e w2 ⟨rfl, rfl⟩))
  obtain ⟨g, hg⟩ : ∃ g, w.heap.size = g := ⟨_, rfl⟩
  have HG := Lib.hid hg
  rw [hg] at HD0
  rw [hg]
  clear hg
  go_loopw [1, 13] (fun vu vi wr => ∃ (L : List UInt8) (v n : Nat) (a : Int), vu = .int .u64 a ∧ vi = .int .i64 (n : Int) ∧ Dg wr g L ∧ Below w.heap.size w wr ∧ Hid (a = (v : Int) ∧ v < 18446744073709551616 ∧ n + L.length = 65 ∧ L.length + hexN v ≤ 16 ∧ hexL u (hexN u) = hexL v (hexN v) ++ L)) (fun vu _ _ => (RowKit.intOf vu).toNat)
  case atStart => exact ⟨[], u, 65, u, rfl, rfl, HD0.out, HB0.out, rfl, HU.out, rfl, by have := hexN_le 15 u HU.out; simpa using this, by simp⟩
  case round =>
    obtain ⟨L, v, n, a, rfl, rfl, hD, hB, hh⟩ := hrel
    have HD := Lib.hid hD
    have HB := Lib.hid hB
    obtain ⟨ha, hv, hn, hL, hE⟩ := hh.out
    obtain ⟨k, rfl⟩ : ∃ k, n = k + 1 := ⟨n - 1, by omega⟩
    have hk : k = 64 - L.length := by omega
    obtain ⟨val, hval⟩ := hD.cell k (by omega)
    have hfr := hD.frozen k
    have hk1 : (k : Int) < 65 := by omega
    by_cases h16 : 16 ≤ v
    · have ha16 : 16 ≤ a := by omega
      have ha64 : a < 18446744073709551616 := by omega
      obtain ⟨m, hm⟩ : ∃ m, v % 16 = m := ⟨_, rfl⟩
      have hm16 : m < 16 := by omega
      have hand : bits .and .u64 a 15 = (m : Int) := by rw [ha, and15 v hv, hm]
      have hmI : (m : Int) < 16 := by omega
      have HNx : Hid (a / 16 = ((v / 16 : Nat) : Int) ∧ v / 16 < 18446744073709551616 ∧ k + (hx m :: L).length = 65 ∧ (hx m :: L).length + hexN (v / 16) ≤ 16 ∧ hexL u (hexN u) = hexL (v / 16) (hexN (v / 16)) ++ (hx m :: L)) := Lib.hid ⟨by omega, by omega, by rw [List.length_cons]; omega, by rw [List.length_cons]; rw [hexN_big (by omega)] at hL; omega, by rw [hE, hexN_big (show ¬ v < 16 by omega), hexL, hm, List.append_assoc]; rfl⟩
      have HP := Lib.hid (hD.put (hx m) (by omega))
      rw [← hk] at HP
      clear hh ha hv hn hL hE hD hB h16 hm hk
      go_wp2_with fail
      go_roundw
      case rel => exact ⟨hx m :: L, v / 16, k, a / 16, by rfl, by go_num, Eq.mpr (congrArg (fun z : Nat => Dg (wr.setCell ⟨g, k, none⟩ (.int .u8 (z : Int))) g (hx m :: L)) (hexAt m hm16 (by show m < 36; omega))) HP.out, HB.out.setCell (p := ⟨g, k, none⟩) (by rw [HG.out]; exact Nat.le_refl _) _, HNx⟩
      case measure => simp [RowKit.intOf]; omega
    · have hv16 : v < 16 := by omega
      have e1 : hexN v = 1 := hexN_small hv16
      have e2 : hexL v 1 = [hx v] := by rw [hexL, hexL, Nat.mod_eq_of_lt hv16]; rfl
      have ha16 : a < 16 := by omega
      have ha0 : 0 ≤ a := by omega
      have haN : a.toNat = v := by omega
      have HRes : Hid (hexL u (hexN u) = hx v :: L) := Lib.hid (by rw [hE, e1, e2]; rfl)
      have hDp := hD.put (hx v) (by omega)
      rw [← hk] at hDp
      have hsz : 65 - k = (hx v :: L).length := by rw [List.length_cons]; omega
      have hsl1 := fun W => slice65 g k (by omega) W
      have hcv : (convert 76 9 (.slice (some ⟨g, k, none⟩) (65 - k) (65 - k))).run Tryz.prog (wr.setCell ⟨g, k, none⟩ (.int .u8 ((hx v).toNat : Int))) = .ok (.string (str (hx v :: L))) (wr.setCell ⟨g, k, none⟩ (.int .u8 ((hx v).toNat : Int))) := by
        rw [hsz]
        exact run_convert_bytes_back (P := Tryz.prog) _ 76 9 5 ⟨g, k, none⟩ _ (hx v :: L) Tryz.underlying76 Tryz.underlying5 Tryz.underlying9 (fun j hj => by
          have := hDp.digit j _ (List.getElem?_eq_getElem hj)
          rw [show 65 - (hx v :: L).length = k by omega] at this
          rw [Lib.add_plain]
          exact this)
      have hcv' := Eq.mpr (congrArg (fun z : Nat => (convert 76 9 (.slice (some ⟨g, k, none⟩) (65 - k) (65 - k))).run Tryz.prog (wr.setCell ⟨g, k, none⟩ (.int .u8 (z : Int))) = .ok (.string (str (hx v :: L))) (wr.setCell ⟨g, k, none⟩ (.int .u8 (z : Int)))) (hexAt v hv16 (by show v < 36; omega))) hcv
      rw [HRes.out]
      have hka : ¬ 16 ≤ a := by omega
      clear hh ha hn hL hE hD hB hk e1 e2 hDp hsz hcv
      go_wp2_with fail
      go_ret2
      exact ⟨by rw [HRes.out]; rfl, HB.out.setCell (p := ⟨g, k, none⟩) (by rw [HG.out]; exact Nat.le_refl _) _⟩
set_option maxRecDepth 20000 in
theorem fmt16_in (u : Nat) (hu : u < 18446744073709551616) (w : World) (hT : w.cell? ⟨5, 15, none⟩ = some (.int .u8 4)) :
    Calls Tryz.prog 37 #[.int .u64 (u : Int), .int .i64 16] w fun e w' => e = .returned (.string (str (hexL u (hexN u)))) ∧ Below w.heap.size w w' := by
  have HF := Lib.hid (bits16_calls u hu w hT)
  clear hT
  go_enter Tryz.func37, Tryz.ntmps37
  go_wp2_with fail
  refine HF.out.mono ?_
  rintro e w1 ⟨rfl, hb⟩
  have HB := Lib.hid hb
  clear hb
  go_wp2_with fail
  go_ret
  exact ⟨rfl, HB.out⟩
set_option maxRecDepth 20000 in
theorem fmt16_calls (u : Nat) (hu : u < 18446744073709551616) (w : World) (hT : w.cell? ⟨5, 15, none⟩ = some (.int .u8 4)) :
    Calls Tryz.prog 15 #[.int .u64 (u : Int), .int .i64 16] w fun e w' => e = .returned (.string (str (hexL u (hexN u)))) ∧ Below w.heap.size w w' := by
  have HF := Lib.hid (fmt16_in u hu w hT)
  clear hT
  go_enter Tryz.func15, Tryz.ntmps15
  go_wp2_with fail
  refine HF.out.mono ?_
  rintro e w1 ⟨rfl, hb⟩
  have HB := Lib.hid hb
  clear hb
  go_wp2_with fail
  go_ret
  exact ⟨rfl, HB.out⟩
/-- Noughts ahead: sixteen digits. -/
theorem hex_pad (n : Nat) : ∀ u, hexN u ≤ n → List.replicate (n - hexN u) 48 ++ hexL u (hexN u) = hexL u n := by
  induction n with
  | zero =>
    intro u h
    have : 1 ≤ hexN u := by by_cases h16 : u < 16 <;> simp [hexN_small, hexN_big, h16]
    omega
  | succ n ih =>
    intro u h
    by_cases h16 : u < 16
    · rw [hexN_small h16]
      have e0 : ∀ j, hexL 0 j = List.replicate j 48 := by
        intro j
        induction j with
        | zero => rfl
        | succ j ihj => rw [hexL, Nat.zero_div, ihj, List.replicate_succ']; rfl
      rw [hexL, hexL, hexL, Nat.div_eq_of_lt h16, e0, Nat.add_sub_cancel]
      rfl
    · rw [hexN_big h16] at h ⊢
      rw [hexL, hexL, Nat.add_sub_add_right, ← List.append_assoc, ih (u / 16) (by omega)]
/-- Sixteen hexadecimal digits. -/
def hexT (u : Nat) : List UInt8 := hexL u 16
set_option maxRecDepth 20000 in
theorem hexw_calls (u f : Nat) (hu : u < 18446744073709551616) (w : World) (hT : w.cell? ⟨5, 15, none⟩ = some (.int .u8 4))
    (hF : ∀ W, Calls Tryz.prog 73 #[.float .f64 f] W fun e w' => e = .returned (.int .u64 (u : Int)) ∧ w' = W) :
    Calls Tryz.prog 40 #[.float .f64 f] w fun e w' => e = .returned (.string (str (hexT u))) ∧ Below w.heap.size w w' := by
  have HB0 := Lib.hid hF
  have HF := Lib.hid (fmt16_calls u hu w hT)
  have hN := hexN_le 15 u hu
  have hlen := hexL_length u (hexN u)
  have HP := Lib.hid (hex_pad 16 u hN)
  obtain ⟨c, hc⟩ : ∃ c, 16 - hexN u = c := ⟨_, rfl⟩
  have hcI : (16 : Int) - (hexN u : Int) = (c : Int) := by omega
  have HR := Lib.hid (fun W => Tryz.strings_Repeat (str [48]) c W (by omega) (by simp [ByteArray.size]; omega))
  have hadd := fun W => Vw.add_run (List.replicate c 48) (hexL u (hexN u)) (by rw [List.length_replicate, hlen]; omega) W
  rw [hc] at HP
  unfold hexT
  rw [← HP.out]
  clear hT hF hc
  go_enter Tryz.func40, Tryz.ntmps40
  go_wp2_with fail
  refine (HB0.out _).mono ?_
  rintro e w0 ⟨rfl, rfl⟩
  go_wp2_with fail
  refine HF.out.mono ?_
  rintro e w1 ⟨rfl, hb⟩
  have HB := Lib.hid hb
  clear hb
  go_wp2_with fail
  refine (HR.out w1).mono ?_
  rintro e w2 ⟨rfl, hb2⟩
  have HB2 := Lib.hid (HB.out.trans (hb2.mono HB.out.size))
  clear hb2
  rw [show Lib.repeatL (str [48]).data.toList c = List.replicate c 48 from Vw.repeat0 c]
  go_wp2_with fail
  go_ret
  exact ⟨rfl, HB2.out⟩
end Go.Proofs.YtkcjgmicoifhcaaGreatDoor.Cn
