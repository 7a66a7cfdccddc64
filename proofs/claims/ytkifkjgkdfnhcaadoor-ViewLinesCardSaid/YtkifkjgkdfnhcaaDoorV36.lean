/- The law ViewLines. (Printed by gen_v36.py.) -/
import Derived.Test.YtkifkjgkdfnhcaaDoorV15
import Derived.Test.YtkifkjgkdfnhcaaDoorV26
import Derived.Test.YtkifkjgkdfnhcaaDoorV27
import Derived.Test.YtkifkjgkdfnhcaaDoorV34
import Derived.Test.YtkifkjgkdfnhcaaDoorV35
namespace Go.Proofs.YtkifkjgkdfnhcaaDoor.Vw
open Go.RowKit Go.Sort Go.Lib Go.Shelf
attribute [local go_sem ↓] Go.wp_at_zero Go.wp_at_succ

theorem iw {x : Int} (h : 0 ≤ x) (h2 : x < 9223372036854775808) : IntKind.i64.wrap x = x := by
  rw [IntKind.wrap_i64]
  omega
/-- A row of the call's own, of single cells. -/
theorem sl_flat {w : World} {base : Nat} {e : TypeId} {v : Value} {n : Nat} {xs : List Value} (hn : n = xs.length) (h0 : 0 < n) (h : w.ownsRow base e 1 v n xs) : ∃ b off c, v = .slice (some ⟨b, off, none⟩) n c ∧ b < w.heap.size ∧ n ≤ c ∧ ∀ (i : Nat) (x : Value), xs[i]? = some x → w.cell? ⟨b, off + i, none⟩ = some x := by
  have hf : (xs.map fun x => (#[x] : Array Value)).flatMap Array.toList = xs := by
    clear h hn
    induction xs with
    | nil => rfl
    | cons x r ih => rw [List.map_cons, List.flatMap_cons, ih]; rfl
  obtain ⟨p, c, rfl, hs, _⟩ := sl_own (sz := 1) (n := n) (rows := xs.map fun x => (#[x] : Array Value)) (by rw [List.length_map, hn]) (by decide) (fun r hr => by
    obtain ⟨l, _, rfl⟩ := List.mem_map.1 hr
    rfl) (by rw [hf]; exact h)
  obtain ⟨b, off, rfl, hb, hc⟩ := hs.at (i := 0) (by rw [List.length_map, ← hn]; exact h0)
  refine ⟨b, off, c, by rw [List.length_map, hn], hb, by have := hs.cap; rw [List.length_map, ← hn] at this; exact this, fun i x hx => ?_⟩
  have := hc i #[x] (by rw [List.getElem?_map, hx]; rfl) 0 (by decide)
  simpa using this
theorem sl_one (w : World) (l : Ln) : Sl (w.alloc (.cells l.cells 23)) (some ⟨w.heap.size, 0, none⟩) 13 ([l].map Ln.cells) 1 := by
  refine ⟨Nat.le_refl _, .inr ⟨w.heap.size, 0, rfl, (Blk.new w 23 l.cells).lt, fun i r hr j _ => ?_⟩⟩
  rcases i with _ | i
  · obtain rfl : l.cells = r := Option.some.inj hr
    rw [Nat.zero_mul, Nat.zero_add]
    exact (Blk.new w 23 l.cells).cell j
  · simp at hr
/-- The lines' row in a world. -/
structure Lines (W : World) (s : St) (b off : Nat) : Prop where
  loan : ∀ (k : Nat) (l : Ln), s.loans[k]? = some l → W.cell? ⟨b, off + (k + 1), none⟩ = some (.string (str (loanL l)))
  bill : ∀ (k : Nat) (x : Bl), s.bills[k]? = some x → W.cell? ⟨b, off + (s.loans.length + k + 1), none⟩ = some (.string (str (billL x.month x.amount x.left x.covered)))
theorem Lines.below {W W1 : World} {s : St} {b off : Nat} (h : Lines W s b off) (hlt : b < W.heap.size) (hB : Below W.heap.size W W1) : Lines W1 s b off :=
  ⟨fun k l hl => (hB.cell (show b < _ from hlt)).trans (h.loan k l hl), fun k x hx => (hB.cell (show b < _ from hlt)).trans (h.bill k x hx)⟩
theorem lines_of {W : World} {s s' : St} {b off : Nat} {last : Value} (hs : SameSt s s') (hc : ∀ (i : Nat) (x : Value), (dayV s' :: (s'.loans.map lineV ++ (s'.bills.map blineV ++ [last])))[i]? = some x → W.cell? ⟨b, off + i, none⟩ = some x) : Lines W s b off := by
  constructor
  · intro k l hl
    have hlt : k < s.loans.length := (List.getElem?_eq_some_iff.1 hl).1
    refine hc (k + 1) _ ?_
    rw [List.getElem?_cons_succ, List.getElem?_append_left (by rw [List.length_map, hs.loans]; exact hlt), List.getElem?_map, hs.loans, hl]
    rfl
  · intro k x hx
    have hlt : k < s.bills.length := (List.getElem?_eq_some_iff.1 hx).1
    have hlt' : k < s'.bills.length := by rw [hs.nb]; exact hlt
    have hy : s'.bills[k]? = some s'.bills[k] := List.getElem?_eq_getElem hlt'
    obtain ⟨e1, e2, e3, e4, _, _⟩ := hs.bills k x _ hx hy
    rw [e1, e2, e3, e4]
    refine hc (s.loans.length + k + 1) _ ?_
    rw [List.getElem?_cons_succ, List.getElem?_append_right (by rw [List.length_map, hs.loans]; omega), List.length_map, hs.loans, show s.loans.length + k - s.loans.length = k by omega, List.getElem?_append_left (by rw [List.length_map]; exact hlt'), List.getElem?_map, hy]
    rfl
theorem same_ok {s s' : St} (hs : SameSt s s') (hl : ∀ l ∈ s.loans, OkLn l) (hb : ∀ x ∈ s.bills, OkBl x) (h1 : s.loans.length ≤ 1000) (h2 : s.bills.length ≤ 1000) (ha : -9223372036854775808 ≤ s.ahead ∧ s.ahead ≤ 9223372036854775807) : OkSt s' := by
  refine ⟨by rw [hs.loans]; exact hl, fun y hy => ?_, by rw [hs.loans]; exact h1, by rw [hs.nb]; exact h2, by rw [hs.ahead]; exact ha⟩
  obtain ⟨i, hi, rfl⟩ := List.mem_iff_getElem.1 hy
  have hlt : i < s.bills.length := by rw [← hs.nb]; exact hi
  have hx : s.bills[i]? = some s.bills[i] := List.getElem?_eq_getElem hlt
  obtain ⟨e1, e2, e3, _, _, _⟩ := hs.bills i _ _ hx (List.getElem?_eq_getElem hi)
  have := hb _ (List.mem_of_getElem? hx)
  exact ⟨by rw [← e1]; exact this.month, by rw [← e2]; exact this.amount, by rw [← e3]; exact this.left⟩
set_option maxRecDepth 20000 in
set_option maxHeartbeats 16000000 in
theorem lines_walk (s : St) (ol : ∀ l ∈ s.loans, OkLn l) (w : World) (ob : ∀ x ∈ s.bills, OkBl x ∧ InBl w x) (oa : -9223372036854775808 ≤ s.ahead ∧ s.ahead ≤ 9223372036854775807) (hS : StIn w s) (htab : Tab w) :
    Calls Tryd.prog 5 #[s.v] w fun e w' => e = .returned (.bool true) ∧ Below w.heap.size w w' := by
  have hal := (Below.refl w.heap.size w).alloc (Nat.le_refl _) (.cells s.cells 41)
  have HX0 := Lib.hid (Blk.new w 41 s.cells)
  have HS0 := Lib.hid (hS.below hal)
  have HT0 := Lib.hid (htab.below hal)
  have HI0 := Lib.hid (fun x (hx : x ∈ s.bills) => (ob x hx).2.below hal)
  have HOb := Lib.hid (fun x (hx : x ∈ s.bills) => (ob x hx).1)
  have HOl := Lib.hid ol
  have HOa := Lib.hid oa
  have HB0 := Lib.hid hal
  clear hal hS htab ob ol oa
  go_enter Tryd.func5, Tryd.ntmps5
  go_upto_region 1 with fail
  generalize w.alloc (.cells s.cells 41) = w1 at *
  obtain ⟨g, hg⟩ : ∃ g, w.heap.size = g := ⟨_, rfl⟩
  have HG := Lib.hid hg
  rw [hg] at HX0
  rw [hg]
  clear hg
  have m0 : w1.cell? ⟨g, 0, none⟩ = some (.int .i64 s.day) := HX0.out.cell 0
  have m1 : w1.cell? ⟨g, 1, none⟩ = some (.slice s.lp s.loans.length s.lc) := HX0.out.cell 1
  have m2 : w1.cell? ⟨g, 2, none⟩ = some (.int .i64 s.plan) := HX0.out.cell 2
  have m3 : w1.cell? ⟨g, 3, none⟩ = some (.int .i64 s.since) := HX0.out.cell 3
  have m4 : w1.cell? ⟨g, 4, none⟩ = some (.int .i64 s.income) := HX0.out.cell 4
  have m5 : w1.cell? ⟨g, 5, none⟩ = some (.int .i64 s.family) := HX0.out.cell 5
  have m6 : w1.cell? ⟨g, 6, none⟩ = some (.slice s.bp s.bills.length s.bc) := HX0.out.cell 6
  have m7 : w1.cell? ⟨g, 7, none⟩ = some (.int .i64 s.ahead) := HX0.out.cell 7
  have m8 : w1.cell? ⟨g, 8, none⟩ = some (.int .i64 s.p0) := HX0.out.cell 8
  have m9 : w1.cell? ⟨g, 9, none⟩ = some (.int .i64 s.p1) := HX0.out.cell 9
  have m10 : w1.cell? ⟨g, 10, none⟩ = some (.int .i64 s.p2) := HX0.out.cell 10
  have m11 : w1.cell? ⟨g, 11, none⟩ = some (.int .i64 s.p3) := HX0.out.cell 11
  have m12 : w1.cell? ⟨g, 12, none⟩ = some (.int .i64 s.written) := HX0.out.cell 12
  have HLa := Lib.hid (large_calls s w1 HS0.out)
  go_wp2_with fail
  refine HLa.out.mono ?_
  rintro e w2 ⟨⟨bl, rfl, hsm⟩, hb2⟩
  have HX2 := Lib.hid (HX0.out.below hb2)
  have HS2 := Lib.hid (HS0.out.below hb2)
  have HT2 := Lib.hid (HT0.out.below hb2)
  have HI2 := Lib.hid (fun x (hx : x ∈ s.bills) => (HI0.out x hx).below hb2)
  have HB2 := Lib.hid (HB0.out.trans (hb2.mono HB0.out.size))
  clear hb2 m0 m1 m2 m3 m4 m5 m6 m7 m8 m9 m10 m11 m12
  cases bl with
  | true =>
    clear hsm
    have HWk := Lib.hid (wakes_calls w2 HT2.out)
    go_wp2_with fail
    refine HWk.out.mono ?_
    rintro e w3 ⟨rfl, hb3⟩
    have HB3 := Lib.hid (HB2.out.trans (hb3.mono HB2.out.size))
    clear hb3
    go_wp2_with fail
    go_ret
    exact ⟨rfl, HB3.out⟩
  | false =>
    have HSm := Lib.hid (hsm rfl)
    clear hsm
    have HLn : Hid (s.loans.length ≤ 1000 ∧ s.bills.length ≤ 1000) := Lib.hid ⟨by have := HSm.out.1; omega, by have := HSm.out.2.1; omega⟩
    have HCp := Lib.hid (fun W (hB : Below w2.heap.size w2 W) => copystate_calls s HLn.out.1 HLn.out.2 W (HS2.out.below hB) (fun x hx => ⟨(HI2.out x hx).below hB, by have := HSm.out.2.2 x hx; omega⟩))
    have m0 : w2.cell? ⟨g, 0, none⟩ = some (.int .i64 s.day) := HX2.out.cell 0
    have m1 : w2.cell? ⟨g, 1, none⟩ = some (.slice s.lp s.loans.length s.lc) := HX2.out.cell 1
    have m2 : w2.cell? ⟨g, 2, none⟩ = some (.int .i64 s.plan) := HX2.out.cell 2
    have m3 : w2.cell? ⟨g, 3, none⟩ = some (.int .i64 s.since) := HX2.out.cell 3
    have m4 : w2.cell? ⟨g, 4, none⟩ = some (.int .i64 s.income) := HX2.out.cell 4
    have m5 : w2.cell? ⟨g, 5, none⟩ = some (.int .i64 s.family) := HX2.out.cell 5
    have m6 : w2.cell? ⟨g, 6, none⟩ = some (.slice s.bp s.bills.length s.bc) := HX2.out.cell 6
    have m7 : w2.cell? ⟨g, 7, none⟩ = some (.int .i64 s.ahead) := HX2.out.cell 7
    have m8 : w2.cell? ⟨g, 8, none⟩ = some (.int .i64 s.p0) := HX2.out.cell 8
    have m9 : w2.cell? ⟨g, 9, none⟩ = some (.int .i64 s.p1) := HX2.out.cell 9
    have m10 : w2.cell? ⟨g, 10, none⟩ = some (.int .i64 s.p2) := HX2.out.cell 10
    have m11 : w2.cell? ⟨g, 11, none⟩ = some (.int .i64 s.p3) := HX2.out.cell 11
    have m12 : w2.cell? ⟨g, 12, none⟩ = some (.int .i64 s.written) := HX2.out.cell 12
    go_wp2_with fail
    refine (HCp.out w2 (Below.refl _ _)).mono ?_
    rintro e w3 ⟨⟨s', rfl, hsame, hin⟩, hb3⟩
    have HSt := Lib.hid (state_calls s' (same_ok hsame HOl.out HOb.out HLn.out.1 HLn.out.2 HOa.out) w3 hin (HT2.out.below hb3))
    have HSame := Lib.hid hsame
    have HB3 := Lib.hid hb3
    clear hsame hin hb3 m0 m1 m2 m3 m4 m5 m6 m7 m8 m9 m10 m11 m12
    go_wp2_with fail
    refine HSt.out.mono ?_
    rintro e w4 ⟨⟨v, last, rfl, hown⟩, hb4⟩
    obtain ⟨b, off, c, rfl, hblt, hcap, hcells⟩ := sl_flat (by simp; omega) (by omega) hown
    have HLi := Lib.hid (lines_of HSame.out hcells)
    have HBl := Lib.hid hblt
    have hnn : 2 + s'.loans.length + s'.bills.length = 2 + s.loans.length + s.bills.length := by rw [HSame.out.loans, HSame.out.nb]
    rw [hnn]
    have hB24 := HB3.out.trans (hb4.mono HB3.out.size)
    have HX4 := Lib.hid (HX2.out.below hB24)
    have HS4 := Lib.hid (HS2.out.below hB24)
    have HT4 := Lib.hid (HT2.out.below hB24)
    have HI4 := Lib.hid (fun x (hx : x ∈ s.bills) => (HI2.out x hx).below hB24)
    have HB4 := Lib.hid (HB2.out.trans (hB24.mono HB2.out.size))
    have HP := Lib.hid (fun W (hB : Below w4.heap.size w4 W) => And.intro (HX4.out.below hB) (And.intro (HS4.out.below hB) (And.intro (HT4.out.below hB) (HLi.out.below HBl.out hB))))
    have HCp4 := Lib.hid (fun W (hB : Below w4.heap.size w4 W) => HCp.out W (hB24.trans (hB.mono hB24.size)))
    have hn1 : ((s.loans.length : Nat) : Int) ≤ 1000 := by have := HLn.out.1; omega
    have hn2 : ((s.bills.length : Nat) : Int) ≤ 1000 := by have := HLn.out.2; omega
    have hne : decide (((2 + s.loans.length + s.bills.length : Nat) : Int) = 2 + (s.loans.length : Int) + (s.bills.length : Int)) = true := decide_eq_true (by omega)
    clear hown hb4 hcells hblt hB24 hnn hcap
    have x1 : w4.cell? ⟨g, 1, none⟩ = some (.slice s.lp s.loans.length s.lc) := HX4.out.cell 1
    have x6 : w4.cell? ⟨g, 6, none⟩ = some (.slice s.bp s.bills.length s.bc) := HX4.out.cell 6
    go_upto_region 7 with fail
    clear hne x1 x6
    obtain ⟨nn, hnn'⟩ : ∃ nn : Nat, 2 + s.loans.length + s.bills.length = nn := ⟨_, rfl⟩
    rw [hnn']
    have HN := Lib.hid hnn'
    clear hnn'
    go_loopw [4] (fun i wr => ∃ k : Nat, k ≤ s.loans.length ∧ i = .int .i64 (k : Int) ∧ Below w4.heap.size w4 wr) (fun i _ => s.loans.length - (RowKit.intOf i).toNat)
    case atStart => exact ⟨0, Nat.zero_le _, rfl, Below.refl _ _⟩
    case round =>
      obtain ⟨k, hk, rfl, hB⟩ := hrel
      have HB := Lib.hid hB
      obtain ⟨px, ps, pt, pl⟩ := HP.out wr hB
      have HX := Lib.hid px
      have HT := Lib.hid pt
      have x1 : wr.cell? ⟨g, 1, none⟩ = some (.slice s.lp s.loans.length s.lc) := px.cell 1
      have x6 : wr.cell? ⟨g, 6, none⟩ = some (.slice s.bp s.bills.length s.bc) := px.cell 6
      clear px pt
      by_cases h2 : k < s.loans.length
      · obtain ⟨l, hl⟩ : ∃ l, s.loans[k]? = some l := ⟨s.loans[k], by rw [List.getElem?_eq_getElem h2]⟩
        obtain ⟨bb, of_, hp, hb, hc⟩ := (ps.loans).at (i := k) (by simpa using h2)
        have hcell : ∀ W, Below wr.heap.size wr W → ∀ j, j < 13 → W.cell? ⟨bb, of_ + k * 13 + j, none⟩ = l.cells[j]? := fun W hW j hj => (hW.cell (show bb < _ from hb)).trans (hc k l.cells (by rw [List.getElem?_map, hl]; rfl) j hj)
        obtain ⟨A, hA⟩ : ∃ A, str (loanL l) = A := ⟨_, rfl⟩
        have hr := pl.loan k l hl
        rw [hA] at hr
        have hrb : b < wr.heap.size := Nat.lt_of_lt_of_le HBl.out hB.size
        have HKE : Hid (∀ W : World, Below wr.heap.size wr W → (W.cell? ⟨g, 1, none⟩ = some (.slice (some ⟨bb, of_, none⟩) s.loans.length s.lc) ∧ W.cell? ⟨b, off + (1 + (k : Int)).toNat, none⟩ = some (.string A) ∧ W.cell? ⟨bb, of_ + k * 13, none⟩ = some (.int .i64 l.id) ∧ W.cell? ⟨bb, of_ + k * 13 + 1, none⟩ = some (.int .i64 l.principal) ∧ W.cell? ⟨bb, of_ + k * 13 + 2, none⟩ = some (.int .i64 l.interest) ∧ W.cell? ⟨bb, of_ + k * 13 + 3, none⟩ = some (.int .i64 l.subsidy) ∧ W.cell? ⟨bb, of_ + k * 13 + 4, none⟩ = some (.int .i64 l.fees) ∧ W.cell? ⟨bb, of_ + k * 13 + 5, none⟩ = some (.int .i64 l.ppm) ∧ W.cell? ⟨bb, of_ + k * 13 + 6, none⟩ = some (.bool l.sub) ∧ W.cell? ⟨bb, of_ + k * 13 + 7, none⟩ = some (.int .i64 l.status) ∧ W.cell? ⟨bb, of_ + k * 13 + 8, none⟩ = some (.int .i64 l.closed) ∧ W.cell? ⟨bb, of_ + k * 13 + 9, none⟩ = some (.int .i64 l.entered) ∧ W.cell? ⟨bb, of_ + k * 13 + 10, none⟩ = some (.int .i64 l.level) ∧ W.cell? ⟨bb, of_ + k * 13 + 11, none⟩ = some (.int .i64 l.far) ∧ W.cell? ⟨bb, of_ + k * 13 + 12, none⟩ = some (.int .i64 l.count))) := Lib.hid (fun W hW => by
          have q := HX.out.below hW
          rw [← hp, show (1 + (k : Int)).toNat = k + 1 by omega]
          exact ⟨q.cell 1, (hW.cell (show b < _ from hrb)).trans hr, hcell W hW 0 (by decide), hcell W hW 1 (by decide), hcell W hW 2 (by decide), hcell W hW 3 (by decide), hcell W hW 4 (by decide), hcell W hW 5 (by decide), hcell W hW 6 (by decide), hcell W hW 7 (by decide), hcell W hW 8 (by decide), hcell W hW 9 (by decide), hcell W hW 10 (by decide), hcell W hW 11 (by decide), hcell W hW 12 (by decide)⟩)
        have HLo : Hid (∀ W, Below wr.heap.size wr W → Calls Tryd.prog 10 #[l.v] W fun e w' => e = .returned (.string A) ∧ Below W.heap.size W w') := Lib.hid (fun W hB => by rw [← hA]; exact vloan_calls l (HOl.out l (List.mem_of_getElem? hl)) W (HT.out.below hB))
        have hk0 : (0 : Int) ≤ (k : Int) := by omega
        have hk1 : (k : Int) < (s.loans.length : Int) := by omega
        have hw2 : IntKind.i64.wrap (1 + (k : Int)) = 1 + (k : Int) := iw (by omega) (by omega)
        have hk2 : (0 : Int) ≤ 1 + (k : Int) := by omega
        have hk3 : 1 + (k : Int) < (nn : Int) := by have := HN.out; omega
        obtain ⟨y1, yr, a0, a1, a2, a3, a4, a5, a6, a7, a8, a9, a10, a11, a12⟩ := HKE.out wr (Below.refl _ _)
        clear hcell hl hc hb hr hrb hB ps pl hA
        rw [hp] at x1
        clear hp y1
        go_upto_region 9 with fail
        have e0 := (Below.refl wr.heap.size wr).drew
        go_cut [47] from 36 to 46 (fun v W => v = .bool false ∧ Below w4.heap.size w4 W)
        case first =>
          go_region_held3 (fun w' => w'.cell? ⟨g, 1, none⟩ = some (.slice (some ⟨bb, of_, none⟩) s.loans.length s.lc) ∧ w'.cell? ⟨b, off + (1 + (k : Int)).toNat, none⟩ = some (.string A) ∧ w'.cell? ⟨bb, of_ + k * 13, none⟩ = some (.int .i64 l.id) ∧ w'.cell? ⟨bb, of_ + k * 13 + 1, none⟩ = some (.int .i64 l.principal) ∧ w'.cell? ⟨bb, of_ + k * 13 + 2, none⟩ = some (.int .i64 l.interest) ∧ w'.cell? ⟨bb, of_ + k * 13 + 3, none⟩ = some (.int .i64 l.subsidy) ∧ w'.cell? ⟨bb, of_ + k * 13 + 4, none⟩ = some (.int .i64 l.fees) ∧ w'.cell? ⟨bb, of_ + k * 13 + 5, none⟩ = some (.int .i64 l.ppm) ∧ w'.cell? ⟨bb, of_ + k * 13 + 6, none⟩ = some (.bool l.sub) ∧ w'.cell? ⟨bb, of_ + k * 13 + 7, none⟩ = some (.int .i64 l.status) ∧ w'.cell? ⟨bb, of_ + k * 13 + 8, none⟩ = some (.int .i64 l.closed) ∧ w'.cell? ⟨bb, of_ + k * 13 + 9, none⟩ = some (.int .i64 l.entered) ∧ w'.cell? ⟨bb, of_ + k * 13 + 10, none⟩ = some (.int .i64 l.level) ∧ w'.cell? ⟨bb, of_ + k * 13 + 11, none⟩ = some (.int .i64 l.far) ∧ w'.cell? ⟨bb, of_ + k * 13 + 12, none⟩ = some (.int .i64 l.count)) (first | exact HKE.out _ (by assumption) | go_keep) (first | (go_at_call 10; (with_reducible refine (HLo.out wr.drew e0).mono ?_); rintro r p1 ⟨rfl, b1⟩; have e1 : Below wr.heap.size wr p1 := e0.trans (b1.mono e0.size)))
          go_wp2_with fail
          go_meet
          case rel => exact ⟨rfl, HB.out.trans (e1.mono HB.out.size)⟩
        case rest =>
          obtain ⟨rfl, hB'⟩ := hcut
          have HB' := Lib.hid hB'
          clear hB'
          go_wp2_with fail
          go_roundw
          case rel => exact ⟨k + 1, by omega, by go_num, HB'.out⟩
          case measure => simp [RowKit.intOf]; omega
      · clear ps pl hB
        go_wp2_with fail
        clear x1 x6 h2 hk
        go_loopw [5] (fun i wr => ∃ k : Nat, k ≤ s.bills.length ∧ i = .int .i64 (k : Int) ∧ Below w4.heap.size w4 wr) (fun i _ => s.bills.length - (RowKit.intOf i).toNat)
        case atStart => exact ⟨0, Nat.zero_le _, rfl, HB.out⟩
        case round =>
          obtain ⟨k, hk, rfl, hB⟩ := hrel
          have HB := Lib.hid hB
          obtain ⟨px, ps, pt, pl⟩ := HP.out wr hB
          have HX := Lib.hid px
          have HT := Lib.hid pt
          have x1 : wr.cell? ⟨g, 1, none⟩ = some (.slice s.lp s.loans.length s.lc) := px.cell 1
          have x6 : wr.cell? ⟨g, 6, none⟩ = some (.slice s.bp s.bills.length s.bc) := px.cell 6
          clear px pt
          by_cases h2 : k < s.bills.length
          · obtain ⟨l, hl⟩ : ∃ l, s.bills[k]? = some l := ⟨s.bills[k], by rw [List.getElem?_eq_getElem h2]⟩
            obtain ⟨bb, of_, hp, hb, hc⟩ := (ps.bills).at (i := k) (by simpa using h2)
            have hcell : ∀ W, Below wr.heap.size wr W → ∀ j, j < 6 → W.cell? ⟨bb, of_ + k * 6 + j, none⟩ = l.cells[j]? := fun W hW j hj => (hW.cell (show bb < _ from hb)).trans (hc k l.cells (by rw [List.getElem?_map, hl]; rfl) j hj)
            obtain ⟨A, hA⟩ : ∃ A, str (billL l.month l.amount l.left l.covered) = A := ⟨_, rfl⟩
            have hr := pl.bill k l hl
            rw [hA] at hr
            have hrb : b < wr.heap.size := Nat.lt_of_lt_of_le HBl.out hB.size
            have HKE : Hid (∀ W : World, Below wr.heap.size wr W → (W.cell? ⟨g, 1, none⟩ = some (.slice s.lp s.loans.length s.lc) ∧ W.cell? ⟨g, 6, none⟩ = some (.slice (some ⟨bb, of_, none⟩) s.bills.length s.bc) ∧ W.cell? ⟨b, off + (1 + (s.loans.length : Int) + (k : Int)).toNat, none⟩ = some (.string A) ∧ W.cell? ⟨bb, of_ + k * 6, none⟩ = some (.int .i64 l.month) ∧ W.cell? ⟨bb, of_ + k * 6 + 1, none⟩ = some (.int .i64 l.amount) ∧ W.cell? ⟨bb, of_ + k * 6 + 2, none⟩ = some (.int .i64 l.left) ∧ W.cell? ⟨bb, of_ + k * 6 + 3, none⟩ = some (.int .i64 l.covered) ∧ W.cell? ⟨bb, of_ + k * 6 + 4, none⟩ = some (.int .i64 l.plan) ∧ W.cell? ⟨bb, of_ + k * 6 + 5, none⟩ = some (.slice l.sp l.sn l.sc))) := Lib.hid (fun W hW => by
              have q := HX.out.below hW
              rw [← hp, show (1 + (s.loans.length : Int) + (k : Int)).toNat = s.loans.length + k + 1 by omega]
              exact ⟨q.cell 1, q.cell 6, (hW.cell (show b < _ from hrb)).trans hr, hcell W hW 0 (by decide), hcell W hW 1 (by decide), hcell W hW 2 (by decide), hcell W hW 3 (by decide), hcell W hW 4 (by decide), hcell W hW 5 (by decide)⟩)
            have ob := HOb.out l (List.mem_of_getElem? hl)
            have HLo : Hid (∀ W, Below wr.heap.size wr W → Calls Tryd.prog 12 #[l.v] W fun e w' => e = .returned (.string A) ∧ Below W.heap.size W w') := Lib.hid (fun W hB => by rw [← hA]; exact vbill_calls l.month l.amount l.left l.covered (.int .i64 l.plan) (.slice l.sp l.sn l.sc) ob.month ob.amount ob.left W (HT.out.below hB))
            have hk0 : (0 : Int) ≤ (k : Int) := by omega
            have hk1 : (k : Int) < (s.bills.length : Int) := by omega
            have hw1 : IntKind.i64.wrap (1 + (s.loans.length : Int)) = 1 + (s.loans.length : Int) := iw (by omega) (by omega)
            have hw2 : IntKind.i64.wrap (1 + (s.loans.length : Int) + (k : Int)) = 1 + (s.loans.length : Int) + (k : Int) := iw (by omega) (by omega)
            have hk2 : (0 : Int) ≤ 1 + (s.loans.length : Int) + (k : Int) := by omega
            have hk3 : 1 + (s.loans.length : Int) + (k : Int) < (nn : Int) := by have := HN.out; omega
            obtain ⟨y1, y6, yr, a0, a1, a2, a3, a4, a5⟩ := HKE.out wr (Below.refl _ _)
            clear hcell hl hc hb hr hrb hB ps pl hA ob
            rw [hp] at x6
            clear hp y1 y6
            go_upto_region 14 with fail
            have e0 := (Below.refl wr.heap.size wr).drew
            go_cut [70] from 55 to 69 (fun v W => v = .bool false ∧ Below w4.heap.size w4 W)
            case first =>
              go_region_held3 (fun w' => w'.cell? ⟨g, 1, none⟩ = some (.slice s.lp s.loans.length s.lc) ∧ w'.cell? ⟨g, 6, none⟩ = some (.slice (some ⟨bb, of_, none⟩) s.bills.length s.bc) ∧ w'.cell? ⟨b, off + (1 + (s.loans.length : Int) + (k : Int)).toNat, none⟩ = some (.string A) ∧ w'.cell? ⟨bb, of_ + k * 6, none⟩ = some (.int .i64 l.month) ∧ w'.cell? ⟨bb, of_ + k * 6 + 1, none⟩ = some (.int .i64 l.amount) ∧ w'.cell? ⟨bb, of_ + k * 6 + 2, none⟩ = some (.int .i64 l.left) ∧ w'.cell? ⟨bb, of_ + k * 6 + 3, none⟩ = some (.int .i64 l.covered) ∧ w'.cell? ⟨bb, of_ + k * 6 + 4, none⟩ = some (.int .i64 l.plan) ∧ w'.cell? ⟨bb, of_ + k * 6 + 5, none⟩ = some (.slice l.sp l.sn l.sc)) (first | exact HKE.out _ (by assumption) | go_keep) (first | (go_at_call 12; (with_reducible refine (HLo.out wr.drew e0).mono ?_); rintro r p1 ⟨rfl, b1⟩; have e1 : Below wr.heap.size wr p1 := e0.trans (b1.mono e0.size)))
              go_wp2_with fail
              go_meet
              case rel => exact ⟨rfl, HB.out.trans (e1.mono HB.out.size)⟩
            case rest =>
              obtain ⟨rfl, hB'⟩ := hcut
              have HB' := Lib.hid hB'
              clear hB'
              go_wp2_with fail
              go_roundw
              case rel => exact ⟨k + 1, by omega, by go_num, HB'.out⟩
              case measure => simp [RowKit.intOf]; omega
          · clear ps pl hB x1
            have m0 : wr.cell? ⟨g, 0, none⟩ = some (.int .i64 s.day) := HX.out.cell 0
            have m1 : wr.cell? ⟨g, 1, none⟩ = some (.slice s.lp s.loans.length s.lc) := HX.out.cell 1
            have m2 : wr.cell? ⟨g, 2, none⟩ = some (.int .i64 s.plan) := HX.out.cell 2
            have m3 : wr.cell? ⟨g, 3, none⟩ = some (.int .i64 s.since) := HX.out.cell 3
            have m4 : wr.cell? ⟨g, 4, none⟩ = some (.int .i64 s.income) := HX.out.cell 4
            have m5 : wr.cell? ⟨g, 5, none⟩ = some (.int .i64 s.family) := HX.out.cell 5
            have m6 : wr.cell? ⟨g, 6, none⟩ = some (.slice s.bp s.bills.length s.bc) := HX.out.cell 6
            have m7 : wr.cell? ⟨g, 7, none⟩ = some (.int .i64 s.ahead) := HX.out.cell 7
            have m8 : wr.cell? ⟨g, 8, none⟩ = some (.int .i64 s.p0) := HX.out.cell 8
            have m9 : wr.cell? ⟨g, 9, none⟩ = some (.int .i64 s.p1) := HX.out.cell 9
            have m10 : wr.cell? ⟨g, 10, none⟩ = some (.int .i64 s.p2) := HX.out.cell 10
            have m11 : wr.cell? ⟨g, 11, none⟩ = some (.int .i64 s.p3) := HX.out.cell 11
            have m12 : wr.cell? ⟨g, 12, none⟩ = some (.int .i64 s.written) := HX.out.cell 12
            have HCw := Lib.hid (HCp4.out wr HB.out)
            go_wp2_with fail
            refine HCw.out.mono ?_
            rintro e w5 ⟨⟨s2, rfl, hsame, hin⟩, hb5⟩
            have hv : vowesR s2.loans = vowesR s.loans := by rw [hsame.loans]
            obtain ⟨n, er, hR⟩ : ∃ n er, vowesR s.loans = (n, er) := ⟨_, _, rfl⟩
            rw [hR] at hv
            have HVo : Hid (Calls Tryd.prog 19 #[s2.v] w5 fun e w' => e = .returned (.tuple #[.int .i64 n, .int .i64 er]) ∧ Below w5.heap.size w5 w') := Lib.hid (by
              have := vowes_calls s2.loans (by rw [hsame.loans]; exact HOl.out) s2.lp s2.lc (.int .i64 s2.day) (.int .i64 s2.plan) (.int .i64 s2.since) (.int .i64 s2.income) (.int .i64 s2.family) (.slice s2.bp s2.bills.length s2.bc) (.int .i64 s2.ahead) (.int .i64 s2.p0) (.int .i64 s2.p1) (.int .i64 s2.p2) (.int .i64 s2.p3) (.int .i64 s2.written) w5 hin.loans (by rw [hsame.loans]; have := HLn.out.1; omega)
              rw [hv] at this
              exact this)
            have HR := Lib.hid hR
            have HB5 := Lib.hid (HB.out.trans (hb5.mono HB.out.size))
            clear hsame hin hb5 hv hR x6 h2 hk m0 m1 m2 m3 m4 m5 m6 m7 m8 m9 m10 m11 m12
            go_wp2_with fail
            refine HVo.out.mono ?_
            rintro e w6 ⟨rfl, hb6⟩
            have HB6 := Lib.hid (HB5.out.trans (hb6.mono HB5.out.size))
            clear hb6
            by_cases her : er = 0
            · subst her
              have HR0 : Hid ((vowesR s.loans).2 = 0) := Lib.hid (by rw [HR.out])
              have HR1 : Hid ((vowesR s.loans).1 = n) := Lib.hid (by rw [HR.out])
              go_upto_region 21 with fail
              go_loopw [8, 9] (fun a i wr => ∃ k : Nat, k ≤ s.loans.length ∧ i = .int .i64 (k : Int) ∧ a = .int .i64 (owed s.loans k) ∧ Below w4.heap.size w4 wr) (fun _ i _ => s.loans.length - (RowKit.intOf i).toNat)
              case atStart => exact ⟨0, Nat.zero_le _, rfl, by rw [owed_zero], HB6.out⟩
              case round =>
                obtain ⟨k, hk, rfl, rfl, hB⟩ := hrel
                have HB := Lib.hid hB
                obtain ⟨px, ps, pt, pl⟩ := HP.out wr hB
                have HX := Lib.hid px
                have HT := Lib.hid pt
                have x1 : wr.cell? ⟨g, 1, none⟩ = some (.slice s.lp s.loans.length s.lc) := px.cell 1
                clear px pt pl
                by_cases h2 : k < s.loans.length
                · obtain ⟨l, hl⟩ : ∃ l, s.loans[k]? = some l := ⟨s.loans[k], by rw [List.getElem?_eq_getElem h2]⟩
                  obtain ⟨bb, of_, hp, hb, hc⟩ := (ps.loans).at (i := k) (by simpa using h2)
                  have hcell : ∀ j, j < 13 → wr.cell? ⟨bb, of_ + k * 13 + j, none⟩ = l.cells[j]? := fun j hj => hc k l.cells (by rw [List.getElem?_map, hl]; rfl) j hj
                  have a0 : wr.cell? ⟨bb, of_ + k * 13, none⟩ = some (.int .i64 l.id) := hcell 0 (by decide)
                  have a1 : wr.cell? ⟨bb, of_ + k * 13 + 1, none⟩ = some (.int .i64 l.principal) := hcell 1 (by decide)
                  have a2 : wr.cell? ⟨bb, of_ + k * 13 + 2, none⟩ = some (.int .i64 l.interest) := hcell 2 (by decide)
                  have a3 : wr.cell? ⟨bb, of_ + k * 13 + 3, none⟩ = some (.int .i64 l.subsidy) := hcell 3 (by decide)
                  have a4 : wr.cell? ⟨bb, of_ + k * 13 + 4, none⟩ = some (.int .i64 l.fees) := hcell 4 (by decide)
                  have a5 : wr.cell? ⟨bb, of_ + k * 13 + 5, none⟩ = some (.int .i64 l.ppm) := hcell 5 (by decide)
                  have a6 : wr.cell? ⟨bb, of_ + k * 13 + 6, none⟩ = some (.bool l.sub) := hcell 6 (by decide)
                  have a7 : wr.cell? ⟨bb, of_ + k * 13 + 7, none⟩ = some (.int .i64 l.status) := hcell 7 (by decide)
                  have a8 : wr.cell? ⟨bb, of_ + k * 13 + 8, none⟩ = some (.int .i64 l.closed) := hcell 8 (by decide)
                  have a9 : wr.cell? ⟨bb, of_ + k * 13 + 9, none⟩ = some (.int .i64 l.entered) := hcell 9 (by decide)
                  have a10 : wr.cell? ⟨bb, of_ + k * 13 + 10, none⟩ = some (.int .i64 l.level) := hcell 10 (by decide)
                  have a11 : wr.cell? ⟨bb, of_ + k * 13 + 11, none⟩ = some (.int .i64 l.far) := hcell 11 (by decide)
                  have a12 : wr.cell? ⟨bb, of_ + k * 13 + 12, none⟩ = some (.int .i64 l.count) := hcell 12 (by decide)
                  obtain ⟨a, ha⟩ : ∃ a, owed s.loans k = a := ⟨_, rfl⟩
                  obtain ⟨x, hx⟩ : ∃ x, (lowesR l).1 = x := ⟨_, rfl⟩
                  have hw : IntKind.i64.wrap (a + x) = a + x := by
                    have h1 := owed_bounds HR0.out k l hl
                    rw [owed_succ _ _ _ hl, ha, hx] at h1
                    rw [IntKind.wrap_i64]
                    clear HVo HR HB HX HT
                    omega
                  have HNx : Hid (owed s.loans (k + 1) = a + x) := Lib.hid (by rw [owed_succ _ _ _ hl, ha, hx])
                  have hal := (Below.refl wr.heap.size wr).alloc (Nat.le_refl _) (.cells l.cells 23)
                  have HV1 : Hid (Calls Tryd.prog 19 #[.agg #[.int .i64 0, .slice (some ⟨wr.heap.size, 0, none⟩) 1 1, .int .i64 0, .int .i64 0, .int .i64 0, .int .i64 0, .slice none 0 0, .int .i64 0, .int .i64 0, .int .i64 0, .int .i64 0, .int .i64 0, .int .i64 0]] (wr.alloc (.cells l.cells 23)) fun e w' => e = .returned (.tuple #[.int .i64 x, .int .i64 0]) ∧ Below (wr.alloc (.cells l.cells 23)).heap.size (wr.alloc (.cells l.cells 23)) w') := Lib.hid (by
                    have := vowes_calls [l] (fun y hy => by rw [List.mem_singleton] at hy; subst hy; exact HOl.out _ (List.mem_of_getElem? hl)) (some ⟨wr.heap.size, 0, none⟩) 1 (.int .i64 0) (.int .i64 0) (.int .i64 0) (.int .i64 0) (.int .i64 0) (.slice none 0 0) (.int .i64 0) (.int .i64 0) (.int .i64 0) (.int .i64 0) (.int .i64 0) (.int .i64 0) (wr.alloc (.cells l.cells 23)) (sl_one wr l) (by simp)
                    rw [owed_one HR0.out k l hl, hx] at this
                    exact this)
                  have HB7 := Lib.hid (HB.out.trans (hal.mono HB.out.size))
                  have hk0 : (0 : Int) ≤ (k : Int) := by omega
                  have hk1 : (k : Int) < (s.loans.length : Int) := by omega
                  clear hcell hl hc hb hB ps hx hal
                  rw [ha]
                  clear ha
                  rw [hp] at x1
                  clear hp
                  go_wp2_with fail
                  refine HV1.out.mono ?_
                  rintro e w8 ⟨rfl, hb8⟩
                  have HB8 := Lib.hid (HB7.out.trans (hb8.mono HB7.out.size))
                  clear hb8 a0 a1 a2 a3 a4 a5 a6 a7 a8 a9 a10 a11 a12 x1
                  go_wp2_with fail
                  go_roundw
                  case rel => exact ⟨k + 1, by omega, by go_num, by rw [HNx.out], HB8.out⟩
                  case measure => simp [RowKit.intOf]; omega
                · have hke : k = s.loans.length := by omega
                  have hall : owed s.loans k = n := by rw [hke, owed_all HR0.out, HR1.out]
                  rw [hall]
                  have HWk := Lib.hid (wakes_calls wr HT.out)
                  clear ps hB hall
                  go_wp2_with fail
                  refine HWk.out.mono ?_
                  rintro e w8 ⟨rfl, hb8⟩
                  have HB8 := Lib.hid (HB4.out.trans ((HB.out.trans (hb8.mono HB.out.size)).mono HB4.out.size))
                  clear hb8
                  go_wp2_with fail
                  go_ret
                  exact ⟨rfl, HB8.out⟩
            · have hn0 : n = 0 := by
                have := vowesR_err (L := s.loans) (by rw [HR.out]; exact her)
                rw [HR.out] at this
                exact this
              subst hn0
              have HWk := Lib.hid (wakes_calls w6 (HP.out w6 HB6.out).2.2.1)
              have hd : decide (er = 0) = false := decide_eq_false her
              have hd2 : (er == 0) = false := by simpa using her
              go_wp2_with fail
              refine HWk.out.mono ?_
              rintro e w8 ⟨rfl, hb8⟩
              have HB8 := Lib.hid (HB4.out.trans ((HB6.out.trans (hb8.mono HB6.out.size)).mono HB4.out.size))
              clear hb8
              go_wp2_with fail
              go_ret
              exact ⟨rfl, HB8.out⟩
end Go.Proofs.YtkifkjgkdfnhcaaDoor.Vw
