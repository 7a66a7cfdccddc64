/- A state as a value; view.Late; rows of texts that grow. -/
import Derived.Test.YtkifkjgkdfnhcaaDoorV14
import Derived.Test.YtkifkjgkdfnhcaaDoorV24
namespace Go.Proofs.YtkifkjgkdfnhcaaDoor.Vw
open Go.RowKit Go.Sort Go.Lib Go.Shelf

/-- A state's fields. -/
structure St where
  day : Int
  loans : List Ln
  lp : Option Addr
  lc : Nat
  plan : Int
  since : Int
  income : Int
  family : Int
  bills : List Bl
  bp : Option Addr
  bc : Nat
  ahead : Int
  p0 : Int
  p1 : Int
  p2 : Int
  p3 : Int
  written : Int
abbrev St.cells (s : St) : Array Value := #[.int .i64 s.day, .slice s.lp s.loans.length s.lc, .int .i64 s.plan, .int .i64 s.since, .int .i64 s.income, .int .i64 s.family, .slice s.bp s.bills.length s.bc, .int .i64 s.ahead, .int .i64 s.p0, .int .i64 s.p1, .int .i64 s.p2, .int .i64 s.p3, .int .i64 s.written]
abbrev St.v (s : St) : Value := .agg s.cells
/-- A state lies in memory. -/
structure StIn (w : World) (s : St) : Prop where
  loans : Sl w s.lp 13 (s.loans.map Ln.cells) s.lc
  bills : Sl w s.bp 6 (s.bills.map Bl.cells) s.bc
theorem StIn.below {w w1 : World} {s : St} (h : StIn w s) (hb : Below w.heap.size w w1) : StIn w1 s := ⟨h.loans.below hb, h.bills.below hb⟩
structure OkSt (s : St) : Prop where
  loans : ∀ l ∈ s.loans, OkLn l
  bills : ∀ b ∈ s.bills, OkBl b
  nl : s.loans.length ≤ 1000
  nb : s.bills.length ≤ 1000
  ahead : -9223372036854775808 ≤ s.ahead ∧ s.ahead ≤ 9223372036854775807
set_option maxRecDepth 20000 in
theorem vlate_calls (s : St) (ho : OkSt s) (w : World) (hS : StIn w s) : Calls Tryd.prog 32 #[s.v] w fun e w' => IsN e ∧ Below w.heap.size w w' := by
  have HX := Lib.hid (Blk.new w 41 s.cells)
  have hal := (Below.refl w.heap.size w).alloc (Nat.le_refl _) (.cells s.cells 41)
  have HL := Lib.hid (blate_calls s.bills s.bp s.bc s.day _ (hS.below hal).bills (by have := ho.nb; omega))
  have HB := Lib.hid hal
  clear hal hS ho
  go_enter Tryd.func32, Tryd.ntmps32
  go_upto_region 1 with fail
  generalize w.alloc (.cells s.cells 41) = w1 at *
  have x0 : w1.cell? ⟨w.heap.size, 0, none⟩ = some (.int .i64 s.day) := HX.out.cell 0
  have x6 : w1.cell? ⟨w.heap.size, 6, none⟩ = some (.slice s.bp s.bills.length s.bc) := HX.out.cell 6
  go_wp2_with fail
  refine HL.out.mono ?_
  rintro e w2 ⟨⟨n, rfl, hn⟩, hb2⟩
  have HB2 := Lib.hid (HB.out.trans (hb2.mono HB.out.size))
  clear hb2
  go_wp2_with fail
  go_ret
  exact ⟨⟨n, rfl, hn⟩, HB2.out⟩
theorem info9 : (Tryd.prog.info? 9).map (fun i => (i.zero, i.size, i.bytes)) = some (some (.string ⟨#[]⟩), 1, 16) := by kernel_rfl
theorem own_build (w : World) (v : Value) : (w.alloc (.cells #[v] 9)).ownsRow w.heap.size 9 1 (.slice (some ⟨w.heap.size, 0, none⟩) 1 1) 1 [v] :=
  ⟨rfl, .inr ⟨w.heap.size, 1, #[v], rfl, Nat.le_refl _, heap_alloc_new w _, Nat.le_refl _, by unfold maxLen; omega, rfl, rfl⟩⟩
/-- append(v, s) of texts. -/
theorem app_str (base : Nat) (v : Value) (n : Nat) (xs : List Value) (g : Nat) (l : List UInt8) (W : World) (HO : W.ownsRow base 9 1 v n xs) (HR : W.cell? ⟨g, 0, none⟩ = some (.string (str l))) (hbase : base ≤ W.heap.size) (hl : n ≤ 1000000) :
    ∃ v1 w1, (∀ ty, (Builtin.append_ #[43, 43] ty #[v, .slice (some ⟨g, 0, none⟩) 1 1]).run Tryd.prog W = .ok v1 w1) ∧ w1.ownsRow base 9 1 v1 (n + 1) (xs ++ [.string (str l)]) ∧ Below base W w1 := by
  obtain ⟨i0, hi, hz0, hz1, hz2⟩ := info_parts info9
  obtain ⟨v1, w1, hrun, ho, hg, _⟩ := run_append_own (P := Tryd.prog) W base 43 43 9 i0 _ 1 16 Tryd.underlying43 hi hz0 hz1 hz2 rfl (by decide) v n xs HO ⟨g, 0, none⟩ 1 1 [.string (str l)] rfl
    (by intro j u hu; match j, hu with
        | 0, hu => simp at hu; subst hu; exact HR
        | j + 1, hu => simp at hu) (by intro u hu; simp at hu; subst hu; rfl)
    (by unfold maxLen; omega) (by omega) hbase
  exact ⟨v1, w1, fun ty => hrun, ho, Below.grown (Below.refl _ _) hg hbase fun k hk => (HO.lt k hk).1⟩
end Go.Proofs.YtkifkjgkdfnhcaaDoor.Vw
