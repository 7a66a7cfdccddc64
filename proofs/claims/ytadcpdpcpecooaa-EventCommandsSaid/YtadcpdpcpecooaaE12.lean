/- event.Decode. -/
import Derived.Test.YtadcpdpcpecooaaE11
import Derived.Test.YtadcpdpcpecooaaE9
namespace Go.Proofs.Ytadcpdpcpecooaa.Ev
open Go.RowKit Go.Proofs.Ytadcpdpcpecooaa.Pk Go.Proofs.Ytadcpdpcpecooaa.Re

theorem results_cell_row2 {P : Program} {fn : Func} {p u : Tmp} {ty : TypeId} (h : fn.results = #[.cell p ty, .tmp u]) (tmps : Array Value) (w : World) (g : Nat) (t : TypeId) (cs : Array Value) (fr : Nat × Nat) (d : TypeDesc)
    (hp : tmps.getD p undef = .pointer (some ⟨g, 0, none⟩)) (hg : w.heap[g]? = some (.cells cs t fr))
    (hu : P.underlying ty = some d) (hd : (match d with | .struct _ | .array _ _ => true | _ => false) = true) (hi : (P.info? ty).map (·.size) = some cs.size) :
    (results fn tmps).run P w = .ok (.tuple #[.agg cs, tmps.getD u undef]) w := by
  have hp' : tmps[p]?.getD undef = .pointer (some ⟨g, 0, none⟩) := by simpa using hp
  simp [results, h, hp', asAddr, run_loadVar_row w g t ty cs fr d hg hu hd hi, Result.andThen]
abbrev zeroE : E := ⟨0, 0, 0, 0, 0, 0, 0, false, 0, 0, 0⟩
def decB (b : ByteArray) : Bool := doneB (gs (some b) 11) && goodE (getE (some b))
def decE (b : ByteArray) : E := if decB b then getE (some b) else zeroE
def decX (b : ByteArray) : Int := if decB b then 0 else 11
theorem get_ok (st : Option ByteArray) : Ok (getE st) := by
  obtain ⟨r0, r1, r2, r3, r4, r5, r6, r7, r8, r9, r10⟩ := gv_range st
  exact ⟨r2, by show (gv st 5).toNat < _; omega, by show (gv st 6).toNat < _; omega⟩
set_option maxRecDepth 20000 in
set_option maxHeartbeats 8000000 in
theorem dec_calls (b : ByteArray) (w : World) (hb : b.size ≤ 9223372036854775807) : Calls Try.prog 13 #[.string b] w fun r w' => r = .returned (.tuple #[(decE b).v, .int .i64 (decX b)]) ∧ Below w.heap.size w w' := by
  have hst := fun (a : Addr) (n : Nat) (W : World) => run_store Try.prog W a (.float .f64 n) .plain rfl
  have hr := Blk.new w 25 zeroE.cells
  have HR0 := Lib.hid hr
  have HB0 := Lib.hid ((Below.refl w.heap.size w).alloc (Nat.le_refl _) (.cells zeroE.cells 25))
  have hok := get_ok (some b)
  have HG := Lib.hid (fun W => good_calls (getE (some b)) W hok.rate hok.income)
  unfold decE decX decB
  obtain ⟨gd, hgd⟩ : ∃ x, doneB (gs (some b) 11) = x := ⟨_, rfl⟩
  obtain ⟨gg, hgg⟩ : ∃ x, goodE (getE (some b)) = x := ⟨_, rfl⟩
  rw [hgg] at HG
  rw [hgd, hgg]
  have HGd := Lib.hid hgd
  clear hgd hgg hr hok
  go_enter Try.func13, Try.ntmps13
  go_upto_region 1 with fail
  generalize w.alloc (.cells zeroE.cells 25) = W1 at *
  go_wp2_with fail
  refine (Open_calls b W1 hb).mono ?_
  rintro r W2 ⟨g, rfl, hop, b2⟩
  have HOp := Lib.hid hop
  have HR2 := Lib.hid (HR0.out.below b2)
  have HB2 := Lib.hid (HB0.out.trans (b2.mono HB0.out.size))
  have HG1 : Hid (W1.heap.size ≤ g) := Lib.hid (by cases hop.1.ge with | refl => exact Nat.le_refl _ | step h => exact Nat.le_succ_of_le h)
  have HS1 : Hid (W1.heap.size ≤ W2.heap.size) := Lib.hid b2.size
  clear b2 hop
  go_wp2_with fail
  refine (get_calls W1.heap.size g (some b) W2 HOp.out HS1.out).mono ?_
  rintro r W3 ⟨rfl, hop, hfr⟩
  have HOp3 := Lib.hid hop
  have HR3 := Lib.hid (fro_blk hfr HR2.out (by have := HG1.out; have := HR0.out.lt; omega))
  have HB3 := Lib.hid (HB2.out.trans (hfr.below.mono (Nat.le_trans HB0.out.size (Nat.le_refl _))))
  clear hop hfr
  have HE := Lib.hid (Blk.new W3 25 (getE (some b)).cells)
  have HOp4 := Lib.hid (op_alloc HOp3.out ((Below.refl W3.heap.size W3).alloc (Nat.le_refl _) (.cells (getE (some b)).cells 25)))
  have HR4 := Lib.hid (HR3.out.below ((Below.refl W3.heap.size W3).alloc (Nat.le_refl _) (.cells (getE (some b)).cells 25)))
  have HB4 := Lib.hid (HB3.out.trans (((Below.refl W3.heap.size W3).alloc (Nat.le_refl _) (.cells (getE (some b)).cells 25)).mono HB3.out.size))
  go_upto_region 3 with fail
  generalize W3.alloc (.cells (getE (some b)).cells 25) = W4 at *
  generalize W3.heap.size = ge at *
  go_wp2_with fail
  refine (ODone_calls _ g _ W4 HOp4.out).mono ?_
  rintro r W5 ⟨rfl, hw5⟩
  subst hw5
  rw [HGd.out]
  cases gd with
  | false =>
    obtain ⟨d0, d1, d2, d3, d4, d5, d6, d7, d8, d9, d10⟩ := bx_of HR4.out
    have f0 := HR4.out.frozen 0
    have f1 := HR4.out.frozen 1
    have f2 := HR4.out.frozen 2
    have f3 := HR4.out.frozen 3
    have f4 := HR4.out.frozen 4
    have f5 := HR4.out.frozen 5
    have f6 := HR4.out.frozen 6
    have f7 := HR4.out.frozen 7
    have f8 := HR4.out.frozen 8
    have f9 := HR4.out.frozen 9
    have f10 := HR4.out.frozen 10
    go_wp2_with fail
    have S := set_event zeroE HR4.out
    have SB := set_below zeroE (Nat.le_refl w.heap.size) HB4.out
    (try simp only [Exit.inBlock, Exit.then])
    refine bodyPost_ret (results_cell_row2 (p := 2) (u := 3) (ty := 25) rfl _ _ w.heap.size 25 _ _ _ rfl S Try.underlying25 rfl (by kernel_rfl)) rfl ?_
    exact ⟨rfl, SB⟩
  | true =>
    obtain ⟨c0, c1, c2, c3, c4, c5, c6, c7, c8, c9, c10⟩ := bx_of HE.out
    go_wp2_with fail
    refine (HG.out _).mono ?_
    rintro r W6 ⟨rfl, b6⟩
    have HR6 := Lib.hid (HR4.out.below b6)
    have HE6 := Lib.hid (HE.out.below b6)
    have HB6 := Lib.hid (HB4.out.trans (b6.mono HB4.out.size))
    clear b6 c0 c1 c2 c3 c4 c5 c6 c7 c8 c9 c10
    obtain ⟨d0, d1, d2, d3, d4, d5, d6, d7, d8, d9, d10⟩ := bx_of HR6.out
    have f0 := HR6.out.frozen 0
    have f1 := HR6.out.frozen 1
    have f2 := HR6.out.frozen 2
    have f3 := HR6.out.frozen 3
    have f4 := HR6.out.frozen 4
    have f5 := HR6.out.frozen 5
    have f6 := HR6.out.frozen 6
    have f7 := HR6.out.frozen 7
    have f8 := HR6.out.frozen 8
    have f9 := HR6.out.frozen 9
    have f10 := HR6.out.frozen 10
    cases gg with
    | false =>
      go_wp2_with fail
      have S := set_event zeroE HR6.out
      have SB := set_below zeroE (Nat.le_refl w.heap.size) HB6.out
      (try simp only [Exit.inBlock, Exit.then])
      refine bodyPost_ret (results_cell_row2 (p := 2) (u := 3) (ty := 25) rfl _ _ w.heap.size 25 _ _ _ rfl S Try.underlying25 rfl (by kernel_rfl)) rfl ?_
      exact ⟨rfl, SB⟩
    | true =>
      obtain ⟨c0, c1, c2, c3, c4, c5, c6, c7, c8, c9, c10⟩ := bx_of HE6.out
      go_wp2_with fail
      have S := set_event (getE (some b)) HR6.out
      have SB := set_below (getE (some b)) (Nat.le_refl w.heap.size) HB6.out
      (try simp only [Exit.inBlock, Exit.then])
      refine bodyPost_ret (results_cell_row2 (p := 2) (u := 3) (ty := 25) rfl _ _ w.heap.size 25 _ _ _ rfl S Try.underlying25 rfl (by kernel_rfl)) rfl ?_
      exact ⟨rfl, SB⟩
end Go.Proofs.Ytadcpdpcpecooaa.Ev
