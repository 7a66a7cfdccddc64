/- view.Owes, whole. (Printed by gen_v29.py.) -/
import Derived.Test.YtkifkjgkdfnhcaaDoorV21
import Derived.Test.YtkifkjgkdfnhcaaDoorV25
import Derived.Test.YtkifkjgkdfnhcaaDoorV28
namespace Go.Proofs.YtkifkjgkdfnhcaaDoor.Vw
open Go.RowKit Go.Sort Go.Lib Go.Shelf

/-- The first error among loans. -/
def badOf : List Ln → Option Int
  | [] => none
  | l :: r => if (lowesR l).2 = 0 then badOf r else some (lowesR l).2
theorem badOf_snoc (a : List Ln) (l : Ln) (h : badOf a = none) (hl : (lowesR l).2 = 0) : badOf (a ++ [l]) = none := by
  induction a with
  | nil => simp [badOf, hl]
  | cons x r ih =>
    simp only [badOf] at h
    split at h
    · rename_i hx
      simp only [List.cons_append, badOf, hx, if_true]
      exact ih h
    · cases h
/-- What view.Owes answers: the number and the error. -/
def vowesR (L : List Ln) : Int × Int := match badOf L with
  | some er => (0, er)
  | none => match sumFrom 0 (L.map fun l => (lowesR l).1) with | some s => (s, 0) | none => (0, 14)
theorem badOf_at (L : List Ln) : ∀ (k : Nat) (l : Ln), L[k]? = some l → badOf (L.take k) = none → (lowesR l).2 ≠ 0 → badOf L = some (lowesR l).2 := by
  induction L with
  | nil => intro k l h; simp at h
  | cons x r ih =>
    intro k l h hb hl
    cases k with
    | zero =>
      simp at h
      subst h
      simp [badOf, hl]
    | succ k =>
      simp only [List.take_succ_cons, badOf] at hb
      split at hb
      · rename_i hx
        simp only [badOf, hx, if_true]
        exact ih k l (by simpa using h) hb hl
      · cases hb
theorem vowesR_bad (L : List Ln) (k : Nat) (l : Ln) {er : Int} (h : L[k]? = some l) (hb : badOf (L.take k) = none) (hl : (lowesR l).2 ≠ 0) (he : (lowesR l).2 = er) : vowesR L = (0, er) := by
  unfold vowesR
  rw [badOf_at L k l h hb hl, he]
set_option maxRecDepth 20000 in
set_option maxHeartbeats 8000000 in
theorem vowes_calls (L : List Ln) (hok : ∀ l ∈ L, OkLn l) (p : Option Addr) (cap : Nat) (v0 v2 v3 v4 v5 v6 v7 v8 v9 v10 v11 v12 : Value) (w : World) (hS : Sl w p 13 (L.map Ln.cells) cap) (h64 : L.length ≤ 100000) :
    Calls Tryd.prog 19 #[.agg #[v0, .slice p L.length cap, v2, v3, v4, v5, v6, v7, v8, v9, v10, v11, v12]] w fun e w' => e = .returned (.tuple #[.int .i64 (vowesR L).1, .int .i64 (vowesR L).2]) ∧ Below w.heap.size w w' := by
  obtain ⟨i0, hi, hz0, hz1, hz2⟩ := info_parts info2
  have HX0 := Lib.hid (Blk.new w 41 #[v0, .slice p L.length cap, v2, v3, v4, v5, v6, v7, v8, v9, v10, v11, v12])
  have HB0 := Lib.hid ((Below.refl w.heap.size w).alloc (Nat.le_refl _) (.cells #[v0, .slice p L.length cap, v2, v3, v4, v5, v6, v7, v8, v9, v10, v11, v12] 41))
  have HS := Lib.hid hS
  have HOk := Lib.hid hok
  obtain ⟨vals, hvals⟩ : ∃ vals, L.map (fun l => (lowesR l).1) = vals := ⟨_, rfl⟩
  have HLen : Hid (L.length = vals.length) := Lib.hid (by rw [← hvals, List.length_map])
  have HVal : Hid (∀ (k : Nat) (l : Ln), L[k]? = some l → vals[k]? = some (lowesR l).1) := Lib.hid (fun k l hl => by rw [← hvals, List.getElem?_map, hl]; rfl)
  have HRes : Hid (badOf L = none → vowesR L = match sumFrom 0 vals with | some s => (s, 0) | none => (0, 14)) := Lib.hid (fun h => by rw [← hvals]; unfold vowesR; rw [h])
  clear hS hok hvals
  go_enter Tryd.func19, Tryd.ntmps19
  go_upto_region 1 with fail
  generalize w.alloc (.cells #[v0, .slice p L.length cap, v2, v3, v4, v5, v6, v7, v8, v9, v10, v11, v12] 41) = w1 at *
  have x0 : w1.cell? ⟨w.heap.size, 0, none⟩ = some v0 := HX0.out.cell 0
  have x1 : w1.cell? ⟨w.heap.size, 1, none⟩ = some (.slice p L.length cap) := HX0.out.cell 1
  go_wp2_with fail
  clear x0 x1
  go_loopw [4, 12] (fun v i wr => ∃ k : Nat, k ≤ L.length ∧ i = .int .i64 (k : Int) ∧ wr.ownsRow w.heap.size 2 1 v k ((vals.take k).map (Value.int .i64)) ∧ badOf (L.take k) = none ∧ Below w.heap.size w wr) (fun _ i _ => L.length - (RowKit.intOf i).toNat)
  case atStart => exact ⟨0, Nat.zero_le _, rfl, World.ownsRow_nil _ _ _ _, rfl, HB0.out⟩
  case round =>
    obtain ⟨k, hk, rfl, hown, hbad, hB⟩ := hrel
    have HBad := Lib.hid hbad
    clear hbad
    have HO := Lib.hid hown
    have HB := Lib.hid hB
    by_cases h2 : k < L.length
    · obtain ⟨l, hl⟩ : ∃ l, L[k]? = some l := ⟨L[k], by rw [List.getElem?_eq_getElem h2]⟩
      have ol := HOk.out l (List.mem_of_getElem? hl)
      have hs := HVal.out k l hl
      have HLk := Lib.hid hl
      obtain ⟨b, off, hp, hb, hc⟩ := (HS.out.below hB).at (i := k) (by simpa using h2)
      have hcell : ∀ j, j < 13 → wr.cell? ⟨b, off + k * 13 + j, none⟩ = l.cells[j]? := fun j hj => hc k l.cells (by rw [List.getElem?_map, hl]; rfl) j hj
      have a0 : wr.cell? ⟨b, off + k * 13, none⟩ = some (.int .i64 l.id) := hcell 0 (by decide)
      have a1 : wr.cell? ⟨b, off + k * 13 + 1, none⟩ = some (.int .i64 l.principal) := hcell 1 (by decide)
      have a2 : wr.cell? ⟨b, off + k * 13 + 2, none⟩ = some (.int .i64 l.interest) := hcell 2 (by decide)
      have a3 : wr.cell? ⟨b, off + k * 13 + 3, none⟩ = some (.int .i64 l.subsidy) := hcell 3 (by decide)
      have a4 : wr.cell? ⟨b, off + k * 13 + 4, none⟩ = some (.int .i64 l.fees) := hcell 4 (by decide)
      have a5 : wr.cell? ⟨b, off + k * 13 + 5, none⟩ = some (.int .i64 l.ppm) := hcell 5 (by decide)
      have a6 : wr.cell? ⟨b, off + k * 13 + 6, none⟩ = some (.bool l.sub) := hcell 6 (by decide)
      have a7 : wr.cell? ⟨b, off + k * 13 + 7, none⟩ = some (.int .i64 l.status) := hcell 7 (by decide)
      have a8 : wr.cell? ⟨b, off + k * 13 + 8, none⟩ = some (.int .i64 l.closed) := hcell 8 (by decide)
      have a9 : wr.cell? ⟨b, off + k * 13 + 9, none⟩ = some (.int .i64 l.entered) := hcell 9 (by decide)
      have a10 : wr.cell? ⟨b, off + k * 13 + 10, none⟩ = some (.int .i64 l.level) := hcell 10 (by decide)
      have a11 : wr.cell? ⟨b, off + k * 13 + 11, none⟩ = some (.int .i64 l.far) := hcell 11 (by decide)
      have a12 : wr.cell? ⟨b, off + k * 13 + 12, none⟩ = some (.int .i64 l.count) := hcell 12 (by decide)
      have HOw := Lib.hid (fun W => lowes_calls l ol W)
      have HS := Lib.hid hs
      have hk0 : (0 : Int) ≤ (k : Int) := by omega
      have hk1 : (k : Int) < (L.length : Int) := by omega
      have HX := Lib.hid (Blk.new wr 23 l.cells)
      have hal := (Below.refl wr.heap.size wr).alloc (Nat.le_refl _) (.cells l.cells 23)
      have HB1 := Lib.hid (hB.trans (hal.mono hB.size))
      have HO1 := Lib.hid (hown.alloc (.cells l.cells 23))
      generalize hR : lowesR l = R at *
      obtain ⟨s, er⟩ := R
      have HR := Lib.hid hR
      clear hal hcell hl ol hs hown hB hb hc hR
      rw [hp]
      clear hp
      go_upto_region 5 with fail
      clear a0 a1 a2 a3 a4 a5 a6 a7 a8 a9 a10 a11 a12
      generalize wr.alloc (.cells l.cells 23) = w2 at *
      generalize wr.heap.size = g6 at *
      have k0 : w2.cell? ⟨g6, 0, none⟩ = some (.int .i64 l.id) := HX.out.cell 0
      have k1 : w2.cell? ⟨g6, 1, none⟩ = some (.int .i64 l.principal) := HX.out.cell 1
      have k2 : w2.cell? ⟨g6, 2, none⟩ = some (.int .i64 l.interest) := HX.out.cell 2
      have k3 : w2.cell? ⟨g6, 3, none⟩ = some (.int .i64 l.subsidy) := HX.out.cell 3
      have k4 : w2.cell? ⟨g6, 4, none⟩ = some (.int .i64 l.fees) := HX.out.cell 4
      have k5 : w2.cell? ⟨g6, 5, none⟩ = some (.int .i64 l.ppm) := HX.out.cell 5
      have k6 : w2.cell? ⟨g6, 6, none⟩ = some (.bool l.sub) := HX.out.cell 6
      have k7 : w2.cell? ⟨g6, 7, none⟩ = some (.int .i64 l.status) := HX.out.cell 7
      have k8 : w2.cell? ⟨g6, 8, none⟩ = some (.int .i64 l.closed) := HX.out.cell 8
      have k9 : w2.cell? ⟨g6, 9, none⟩ = some (.int .i64 l.entered) := HX.out.cell 9
      have k10 : w2.cell? ⟨g6, 10, none⟩ = some (.int .i64 l.level) := HX.out.cell 10
      have k11 : w2.cell? ⟨g6, 11, none⟩ = some (.int .i64 l.far) := HX.out.cell 11
      have k12 : w2.cell? ⟨g6, 12, none⟩ = some (.int .i64 l.count) := HX.out.cell 12
      go_wp2_with fail
      refine (HOw.out _).mono ?_
      rintro e w3 ⟨rfl, hb3⟩
      have HB3 := Lib.hid (HB1.out.trans (hb3.mono HB1.out.size))
      by_cases her : er = 0
      · subst her
        have HO3 := Lib.hid (own_below HO1.out hb3)
        have hal := (Below.refl w3.heap.size w3).alloc (Nat.le_refl _) (.cells #[.int .i64 s] 2)
        have HB4 := Lib.hid (HB3.out.trans (hal.mono HB3.out.size))
        have HO4 := Lib.hid (HO3.out.alloc (.cells #[.int .i64 s] 2))
        have HN := Lib.hid (Blk.new w3 2 #[.int .i64 s])
        have HLE : Hid (w.heap.size ≤ w3.heap.size) := Lib.hid HB3.out.size
        clear hb3 hal HO1 k0 k1 k2 k3 k4 k5 k6 k7 k8 k9 k10 k11 k12
        go_wp2_with (at_builtin; refine Hid.out ?_)
        refine Lib.hid ?_
        refine wpList_append_own _ rfl (.tmp 24) (.tmp 26) 66 rfl w.heap.size 2 i0 (.int .i64 0) 1 8 Tryd.underlying66 hi hz0 hz1 hz2 rfl (by decide) _ k _ rfl HO4.out ⟨w3.heap.size, 0, none⟩ 1 1 [.int .i64 s] rfl rfl (by intro j u hu; have hc := HN.out.cell j; have e : (⟨w3.heap.size, 0, none⟩ : Addr).add j = ⟨w3.heap.size, j, none⟩ := (by unfold Addr.add; split <;> simp_all); rw [e, hc]; simpa using hu) (by intro u hu; simp at hu; subst hu; rfl) (by unfold maxLen; omega) (by omega) HB4.out.size ?_
        intro v' w5 hown5 hgrow5 _
        have HO5 : Hid (w5.ownsRow w.heap.size 2 1 v' (k + 1) ((vals.take (k + 1)).map (Value.int .i64))) := Lib.hid (by
          rw [List.take_add_one, HS.out, List.map_append]
          exact hown5)
        have HB5 : Hid (Below w.heap.size w w5) := Lib.hid (HB4.out.grown hgrow5 HB4.out.size (fun g hg => (HO4.out.lt g hg).1))
        clear hown5 hgrow5
        go_wp2_with fail
        go_roundw
        case rel => exact ⟨k + 1, by omega, by go_num, HO5.out, by rw [List.take_add_one, HLk.out]; exact badOf_snoc _ _ HBad.out (by rw [HR.out]), HB5.out⟩
        case measure => simp [RowKit.intOf]; omega
      · have hd : decide (er = 0) = false := decide_eq_false her
        have HF : Hid (vowesR L = (0, er)) := Lib.hid (vowesR_bad L k l HLk.out HBad.out (by rw [HR.out]; exact her) (by rw [HR.out]))
        clear hb3
        go_wp2_with fail
        go_ret2
        exact ⟨by rw [HF.out]; first | done | rfl, HB3.out⟩
    · have hke : k = L.length := by omega
      have hbd : badOf L = none := by have := HBad.out; rw [hke, List.take_length] at this; exact this
      have HRs := Lib.hid (HRes.out hbd)
      clear hbd
      by_cases hz : L.length = 0
      · have hvz : vals = [] := List.eq_nil_of_length_eq_zero (by rw [← HLen.out]; exact hz)
        have hv0 : sumFrom 0 vals = some 0 := by rw [hvz]; rfl
        rw [hv0] at HRs
        rcases hown.2 with ⟨rfl, _⟩ | ⟨g', c', cur, rfl, _, hcu, _⟩
        · clear hown hB hke hvz hv0
          go_wp2_with fail
          refine (msum_nil _).mono ?_
          rintro e w3 ⟨rfl, hb3⟩
          have HB3 := Lib.hid (HB.out.trans (hb3.mono HB.out.size))
          clear hb3
          go_wp2_with fail
          go_ret2
          exact ⟨by rw [HRs.out]; first | done | rfl, HB3.out⟩
        · have hM := msum_ok vals 0 hv0 g' 0 c' wr (by intro j x hx; rw [hvz] at hx; simp at hx) (by rw [hvz]; simp) (by rw [hvz]; simp) (Array.getElem?_eq_some_iff.1 hcu).1
          rw [← hke.trans HLen.out] at hM
          have HM := Lib.hid hM
          clear hM hown hB hke hvz hv0 hcu
          go_wp2_with fail
          refine HM.out.mono ?_
          rintro e w3 ⟨rfl, hb3⟩
          have HB3 := Lib.hid (HB.out.trans (hb3.mono HB.out.size))
          clear hb3
          go_wp2_with fail
          go_ret2
          exact ⟨by rw [HRs.out]; first | done | rfl, HB3.out⟩
      · rw [show (vals.take k).map (Value.int .i64) = vals.map (Value.int .i64) by rw [hke, HLen.out, List.take_length]] at hown
        obtain ⟨gs, cp, rfl, hbase, hlt⟩ := hown.form (by omega)
        have hcells : ∀ (j : Nat) (x : Int), vals[j]? = some x → wr.cell? ⟨gs, 0 + j, none⟩ = some (.int .i64 x) := fun j x hx => by
          have hjl : j < vals.length := (List.getElem?_eq_some_iff.1 hx).1
          rw [Nat.zero_add, hown.cellAt j (by rw [Nat.mul_one, hke, HLen.out]; exact hjl), List.getElem?_map, hx]
          rfl
        have hkv : k = vals.length := hke.trans HLen.out
        have hcp : vals.length ≤ cp := by
          rcases hown.2 with ⟨h1, _⟩ | ⟨g', c', cur, h1, _, _, h3, _⟩
          · cases h1
          · cases h1
            omega
        have HV := HRs
        cases hsum : sumFrom 0 vals with
        | some s =>
          have hM := msum_ok vals s hsum gs 0 cp wr hcells (by omega) hcp hlt
          rw [← hkv] at hM
          have HM := Lib.hid hM
          rw [hsum] at HV
          clear hM hsum hcells hown hB hke hkv hcp
          go_wp2_with fail
          refine HM.out.mono ?_
          rintro e w3 ⟨rfl, hb3⟩
          have HB3 := Lib.hid (HB.out.trans (hb3.mono HB.out.size))
          clear hb3
          go_wp2_with fail
          go_ret2
          exact ⟨by rw [HV.out]; first | done | rfl, HB3.out⟩
        | none =>
          have hM := msum_bad vals hsum gs 0 cp wr hcells (by omega) hcp hlt
          rw [← hkv] at hM
          have HM := Lib.hid hM
          rw [hsum] at HV
          clear hM hsum hcells hown hB hke hkv hcp
          go_wp2_with fail
          refine HM.out.mono ?_
          rintro e w3 ⟨rfl, hb3⟩
          have HB3 := Lib.hid (HB.out.trans (hb3.mono HB.out.size))
          clear hb3
          go_wp2_with fail
          go_ret2
          exact ⟨by rw [HV.out]; first | done | rfl, HB3.out⟩
end Go.Proofs.YtkifkjgkdfnhcaaDoor.Vw
