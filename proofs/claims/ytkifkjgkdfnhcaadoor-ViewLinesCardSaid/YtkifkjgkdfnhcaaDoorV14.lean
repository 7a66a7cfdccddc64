/- view.Owes where every loan owes money. (Printed by gen_v14.py.) -/
import Derived.Test.YtkifkjgkdfnhcaaDoorV13
import Derived.Laws.AppendOwn
import Derived.Laws.OwnMore
import Derived.Deep.AppendLies
import Derived.OwnWalk
namespace Go.Proofs.YtkifkjgkdfnhcaaDoor.Vw
open Go.RowKit Go.Sort Go.Lib Go.Shelf

theorem info2 : (Tryd.prog.info? 2).map (fun i => (i.zero, i.size, i.bytes)) = some (some (.int .i64 0), 1, 8) := by kernel_rfl
theorem own_below {w w1 : World} {base : Nat} {e : TypeId} {size : Nat} {v : Value} {n : Nat} {xs : List Value} (h : w.ownsRow base e size v n xs) (hb : Below w.heap.size w w1) : w1.ownsRow base e size v n xs := by
  refine ⟨h.1, ?_⟩
  rcases h.2 with hn | ⟨g, cap, cur, rfl, h1, h2, h3⟩
  · exact .inl hn
  · exact .inr ⟨g, cap, cur, rfl, h1, (hb.block g (Array.getElem?_eq_some_iff.1 h2).1).trans h2, h3⟩
def sumV (xs : List Int) : Value := match sumFrom 0 xs with | some s => .tuple #[.int .i64 s, .int .i64 0] | none => .tuple #[.int .i64 0, .int .i64 14]
set_option maxRecDepth 20000 in
set_option maxHeartbeats 8000000 in
theorem vowes_ok (L : List Ln) (vals : List Int) (hlen : L.length = vals.length) (hok : ∀ (i : Nat) (l : Ln), L[i]? = some l → OkLn l ∧ goodLn l = true ∧ ∃ s, vals[i]? = some s ∧ owesO l = some s)
    (b off cap : Nat) (v0 v2 v3 v4 v5 v6 v7 v8 v9 v10 v11 v12 : Value) (w : World) (hcap : L.length ≤ cap) (h64 : L.length ≤ 100000) (hpos : 0 < L.length) (hb : b < w.heap.size)
    (hL : ∀ (i : Nat) (l : Ln), L[i]? = some l → ∀ j : Nat, j < 13 → w.cell? ⟨b, off + i * 13 + j, none⟩ = l.cells[j]?) :
    Calls Tryd.prog 19 #[.agg #[v0, .slice (some ⟨b, off, none⟩) L.length cap, v2, v3, v4, v5, v6, v7, v8, v9, v10, v11, v12]] w fun e w' => e = .returned (sumV vals) ∧ Below w.heap.size w w' := by
  obtain ⟨i0, hi, hz0, hz1, hz2⟩ := info_parts info2
  have HX0 := Lib.hid (Blk.new w 41 #[v0, .slice (some ⟨b, off, none⟩) L.length cap, v2, v3, v4, v5, v6, v7, v8, v9, v10, v11, v12])
  have HB0 := Lib.hid ((Below.refl w.heap.size w).alloc (Nat.le_refl _) (.cells #[v0, .slice (some ⟨b, off, none⟩) L.length cap, v2, v3, v4, v5, v6, v7, v8, v9, v10, v11, v12] 41))
  have HLc := Lib.hid hL
  have HOk := Lib.hid hok
  have HLen := Lib.hid hlen
  clear hL hok hlen
  go_enter Tryd.func19, Tryd.ntmps19
  go_upto_region 1 with fail
  generalize w.alloc (.cells #[v0, .slice (some ⟨b, off, none⟩) L.length cap, v2, v3, v4, v5, v6, v7, v8, v9, v10, v11, v12] 41) = w1 at *
  have x0 : w1.cell? ⟨w.heap.size, 0, none⟩ = some v0 := HX0.out.cell 0
  have x1 : w1.cell? ⟨w.heap.size, 1, none⟩ = some (.slice (some ⟨b, off, none⟩) L.length cap) := HX0.out.cell 1
  go_wp2_with fail
  clear x0 x1
  go_loopw [4, 12] (fun v i wr => ∃ k : Nat, k ≤ L.length ∧ i = .int .i64 (k : Int) ∧ wr.ownsRow w.heap.size 2 1 v k ((vals.take k).map (Value.int .i64)) ∧ Below w.heap.size w wr) (fun _ i _ => L.length - (RowKit.intOf i).toNat)
  case atStart => exact ⟨0, Nat.zero_le _, rfl, World.ownsRow_nil _ _ _ _, HB0.out⟩
  case round =>
    obtain ⟨k, hk, rfl, hown, hB⟩ := hrel
    have HO := Lib.hid hown
    have HB := Lib.hid hB
    by_cases h2 : k < L.length
    · obtain ⟨l, hl⟩ : ∃ l, L[k]? = some l := ⟨L[k], by rw [List.getElem?_eq_getElem h2]⟩
      obtain ⟨ol, gl, s, hs, hso⟩ := HOk.out k l hl
      have hcell : ∀ j, j < 13 → wr.cell? ⟨b, off + k * 13 + j, none⟩ = l.cells[j]? := fun j hj => (hB.cell (show b < _ from hb)).trans (HLc.out k l hl j hj)
      have a0 : wr.cell? ⟨b, off + k * 13, none⟩ = some (.int .i64 l.id) := hcell 0 (by decide)
      have a1 : wr.cell? ⟨b, off + k * 13 + 1, none⟩ = some (.int .i64 l.principal) := hcell 1 (by decide)
      have a2 : wr.cell? ⟨b, off + k * 13 + 2, none⟩ = some (.int .i64 l.interest) := hcell 2 (by decide)
      have a3 : wr.cell? ⟨b, off + k * 13 + 3, none⟩ = some (.int .i64 l.subsidy) := hcell 3 (by decide)
      have a4 : wr.cell? ⟨b, off + k * 13 + 4, none⟩ = some (.int .i64 l.fees) := hcell 4 (by decide)
      have a5 : wr.cell? ⟨b, off + k * 13 + 5, none⟩ = some (.int .i64 l.ppm) := hcell 5 (by decide)
      have a6 : wr.cell? ⟨b, off + k * 13 + 6, none⟩ = some (.bool l.sub) := hcell 6 (by decide)
      have a7 : wr.cell? ⟨b, off + k * 13 + 7, none⟩ = some (.int .i64 l.status) := hcell 7 (by decide)
      have a8 : wr.cell? ⟨b, off + k * 13 + 8, none⟩ = some (.int .i64 l.closed) := hcell 8 (by decide)
      have a9 : wr.cell? ⟨b, off + k * 13 + 9, none⟩ = some (.int .i64 l.entered) := hcell 9 (by decide)
      have a10 : wr.cell? ⟨b, off + k * 13 + 10, none⟩ = some (.int .i64 l.level) := hcell 10 (by decide)
      have a11 : wr.cell? ⟨b, off + k * 13 + 11, none⟩ = some (.int .i64 l.far) := hcell 11 (by decide)
      have a12 : wr.cell? ⟨b, off + k * 13 + 12, none⟩ = some (.int .i64 l.count) := hcell 12 (by decide)
      have HOw := Lib.hid (fun W => lowes_ok l ol gl s hso W)
      have HS := Lib.hid hs
      have hk0 : (0 : Int) ≤ (k : Int) := by omega
      have hk1 : (k : Int) < (L.length : Int) := by omega
      have HX := Lib.hid (Blk.new wr 23 l.cells)
      have hal := (Below.refl wr.heap.size wr).alloc (Nat.le_refl _) (.cells l.cells 23)
      have HB1 := Lib.hid (hB.trans (hal.mono hB.size))
      have HO1 := Lib.hid (hown.alloc (.cells l.cells 23))
      clear hal hcell hl ol gl hs hso hown hB
      go_upto_region 5 with fail
      clear a0 a1 a2 a3 a4 a5 a6 a7 a8 a9 a10 a11 a12
      generalize wr.alloc (.cells l.cells 23) = w2 at *
      generalize wr.heap.size = g6 at *
      have k0 : w2.cell? ⟨g6, 0, none⟩ = some (.int .i64 l.id) := HX.out.cell 0
      have k1 : w2.cell? ⟨g6, 1, none⟩ = some (.int .i64 l.principal) := HX.out.cell 1
      have k2 : w2.cell? ⟨g6, 2, none⟩ = some (.int .i64 l.interest) := HX.out.cell 2
      have k3 : w2.cell? ⟨g6, 3, none⟩ = some (.int .i64 l.subsidy) := HX.out.cell 3
      have k4 : w2.cell? ⟨g6, 4, none⟩ = some (.int .i64 l.fees) := HX.out.cell 4
      have k5 : w2.cell? ⟨g6, 5, none⟩ = some (.int .i64 l.ppm) := HX.out.cell 5
      have k6 : w2.cell? ⟨g6, 6, none⟩ = some (.bool l.sub) := HX.out.cell 6
      have k7 : w2.cell? ⟨g6, 7, none⟩ = some (.int .i64 l.status) := HX.out.cell 7
      have k8 : w2.cell? ⟨g6, 8, none⟩ = some (.int .i64 l.closed) := HX.out.cell 8
      have k9 : w2.cell? ⟨g6, 9, none⟩ = some (.int .i64 l.entered) := HX.out.cell 9
      have k10 : w2.cell? ⟨g6, 10, none⟩ = some (.int .i64 l.level) := HX.out.cell 10
      have k11 : w2.cell? ⟨g6, 11, none⟩ = some (.int .i64 l.far) := HX.out.cell 11
      have k12 : w2.cell? ⟨g6, 12, none⟩ = some (.int .i64 l.count) := HX.out.cell 12
      go_wp2_with fail
      refine (HOw.out _).mono ?_
      rintro e w3 ⟨rfl, hb3⟩
      have HB3 := Lib.hid (HB1.out.trans (hb3.mono HB1.out.size))
      have HO3 := Lib.hid (own_below HO1.out hb3)
      have hal := (Below.refl w3.heap.size w3).alloc (Nat.le_refl _) (.cells #[.int .i64 s] 2)
      have HB4 := Lib.hid (HB3.out.trans (hal.mono HB3.out.size))
      have HO4 := Lib.hid (HO3.out.alloc (.cells #[.int .i64 s] 2))
      have HN := Lib.hid (Blk.new w3 2 #[.int .i64 s])
      have HLE : Hid (w.heap.size ≤ w3.heap.size) := Lib.hid HB3.out.size
      clear hb3 hal HO1 k0 k1 k2 k3 k4 k5 k6 k7 k8 k9 k10 k11 k12
      go_wp2_with (at_builtin; refine Hid.out ?_)
      refine Lib.hid ?_
      refine wpList_append_own _ rfl (.tmp 24) (.tmp 26) 66 rfl w.heap.size 2 i0 (.int .i64 0) 1 8 Tryd.underlying66 hi hz0 hz1 hz2 rfl (by decide) _ k _ rfl HO4.out ⟨w3.heap.size, 0, none⟩ 1 1 [.int .i64 s] rfl rfl (by intro j u hu; have hc := HN.out.cell j; have e : (⟨w3.heap.size, 0, none⟩ : Addr).add j = ⟨w3.heap.size, j, none⟩ := (by unfold Addr.add; split <;> simp_all); rw [e, hc]; simpa using hu) (by intro u hu; simp at hu; subst hu; rfl) (by unfold maxLen; omega) (by omega) HB4.out.size ?_
      intro v' w5 hown5 hgrow5 _
      have HO5 : Hid (w5.ownsRow w.heap.size 2 1 v' (k + 1) ((vals.take (k + 1)).map (Value.int .i64))) := Lib.hid (by
        rw [List.take_add_one, HS.out, List.map_append]
        exact hown5)
      have HB5 : Hid (Below w.heap.size w w5) := Lib.hid (HB4.out.grown hgrow5 HB4.out.size (fun g hg => (HO4.out.lt g hg).1))
      clear hown5 hgrow5
      go_wp2_with fail
      go_roundw
      case rel => exact ⟨k + 1, by omega, by go_num, HO5.out, HB5.out⟩
      case measure => simp [RowKit.intOf]; omega
    · have hke : k = L.length := by omega
      rw [show (vals.take k).map (Value.int .i64) = vals.map (Value.int .i64) by rw [hke, HLen.out, List.take_length]] at hown
      obtain ⟨gs, cp, rfl, hbase, hlt⟩ := hown.form (by omega)
      have hcells : ∀ (j : Nat) (x : Int), vals[j]? = some x → wr.cell? ⟨gs, 0 + j, none⟩ = some (.int .i64 x) := fun j x hx => by
        have hjl : j < vals.length := (List.getElem?_eq_some_iff.1 hx).1
        rw [Nat.zero_add, hown.cellAt j (by rw [Nat.mul_one, hke, HLen.out]; exact hjl), List.getElem?_map, hx]
        rfl
      have hkv : k = vals.length := hke.trans HLen.out
      have hcp : vals.length ≤ cp := by
        rcases hown.2 with ⟨h1, _⟩ | ⟨g', c', cur, h1, _, _, h3, _⟩
        · cases h1
        · cases h1
          omega
      have HV : Hid (sumV vals = match sumFrom 0 vals with | some s => .tuple #[.int .i64 s, .int .i64 0] | none => .tuple #[.int .i64 0, .int .i64 14]) := Lib.hid rfl
      cases hsum : sumFrom 0 vals with
      | some s =>
        have hM := msum_ok vals s hsum gs 0 cp wr hcells (by omega) hcp hlt
        rw [← hkv] at hM
        have HM := Lib.hid hM
        rw [hsum] at HV
        clear hM hsum hcells hown hB hke hkv hcp
        go_wp2_with fail
        refine HM.out.mono ?_
        rintro e w3 ⟨rfl, hb3⟩
        have HB3 := Lib.hid (HB.out.trans (hb3.mono HB.out.size))
        clear hb3
        go_wp2_with fail
        go_ret2
        exact ⟨by rw [HV.out]; rfl, HB3.out⟩
      | none =>
        have hM := msum_bad vals hsum gs 0 cp wr hcells (by omega) hcp hlt
        rw [← hkv] at hM
        have HM := Lib.hid hM
        rw [hsum] at HV
        clear hM hsum hcells hown hB hke hkv hcp
        go_wp2_with fail
        refine HM.out.mono ?_
        rintro e w3 ⟨rfl, hb3⟩
        have HB3 := Lib.hid (HB.out.trans (hb3.mono HB.out.size))
        clear hb3
        go_wp2_with fail
        go_ret2
        exact ⟨by rw [HV.out]; rfl, HB3.out⟩
end Go.Proofs.YtkifkjgkdfnhcaaDoor.Vw
