/- annuitykeep.CopyBills. (Printed by gen_v33.py.) -/
import Derived.Test.YtkifkjgkdfnhcaaDoorV32
namespace Go.Proofs.YtkifkjgkdfnhcaaDoor.Vw
open Go.RowKit Go.Sort Go.Lib Go.Shelf
attribute [local go_sem ↓] Go.wp_at_zero Go.wp_at_succ

set_option maxRecDepth 20000 in
set_option maxHeartbeats 8000000 in
theorem copybills_calls (L : List Bl) (p : Option Addr) (cap : Nat) (w : World) (hS : Sl w p 6 (L.map Bl.cells) cap) (hI : ∀ x ∈ L, InBl w x ∧ x.sn ≤ 1000) (hl : L.length ≤ 1000) :
    Calls Tryd.prog 34 #[.slice p L.length cap] w fun e w' => (∃ (L' : List Bl) (p' : Option Addr) (c' : Nat), e = .returned (.slice p' L.length c') ∧ L'.length = L.length ∧ (∀ (i : Nat) (x y : Bl), L[i]? = some x → L'[i]? = some y → SameBl x y) ∧ Sl w' p' 6 (L'.map Bl.cells) c' ∧ ∀ a, p' = some a → w.heap.size ≤ a.block) ∧ Below w.heap.size w w' := by
  obtain ⟨i0, hi, hz0, hz1, hz2⟩ := info_parts info26
  have HS := Lib.hid hS
  have HI := Lib.hid hI
  clear hS hI
  go_enter Tryd.func34, Tryd.ntmps34
  go_wp2_with fail
  go_loopw [3, 4] (fun v i wr => ∃ (k : Nat) (L' : List Bl), k ≤ L.length ∧ i = .int .i64 (k : Int) ∧ L'.length = k ∧ (∀ (i : Nat) (x y : Bl), L[i]? = some x → L'[i]? = some y → SameBl x y) ∧ wr.ownsRow w.heap.size 26 6 v k ((L'.map Bl.cells).flatMap Array.toList) ∧ Below w.heap.size w wr) (fun _ i _ => L.length - (RowKit.intOf i).toNat)
  case atStart => exact ⟨0, [], Nat.zero_le _, rfl, rfl, fun i x y _ h => by simp at h, World.ownsRow_nil _ _ _ _, Below.refl _ _⟩
  case round =>
    obtain ⟨k, L', hk, rfl, hlk, hsame, hown, hB⟩ := hrel
    have HO := Lib.hid hown
    have HB := Lib.hid hB
    have HLk := Lib.hid hlk
    have HSm := Lib.hid hsame
    clear hsame hlk
    by_cases h2 : k < L.length
    · obtain ⟨x, hx⟩ : ∃ x, L[k]? = some x := ⟨L[k], by rw [List.getElem?_eq_getElem h2]⟩
      obtain ⟨b, off, hp, hb, hc⟩ := (HS.out.below hB).at (i := k) (by simpa using h2)
      have hcell : ∀ j, j < 6 → wr.cell? ⟨b, off + k * 6 + j, none⟩ = x.cells[j]? := fun j hj => hc k x.cells (by rw [List.getElem?_map, hx]; rfl) j hj
      have a0 : wr.cell? ⟨b, off + k * 6, none⟩ = some (.int .i64 x.month) := hcell 0 (by decide)
      have a1 : wr.cell? ⟨b, off + k * 6 + 1, none⟩ = some (.int .i64 x.amount) := hcell 1 (by decide)
      have a2 : wr.cell? ⟨b, off + k * 6 + 2, none⟩ = some (.int .i64 x.left) := hcell 2 (by decide)
      have a3 : wr.cell? ⟨b, off + k * 6 + 3, none⟩ = some (.int .i64 x.covered) := hcell 3 (by decide)
      have a4 : wr.cell? ⟨b, off + k * 6 + 4, none⟩ = some (.int .i64 x.plan) := hcell 4 (by decide)
      have a5 : wr.cell? ⟨b, off + k * 6 + 5, none⟩ = some (.slice x.sp x.sn x.sc) := hcell 5 (by decide)
      have hxm := HI.out x (List.mem_of_getElem? hx)
      have HXk := Lib.hid hx
      have hk0 : (0 : Int) ≤ (k : Int) := by omega
      have hk1 : (k : Int) < (L.length : Int) := by omega
      have HX := Lib.hid (Blk.new wr 26 x.cells)
      have hal := (Below.refl wr.heap.size wr).alloc (Nat.le_refl _) (.cells x.cells 26)
      have HB1 := Lib.hid (hB.trans (hal.mono hB.size))
      have HW := Lib.hid hal
      have HAp := Lib.hid (app_ints x hxm.2 (wr.alloc (.cells x.cells 26)) ((hxm.1.below hB).below hal))
      clear hal hcell hx hc hb hown hB hxm
      rw [hp]
      clear hp
      go_upto_region 6 with fail
      clear a0 a1 a2 a3 a4 a5
      generalize wr.alloc (.cells x.cells 26) = w2 at *
      obtain ⟨g6, hg6⟩ : ∃ g6, wr.heap.size = g6 := ⟨_, rfl⟩
      have HG6 := Lib.hid hg6
      rw [hg6] at HX
      rw [hg6]
      clear hg6
      have k5 : (w2.alloc (.cells #[] 3)).cell? ⟨g6, 5, none⟩ = some (.slice x.sp x.sn x.sc) := (HX.out.below ((Below.refl w2.heap.size w2).alloc (Nat.le_refl _) (.cells #[] 3))).cell 5
      go_wp2_with (at_builtin; refine Hid.out ?_)
      refine Lib.hid ?_
      refine wpList_append_run rfl (.tmp 16) (.tmp 18) 24 rfl _ _ rfl rfl HAp.out ?_
      rintro v1 w3 ⟨⟨p5, c5, rfl⟩, hb3⟩
      have HX3 := Lib.hid (HX.out.below hb3)
      have HB3 : Hid (Below g6 wr w3) := Lib.hid (by rw [← HG6.out]; exact HW.out.trans (hb3.mono HW.out.size))
      have k5' : w3.cell? ⟨g6, 5, none⟩ = some (.slice x.sp x.sn x.sc) := HX3.out.cell 5
      have f5' := HX3.out.frozen 5
      clear hb3 k5 HX
      go_upto_region 7 with fail
      obtain ⟨x', hx'⟩ : ∃ x' : Bl, x' = ⟨x.month, x.amount, x.left, x.covered, x.plan, p5, x.sn, c5⟩ := ⟨_, rfl⟩
      have HSx : Hid (SameBl x x') := Lib.hid (by rw [hx']; exact ⟨rfl, rfl, rfl, rfl, rfl, rfl⟩)
      have HX4 : Hid (Blk (w3.setCell ⟨g6, 5, none⟩ (.slice p5 x.sn c5)) g6 26 x'.cells) := Lib.hid (by rw [hx']; exact HX3.out.set_ 5 (.slice p5 x.sn c5))
      have HB4 : Hid (Below g6 wr (w3.setCell ⟨g6, 5, none⟩ (.slice p5 x.sn c5))) := Lib.hid (HB3.out.setCell (p := ⟨g6, 5, none⟩) (Nat.le_refl _) _)
      clear hx' k5' f5'
      generalize w3.setCell ⟨g6, 5, none⟩ (.slice p5 x.sn c5) = w4 at *
      have HO4 := Lib.hid (own_below HO.out (by rw [HG6.out]; exact HB4.out))
      have HB5 := Lib.hid (HB.out.trans (HB4.out.mono (by rw [← HG6.out]; exact HB.out.size)))
      have k0 : w4.cell? ⟨g6, 0, none⟩ = some (.int .i64 x'.month) := HX4.out.cell 0
      have k1 : w4.cell? ⟨g6, 1, none⟩ = some (.int .i64 x'.amount) := HX4.out.cell 1
      have k2 : w4.cell? ⟨g6, 2, none⟩ = some (.int .i64 x'.left) := HX4.out.cell 2
      have k3 : w4.cell? ⟨g6, 3, none⟩ = some (.int .i64 x'.covered) := HX4.out.cell 3
      have k4 : w4.cell? ⟨g6, 4, none⟩ = some (.int .i64 x'.plan) := HX4.out.cell 4
      have k5 : w4.cell? ⟨g6, 5, none⟩ = some (.slice x'.sp x'.sn x'.sc) := HX4.out.cell 5
      have hal := (Below.refl w4.heap.size w4).alloc (Nat.le_refl _) (.cells x'.cells 26)
      have HB6 := Lib.hid (HB5.out.trans (hal.mono HB5.out.size))
      have HO6 := Lib.hid (HO4.out.alloc (.cells x'.cells 26))
      have HN := Lib.hid (Blk.new w4 26 x'.cells)
      clear hal
      go_wp2_with (at_builtin; refine Hid.out ?_)
      refine Lib.hid ?_
      refine wpList_append_own _ rfl (.tmp 21) (.tmp 23) 37 rfl w.heap.size 26 i0 _ 6 64 Tryd.underlying37 hi hz0 hz1 hz2 rfl (by decide) _ k _ rfl HO6.out ⟨w4.heap.size, 0, none⟩ 1 1 x'.cells.toList rfl rfl (by intro j u hu; have hc := HN.out.cell j; have e : (⟨w4.heap.size, 0, none⟩ : Addr).add j = ⟨w4.heap.size, j, none⟩ := (by unfold Addr.add; split <;> simp_all); rw [e, hc]; simpa using hu) (by intro u hu; simp at hu; rcases hu with rfl | rfl | rfl | rfl | rfl | rfl <;> rfl) (by unfold maxLen; omega) (by omega) HB6.out.size ?_
      intro v' w5 hown5 hgrow5 _
      have HO7 : Hid (w5.ownsRow w.heap.size 26 6 v' (k + 1) (((L' ++ [x']).map Bl.cells).flatMap Array.toList)) := Lib.hid (by
        rw [List.map_append, List.flatMap_append]
        simpa using hown5)
      have HB7 : Hid (Below w.heap.size w w5) := Lib.hid (HB6.out.grown hgrow5 HB6.out.size (fun g hg => (HO6.out.lt g hg).1))
      clear hown5 hgrow5
      go_wp2_with fail
      go_roundw
      case rel => exact ⟨k + 1, L' ++ [x'], by omega, by go_num, by rw [List.length_append, HLk.out]; rfl, fun i a y ha hy => by
        by_cases hik : i < L'.length
        · rw [List.getElem?_append_left hik] at hy
          exact HSm.out i a y ha hy
        · rw [List.getElem?_append_right (by omega)] at hy
          have hi0 : i = k := by
            have h1 := (List.getElem?_eq_some_iff.1 hy).1
            have h3 := HLk.out
            rw [List.length_singleton] at h1
            omega
          subst hi0
          rw [HXk.out] at ha
          obtain rfl := Option.some.inj ha
          rw [HLk.out, Nat.sub_self] at hy
          obtain rfl := Option.some.inj hy
          exact HSx.out, HO7.out, HB7.out⟩
      case measure => simp [RowKit.intOf]; omega
    · have hke : k = L.length := by omega
      obtain ⟨p', c', rfl, hs⟩ := sl_own (n := k) (rows := L'.map Bl.cells) (by rw [List.length_map, HLk.out]) (by decide) (by
        intro r hr
        obtain ⟨l, _, rfl⟩ := List.mem_map.1 hr
        rfl) hown
      have hle : (L'.map Bl.cells).length = L.length := by rw [List.length_map, HLk.out, hke]
      have HF := Lib.hid hs
      clear hown hs hB
      go_wp2_with fail
      go_ret
      exact ⟨⟨L', p', c', by rw [← hle]; rfl, by rw [HLk.out, hke], HSm.out, HF.out⟩, HB.out⟩
end Go.Proofs.YtkifkjgkdfnhcaaDoor.Vw
