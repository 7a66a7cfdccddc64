/- Texts joined: C13 C14 D0. -/
import Derived.Test.YtkcjgmicoifhcaaGreatDoorM9

/- C13: The reader's events walked. (Printed by gen_c13.py.) -/
namespace Go.Proofs.YtkcjgmicoifhcaaGreatDoor.Cn
open Go.RowKit Go.Sort Go.Lib Go.Shelf
open Vw (Tab str Blk)
open Ev (E)
attribute [local go_sem ↓] Go.wp_at_zero Go.wp_at_succ

/-- What an event's words are read as, whether they are well formed, what is left. -/
noncomputable def evR (key : Int) (L : List (List UInt8)) (ok : Bool) : E × List (List UInt8) × Bool :=
  match forms.find? (headB (Lib.join L.tail [32] ++ [32])) with
  | none => (⟨0, dayN (hd L), key, 0, 0, 0, 0, false, 0, 0, 0⟩, L.tail, false)
  | some f => getAll f.has ⟨f.kind, dayN (hd L), key, 0, 0, 0, 0, false, 0, f.plan, 0⟩ (L.tail.drop (cutC 32 f.words).length) ((ok && dayB (hd L)) && decide ((cutC 32 f.words).length ≤ L.tail.length))
theorem fIdx_find (p : Fm → Bool) : ∀ (L : List Fm) (k : Nat), match L.find? p with | none => fIdx p k L = -1 | some f => ∃ i, fIdx p k L = ((k + i : Nat) : Int) ∧ L[i]? = some f
  | [], k => rfl
  | f :: r, k => by
    rw [List.find?_cons]
    cases h : p f with
    | true =>
      exact ⟨0, by rw [fIdx, h]; rfl, rfl⟩
    | false =>
      have ih := fIdx_find p r (k + 1)
      simp only
      cases h2 : r.find? p with
      | none =>
        rw [h2] at ih
        rw [fIdx, h]
        exact ih
      | some g =>
        rw [h2] at ih
        obtain ⟨i, h3, h4⟩ := ih
        exact ⟨i + 1, by rw [fIdx, h]; simp only [Bool.false_eq_true, if_false]; rw [h3]; congr 1; omega, by simpa using h4⟩
theorem set_ev {w : World} {g : Nat} {z : E} (n : E) (h : Blk w g 25 z.cells) : Blk (((((((((((w.setCell ⟨g, 0, none⟩ (.int .i64 n.kind)).setCell ⟨g, 1, none⟩ (.int .i64 n.day)).setCell ⟨g, 2, none⟩ (.int .u32 n.key)).setCell ⟨g, 3, none⟩ (.int .i64 n.loan)).setCell ⟨g, 4, none⟩ (.int .i64 n.amount)).setCell ⟨g, 5, none⟩ (.float .f64 n.rate)).setCell ⟨g, 6, none⟩ (.float .f64 n.income)).setCell ⟨g, 7, none⟩ (.bool n.sub)).setCell ⟨g, 8, none⟩ (.int .i64 n.status)).setCell ⟨g, 9, none⟩ (.int .i64 n.plan)).setCell ⟨g, 10, none⟩ (.int .i64 n.family)) g 25 n.cells := by
  have e : (((((((((((z.cells.setIfInBounds 0 (.int .i64 n.kind)).setIfInBounds 1 (.int .i64 n.day)).setIfInBounds 2 (.int .u32 n.key)).setIfInBounds 3 (.int .i64 n.loan)).setIfInBounds 4 (.int .i64 n.amount)).setIfInBounds 5 (.float .f64 n.rate)).setIfInBounds 6 (.float .f64 n.income)).setIfInBounds 7 (.bool n.sub)).setIfInBounds 8 (.int .i64 n.status)).setIfInBounds 9 (.int .i64 n.plan)).setIfInBounds 10 (.int .i64 n.family)) = n.cells := by kernel_rfl
  rw [← e]
  exact (((((((((((h.set_ 0 (.int .i64 n.kind)).set_ 1 (.int .i64 n.day)).set_ 2 (.int .u32 n.key)).set_ 3 (.int .i64 n.loan)).set_ 4 (.int .i64 n.amount)).set_ 5 (.float .f64 n.rate)).set_ 6 (.float .f64 n.income)).set_ 7 (.bool n.sub)).set_ 8 (.int .i64 n.status)).set_ 9 (.int .i64 n.plan)).set_ 10 (.int .i64 n.family))
theorem set_ev_below {w0 w : World} {b g : Nat} (n : E) (hg : b ≤ g) (hb : Below b w0 w) : Below b w0 (((((((((((w.setCell ⟨g, 0, none⟩ (.int .i64 n.kind)).setCell ⟨g, 1, none⟩ (.int .i64 n.day)).setCell ⟨g, 2, none⟩ (.int .u32 n.key)).setCell ⟨g, 3, none⟩ (.int .i64 n.loan)).setCell ⟨g, 4, none⟩ (.int .i64 n.amount)).setCell ⟨g, 5, none⟩ (.float .f64 n.rate)).setCell ⟨g, 6, none⟩ (.float .f64 n.income)).setCell ⟨g, 7, none⟩ (.bool n.sub)).setCell ⟨g, 8, none⟩ (.int .i64 n.status)).setCell ⟨g, 9, none⟩ (.int .i64 n.plan)).setCell ⟨g, 10, none⟩ (.int .i64 n.family)) := (((((((((((hb.setCell (p := ⟨g, 0, none⟩) hg (.int .i64 n.kind)).setCell (p := ⟨g, 1, none⟩) hg (.int .i64 n.day)).setCell (p := ⟨g, 2, none⟩) hg (.int .u32 n.key)).setCell (p := ⟨g, 3, none⟩) hg (.int .i64 n.loan)).setCell (p := ⟨g, 4, none⟩) hg (.int .i64 n.amount)).setCell (p := ⟨g, 5, none⟩) hg (.float .f64 n.rate)).setCell (p := ⟨g, 6, none⟩) hg (.float .f64 n.income)).setCell (p := ⟨g, 7, none⟩) hg (.bool n.sub)).setCell (p := ⟨g, 8, none⟩) hg (.int .i64 n.status)).setCell (p := ⟨g, 9, none⟩) hg (.int .i64 n.plan)).setCell (p := ⟨g, 10, none⟩) hg (.int .i64 n.family))
theorem set_ev_rd {w : World} {g ge : Nat} {L : List (List UInt8)} {ok : Bool} (n : E) (h : Rd w ge L ok) (hg : ge < g) : Rd (((((((((((w.setCell ⟨g, 0, none⟩ (.int .i64 n.kind)).setCell ⟨g, 1, none⟩ (.int .i64 n.day)).setCell ⟨g, 2, none⟩ (.int .u32 n.key)).setCell ⟨g, 3, none⟩ (.int .i64 n.loan)).setCell ⟨g, 4, none⟩ (.int .i64 n.amount)).setCell ⟨g, 5, none⟩ (.float .f64 n.rate)).setCell ⟨g, 6, none⟩ (.float .f64 n.income)).setCell ⟨g, 7, none⟩ (.bool n.sub)).setCell ⟨g, 8, none⟩ (.int .i64 n.status)).setCell ⟨g, 9, none⟩ (.int .i64 n.plan)).setCell ⟨g, 10, none⟩ (.int .i64 n.family)) ge L ok := by
  have hf : ∀ (W : World) i v, Fr (fun k => k = g) W (W.setCell ⟨g, i, none⟩ v) := fun W i v => Fr.set (P := fun k => k = g) W rfl i v
  exact h.fr (P := fun k => k = g) (((((((((((hf _ 0 (.int .i64 n.kind)).trans (hf _ 1 (.int .i64 n.day))).trans (hf _ 2 (.int .u32 n.key))).trans (hf _ 3 (.int .i64 n.loan))).trans (hf _ 4 (.int .i64 n.amount))).trans (hf _ 5 (.float .f64 n.rate))).trans (hf _ 6 (.float .f64 n.income))).trans (hf _ 7 (.bool n.sub))).trans (hf _ 8 (.int .i64 n.status))).trans (hf _ 9 (.int .i64 n.plan))).trans (hf _ 10 (.int .i64 n.family))) fun k hk => by omega
theorem set_ev_fr {w : World} {g : Nat} (n : E) {P : Nat → Prop} (hP : P g) : Fr P w (((((((((((w.setCell ⟨g, 0, none⟩ (.int .i64 n.kind)).setCell ⟨g, 1, none⟩ (.int .i64 n.day)).setCell ⟨g, 2, none⟩ (.int .u32 n.key)).setCell ⟨g, 3, none⟩ (.int .i64 n.loan)).setCell ⟨g, 4, none⟩ (.int .i64 n.amount)).setCell ⟨g, 5, none⟩ (.float .f64 n.rate)).setCell ⟨g, 6, none⟩ (.float .f64 n.income)).setCell ⟨g, 7, none⟩ (.bool n.sub)).setCell ⟨g, 8, none⟩ (.int .i64 n.status)).setCell ⟨g, 9, none⟩ (.int .i64 n.plan)).setCell ⟨g, 10, none⟩ (.int .i64 n.family)) := by
  have hf : ∀ (W : World) i v, Fr P W (W.setCell ⟨g, i, none⟩ v) := fun W i v => Fr.set W hP i v
  exact (((((((((((hf _ 0 (.int .i64 n.kind)).trans (hf _ 1 (.int .i64 n.day))).trans (hf _ 2 (.int .u32 n.key))).trans (hf _ 3 (.int .i64 n.loan))).trans (hf _ 4 (.int .i64 n.amount))).trans (hf _ 5 (.float .f64 n.rate))).trans (hf _ 6 (.float .f64 n.income))).trans (hf _ 7 (.bool n.sub))).trans (hf _ 8 (.int .i64 n.status))).trans (hf _ 9 (.int .i64 n.plan))).trans (hf _ 10 (.int .i64 n.family)))
theorem Fr.drew {P : Nat → Prop} {w a : World} (h : Fr P w a) : Fr P w a.drew := ⟨h.io.drew, h.same⟩
theorem set_kp {w : World} {g : Nat} {z : E} (a b : Int) (h : Blk w g 25 z.cells) : Blk ((w.setCell ⟨g, 0, none⟩ (.int .i64 a)).setCell ⟨g, 9, none⟩ (.int .i64 b)) g 25 ({ z with kind := a, plan := b } : E).cells := (h.set_ 0 (.int .i64 a)).set_ 9 (.int .i64 b)
set_option maxRecDepth 20000 in
set_option maxHeartbeats 16000000 in
theorem event_calls (b g : Nat) (L : List (List UInt8)) (ok : Bool) (key : Int) (hL : Short L) (w : World) (hR : Rd w g L ok) (hG : GlB b w) (hT : ∀ W, Below b w W → W.cell? ⟨5, 15, none⟩ = some (.int .u8 4)) (hbg : b ≤ g) :
    Calls Tryz.prog 24 #[.pointer (some ⟨g, 0, none⟩), .int .u32 key] w fun r w' => ∃ e : E, r = .returned e.v ∧ Rd w' g (evR key L ok).2.1 (evR key L ok).2.2 ∧ Fr (fun k => k = g) w w' ∧ ((evR key L ok).2.2 = true → e = (evR key L ok).1) := by
  obtain ⟨V, hV⟩ : ∃ V, evR key L ok = V := ⟨_, rfl⟩
  have HV := Lib.hid hV
  rw [hV]
  clear hV
  have hlt := hR.lt
  have hal := (Below.refl w.heap.size w).alloc (Nat.le_refl _) (.cells (⟨0, 0, 0, 0, 0, 0, 0, false, 0, 0, 0⟩ : E).cells 25)
  have hR0 := hR.below hal
  have HZ0 := Lib.hid (Blk.new w 25 (⟨0, 0, 0, 0, 0, 0, 0, false, 0, 0, 0⟩ : E).cells)
  have HD := Lib.hid (day_calls b g L ok hL _ hR0 (hG.step (hal.mono (by omega))) hbg)
  have HF0 := Lib.hid (Fr.of (P := fun k => k = g) hal)
  have HG := Lib.hid (fun W (hF : Fr (fun k => k = g) w W) => hG.fr hF (by omega) (fun k hk => by omega))
  have HT := Lib.hid (fun W (hF : Fr (fun k => k = g) w W) W2 (hB : Below b W W2) => hT W2 ((hF.below (by omega) (fun k hk => by omega)).trans hB))
  have HLt := Lib.hid hlt
  have HL := Lib.hid hL
  have hst : ∀ (a : Addr) (n : Nat) (W : World), (store a (.float .f64 n)).run Tryz.prog W = match W.cell? a with
      | some _ => if W.frozen? a then .halt (.unsupported (.unsafePointer "a write to bytes that a string shares")) W else .ok () (W.setCell a (.float .f64 n))
      | none => match World.farStore Tryz.prog W a (.float .f64 n) (Mode.plain == Mode.atomic) with | .ok (w', _) => .ok () w' | .error h => .halt h W := fun _ _ _ => rfl
  clear hal hR hG hT hlt hR0 hL
  go_enter Tryz.func24, Tryz.ntmps24
  go_upto_region 1 with fail
  generalize w.alloc (.cells #[.int .i64 0, .int .i64 0, .int .u32 0, .int .i64 0, .int .i64 0, .float .f64 0, .float .f64 0, .bool false, .int .i64 0, .int .i64 0, .int .i64 0] 25) = w0 at *
  go_wp2_with fail
  refine HD.out.mono ?_
  rintro r w1 ⟨d, rfl, hR1, hF1, hd⟩
  have HF1 := Lib.hid (HF0.out.trans hF1)
  have HZ1 := Lib.hid (hF1.blk HZ0.out (by have := HLt.out; omega))
  have HR1 := Lib.hid hR1
  have HDv := Lib.hid hd
  clear hR1 hF1 hd
  go_upto_region 2 with fail
  have hal2 := (Below.refl w1.heap.size w1).alloc (Nat.le_refl _) (.cells (⟨0, d, key, 0, 0, 0, 0, false, 0, 0, 0⟩ : E).cells 25)
  have HE2 := Lib.hid (Blk.new w1 25 (⟨0, d, key, 0, 0, 0, 0, false, 0, 0, 0⟩ : E).cells)
  have HR2 := Lib.hid (HR1.out.below hal2)
  have HZ2 := Lib.hid (HZ1.out.below hal2)
  have HF2 := Lib.hid (HF1.out.trans (Fr.of hal2))
  clear hal2
  generalize w1.alloc (.cells #[.int .i64 0, .int .i64 d, .int .u32 key, .int .i64 0, .int .i64 0, .float .f64 0, .float .f64 0, .bool false, .int .i64 0, .int .i64 0, .int .i64 0] 25) = w2 at *
  obtain ⟨ge, hge⟩ : ∃ ge, w1.heap.size = ge := ⟨_, rfl⟩
  obtain ⟨g0, hg0⟩ : ∃ g0, w.heap.size = g0 := ⟨_, rfl⟩
  have HGe : Hid (g < g0 ∧ g0 < ge ∧ g0 = w.heap.size) := Lib.hid ⟨by rw [← hg0]; exact HLt.out, by rw [← hg0, ← hge]; exact HZ1.out.lt, hg0.symm⟩
  rw [hge] at HE2
  rw [hg0] at HZ2
  rw [hge, hg0]
  clear hge hg0
  obtain ⟨R, hRt⟩ : ∃ R, L.tail = R := ⟨_, rfl⟩
  have HLr : Hid (Short R) := Lib.hid (by rw [← hRt]; exact HL.out.tail)
  have HRt := Lib.hid hRt
  rw [hRt] at HR2
  clear hRt
  have hbk := HR2.out
  obtain ⟨p, c, hb, hws⟩ := hbk.lies
  have c0 : w2.cell? ⟨g, 0, none⟩ = some (.slice p R.length c) := hb.cell 0
  have HJ := Lib.hid (join_calls R HLr.out w2 g p c hws)
  have hjl : (Lib.join R [32]).length + 1 ≤ 9223372036854775807 := by
    have hlen := join_len [32] 1000000 R HLr.out.2
    have hbig : R.length * (1000000 + [32].length) ≤ 1000000 * 1000001 := Nat.mul_le_mul HLr.out.1 (by decide)
    omega
  have hadd := fun W => Vw.add_run (Lib.join R [32]) [32] hjl W
  obtain ⟨J, hJ⟩ : ∃ J, Lib.join R [32] = J := ⟨_, rfl⟩
  have HJv := Lib.hid hJ
  rw [hJ] at HJ hadd
  clear hb hbk hws hjl hJ
  go_wp2_with fail
  refine HJ.out.mono ?_
  rintro r w3 ⟨rfl, hb3⟩
  have HE3 := Lib.hid (HE2.out.below hb3)
  have HR3 := Lib.hid (HR2.out.below hb3)
  have HZ3 := Lib.hid (HZ2.out.below hb3)
  have HF3 := Lib.hid (HF2.out.trans (Fr.of hb3))
  clear hb3 c0
  go_upto_region 3 with fail
  have hal4 := (Below.refl w3.heap.size w3).alloc (Nat.le_refl _) (.cells #[.string (str (J ++ [32]))] 9)
  have HS4 : Hid ((w3.alloc (.cells #[.string (str (J ++ [32]))] 9)).cell? ⟨w3.heap.size, 0, none⟩ = some (.string (str (J ++ [32])))) := Lib.hid ((Blk.new w3 9 #[.string (str (J ++ [32]))]).cell 0)
  have HE4 := Lib.hid (HE3.out.below hal4)
  have HR4 := Lib.hid (HR3.out.below hal4)
  have HZ4 := Lib.hid (HZ3.out.below hal4)
  have HF4 := Lib.hid (HF3.out.trans (Fr.of hal4))
  clear hal4 hadd
  generalize w3.alloc (.cells #[.string (str (J ++ [32]))] 9) = w4 at *
  generalize w3.heap.size = gr at *
  have HIx := Lib.hid (idx_48 (.pointer (some ⟨gr, 0, none⟩)) (headB (J ++ [32])) w4 (HG.out w4 HF4.out).now (fun f W hf hB => pre_calls f hf gr (J ++ [32]) W (cell_below HS4.out hB)))
  go_wp2_with fail
  refine HIx.out.mono ?_
  rintro r w5 ⟨rfl, hb5⟩
  have HE5 := Lib.hid (HE4.out.below hb5)
  have HR5 := Lib.hid (HR4.out.below hb5)
  have HZ5 := Lib.hid (HZ4.out.below hb5)
  have HF5 := Lib.hid (HF4.out.trans (Fr.of hb5))
  clear hb5
  have hfind := fIdx_find (headB (J ++ [32])) forms 0
  cases hfd : forms.find? (headB (J ++ [32])) with
  | none =>
    rw [hfd] at hfind
    simp only at hfind
    rw [hfind]
    have HVn : Hid (V = (⟨0, dayN (hd L), key, 0, 0, 0, 0, false, 0, 0, 0⟩, R, false)) := Lib.hid (by
      rw [← HV.out]
      unfold evR
      rw [HRt.out, HJv.out, hfd])
    have hbk := HR5.out
    obtain ⟨p5, q5, hb, _⟩ := hbk.lies
    have c1 : w5.cell? ⟨g, 1, none⟩ = some (.bool (ok && dayB (hd L))) := hb.cell 1
    have f1 := hb.frozen 1
    clear hb hbk hfind hfd
    go_upto_region 6 with fail
    have HR6 := Lib.hid (HR5.out.setOk false)
    have HE6 := Lib.hid (blk_put HE5.out (by have := HGe.out; omega : ge ≠ g) 1 (.bool false))
    have HZ6 := Lib.hid (blk_put HZ5.out (by have := HGe.out; omega : g0 ≠ g) 1 (.bool false))
    have HF6 := Lib.hid (HF5.out.trans (Fr.set (P := fun k => k = g) w5 rfl 1 (.bool false)))
    clear c1 f1
    generalize w5.setCell ⟨g, 1, none⟩ (.bool false) = w6 at *
    have k0 : w6.cell? ⟨ge, 0, none⟩ = some (.int .i64 0) := HE6.out.cell 0
    have z0 : w6.cell? ⟨g0, 0, none⟩ = some (.int .i64 0) := HZ6.out.cell 0
    have r0 := HZ6.out.frozen 0
    have k1 : w6.cell? ⟨ge, 1, none⟩ = some (.int .i64 d) := HE6.out.cell 1
    have z1 : w6.cell? ⟨g0, 1, none⟩ = some (.int .i64 0) := HZ6.out.cell 1
    have r1 := HZ6.out.frozen 1
    have k2 : w6.cell? ⟨ge, 2, none⟩ = some (.int .u32 key) := HE6.out.cell 2
    have z2 : w6.cell? ⟨g0, 2, none⟩ = some (.int .u32 0) := HZ6.out.cell 2
    have r2 := HZ6.out.frozen 2
    have k3 : w6.cell? ⟨ge, 3, none⟩ = some (.int .i64 0) := HE6.out.cell 3
    have z3 : w6.cell? ⟨g0, 3, none⟩ = some (.int .i64 0) := HZ6.out.cell 3
    have r3 := HZ6.out.frozen 3
    have k4 : w6.cell? ⟨ge, 4, none⟩ = some (.int .i64 0) := HE6.out.cell 4
    have z4 : w6.cell? ⟨g0, 4, none⟩ = some (.int .i64 0) := HZ6.out.cell 4
    have r4 := HZ6.out.frozen 4
    have k5 : w6.cell? ⟨ge, 5, none⟩ = some (.float .f64 0) := HE6.out.cell 5
    have z5 : w6.cell? ⟨g0, 5, none⟩ = some (.float .f64 0) := HZ6.out.cell 5
    have r5 := HZ6.out.frozen 5
    have k6 : w6.cell? ⟨ge, 6, none⟩ = some (.float .f64 0) := HE6.out.cell 6
    have z6 : w6.cell? ⟨g0, 6, none⟩ = some (.float .f64 0) := HZ6.out.cell 6
    have r6 := HZ6.out.frozen 6
    have k7 : w6.cell? ⟨ge, 7, none⟩ = some (.bool false) := HE6.out.cell 7
    have z7 : w6.cell? ⟨g0, 7, none⟩ = some (.bool false) := HZ6.out.cell 7
    have r7 := HZ6.out.frozen 7
    have k8 : w6.cell? ⟨ge, 8, none⟩ = some (.int .i64 0) := HE6.out.cell 8
    have z8 : w6.cell? ⟨g0, 8, none⟩ = some (.int .i64 0) := HZ6.out.cell 8
    have r8 := HZ6.out.frozen 8
    have k9 : w6.cell? ⟨ge, 9, none⟩ = some (.int .i64 0) := HE6.out.cell 9
    have z9 : w6.cell? ⟨g0, 9, none⟩ = some (.int .i64 0) := HZ6.out.cell 9
    have r9 := HZ6.out.frozen 9
    have k10 : w6.cell? ⟨ge, 10, none⟩ = some (.int .i64 0) := HE6.out.cell 10
    have z10 : w6.cell? ⟨g0, 10, none⟩ = some (.int .i64 0) := HZ6.out.cell 10
    have r10 := HZ6.out.frozen 10
    go_wp2_with fail
    have hA := set_ev ⟨0, d, key, 0, 0, 0, 0, false, 0, 0, 0⟩ HZ6.out
    have hAR := set_ev_rd ⟨0, d, key, 0, 0, 0, 0, false, 0, 0, 0⟩ HR6.out HGe.out.1
    have hAF := HF6.out.new (set_ev_fr (w := w6) (g := g0) (P := fun k => k = g ∨ k = g0) ⟨0, d, key, 0, 0, 0, 0, false, 0, 0, 0⟩ (.inr rfl)) (by rw [← HGe.out.2.2]; exact Nat.le_refl _)
    (try simp only [Exit.inBlock, Exit.then])
    refine bodyPost_ret (results_cell_row (p := 4) (ty := 25) rfl _ _ g0 25 _ _ _ rfl hA.heap Tryz.underlying25 rfl (by kernel_rfl)) rfl ?_
    rw [HVn.out]
    exact ⟨_, rfl, hAR, hAF, fun h => by cases h⟩
  | some f =>
    rw [hfd] at hfind
    simp only at hfind
    obtain ⟨i, hi, hfi⟩ := hfind
    rw [hi, Nat.zero_add]
    have hmem := List.mem_of_getElem? hfi
    have hi11 : i < 11 := (List.getElem?_eq_some_iff.1 hfi).1
    have hgl := ((HG.out w5 HF5.out).now).forms i f hfi
    have a0 : w5.cell? ⟨0, i * 4, none⟩ = some (.string (str f.words)) := hgl 0 _ rfl
    have a1 : w5.cell? ⟨0, i * 4 + 1, none⟩ = some (.int .i64 f.kind) := hgl 1 _ rfl
    have a2 : w5.cell? ⟨0, i * 4 + 2, none⟩ = some (.int .i64 f.plan) := hgl 2 _ rfl
    have a3 : w5.cell? ⟨0, i * 4 + 3, none⟩ = some (.string (str f.has)) := hgl 3 _ rfl
    have HVs : Hid (V = getAll f.has ⟨f.kind, dayN (hd L), key, 0, 0, 0, 0, false, 0, f.plan, 0⟩ (R.drop (cutC 32 f.words).length) ((ok && dayB (hd L)) && decide ((cutC 32 f.words).length ≤ R.length))) := Lib.hid (by
      rw [← HV.out]
      unfold evR
      rw [HRt.out, HJv.out, hfd])
    have HHas := Lib.hid (has_letters f hmem)
    have HWd := Lib.hid (words_short f hmem)
    have hi0 : (0 : Int) ≤ (i : Int) := by omega
    have hi1 : (i : Int) < 11 := by omega
    clear hgl hfd hmem hfi hi
    go_upto_region 8 with fail
    have hal7 := (Below.refl w5.heap.size w5).alloc (Nat.le_refl _) (.cells f.cells 48)
    have HX7 := Lib.hid (Blk.new w5 48 f.cells)
    have HE7 := Lib.hid (HE5.out.below hal7)
    have HR7 := Lib.hid (HR5.out.below hal7)
    have HZ7 := Lib.hid (HZ5.out.below hal7)
    have HF7 := Lib.hid (HF5.out.trans (Fr.of hal7))
    have HGx : Hid (ge < w5.heap.size) := Lib.hid HE5.out.lt
    clear hal7 a0 a1 a2 a3
    generalize w5.alloc (.cells f.cells 48) = w7 at *
    generalize w5.heap.size = gx at *
    have b1 : w7.cell? ⟨gx, 1, none⟩ = some (.int .i64 f.kind) := HX7.out.cell 1
    have b2 : w7.cell? ⟨gx, 2, none⟩ = some (.int .i64 f.plan) := HX7.out.cell 2
    have e0 : w7.cell? ⟨ge, 0, none⟩ = some (.int .i64 0) := HE7.out.cell 0
    have e9 : w7.cell? ⟨ge, 9, none⟩ = some (.int .i64 0) := HE7.out.cell 9
    have fe0 := HE7.out.frozen 0
    have fe9 := HE7.out.frozen 9
    have hgx : ¬ gx = ge := by have := HGx.out; omega
    have hgx2 : ¬ ge = gx := by have := HGx.out; omega
    go_cut [] from 32 to 37 (fun W => Blk W ge 25 (⟨f.kind, d, key, 0, 0, 0, 0, false, 0, f.plan, 0⟩ : E).cells ∧ Fr (fun k => k = ge) w7 W)
    case first =>
      go_region
      all_goals (go_wp2_with fail)
      all_goals go_meet
      all_goals case rel => exact ⟨⟨(set_kp f.kind f.plan HE7.out).heap⟩, ((Fr.set (P := fun k => k = ge) w7 rfl 0 _).trans (Fr.set (P := fun k => k = ge) _ rfl 9 _)).drew⟩
    case rest =>
      obtain ⟨hE8, hF8⟩ := hcut
      have HE8 := Lib.hid hE8
      have hR8 := HR7.out.fr hF8 (fun k hk => by have := HGe.out; omega)
      have HZ8 := Lib.hid (hF8.blk HZ7.out (by have := HGe.out; omega))
      have HX8 := Lib.hid (hF8.blk HX7.out hgx)
      have HF8 := Lib.hid (HF7.out.new (hF8.mono fun k hk => .inr hk) (by have := HGe.out; omega))
      have HR8 := Lib.hid hR8
      have b0 : wc.cell? ⟨gx, 0, none⟩ = some (.string (str f.words)) := HX8.out.cell 0
      have HCu := Lib.hid (cut_calls f.words (by have := HWd.out; omega) wc)
      clear hE8 hF8 hR8 b1 b2 e0 e9 fe0 fe9 hi0 hi1 hgx hgx2
      obtain ⟨n0, hn0⟩ : ∃ n0, (cutC 32 f.words).length = n0 := ⟨_, rfl⟩
      have HNv := Lib.hid hn0
      have hn1 : n0 ≤ 101 := by
        have := (cutC_len 32 f.words).2
        have := HWd.out
        omega
      rw [hn0] at HCu
      clear hn0
      go_wp2_with fail
      refine HCu.out.mono ?_
      rintro r w9 ⟨⟨q, cq, rfl, _⟩, hb9⟩
      have HE9 := Lib.hid (HE8.out.below hb9)
      have HR9 := Lib.hid (HR8.out.below hb9)
      have HZ9 := Lib.hid (HZ8.out.below hb9)
      have HX9 := Lib.hid (HX8.out.below hb9)
      have HF9 := Lib.hid (HF8.out.trans (Fr.of hb9))
      clear hb9 b0
      obtain ⟨ok1, hok1⟩ : ∃ ok1, (ok && dayB (hd L)) = ok1 := ⟨_, rfl⟩
      have HOk1 := Lib.hid hok1
      rw [hok1] at HR9
      clear hok1
      go_wp2_with fail
      go_loopw [42] (fun iv wr => ∃ k : Nat, k ≤ n0 ∧ iv = .int .i64 (k : Int) ∧ Rd wr g (R.drop k) (ok1 && decide (k ≤ R.length)) ∧ Fr (fun k => k = g) w9 wr) (fun iv _ => n0 - (RowKit.intOf iv).toNat)
      case atStart => exact ⟨0, Nat.zero_le _, rfl, by simpa using HR9.out, Fr.refl _ _⟩
      case round =>
        obtain ⟨k, hk, rfl, hRk, hFk⟩ := hrel
        have HRk := Lib.hid hRk
        have HFk := Lib.hid hFk
        by_cases h2 : k < n0
        · have HNx := Lib.hid (next_calls g (R.drop k) _ (by rw [List.length_drop]; have := HLr.out.1; omega) wr hRk)
          have HSt : Hid (((ok1 && decide (k ≤ R.length)) && !(R.drop k).isEmpty) = (ok1 && decide (k + 1 ≤ R.length)) ∧ (R.drop k).tail = R.drop (k + 1)) := Lib.hid ⟨by
            cases ok1 with
            | false => rfl
            | true =>
              by_cases hkl : k + 1 ≤ R.length
              · have h1 : R.drop k ≠ [] := by intro h; have := congrArg List.length h; simp at this; omega
                simp [hkl, h1, show k ≤ R.length by omega]
              · have h1 : R.drop k = [] := by rw [List.drop_eq_nil_iff]; omega
                simp [hkl, h1], by rw [List.tail_drop]⟩
          clear hRk hFk
          go_wp2_with fail
          refine HNx.out.mono ?_
          rintro r w10 ⟨rfl, hR10, hF10⟩
          have HR10 : Hid (Rd w10 g (R.drop (k + 1)) (ok1 && decide (k + 1 ≤ R.length))) := Lib.hid (by rw [← HSt.out.1, ← HSt.out.2]; exact hR10)
          have HF10 := Lib.hid (HFk.out.trans hF10)
          clear hR10 hF10
          go_wp2_with fail
          go_roundw
          case rel => exact ⟨k + 1, by omega, by go_num, HR10.out, HF10.out⟩
          case measure => simp [RowKit.intOf]; omega
        · obtain rfl : n0 = k := by omega
          have HE10 := Lib.hid (hFk.blk HE9.out (by have := HGe.out; omega))
          have HX10 := Lib.hid (hFk.blk HX9.out (by have := HGe.out; have := HGx.out; omega))
          have HZ10 := Lib.hid (hFk.blk HZ9.out (by have := HGe.out; omega))
          have HF10 := Lib.hid (HF9.out.trans hFk)
          have b3 : wr.cell? ⟨gx, 3, none⟩ = some (.string (str f.has)) := HX10.out.cell 3
          have hsz : (str f.has).size = f.has.length := Vw.str_size _
          clear hRk hFk
          generalize wr = w10 at *
          obtain ⟨st, hst2⟩ : ∃ st : Nat → E × List (List UInt8) × Bool, ∀ k, st k = getAll (f.has.take k) ⟨f.kind, dayN (hd L), key, 0, 0, 0, 0, false, 0, f.plan, 0⟩ (R.drop n0) (ok1 && decide (n0 ≤ R.length)) := ⟨_, fun _ => rfl⟩
          have HSt0 : Hid (st 0 = (⟨f.kind, dayN (hd L), key, 0, 0, 0, 0, false, 0, f.plan, 0⟩, R.drop n0, ok1 && decide (n0 ≤ R.length))) := Lib.hid (by rw [hst2]; rfl)
          have HStS : Hid (∀ k (h : k < f.has.length), st (k + 1) = (getE (f.has[k]'h).toNat (st k).1 (hd (st k).2.1), (st k).2.1.tail, (st k).2.2 && getB (f.has[k]'h).toNat (hd (st k).2.1)) ∧ Short (st k).2.1) := Lib.hid (fun k h => by
            rw [hst2, hst2, List.take_succ_eq_append_getElem h, getAll_snoc]
            refine ⟨rfl, getAll_short _ _ _ _ ⟨?_, fun x hx => HLr.out.2 x (List.mem_of_mem_drop hx)⟩⟩
            rw [List.length_drop]
            have := HLr.out.1
            omega)
          have HStE : Hid (st f.has.length = V) := Lib.hid (by rw [hst2, List.take_length, HVs.out, HOk1.out, HNv.out])
          have HD0 : Hid ((st 0).2.2 = true → (⟨f.kind, d, key, 0, 0, 0, 0, false, 0, f.plan, 0⟩ : E) = (st 0).1) := Lib.hid (fun h => by
            rw [HSt0.out] at h ⊢
            simp only [Bool.and_eq_true] at h
            rw [HDv.out (by rw [HOk1.out]; exact h.1)])
          have HR10 : Hid (Rd w10 g (st 0).2.1 (st 0).2.2) := Lib.hid (by rw [HSt0.out]; exact HRk.out)
          have hln : (f.has.length : Int) ≤ 4 := by have := HHas.out.1; omega
          clear hst2
          go_wp2_with fail
          go_loopw [50] (fun iv wr => ∃ (k : Nat) (e : E), k ≤ f.has.length ∧ iv = .int .i64 (k : Int) ∧ Rd wr g (st k).2.1 (st k).2.2 ∧ Blk wr ge 25 e.cells ∧ Fr (fun k => k = g ∨ k = ge) w10 wr ∧ ((st k).2.2 = true → e = (st k).1)) (fun iv _ => f.has.length - (RowKit.intOf iv).toNat)
          case atStart => exact ⟨0, _, Nat.zero_le _, rfl, HR10.out, HE10.out, Fr.refl _ _, HD0.out⟩
          case round =>
            obtain ⟨k, e, hk, rfl, hRk, hEk, hFk, hek⟩ := hrel
            have HEk := Lib.hid hek
            have HRk := Lib.hid hRk
            have HFk := Lib.hid hFk
            have HEb := Lib.hid hEk
            have HFw := Lib.hid (HF10.out.new hFk (by have := HGe.out; omega))
            by_cases h2 : k < f.has.length
            · obtain ⟨hs1, hs2⟩ := HStS.out k h2
              have HS1 := Lib.hid hs1
              have hcx := HHas.out.2 _ (List.getElem_mem h2)
              have HGt : Hid (Calls Tryz.prog 50 #[.pointer (some ⟨g, 0, none⟩), .int .u8 (((str f.has)[k]'(by rw [Vw.str_size]; exact h2)).toNat : Int), .pointer (some ⟨ge, 0, none⟩)] wr fun r w' => r = .returned (.tuple #[]) ∧ ∃ e' : E, Rd w' g (st (k + 1)).2.1 (st (k + 1)).2.2 ∧ Blk w' ge 25 e'.cells ∧ Fr (fun k => k = g ∨ k = ge) wr w' ∧ ((st (k + 1)).2.2 = true → e' = getE (f.has[k]'h2).toNat e (hd (st k).2.1))) := Lib.hid (by
                rw [hs1]
                exact get_calls _ hcx b g ge _ _ e hs2 wr hRk hEk (by have := HGe.out; omega) (HG.out wr HFw.out) (HT.out wr HFw.out) hbg)
              have b3 : wr.cell? ⟨gx, 3, none⟩ = some (.string (str f.has)) := (hFk.blk HX10.out (by have := HGe.out; have := HGx.out; omega)).cell 3
              have hk0 : (0 : Int) ≤ (k : Int) := by omega
              have hk1 : (k : Int) < (f.has.length : Int) := by omega
              have hszI : (((str f.has).size : Nat) : Int) = (f.has.length : Int) := by rw [hsz]
              clear hRk hEk hFk hek hs1 hs2 hcx
              go_wp2_with fail
              refine HGt.out.mono ?_
              rintro r w11 ⟨rfl, e', hR11, hE11, hF11, he11⟩
              have HR11 := Lib.hid hR11
              have HE11 := Lib.hid hE11
              have HF11 := Lib.hid (HFk.out.trans hF11)
              have HEe : Hid ((st (k + 1)).2.2 = true → e' = (st (k + 1)).1) := Lib.hid (fun h => by
                rw [he11 h]
                rw [HS1.out] at h ⊢
                simp only [Bool.and_eq_true] at h
                rw [HEk.out h.1])
              clear hR11 hE11 hF11 he11
              go_wp2_with fail
              go_roundw
              case rel => exact ⟨k + 1, e', by omega, by go_num, HR11.out, HE11.out, HF11.out, HEe.out⟩
              case measure => simp [RowKit.intOf]; omega
            · obtain rfl : f.has.length = k := by omega
              have HZr := Lib.hid (hFk.blk HZ10.out (by have := HGe.out; omega))
              have HRV : Hid (Rd wr g V.2.1 V.2.2) := Lib.hid (by rw [← HStE.out]; exact hRk)
              have HEV : Hid (V.2.2 = true → e = V.1) := Lib.hid (by rw [← HStE.out]; exact hek)
              have k0 : wr.cell? ⟨ge, 0, none⟩ = some (.int .i64 e.kind) := HEb.out.cell 0
              have z0 : wr.cell? ⟨g0, 0, none⟩ = some (.int .i64 0) := HZr.out.cell 0
              have r0 := HZr.out.frozen 0
              have k1 : wr.cell? ⟨ge, 1, none⟩ = some (.int .i64 e.day) := HEb.out.cell 1
              have z1 : wr.cell? ⟨g0, 1, none⟩ = some (.int .i64 0) := HZr.out.cell 1
              have r1 := HZr.out.frozen 1
              have k2 : wr.cell? ⟨ge, 2, none⟩ = some (.int .u32 e.key) := HEb.out.cell 2
              have z2 : wr.cell? ⟨g0, 2, none⟩ = some (.int .u32 0) := HZr.out.cell 2
              have r2 := HZr.out.frozen 2
              have k3 : wr.cell? ⟨ge, 3, none⟩ = some (.int .i64 e.loan) := HEb.out.cell 3
              have z3 : wr.cell? ⟨g0, 3, none⟩ = some (.int .i64 0) := HZr.out.cell 3
              have r3 := HZr.out.frozen 3
              have k4 : wr.cell? ⟨ge, 4, none⟩ = some (.int .i64 e.amount) := HEb.out.cell 4
              have z4 : wr.cell? ⟨g0, 4, none⟩ = some (.int .i64 0) := HZr.out.cell 4
              have r4 := HZr.out.frozen 4
              have k5 : wr.cell? ⟨ge, 5, none⟩ = some (.float .f64 e.rate) := HEb.out.cell 5
              have z5 : wr.cell? ⟨g0, 5, none⟩ = some (.float .f64 0) := HZr.out.cell 5
              have r5 := HZr.out.frozen 5
              have k6 : wr.cell? ⟨ge, 6, none⟩ = some (.float .f64 e.income) := HEb.out.cell 6
              have z6 : wr.cell? ⟨g0, 6, none⟩ = some (.float .f64 0) := HZr.out.cell 6
              have r6 := HZr.out.frozen 6
              have k7 : wr.cell? ⟨ge, 7, none⟩ = some (.bool e.sub) := HEb.out.cell 7
              have z7 : wr.cell? ⟨g0, 7, none⟩ = some (.bool false) := HZr.out.cell 7
              have r7 := HZr.out.frozen 7
              have k8 : wr.cell? ⟨ge, 8, none⟩ = some (.int .i64 e.status) := HEb.out.cell 8
              have z8 : wr.cell? ⟨g0, 8, none⟩ = some (.int .i64 0) := HZr.out.cell 8
              have r8 := HZr.out.frozen 8
              have k9 : wr.cell? ⟨ge, 9, none⟩ = some (.int .i64 e.plan) := HEb.out.cell 9
              have z9 : wr.cell? ⟨g0, 9, none⟩ = some (.int .i64 0) := HZr.out.cell 9
              have r9 := HZr.out.frozen 9
              have k10 : wr.cell? ⟨ge, 10, none⟩ = some (.int .i64 e.family) := HEb.out.cell 10
              have z10 : wr.cell? ⟨g0, 10, none⟩ = some (.int .i64 0) := HZr.out.cell 10
              have r10 := HZr.out.frozen 10
              clear hRk hEk hFk hek
              go_wp2_with fail
              have hA := set_ev e HZr.out
              have hAR := set_ev_rd e HRV.out HGe.out.1
              have hAF := HFw.out.new (set_ev_fr (w := wr) (g := g0) (P := fun k => k = g ∨ k = g0) e (.inr rfl)) (by rw [← HGe.out.2.2]; exact Nat.le_refl _)
              (try simp only [Exit.inBlock, Exit.then])
              refine bodyPost_ret (results_cell_row (p := 4) (ty := 25) rfl _ _ g0 25 _ _ _ rfl hA.heap Tryz.underlying25 rfl (by kernel_rfl)) rfl ?_
              exact ⟨e, rfl, hAR, hAF, HEV.out⟩
end Go.Proofs.YtkcjgmicoifhcaaGreatDoor.Cn

/- C14: The reader's keys; what a line is read as. (Printed by gen_c14.py.) -/
namespace Go.Proofs.YtkcjgmicoifhcaaGreatDoor.Cn
open Go.RowKit Go.Sort Go.Lib Go.Shelf
open Vw (Tab str Blk)
open Ev (E C fineC)
attribute [local go_sem ↓] Go.wp_at_zero Go.wp_at_succ

/-- A key's number, and whether it is one. -/
def keyV (x : List UInt8) : Int := IntKind.u32.wrap (max (numP x) 0)
def keyB (x : List UInt8) : Bool := numB x && decide (max (numP x) 0 ≤ 4294967295)
set_option maxRecDepth 20000 in
set_option maxHeartbeats 4000000 in
theorem key_calls (b g : Nat) (L : List (List UInt8)) (ok : Bool) (hL : Short L) (w : World) (hR : Rd w g L ok) (hG : GlB b w) (hbg : b ≤ g) :
    Calls Tryz.prog 22 #[.pointer (some ⟨g, 0, none⟩)] w fun e w' => e = .returned (.int .u32 (keyV (hd L))) ∧ Rd w' g L.tail (ok && keyB (hd L)) ∧ Fr (fun k => k = g) w w' := by
  have HN := Lib.hid (num_calls b g L ok hL w hR hG hbg)
  obtain ⟨B, hB⟩ : ∃ B, (ok && numB (hd L)) = B := ⟨_, rfl⟩
  have HGB : Hid ((ok && keyB (hd L)) = (B && decide (max (numP (hd L)) 0 ≤ 4294967295))) := Lib.hid (by rw [← hB]; unfold keyB; cases ok <;> simp)
  have HV : Hid (keyV (hd L) = IntKind.u32.wrap (max (numP (hd L)) 0)) := Lib.hid rfl
  rw [HGB.out, HV.out]
  rw [hB] at HN
  clear hB hL hR hG HGB HV
  have hm0 : 0 ≤ max (numP (hd L)) 0 := by omega
  generalize max (numP (hd L)) 0 = n at *
  generalize L.tail = R at *
  by_cases q : n ≤ 4294967295
  · have d : decide (n ≤ 4294967295) = true := decide_eq_true q
    have hwr : IntKind.u32.wrap n = n := by rw [IntKind.wrap_u32]; omega
    rw [d, hwr]
    clear hwr
    cases B with
    | false =>
      go_enter Tryz.func22, Tryz.ntmps22
      go_wp2_with fail
      refine HN.out.mono ?_
      rintro e w1 ⟨rfl, hR1, hF1⟩
      have HR1 := Lib.hid hR1
      have HF1 := Lib.hid hF1
      obtain ⟨p, c, hb, _⟩ := hR1.lies
      have c1 : w1.cell? ⟨g, 1, none⟩ = some (.bool false) := hb.cell 1
      have f1 := hb.frozen 1
      clear hb hR1 hF1
      go_wp2_with fail
      go_ret
      exact ⟨rfl, by first | exact HR1.out.setOk _ | simpa [q] using HR1.out.setOk false, HF1.out.trans (Fr.set (P := fun k => k = g) w1 rfl 1 _)⟩
    | true =>
      go_enter Tryz.func22, Tryz.ntmps22
      go_wp2_with fail
      refine HN.out.mono ?_
      rintro e w1 ⟨rfl, hR1, hF1⟩
      have HR1 := Lib.hid hR1
      have HF1 := Lib.hid hF1
      obtain ⟨p, c, hb, _⟩ := hR1.lies
      have c1 : w1.cell? ⟨g, 1, none⟩ = some (.bool true) := hb.cell 1
      have f1 := hb.frozen 1
      clear hb hR1 hF1
      go_wp2_with fail
      go_ret
      exact ⟨rfl, by first | exact HR1.out.setOk _ | simpa [q] using HR1.out.setOk true, HF1.out.trans (Fr.set (P := fun k => k = g) w1 rfl 1 _)⟩
  · have d : decide (n ≤ 4294967295) = false := decide_eq_false q
    rw [d]
    cases B with
    | false =>
      go_enter Tryz.func22, Tryz.ntmps22
      go_wp2_with fail
      refine HN.out.mono ?_
      rintro e w1 ⟨rfl, hR1, hF1⟩
      have HR1 := Lib.hid hR1
      have HF1 := Lib.hid hF1
      obtain ⟨p, c, hb, _⟩ := hR1.lies
      have c1 : w1.cell? ⟨g, 1, none⟩ = some (.bool false) := hb.cell 1
      have f1 := hb.frozen 1
      clear hb hR1 hF1
      go_wp2_with fail
      go_ret
      exact ⟨rfl, by first | exact HR1.out.setOk _ | simpa [q] using HR1.out.setOk false, HF1.out.trans (Fr.set (P := fun k => k = g) w1 rfl 1 _)⟩
    | true =>
      go_enter Tryz.func22, Tryz.ntmps22
      go_wp2_with fail
      refine HN.out.mono ?_
      rintro e w1 ⟨rfl, hR1, hF1⟩
      have HR1 := Lib.hid hR1
      have HF1 := Lib.hid hF1
      obtain ⟨p, c, hb, _⟩ := hR1.lies
      have c1 : w1.cell? ⟨g, 1, none⟩ = some (.bool true) := hb.cell 1
      have f1 := hb.frozen 1
      clear hb hR1 hF1
      go_wp2_with fail
      go_ret
      exact ⟨rfl, by first | exact HR1.out.setOk _ | simpa [q] using HR1.out.setOk false, HF1.out.trans (Fr.set (P := fun k => k = g) w1 rfl 1 _)⟩
/-- A command in memory. -/
theorem set_in {w : World} {g : Nat} {z : C} (n : E) (h : Blk w g 27 z.cells) : Blk (((((((((((w.setCell ⟨g, 2, none⟩ (.int .i64 n.kind)).setCell ⟨g, 3, none⟩ (.int .i64 n.day)).setCell ⟨g, 4, none⟩ (.int .u32 n.key)).setCell ⟨g, 5, none⟩ (.int .i64 n.loan)).setCell ⟨g, 6, none⟩ (.int .i64 n.amount)).setCell ⟨g, 7, none⟩ (.float .f64 n.rate)).setCell ⟨g, 8, none⟩ (.float .f64 n.income)).setCell ⟨g, 9, none⟩ (.bool n.sub)).setCell ⟨g, 10, none⟩ (.int .i64 n.status)).setCell ⟨g, 11, none⟩ (.int .i64 n.plan)).setCell ⟨g, 12, none⟩ (.int .i64 n.family)) g 27 ({ z with e := n } : C).cells := by
  have e : (((((((((((z.cells.setIfInBounds 2 (.int .i64 n.kind)).setIfInBounds 3 (.int .i64 n.day)).setIfInBounds 4 (.int .u32 n.key)).setIfInBounds 5 (.int .i64 n.loan)).setIfInBounds 6 (.int .i64 n.amount)).setIfInBounds 7 (.float .f64 n.rate)).setIfInBounds 8 (.float .f64 n.income)).setIfInBounds 9 (.bool n.sub)).setIfInBounds 10 (.int .i64 n.status)).setIfInBounds 11 (.int .i64 n.plan)).setIfInBounds 12 (.int .i64 n.family)) = ({ z with e := n } : C).cells := by kernel_rfl
  rw [← e]
  exact (((((((((((h.set_ 2 (.int .i64 n.kind)).set_ 3 (.int .i64 n.day)).set_ 4 (.int .u32 n.key)).set_ 5 (.int .i64 n.loan)).set_ 6 (.int .i64 n.amount)).set_ 7 (.float .f64 n.rate)).set_ 8 (.float .f64 n.income)).set_ 9 (.bool n.sub)).set_ 10 (.int .i64 n.status)).set_ 11 (.int .i64 n.plan)).set_ 12 (.int .i64 n.family))
theorem set_in_fr {w : World} {g : Nat} (n : E) {P : Nat → Prop} (hP : P g) : Fr P w (((((((((((w.setCell ⟨g, 2, none⟩ (.int .i64 n.kind)).setCell ⟨g, 3, none⟩ (.int .i64 n.day)).setCell ⟨g, 4, none⟩ (.int .u32 n.key)).setCell ⟨g, 5, none⟩ (.int .i64 n.loan)).setCell ⟨g, 6, none⟩ (.int .i64 n.amount)).setCell ⟨g, 7, none⟩ (.float .f64 n.rate)).setCell ⟨g, 8, none⟩ (.float .f64 n.income)).setCell ⟨g, 9, none⟩ (.bool n.sub)).setCell ⟨g, 10, none⟩ (.int .i64 n.status)).setCell ⟨g, 11, none⟩ (.int .i64 n.plan)).setCell ⟨g, 12, none⟩ (.int .i64 n.family)) := by
  have hf : ∀ (W : World) i v, Fr P W (W.setCell ⟨g, i, none⟩ v) := fun W i v => Fr.set W hP i v
  exact (((((((((((hf _ 2 (.int .i64 n.kind)).trans (hf _ 3 (.int .i64 n.day))).trans (hf _ 4 (.int .u32 n.key))).trans (hf _ 5 (.int .i64 n.loan))).trans (hf _ 6 (.int .i64 n.amount))).trans (hf _ 7 (.float .f64 n.rate))).trans (hf _ 8 (.float .f64 n.income))).trans (hf _ 9 (.bool n.sub))).trans (hf _ 10 (.int .i64 n.status))).trans (hf _ 11 (.int .i64 n.plan))).trans (hf _ 12 (.int .i64 n.family)))
theorem set_cm {w : World} {g : Nat} {z : C} (n : C) (h : Blk w g 27 z.cells) : Blk ((((((((((((((w.setCell ⟨g, 0, none⟩ (.bool n.undo)).setCell ⟨g, 1, none⟩ (.int .u32 n.key)).setCell ⟨g, 2, none⟩ (.int .i64 n.e.kind)).setCell ⟨g, 3, none⟩ (.int .i64 n.e.day)).setCell ⟨g, 4, none⟩ (.int .u32 n.e.key)).setCell ⟨g, 5, none⟩ (.int .i64 n.e.loan)).setCell ⟨g, 6, none⟩ (.int .i64 n.e.amount)).setCell ⟨g, 7, none⟩ (.float .f64 n.e.rate)).setCell ⟨g, 8, none⟩ (.float .f64 n.e.income)).setCell ⟨g, 9, none⟩ (.bool n.e.sub)).setCell ⟨g, 10, none⟩ (.int .i64 n.e.status)).setCell ⟨g, 11, none⟩ (.int .i64 n.e.plan)).setCell ⟨g, 12, none⟩ (.int .i64 n.e.family)).setCell ⟨g, 13, none⟩ (.int .u32 n.of)) g 27 n.cells := by
  have e : ((((((((((((((z.cells.setIfInBounds 0 (.bool n.undo)).setIfInBounds 1 (.int .u32 n.key)).setIfInBounds 2 (.int .i64 n.e.kind)).setIfInBounds 3 (.int .i64 n.e.day)).setIfInBounds 4 (.int .u32 n.e.key)).setIfInBounds 5 (.int .i64 n.e.loan)).setIfInBounds 6 (.int .i64 n.e.amount)).setIfInBounds 7 (.float .f64 n.e.rate)).setIfInBounds 8 (.float .f64 n.e.income)).setIfInBounds 9 (.bool n.e.sub)).setIfInBounds 10 (.int .i64 n.e.status)).setIfInBounds 11 (.int .i64 n.e.plan)).setIfInBounds 12 (.int .i64 n.e.family)).setIfInBounds 13 (.int .u32 n.of)) = n.cells := by kernel_rfl
  rw [← e]
  exact ((((((((((((((h.set_ 0 (.bool n.undo)).set_ 1 (.int .u32 n.key)).set_ 2 (.int .i64 n.e.kind)).set_ 3 (.int .i64 n.e.day)).set_ 4 (.int .u32 n.e.key)).set_ 5 (.int .i64 n.e.loan)).set_ 6 (.int .i64 n.e.amount)).set_ 7 (.float .f64 n.e.rate)).set_ 8 (.float .f64 n.e.income)).set_ 9 (.bool n.e.sub)).set_ 10 (.int .i64 n.e.status)).set_ 11 (.int .i64 n.e.plan)).set_ 12 (.int .i64 n.e.family)).set_ 13 (.int .u32 n.of))
theorem set_cm_fr {w : World} {g : Nat} (n : C) {P : Nat → Prop} (hP : P g) : Fr P w ((((((((((((((w.setCell ⟨g, 0, none⟩ (.bool n.undo)).setCell ⟨g, 1, none⟩ (.int .u32 n.key)).setCell ⟨g, 2, none⟩ (.int .i64 n.e.kind)).setCell ⟨g, 3, none⟩ (.int .i64 n.e.day)).setCell ⟨g, 4, none⟩ (.int .u32 n.e.key)).setCell ⟨g, 5, none⟩ (.int .i64 n.e.loan)).setCell ⟨g, 6, none⟩ (.int .i64 n.e.amount)).setCell ⟨g, 7, none⟩ (.float .f64 n.e.rate)).setCell ⟨g, 8, none⟩ (.float .f64 n.e.income)).setCell ⟨g, 9, none⟩ (.bool n.e.sub)).setCell ⟨g, 10, none⟩ (.int .i64 n.e.status)).setCell ⟨g, 11, none⟩ (.int .i64 n.e.plan)).setCell ⟨g, 12, none⟩ (.int .i64 n.e.family)).setCell ⟨g, 13, none⟩ (.int .u32 n.of)) := by
  have hf : ∀ (W : World) i v, Fr P W (W.setCell ⟨g, i, none⟩ v) := fun W i v => Fr.set W hP i v
  exact ((((((((((((((hf _ 0 (.bool n.undo)).trans (hf _ 1 (.int .u32 n.key))).trans (hf _ 2 (.int .i64 n.e.kind))).trans (hf _ 3 (.int .i64 n.e.day))).trans (hf _ 4 (.int .u32 n.e.key))).trans (hf _ 5 (.int .i64 n.e.loan))).trans (hf _ 6 (.int .i64 n.e.amount))).trans (hf _ 7 (.float .f64 n.e.rate))).trans (hf _ 8 (.float .f64 n.e.income))).trans (hf _ 9 (.bool n.e.sub))).trans (hf _ 10 (.int .i64 n.e.status))).trans (hf _ 11 (.int .i64 n.e.plan))).trans (hf _ 12 (.int .i64 n.e.family))).trans (hf _ 13 (.int .u32 n.of)))
/-- What a line's words are read as: the command, what is left, whether they are well formed. -/
noncomputable def parC (L : List (List UInt8)) : C × List (List UInt8) × Bool :=
  if hd L.tail = [117, 110, 100, 111] then (⟨true, keyV (hd L), ⟨0, 0, 0, 0, 0, 0, 0, false, 0, 0, 0⟩, keyV (hd L.tail.tail)⟩, L.tail.tail.tail, keyB (hd L) && keyB (hd L.tail.tail))
  else (⟨false, keyV (hd L), (evR (keyV (hd L)) L.tail (keyB (hd L))).1, 0⟩, (evR (keyV (hd L)) L.tail (keyB (hd L))).2.1, (evR (keyV (hd L)) L.tail (keyB (hd L))).2.2)
/-- Is a line a command's? -/
noncomputable def parB (L : List (List UInt8)) : Bool := (parC L).2.2 && ((parC L).2.1.isEmpty && fineC (parC L).1)
theorem z64 : (0 : Nat) < 18446744073709551616 := by decide
theorem realU_lt (x : List UInt8) : realU x < 18446744073709551616 := by
  unfold realU
  split
  · rename_i u h
    unfold hexP at h
    split at h
    · cases h
    · exact hexU_lt x 0 u (by decide) h
  · decide
theorem getAll_lt : ∀ (a : List UInt8) (e : E) (L : List (List UInt8)) (ok : Bool), e.rate < 18446744073709551616 ∧ e.income < 18446744073709551616 → (getAll a e L ok).1.rate < 18446744073709551616 ∧ (getAll a e L ok).1.income < 18446744073709551616
  | [], _, _, _, h => h
  | c :: a, e, L, ok, h => by
    refine getAll_lt a _ _ _ ?_
    have := realU_lt (hd L)
    unfold getE
    repeat' split
    all_goals first | exact h | exact ⟨this, h.2⟩ | exact ⟨h.1, this⟩
theorem evR_lt (key : Int) (L : List (List UInt8)) (ok : Bool) : (evR key L ok).1.rate < 18446744073709551616 ∧ (evR key L ok).1.income < 18446744073709551616 := by
  unfold evR
  split
  · exact ⟨z64, z64⟩
  · exact getAll_lt _ _ _ _ ⟨z64, z64⟩
theorem parC_lt (L : List (List UInt8)) : (parC L).1.e.rate < 18446744073709551616 ∧ (parC L).1.e.income < 18446744073709551616 := by
  unfold parC
  split
  · exact ⟨z64, z64⟩
  · exact evR_lt _ _ _
end Go.Proofs.YtkcjgmicoifhcaaGreatDoor.Cn

/- D0: What a letter writes. (Printed by gen_d0.py.) -/
namespace Go.Proofs.YtkcjgmicoifhcaaGreatDoor.Cn
open Go.RowKit Go.Sort Go.Lib Go.Shelf
open Vw (Tab str Blk)
open Ev (E C fineC)
attribute [local go_sem ↓] Go.wp_at_zero Go.wp_at_succ

/-- A status's name. -/
def stW (n : Int) : List UInt8 := if n = 1 then [115, 99, 104, 111, 111, 108] else if n = 2 then [103, 114, 97, 99, 101] else if n = 3 then [100, 101, 102, 101, 114, 109, 101, 110, 116] else if n = 4 then [102, 111, 114, 98, 101, 97, 114] else if n = 5 then [114, 101, 112, 97, 121] else []
set_option maxRecDepth 8000 in
theorem stN_stW (n : Int) (h : 1 ≤ n ∧ n ≤ 5) : stN (stW n) = n := by
  have : n = 1 ∨ n = 2 ∨ n = 3 ∨ n = 4 ∨ n = 5 := by omega
  rcases this with rfl | rfl | rfl | rfl | rfl <;> decide +kernel
set_option maxRecDepth 20000 in
theorem index72 (n : Int) (h : 0 ≤ n ∧ n ≤ 5) (W : World) : (Instr.index 72 (.agg stC) (.int .i64 n)).run Tryz.prog W = .ok (.string (str (stW n))) W := by
  have : n = 0 ∨ n = 1 ∨ n = 2 ∨ n = 3 ∨ n = 4 ∨ n = 5 := by omega
  rcases this with rfl | rfl | rfl | rfl | rfl | rfl <;> rfl
/-- The bits of a number. -/
def bitU (x : Nat) : Nat := (Re.bitsN x).toNat
theorem bitU_eq (x : Nat) : ((bitU x : Nat) : Int) = Re.bitsN x := by
  unfold bitU Re.bitsN
  split
  · split <;> omega
  · rfl
theorem bitU_lt (x : Nat) (h : x < 18446744073709551616) : bitU x < 18446744073709551616 := by
  have := bitU_eq x
  unfold Re.bitsN at this
  split at this
  · split at this <;> omega
  · omega
theorem hex_calls (x : Nat) (h : x < 18446744073709551616) (w : World) (hT : w.cell? ⟨5, 15, none⟩ = some (.int .u8 4)) :
    Calls Tryz.prog 40 #[.float .f64 x] w fun e w' => e = .returned (.string (str (hexT (bitU x)))) ∧ Below w.heap.size w w' :=
  hexw_calls (bitU x) x (bitU_lt x h) w hT (fun W => by rw [bitU_eq]; exact Re.bits_calls x W)
/-- What a letter writes of an event. -/
def wordL (f : Nat) (e : E) : List UInt8 :=
  if f = 108 then itoa e.loan else if f = 97 then itoa e.amount else if f = 114 then hexT (bitU e.rate) else if f = 105 then hexT (bitU e.income)
  else if f = 115 then stW e.status else if f = 117 then itoa (if e.sub then 1 else 0) else itoa e.family
/-- An event's numbers fit. -/
structure FitE (e : E) : Prop where
  loan : -9223372036854775808 ≤ e.loan ∧ e.loan ≤ 9223372036854775807
  amount : -9223372036854775808 ≤ e.amount ∧ e.amount ≤ 9223372036854775807
  family : -9223372036854775808 ≤ e.family ∧ e.family ≤ 9223372036854775807
  status : 0 ≤ e.status ∧ e.status ≤ 5
  rate : e.rate < 18446744073709551616
  income : e.income < 18446744073709551616
set_option maxRecDepth 20000 in
set_option maxHeartbeats 8000000 in
theorem word_l (e : E) (hf : FitE e) (w : World) (hg : Gl w) (_hT : w.cell? ⟨5, 15, none⟩ = some (.int .u8 4)) :
    Calls Tryz.prog 19 #[.int .u8 108, e.v] w fun r w' => r = .returned (.string (str (wordL 108 e))) ∧ Below w.heap.size w w' := by
  have hal := (Below.refl w.heap.size w).alloc (Nat.le_refl _) (.cells e.cells 25)
  have hE := Blk.new w 25 e.cells
  have ce : (w.alloc (.cells e.cells 25)).cell? ⟨w.heap.size, 3, none⟩ = some (.int .i64 e.loan) := hE.cell 3
  have HI := Lib.hid (fmtInt e.loan hf.loan.1 hf.loan.2 (w.alloc (.cells e.cells 25)) (hg.below hal).tab)
  have HB := Lib.hid hal
  clear hal hE hg _hT hf
  go_enter Tryz.func19, Tryz.ntmps19
  go_upto_region 1 with fail
  generalize w.alloc (.cells e.cells 25) = w1 at *
  go_wp2_with fail
  refine HI.out.mono ?_
  rintro r w2 ⟨rfl, hb2⟩
  have HB2 := Lib.hid (HB.out.trans (hb2.mono HB.out.size))
  clear hb2
  go_wp2_with fail
  go_ret
  exact ⟨rfl, HB2.out⟩
set_option maxRecDepth 20000 in
set_option maxHeartbeats 8000000 in
theorem word_a (e : E) (hf : FitE e) (w : World) (hg : Gl w) (_hT : w.cell? ⟨5, 15, none⟩ = some (.int .u8 4)) :
    Calls Tryz.prog 19 #[.int .u8 97, e.v] w fun r w' => r = .returned (.string (str (wordL 97 e))) ∧ Below w.heap.size w w' := by
  have hal := (Below.refl w.heap.size w).alloc (Nat.le_refl _) (.cells e.cells 25)
  have hE := Blk.new w 25 e.cells
  have ce : (w.alloc (.cells e.cells 25)).cell? ⟨w.heap.size, 4, none⟩ = some (.int .i64 e.amount) := hE.cell 4
  have HI := Lib.hid (fmtInt e.amount hf.amount.1 hf.amount.2 (w.alloc (.cells e.cells 25)) (hg.below hal).tab)
  have HB := Lib.hid hal
  clear hal hE hg _hT hf
  go_enter Tryz.func19, Tryz.ntmps19
  go_upto_region 1 with fail
  generalize w.alloc (.cells e.cells 25) = w1 at *
  go_wp2_with fail
  refine HI.out.mono ?_
  rintro r w2 ⟨rfl, hb2⟩
  have HB2 := Lib.hid (HB.out.trans (hb2.mono HB.out.size))
  clear hb2
  go_wp2_with fail
  go_ret
  exact ⟨rfl, HB2.out⟩
set_option maxRecDepth 20000 in
set_option maxHeartbeats 8000000 in
theorem word_f (e : E) (hf : FitE e) (w : World) (hg : Gl w) (_hT : w.cell? ⟨5, 15, none⟩ = some (.int .u8 4)) :
    Calls Tryz.prog 19 #[.int .u8 102, e.v] w fun r w' => r = .returned (.string (str (wordL 102 e))) ∧ Below w.heap.size w w' := by
  have hal := (Below.refl w.heap.size w).alloc (Nat.le_refl _) (.cells e.cells 25)
  have hE := Blk.new w 25 e.cells
  have ce : (w.alloc (.cells e.cells 25)).cell? ⟨w.heap.size, 10, none⟩ = some (.int .i64 e.family) := hE.cell 10
  have HI := Lib.hid (fmtInt e.family hf.family.1 hf.family.2 (w.alloc (.cells e.cells 25)) (hg.below hal).tab)
  have HB := Lib.hid hal
  clear hal hE hg _hT hf
  go_enter Tryz.func19, Tryz.ntmps19
  go_upto_region 1 with fail
  generalize w.alloc (.cells e.cells 25) = w1 at *
  go_wp2_with fail
  refine HI.out.mono ?_
  rintro r w2 ⟨rfl, hb2⟩
  have HB2 := Lib.hid (HB.out.trans (hb2.mono HB.out.size))
  clear hb2
  go_wp2_with fail
  go_ret
  exact ⟨rfl, HB2.out⟩
set_option maxRecDepth 20000 in
set_option maxHeartbeats 8000000 in
theorem word_r (e : E) (hf : FitE e) (w : World) (_hg : Gl w) (hT : w.cell? ⟨5, 15, none⟩ = some (.int .u8 4)) :
    Calls Tryz.prog 19 #[.int .u8 114, e.v] w fun r w' => r = .returned (.string (str (wordL 114 e))) ∧ Below w.heap.size w w' := by
  have hal := (Below.refl w.heap.size w).alloc (Nat.le_refl _) (.cells e.cells 25)
  have hE := Blk.new w 25 e.cells
  have ce : (w.alloc (.cells e.cells 25)).cell? ⟨w.heap.size, 5, none⟩ = some (.float .f64 e.rate) := hE.cell 5
  have HI := Lib.hid (hex_calls e.rate hf.rate (w.alloc (.cells e.cells 25)) (cell_below hT hal))
  have HB := Lib.hid hal
  clear hal hE _hg hT hf
  go_enter Tryz.func19, Tryz.ntmps19
  go_upto_region 1 with fail
  generalize w.alloc (.cells e.cells 25) = w1 at *
  go_wp2_with fail
  refine HI.out.mono ?_
  rintro r w2 ⟨rfl, hb2⟩
  have HB2 := Lib.hid (HB.out.trans (hb2.mono HB.out.size))
  clear hb2
  go_wp2_with fail
  go_ret
  exact ⟨rfl, HB2.out⟩
set_option maxRecDepth 20000 in
set_option maxHeartbeats 8000000 in
theorem word_i (e : E) (hf : FitE e) (w : World) (_hg : Gl w) (hT : w.cell? ⟨5, 15, none⟩ = some (.int .u8 4)) :
    Calls Tryz.prog 19 #[.int .u8 105, e.v] w fun r w' => r = .returned (.string (str (wordL 105 e))) ∧ Below w.heap.size w w' := by
  have hal := (Below.refl w.heap.size w).alloc (Nat.le_refl _) (.cells e.cells 25)
  have hE := Blk.new w 25 e.cells
  have ce : (w.alloc (.cells e.cells 25)).cell? ⟨w.heap.size, 6, none⟩ = some (.float .f64 e.income) := hE.cell 6
  have HI := Lib.hid (hex_calls e.income hf.income (w.alloc (.cells e.cells 25)) (cell_below hT hal))
  have HB := Lib.hid hal
  clear hal hE _hg hT hf
  go_enter Tryz.func19, Tryz.ntmps19
  go_upto_region 1 with fail
  generalize w.alloc (.cells e.cells 25) = w1 at *
  go_wp2_with fail
  refine HI.out.mono ?_
  rintro r w2 ⟨rfl, hb2⟩
  have HB2 := Lib.hid (HB.out.trans (hb2.mono HB.out.size))
  clear hb2
  go_wp2_with fail
  go_ret
  exact ⟨rfl, HB2.out⟩
set_option maxRecDepth 20000 in
set_option maxHeartbeats 8000000 in
theorem word_u (e : E) (_hf : FitE e) (w : World) (hg : Gl w) (_hT : w.cell? ⟨5, 15, none⟩ = some (.int .u8 4)) :
    Calls Tryz.prog 19 #[.int .u8 117, e.v] w fun r w' => r = .returned (.string (str (wordL 117 e))) ∧ Below w.heap.size w w' := by
  have hal := (Below.refl w.heap.size w).alloc (Nat.le_refl _) (.cells e.cells 25)
  have hE := Blk.new w 25 e.cells
  have ce : (w.alloc (.cells e.cells 25)).cell? ⟨w.heap.size, 7, none⟩ = some (.bool e.sub) := hE.cell 7
  have HI := Lib.hid (fun n h1 h2 => fmtInt n h1 h2 (w.alloc (.cells e.cells 25)) (hg.below hal).tab)
  have HB := Lib.hid hal
  have HW : Hid (wordL 117 e = itoa (if e.sub then 1 else 0)) := Lib.hid rfl
  rw [HW.out]
  clear hal hE hg _hT _hf HW
  obtain ⟨s, hs⟩ : ∃ s, e.sub = s := ⟨_, rfl⟩
  rw [hs] at ce
  rw [hs]
  clear hs
  cases s with
  | false =>
    go_enter Tryz.func19, Tryz.ntmps19
    go_upto_region 1 with fail
    generalize w.alloc (.cells e.cells 25) = w1 at *
    go_wp2_with fail
    refine (HI.out 0 (by decide) (by decide)).mono ?_
    rintro r w2 ⟨rfl, hb2⟩
    have HB2 := Lib.hid (HB.out.trans (hb2.mono HB.out.size))
    clear hb2
    go_wp2_with fail
    go_ret
    exact ⟨rfl, HB2.out⟩
  | true =>
    go_enter Tryz.func19, Tryz.ntmps19
    go_upto_region 1 with fail
    generalize w.alloc (.cells e.cells 25) = w1 at *
    go_wp2_with fail
    refine (HI.out 1 (by decide) (by decide)).mono ?_
    rintro r w2 ⟨rfl, hb2⟩
    have HB2 := Lib.hid (HB.out.trans (hb2.mono HB.out.size))
    clear hb2
    go_wp2_with fail
    go_ret
    exact ⟨rfl, HB2.out⟩
set_option maxRecDepth 20000 in
set_option maxHeartbeats 8000000 in
theorem word_s (e : E) (hf : FitE e) (w : World) (_hg : Gl w) (_hT : w.cell? ⟨5, 15, none⟩ = some (.int .u8 4)) :
    Calls Tryz.prog 19 #[.int .u8 115, e.v] w fun r w' => r = .returned (.string (str (wordL 115 e))) ∧ Below w.heap.size w w' := by
  have hal := (Below.refl w.heap.size w).alloc (Nat.le_refl _) (.cells e.cells 25)
  have hE := Blk.new w 25 e.cells
  have HIx := Lib.hid (fun W => index72 e.status hf.status W)
  have HW : Hid (wordL 115 e = stW e.status) := Lib.hid rfl
  rw [HW.out]
  have HB := Lib.hid hal
  have HE := Lib.hid hE
  clear hal hE _hg _hT hf HW
  go_enter Tryz.func19, Tryz.ntmps19
  go_upto_region 1 with fail
  generalize w.alloc (.cells e.cells 25) = w1 at *
  go_upto_region 12 with fail
  have ce0 : w1.drew.cell? ⟨w.heap.size, 8, none⟩ = some (.int .i64 e.status) := HE.out.cell 8
  have ce : w1.cell? ⟨w.heap.size, 8, none⟩ = some (.int .i64 e.status) := HE.out.cell 8
  have hix := HIx.out
  go_region_with (go_at_call 41; refine (statuses_calls w1.drew).mono ?_; rintro r w3 ⟨rfl, hb3⟩; have HB3 := Lib.hid hb3; have c3 : w3.cell? ⟨w.heap.size, 8, none⟩ = some (.int .i64 e.status) := cell_below ce0 hb3; clear hb3)
  all_goals (go_wp2_with fail)
  all_goals go_ret
  all_goals exact ⟨rfl, HB.out.drew.trans (HB3.out.mono HB.out.size)⟩
theorem word_calls (c : UInt8) (hc : c = 108 ∨ c = 97 ∨ c = 114 ∨ c = 117 ∨ c = 115 ∨ c = 105 ∨ c = 102) (e : E) (hf : FitE e) (w : World) (hg : Gl w) (hT : w.cell? ⟨5, 15, none⟩ = some (.int .u8 4)) :
    Calls Tryz.prog 19 #[.int .u8 (c.toNat : Int), e.v] w fun r w' => r = .returned (.string (str (wordL c.toNat e))) ∧ Below w.heap.size w w' := by
  rcases hc with rfl | rfl | rfl | rfl | rfl | rfl | rfl
  · exact word_l e hf w hg hT
  · exact word_a e hf w hg hT
  · exact word_r e hf w hg hT
  · exact word_u e hf w hg hT
  · exact word_s e hf w hg hT
  · exact word_i e hf w hg hT
  · exact word_f e hf w hg hT
end Go.Proofs.YtkcjgmicoifhcaaGreatDoor.Cn
