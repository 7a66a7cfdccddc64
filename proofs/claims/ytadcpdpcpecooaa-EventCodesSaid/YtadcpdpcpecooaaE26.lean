/- EventCodes walked. (Printed by gen26.py.) -/
import Derived.Test.YtadcpdpcpecooaaE14
import Derived.Test.YtadcpdpcpecooaaE18
import Derived.Test.YtadcpdpcpecooaaE9
import Derived.Test.YtadcpdpcpecooaaE23
namespace Go.Proofs.Ytadcpdpcpecooaa.Ev
open Go.RowKit Go.Proofs.Ytadcpdpcpecooaa.Pk Go.Proofs.Ytadcpdpcpecooaa.Re

theorem two_eblks (a b : E) (w : World) : Blk ((w.alloc (.cells a.cells 25)).alloc (.cells b.cells 25)) w.heap.size 25 a.cells ∧ Blk ((w.alloc (.cells a.cells 25)).alloc (.cells b.cells 25)) (w.heap.size + 1) 25 b.cells ∧ Below w.heap.size w ((w.alloc (.cells a.cells 25)).alloc (.cells b.cells 25)) := by
  have h1 := Blk.new w 25 a.cells
  have h2 := Blk.new (w.alloc (.cells a.cells 25)) 25 b.cells
  have hs : (w.alloc (.cells a.cells 25)).heap.size = w.heap.size + 1 := by simp
  rw [hs] at h2
  refine ⟨h1.below ((Below.refl _ _).alloc (Nat.le_refl _) _), h2, ?_⟩
  have hb := (Below.refl w.heap.size w).alloc (Nat.le_refl _) (.cells a.cells 25)
  exact hb.alloc hb.size _
set_option maxRecDepth 20000 in
set_option maxHeartbeats 16000000 in
theorem codes_walk (e f : E) (s : ByteArray) (w : World) (ho : Ok e) :
    Calls Try.prog 4 #[e.v, f.v, .string s] w fun r w' => r = .returned (.bool true) ∧ Below w.heap.size w w' := by
  have hst := fun (a : Addr) (n : Nat) (W : World) => run_store Try.prog W a (.float .f64 n) .plain rfl
  obtain ⟨B1, B2, HB⟩ := two_eblks e f w
  have HE := Lib.hid B1
  have HF := Lib.hid B2
  have HB0 := Lib.hid HB
  clear B1 B2 HB
  have HEn := Lib.hid (fun W => enc_calls e W ho)
  have HRn := Lib.hid (fun W => renc_calls e W ho)
  have HG := Lib.hid (fun W => good_calls e W ho.rate ho.income)
  have HR := Lib.hid (fun W => rgoodE_calls e W ho.rate ho.income)
  rw [← good_same e ho.rate ho.income] at HR
  have HK := Lib.hid (fun W => kev_calls e f W)
  have HS := Lib.hid (fun W => same_calls e f W)
  have HSe := Lib.hid (fun W => same_calls e e W)
  rw [show decide (e = e) = true by simp] at HSe
  generalize decide (e = f) = q at HK HS
  generalize goodE e = g at HG HR
  generalize encX e = x at HEn HRn
  have hs := beq_list (encB e) (encB e)
  rw [show decide (encB e = encB e) = true by simp] at hs
  generalize encB e = sb at *
  have hx : (x == x) = true := by simp
  have hg : (g == g) = true := by simp
  have hq : (q == q) = true := by simp
  by_cases hlen : s.size ≤ 20000
  · have HD := Lib.hid (fun W => dec_calls s W (by omega))
    have HRd := Lib.hid (fun W => rdec_calls s W (by omega))
    generalize decE s = d at *
    generalize decX s = y at *
    have hy : (y == y) = true := by simp
    have HKd := Lib.hid (fun W => kev_calls d d W)
    rw [show decide (d = d) = true by simp] at HKd
    go_enter Try.func4, Try.ntmps4
    go_upto_region 1 with fail
    generalize (w.alloc (.cells e.cells 25)).alloc (.cells f.cells 25) = w1 at *
    obtain ⟨k0, k1, k2, k3, k4, k5, k6, k7, k8, k9, k10⟩ := bx_of HE.out
    have hge : w.heap.size < w.heap.size + 1 := Nat.lt_succ_self _
    have HGE := Lib.hid hge
    clear hge
    generalize hgf : w.heap.size + 1 = gf at *
    have HGF := Lib.hid hgf
    clear hgf
    go_wp2_with fail
    refine (HEn.out _).mono ?_
    rintro r w2 ⟨rfl, b2⟩
    have HE2 := Lib.hid (HE.out.below b2)
    have HF2 := Lib.hid (HF.out.below b2)
    have HB2 := Lib.hid (HB0.out.trans (b2.mono HB0.out.size))
    clear b2 k0 k1 k2 k3 k4 k5 k6 k7 k8 k9 k10
    obtain ⟨k0, k1, k2, k3, k4, k5, k6, k7, k8, k9, k10⟩ := bx_of HE2.out
    go_wp2_with fail
    refine (HRn.out _).mono ?_
    rintro r w3 ⟨rfl, b3⟩
    have HE3 := Lib.hid (HE2.out.below b3)
    have HF3 := Lib.hid (HF2.out.below b3)
    have HB3 := Lib.hid (HB2.out.trans (b3.mono HB2.out.size))
    clear b3 k0 k1 k2 k3 k4 k5 k6 k7 k8 k9 k10
    go_wp2_with fail
    refine (HD.out _).mono ?_
    rintro r w4 ⟨rfl, b4⟩
    have hal := (Below.refl w4.heap.size w4).alloc (Nat.le_refl _) (.cells d.cells 25)
    have HX4 := Lib.hid (Blk.new w4 25 d.cells)
    have HE4 := Lib.hid ((HE3.out.below b4).below hal)
    have HF4 := Lib.hid ((HF3.out.below b4).below hal)
    have HB4 := Lib.hid ((HB3.out.trans (b4.mono HB3.out.size)).trans (hal.mono (HB3.out.trans (b4.mono HB3.out.size)).size))
    clear b4 hal
    go_upto_region 6 with fail
    generalize w4.alloc (.cells d.cells 25) = w5 at *
    generalize w4.heap.size = gx at *
    go_wp2_with fail
    refine (HRd.out _).mono ?_
    rintro r w6 ⟨rfl, b6⟩
    have hal := (Below.refl w6.heap.size w6).alloc (Nat.le_refl _) (.cells d.cells 25)
    have HY1 := Lib.hid (Blk.new w6 25 d.cells)
    have HX1 := Lib.hid ((HX4.out.below b6).below hal)
    have HE1 := Lib.hid ((HE4.out.below b6).below hal)
    have HF1 := Lib.hid ((HF4.out.below b6).below hal)
    have HB1 := Lib.hid ((HB4.out.trans (b6.mono HB4.out.size)).trans (hal.mono (HB4.out.trans (b6.mono HB4.out.size)).size))
    clear b6 hal
    go_upto_region 7 with fail
    generalize w6.alloc (.cells d.cells 25) = w7 at *
    generalize w6.heap.size = gy at *
    clear HE HF HB0 HE2 HF2 HB2 HE3 HF3 HB3 HX4 HE4 HF4 HB4 HEn HRn HD HRd
    generalize hge : w.heap.size = ge at *
    have HGG := Lib.hid hge
    clear hge
    have HKE : Hid (∀ w' : World, Below w7.heap.size w7 w' → (w'.cell? ⟨ge, 0, none⟩ = some (.int .i64 e.kind) ∧ w'.cell? ⟨ge, 1, none⟩ = some (.int .i64 e.day) ∧ w'.cell? ⟨ge, 2, none⟩ = some (.int .u32 e.key) ∧ w'.cell? ⟨ge, 3, none⟩ = some (.int .i64 e.loan) ∧ w'.cell? ⟨ge, 4, none⟩ = some (.int .i64 e.amount) ∧ w'.cell? ⟨ge, 5, none⟩ = some (.float .f64 e.rate) ∧ w'.cell? ⟨ge, 6, none⟩ = some (.float .f64 e.income) ∧ w'.cell? ⟨ge, 7, none⟩ = some (.bool e.sub) ∧ w'.cell? ⟨ge, 8, none⟩ = some (.int .i64 e.status) ∧ w'.cell? ⟨ge, 9, none⟩ = some (.int .i64 e.plan) ∧ w'.cell? ⟨ge, 10, none⟩ = some (.int .i64 e.family) ∧ w'.cell? ⟨gf, 0, none⟩ = some (.int .i64 f.kind) ∧ w'.cell? ⟨gf, 1, none⟩ = some (.int .i64 f.day) ∧ w'.cell? ⟨gf, 2, none⟩ = some (.int .u32 f.key) ∧ w'.cell? ⟨gf, 3, none⟩ = some (.int .i64 f.loan) ∧ w'.cell? ⟨gf, 4, none⟩ = some (.int .i64 f.amount) ∧ w'.cell? ⟨gf, 5, none⟩ = some (.float .f64 f.rate) ∧ w'.cell? ⟨gf, 6, none⟩ = some (.float .f64 f.income) ∧ w'.cell? ⟨gf, 7, none⟩ = some (.bool f.sub) ∧ w'.cell? ⟨gf, 8, none⟩ = some (.int .i64 f.status) ∧ w'.cell? ⟨gf, 9, none⟩ = some (.int .i64 f.plan) ∧ w'.cell? ⟨gf, 10, none⟩ = some (.int .i64 f.family) ∧ w'.cell? ⟨gx, 0, none⟩ = some (.int .i64 d.kind) ∧ w'.cell? ⟨gx, 1, none⟩ = some (.int .i64 d.day) ∧ w'.cell? ⟨gx, 2, none⟩ = some (.int .u32 d.key) ∧ w'.cell? ⟨gx, 3, none⟩ = some (.int .i64 d.loan) ∧ w'.cell? ⟨gx, 4, none⟩ = some (.int .i64 d.amount) ∧ w'.cell? ⟨gx, 5, none⟩ = some (.float .f64 d.rate) ∧ w'.cell? ⟨gx, 6, none⟩ = some (.float .f64 d.income) ∧ w'.cell? ⟨gx, 7, none⟩ = some (.bool d.sub) ∧ w'.cell? ⟨gx, 8, none⟩ = some (.int .i64 d.status) ∧ w'.cell? ⟨gx, 9, none⟩ = some (.int .i64 d.plan) ∧ w'.cell? ⟨gx, 10, none⟩ = some (.int .i64 d.family) ∧ w'.cell? ⟨gy, 0, none⟩ = some (.int .i64 d.kind) ∧ w'.cell? ⟨gy, 1, none⟩ = some (.int .i64 d.day) ∧ w'.cell? ⟨gy, 2, none⟩ = some (.int .u32 d.key) ∧ w'.cell? ⟨gy, 3, none⟩ = some (.int .i64 d.loan) ∧ w'.cell? ⟨gy, 4, none⟩ = some (.int .i64 d.amount) ∧ w'.cell? ⟨gy, 5, none⟩ = some (.float .f64 d.rate) ∧ w'.cell? ⟨gy, 6, none⟩ = some (.float .f64 d.income) ∧ w'.cell? ⟨gy, 7, none⟩ = some (.bool d.sub) ∧ w'.cell? ⟨gy, 8, none⟩ = some (.int .i64 d.status) ∧ w'.cell? ⟨gy, 9, none⟩ = some (.int .i64 d.plan) ∧ w'.cell? ⟨gy, 10, none⟩ = some (.int .i64 d.family))) := Lib.hid (fun w' hB => ⟨(bx_of (HE1.out.below hB)).c0, (bx_of (HE1.out.below hB)).c1, (bx_of (HE1.out.below hB)).c2, (bx_of (HE1.out.below hB)).c3, (bx_of (HE1.out.below hB)).c4, (bx_of (HE1.out.below hB)).c5, (bx_of (HE1.out.below hB)).c6, (bx_of (HE1.out.below hB)).c7, (bx_of (HE1.out.below hB)).c8, (bx_of (HE1.out.below hB)).c9, (bx_of (HE1.out.below hB)).c10, (bx_of (HF1.out.below hB)).c0, (bx_of (HF1.out.below hB)).c1, (bx_of (HF1.out.below hB)).c2, (bx_of (HF1.out.below hB)).c3, (bx_of (HF1.out.below hB)).c4, (bx_of (HF1.out.below hB)).c5, (bx_of (HF1.out.below hB)).c6, (bx_of (HF1.out.below hB)).c7, (bx_of (HF1.out.below hB)).c8, (bx_of (HF1.out.below hB)).c9, (bx_of (HF1.out.below hB)).c10, (bx_of (HX1.out.below hB)).c0, (bx_of (HX1.out.below hB)).c1, (bx_of (HX1.out.below hB)).c2, (bx_of (HX1.out.below hB)).c3, (bx_of (HX1.out.below hB)).c4, (bx_of (HX1.out.below hB)).c5, (bx_of (HX1.out.below hB)).c6, (bx_of (HX1.out.below hB)).c7, (bx_of (HX1.out.below hB)).c8, (bx_of (HX1.out.below hB)).c9, (bx_of (HX1.out.below hB)).c10, (bx_of (HY1.out.below hB)).c0, (bx_of (HY1.out.below hB)).c1, (bx_of (HY1.out.below hB)).c2, (bx_of (HY1.out.below hB)).c3, (bx_of (HY1.out.below hB)).c4, (bx_of (HY1.out.below hB)).c5, (bx_of (HY1.out.below hB)).c6, (bx_of (HY1.out.below hB)).c7, (bx_of (HY1.out.below hB)).c8, (bx_of (HY1.out.below hB)).c9, (bx_of (HY1.out.below hB)).c10⟩)
    have e0 := (Below.refl w7.heap.size w7).drew
    go_region_held3 (fun w' => w'.cell? ⟨ge, 0, none⟩ = some (.int .i64 e.kind) ∧ w'.cell? ⟨ge, 1, none⟩ = some (.int .i64 e.day) ∧ w'.cell? ⟨ge, 2, none⟩ = some (.int .u32 e.key) ∧ w'.cell? ⟨ge, 3, none⟩ = some (.int .i64 e.loan) ∧ w'.cell? ⟨ge, 4, none⟩ = some (.int .i64 e.amount) ∧ w'.cell? ⟨ge, 5, none⟩ = some (.float .f64 e.rate) ∧ w'.cell? ⟨ge, 6, none⟩ = some (.float .f64 e.income) ∧ w'.cell? ⟨ge, 7, none⟩ = some (.bool e.sub) ∧ w'.cell? ⟨ge, 8, none⟩ = some (.int .i64 e.status) ∧ w'.cell? ⟨ge, 9, none⟩ = some (.int .i64 e.plan) ∧ w'.cell? ⟨ge, 10, none⟩ = some (.int .i64 e.family) ∧ w'.cell? ⟨gf, 0, none⟩ = some (.int .i64 f.kind) ∧ w'.cell? ⟨gf, 1, none⟩ = some (.int .i64 f.day) ∧ w'.cell? ⟨gf, 2, none⟩ = some (.int .u32 f.key) ∧ w'.cell? ⟨gf, 3, none⟩ = some (.int .i64 f.loan) ∧ w'.cell? ⟨gf, 4, none⟩ = some (.int .i64 f.amount) ∧ w'.cell? ⟨gf, 5, none⟩ = some (.float .f64 f.rate) ∧ w'.cell? ⟨gf, 6, none⟩ = some (.float .f64 f.income) ∧ w'.cell? ⟨gf, 7, none⟩ = some (.bool f.sub) ∧ w'.cell? ⟨gf, 8, none⟩ = some (.int .i64 f.status) ∧ w'.cell? ⟨gf, 9, none⟩ = some (.int .i64 f.plan) ∧ w'.cell? ⟨gf, 10, none⟩ = some (.int .i64 f.family) ∧ w'.cell? ⟨gx, 0, none⟩ = some (.int .i64 d.kind) ∧ w'.cell? ⟨gx, 1, none⟩ = some (.int .i64 d.day) ∧ w'.cell? ⟨gx, 2, none⟩ = some (.int .u32 d.key) ∧ w'.cell? ⟨gx, 3, none⟩ = some (.int .i64 d.loan) ∧ w'.cell? ⟨gx, 4, none⟩ = some (.int .i64 d.amount) ∧ w'.cell? ⟨gx, 5, none⟩ = some (.float .f64 d.rate) ∧ w'.cell? ⟨gx, 6, none⟩ = some (.float .f64 d.income) ∧ w'.cell? ⟨gx, 7, none⟩ = some (.bool d.sub) ∧ w'.cell? ⟨gx, 8, none⟩ = some (.int .i64 d.status) ∧ w'.cell? ⟨gx, 9, none⟩ = some (.int .i64 d.plan) ∧ w'.cell? ⟨gx, 10, none⟩ = some (.int .i64 d.family) ∧ w'.cell? ⟨gy, 0, none⟩ = some (.int .i64 d.kind) ∧ w'.cell? ⟨gy, 1, none⟩ = some (.int .i64 d.day) ∧ w'.cell? ⟨gy, 2, none⟩ = some (.int .u32 d.key) ∧ w'.cell? ⟨gy, 3, none⟩ = some (.int .i64 d.loan) ∧ w'.cell? ⟨gy, 4, none⟩ = some (.int .i64 d.amount) ∧ w'.cell? ⟨gy, 5, none⟩ = some (.float .f64 d.rate) ∧ w'.cell? ⟨gy, 6, none⟩ = some (.float .f64 d.income) ∧ w'.cell? ⟨gy, 7, none⟩ = some (.bool d.sub) ∧ w'.cell? ⟨gy, 8, none⟩ = some (.int .i64 d.status) ∧ w'.cell? ⟨gy, 9, none⟩ = some (.int .i64 d.plan) ∧ w'.cell? ⟨gy, 10, none⟩ = some (.int .i64 d.family)) (first | exact HKE.out _ (by assumption) | go_keep)
      (first
        | ((go_at_call 9; refine (wakes_calls p6).mono ?_; rintro r p7 ⟨rfl, b7⟩; have e7 : Below w7.heap.size w7 p7 := e6.trans (b7.mono e6.size)))
        | ((go_at_call 18; refine (HSe.out p5).mono ?_; rintro r p6 ⟨rfl, b6⟩; have e6 : Below w7.heap.size w7 p6 := e5.trans (b6.mono e5.size)))
        | ((go_at_call 17; refine (HK.out p4).mono ?_; rintro r p5 ⟨rfl, b5⟩; have e5 : Below w7.heap.size w7 p5 := e4.trans (b5.mono e4.size)))
        | ((go_at_call 18; refine (HS.out p3).mono ?_; rintro r p4 ⟨rfl, b4⟩; have e4 : Below w7.heap.size w7 p4 := e3.trans (b4.mono e3.size)))
        | ((go_at_call 17; refine (HKd.out p2).mono ?_; rintro r p3 ⟨rfl, b3⟩; have e3 : Below w7.heap.size w7 p3 := e2.trans (b3.mono e2.size)))
        | ((go_at_call 16; refine (HR.out p1).mono ?_; rintro r p2 ⟨rfl, b2⟩; have e2 : Below w7.heap.size w7 p2 := e1.trans (b2.mono e1.size)))
        | ((go_at_call 15; refine (HG.out w7.drew).mono ?_; rintro r p1 ⟨rfl, b1⟩; have e1 : Below w7.heap.size w7 p1 := e0.trans (b1.mono e0.size))))
    have HB8 := Lib.hid (HB1.out.trans (e7.mono (HGG.out ▸ HB1.out.size)))
    go_wp2_with fail
    go_ret
    exact ⟨by simp, by rw [HGG.out]; exact HB8.out⟩
  · have h1 : (20000 : Int) < (s.size : Int) := by omega
    clear hlen
    go_enter Try.func4, Try.ntmps4
    go_upto_region 1 with fail
    generalize (w.alloc (.cells e.cells 25)).alloc (.cells f.cells 25) = W1 at *
    go_wp2_with fail
    refine (wakes_calls _).mono ?_
    rintro r wa ⟨rfl, ba⟩
    have HBa := Lib.hid (HB0.out.trans (ba.mono HB0.out.size))
    clear ba
    go_wp2_with fail
    go_ret
    exact ⟨rfl, HBa.out⟩
end Go.Proofs.Ytadcpdpcpecooaa.Ev
