/- event.Encode. -/
import Derived.Test.YtadcpdpcpecooaaE8
namespace Go.Proofs.Ytadcpdpcpecooaa.Ev
open Go.RowKit Go.Proofs.Ytadcpdpcpecooaa.Pk Go.Proofs.Ytadcpdpcpecooaa.Re

/-- What a value of the type may be. -/
structure Ok (e : E) : Prop where
  key : 0 ≤ e.key ∧ e.key < 4294967296
  rate : e.rate < 18446744073709551616
  income : e.income < 18446744073709551616
theorem field_range {n hi : Int} {has : Bool} (h : fieldB n hi has = true) (h0 : 0 ≤ hi) : 0 ≤ n ∧ n ≤ hi := by
  unfold fieldB at h
  cases has
  · simp at h; omega
  · simp at h; omega
theorem plan_range {p f : Int} {x : Nat} {has : Bool} (h : planB p f x has = true) : (0 ≤ p ∧ p ≤ 4) ∧ 0 ≤ f ∧ f ≤ 30 := by
  unfold planB at h
  cases has
  · simp at h; omega
  · by_cases hp : p = 4
    · subst hp
      simp at h
      omega
    · simp [hp] at h
      omega
theorem flag_range (b : Bool) : 0 ≤ flagI b ∧ flagI b < 256 ^ 1 := by cases b <;> decide
theorem bits_range (x : Nat) (hx : x < 18446744073709551616) : 0 ≤ bitsN x ∧ bitsN x < 256 ^ 8 := by
  have h8 : (256 : Int) ^ 8 = 18446744073709551616 := by decide
  rw [h8]
  unfold bitsN
  split
  · split <;> omega
  · omega
theorem fits_of (e : E) (hg : goodE e = true) (ho : Ok e) : Fits e := by
  unfold goodE at hg
  simp only [Bool.and_eq_true] at hg
  obtain ⟨h1, h2, h97, h108, h112, h114, h115, h117⟩ := hg
  obtain ⟨t97, t108, t112, t114, t115, t117⟩ := tests_at e _ rfl
  rw [t97] at h97
  rw [t108] at h108
  rw [t112] at h112
  rw [t115] at h115
  have a := field_range h97 (by decide)
  have l := field_range h108 (by decide)
  have s := field_range h115 (by decide)
  obtain ⟨p, f⟩ := plan_range h112
  unfold kindB at h1
  unfold dayB at h2
  simp only [Bool.and_eq_true, decide_eq_true_eq] at h1 h2
  have k := ho.key
  have e1 : (256 : Int) ^ 1 = 256 := by decide
  have e2 : (256 : Int) ^ 2 = 65536 := by decide
  have e4 : (256 : Int) ^ 4 = 4294967296 := by decide
  have e8 : (256 : Int) ^ 8 = 18446744073709551616 := by decide
  exact ⟨by rw [e1]; omega, by rw [e4]; omega, by rw [e4]; omega, by rw [e2]; omega, by rw [e8]; omega, bits_range _ ho.rate, bits_range _ ho.income, flag_range _, by rw [e1]; omega, by rw [e1]; omega, by rw [e1]; omega⟩
def encS (e : E) : ByteArray := strOfNums (bytesE e)
def encB (e : E) : ByteArray := if goodE e then encS e else ByteArray.empty
def encX (e : E) : Int := if goodE e then 0 else 11
theorem pk_new (w : World) : PkAt 55 5 (w.alloc (.cells #[.slice none 0 0, .int .i64 0] 55)) w.heap.size w.heap.size (.slice none 0 0) [] 0 :=
  ⟨Blk.new _ _ _, Nat.le_refl _, ⟨rfl, .inl ⟨rfl, rfl⟩⟩⟩
set_option maxRecDepth 20000 in
set_option maxHeartbeats 4000000 in
theorem enc_calls (e : E) (w : World) (ho : Ok e) : Calls Try.prog 11 #[e.v] w fun r w' => r = .returned (.tuple #[.string (encB e), .int .i64 (encX e)]) ∧ Below w.heap.size w w' := by
  have hb := Blk.new w 25 e.cells
  have HB := Lib.hid ((Below.refl w.heap.size w).alloc (Nat.le_refl _) (.cells e.cells 25))
  have HBk := Lib.hid hb
  have HG := Lib.hid (fun W => good_calls e W ho.rate ho.income)
  unfold encB encX
  obtain ⟨gb, hgb⟩ : ∃ b, goodE e = b := ⟨_, rfl⟩
  rw [hgb] at HG ⊢
  obtain ⟨k0, k1, k2, k3, k4, k5, k6, k7, k8, k9, k10⟩ := bx_of hb
  clear hb
  go_enter Try.func11, Try.ntmps11
  go_upto_region 1 with fail
  generalize w.alloc (.cells e.cells 25) = W1 at *
  go_wp2_with fail
  refine (HG.out _).mono ?_
  rintro r w2 ⟨rfl, b2⟩
  have HB2 := Lib.hid (HB.out.trans (b2.mono HB.out.size))
  have HK2 := Lib.hid (HBk.out.below b2)
  clear b2 k0 k1 k2 k3 k4 k5 k6 k7 k8 k9 k10
  cases gb with
  | false =>
    go_wp2_with fail
    go_ret2
    exact ⟨rfl, HB2.out⟩
  | true =>
    have HF := Lib.hid (fits_of e hgb ho)
    obtain ⟨k0, k1, k2, k3, k4, k5, k6, k7, k8, k9, k10⟩ := bx_of HK2.out
    have HPn := Lib.hid (pk_new w2)
    have HKn := Lib.hid (HK2.out.below ((Below.refl w2.heap.size w2).alloc (Nat.le_refl _) (.cells #[.slice none 0 0, .int .i64 0] 55)))
    have HBn := Lib.hid (HB2.out.trans (((Below.refl w2.heap.size w2).alloc (Nat.le_refl _) (.cells #[.slice none 0 0, .int .i64 0] 55)).mono HB2.out.size))
    have HSn : Hid (w2.heap.size ≤ (w2.alloc (.cells #[.slice none 0 0, .int .i64 0] 55)).heap.size) := Lib.hid (by simp)
    have HSw : Hid (w.heap.size ≤ w2.heap.size) := Lib.hid HB2.out.size
    go_upto_region 4 with fail
    generalize w2.alloc (.cells #[.slice none 0 0, .int .i64 0] 55) = w3 at *
    clear k0 k1 k2 k3 k4 k5 k6 k7 k8 k9 k10
    obtain ⟨k0, k1, k2, k3, k4, k5, k6, k7, k8, k9, k10⟩ := bx_of HKn.out
    go_wp2_with fail
    refine (put_calls w2.heap.size w2.heap.size _ [] e w3 HPn.out HSn.out (by decide) HF.out).mono ?_
    rintro r w4 ⟨rfl, vb, hp, hfr⟩
    have HP := Lib.hid hp
    have HB4 := Lib.hid (HBn.out.trans (hfr.below.mono HSw.out))
    clear hp hfr k0 k1 k2 k3 k4 k5 k6 k7 k8 k9 k10
    go_wp2_with fail
    refine (Done_calls _ _ vb _ 0 w4 HP.out).mono ?_
    rintro r w5 ⟨rfl, b5⟩
    have HB5 := Lib.hid (HB4.out.trans (b5.mono HB4.out.size))
    clear b5
    go_wp2_with fail
    go_ret2
    exact ⟨rfl, HB5.out⟩
end Go.Proofs.Ytadcpdpcpecooaa.Ev
