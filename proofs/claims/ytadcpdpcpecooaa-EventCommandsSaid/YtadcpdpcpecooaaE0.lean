/- Events as values; small functions of event and of its reference. -/
import Derived.Test.YtadcpdpcpecooaaDn
import Derived.Test.YtadcpdpcpecooaaH1
namespace Go.Proofs.Ytadcpdpcpecooaa.Ev
open Go.RowKit Go.Proofs.Ytadcpdpcpecooaa.Pk Go.Proofs.Ytadcpdpcpecooaa.Re

/-- An event. -/
structure E where
  kind : Int
  day : Int
  key : Int
  loan : Int
  amount : Int
  rate : Nat
  income : Nat
  sub : Bool
  status : Int
  plan : Int
  family : Int
  deriving DecidableEq
abbrev E.cells (e : E) : Array Value := #[.int .i64 e.kind, .int .i64 e.day, .int .u32 e.key, .int .i64 e.loan, .int .i64 e.amount, .float .f64 e.rate, .float .f64 e.income, .bool e.sub, .int .i64 e.status, .int .i64 e.plan, .int .i64 e.family]
abbrev E.v (e : E) : Value := .agg #[.int .i64 e.kind, .int .i64 e.day, .int .u32 e.key, .int .i64 e.loan, .int .i64 e.amount, .float .f64 e.rate, .float .f64 e.income, .bool e.sub, .int .i64 e.status, .int .i64 e.plan, .int .i64 e.family]
/-- An event in memory. -/
structure Bx (w : World) (g : Nat) (e : E) : Prop where
  c0 : w.cell? ⟨g, 0, none⟩ = some (.int .i64 e.kind)
  c1 : w.cell? ⟨g, 1, none⟩ = some (.int .i64 e.day)
  c2 : w.cell? ⟨g, 2, none⟩ = some (.int .u32 e.key)
  c3 : w.cell? ⟨g, 3, none⟩ = some (.int .i64 e.loan)
  c4 : w.cell? ⟨g, 4, none⟩ = some (.int .i64 e.amount)
  c5 : w.cell? ⟨g, 5, none⟩ = some (.float .f64 e.rate)
  c6 : w.cell? ⟨g, 6, none⟩ = some (.float .f64 e.income)
  c7 : w.cell? ⟨g, 7, none⟩ = some (.bool e.sub)
  c8 : w.cell? ⟨g, 8, none⟩ = some (.int .i64 e.status)
  c9 : w.cell? ⟨g, 9, none⟩ = some (.int .i64 e.plan)
  c10 : w.cell? ⟨g, 10, none⟩ = some (.int .i64 e.family)
theorem bx_of {w : World} {g : Nat} {e : E} (h : Blk w g 25 e.cells) : Bx w g e :=
  ⟨h.cell 0, h.cell 1, h.cell 2, h.cell 3, h.cell 4, h.cell 5, h.cell 6, h.cell 7, h.cell 8, h.cell 9, h.cell 10⟩

theorem zero_calls (x : Nat) (w : World) : Calls Try.prog 61 #[.float .f64 x] w fun e w' => e = .returned (.bool ((x : Int) == 0)) ∧ w' = w := by
  have h1 := bits_run
  go_enter Try.func61, Try.ntmps61
  go_wp2_with fail
  go_ret
  exact ⟨rfl, rfl⟩
def flagI (b : Bool) : Int := if b then 1 else 0
theorem number_calls (b : Bool) (w : World) : Calls Try.prog 26 #[.bool b] w fun e w' => e = .returned (.int .u64 (flagI b)) ∧ w' = w := by
  cases b <;>
    (go_enter Try.func26, Try.ntmps26
     go_wp2_with fail
     go_ret
     exact ⟨rfl, rfl⟩)
theorem flag_calls (b : Bool) (w : World) : Calls Try.prog 49 #[.bool b] w fun e w' => e = .returned (.int .u64 (flagI b)) ∧ w' = w := by
  cases b <;>
    (go_enter Try.func49, Try.ntmps49
     go_wp2_with fail
     go_ret
     exact ⟨rfl, rfl⟩)
def dayB (n : Int) : Bool := decide (0 ≤ n) && decide (n ≤ 87658)
theorem day_calls (n : Int) (w : World) : Calls Try.prog 38 #[.int .i64 n] w fun e w' => e = .returned (.bool (dayB n)) ∧ w' = w := by
  unfold dayB
  by_cases h : 0 ≤ n
  · have e1 : decide (0 ≤ n) = true := by simpa using h
    rw [e1]
    go_enter Try.func38, Try.ntmps38
    go_wp2_with fail
    go_ret
    exact ⟨by simp, rfl⟩
  · have e1 : decide (0 ≤ n) = false := by simpa using h
    rw [e1]
    go_enter Try.func38, Try.ntmps38
    go_wp2_with fail
    go_ret
    exact ⟨rfl, rfl⟩
theorem rday_calls (n : Int) (w : World) : Calls Try.prog 40 #[.int .i64 n] w fun e w' => e = .returned (.bool (dayB n)) ∧ w' = w := by
  unfold dayB
  by_cases h : 0 ≤ n
  · have e1 : decide (0 ≤ n) = true := by simpa using h
    rw [e1]
    go_enter Try.func40, Try.ntmps40
    go_wp2_with fail
    go_ret
    exact ⟨by simp, rfl⟩
  · have e1 : decide (0 ≤ n) = false := by simpa using h
    rw [e1]
    go_enter Try.func40, Try.ntmps40
    go_wp2_with fail
    go_ret
    exact ⟨rfl, rfl⟩
/-- A field that a kind has lies from 1 to a bound; one that it has not is 0. -/
def fieldB (n hi : Int) (has : Bool) : Bool := if has then decide (1 ≤ n) && decide (n ≤ hi) else n == 0
theorem g1_calls (e : E) (has : Bool) (w : World) : Calls Try.prog 58 #[e.v, .bool has] w fun r w' => r = .returned (.bool (fieldB e.loan 1000 has)) ∧ Below w.heap.size w w' := by
  have hb := Blk.new w 25 e.cells
  obtain ⟨k0, k1, k2, k3, k4, k5, k6, k7, k8, k9, k10⟩ := bx_of hb
  have HB := Lib.hid ((Below.refl w.heap.size w).alloc (Nat.le_refl _) (.cells e.cells 25))
  clear hb
  unfold fieldB
  cases has
  · go_enter Try.func58, Try.ntmps58
    go_wp2
    all_goals go_ret
    all_goals exact ⟨rfl, HB.out⟩
  · go_enter Try.func58, Try.ntmps58
    go_wp2
    all_goals go_ret
    all_goals exact ⟨ret_bool (by first | (simp_all; done) | (simp_all; omega)), HB.out⟩
theorem g2_calls (e : E) (has : Bool) (w : World) : Calls Try.prog 59 #[e.v, .bool has] w fun r w' => r = .returned (.bool (fieldB e.amount 1000000000 has)) ∧ Below w.heap.size w w' := by
  have hb := Blk.new w 25 e.cells
  obtain ⟨k0, k1, k2, k3, k4, k5, k6, k7, k8, k9, k10⟩ := bx_of hb
  have HB := Lib.hid ((Below.refl w.heap.size w).alloc (Nat.le_refl _) (.cells e.cells 25))
  clear hb
  unfold fieldB
  cases has
  · go_enter Try.func59, Try.ntmps59
    go_wp2
    all_goals go_ret
    all_goals exact ⟨rfl, HB.out⟩
  · go_enter Try.func59, Try.ntmps59
    go_wp2
    all_goals go_ret
    all_goals exact ⟨ret_bool (by first | (simp_all; done) | (simp_all; omega)), HB.out⟩
theorem g5_calls (e : E) (has : Bool) (w : World) : Calls Try.prog 65 #[e.v, .bool has] w fun r w' => r = .returned (.bool (fieldB e.status 5 has)) ∧ Below w.heap.size w w' := by
  have hb := Blk.new w 25 e.cells
  obtain ⟨k0, k1, k2, k3, k4, k5, k6, k7, k8, k9, k10⟩ := bx_of hb
  have HB := Lib.hid ((Below.refl w.heap.size w).alloc (Nat.le_refl _) (.cells e.cells 25))
  clear hb
  unfold fieldB
  cases has
  · go_enter Try.func65, Try.ntmps65
    go_wp2
    all_goals go_ret
    all_goals exact ⟨rfl, HB.out⟩
  · go_enter Try.func65, Try.ntmps65
    go_wp2
    all_goals go_ret
    all_goals exact ⟨ret_bool (by first | (simp_all; done) | (simp_all; omega)), HB.out⟩
theorem g4_calls (e : E) (has : Bool) (w : World) : Calls Try.prog 64 #[e.v, .bool has] w fun r w' => r = .returned (.bool (has || !e.sub)) ∧ Below w.heap.size w w' := by
  have hb := Blk.new w 25 e.cells
  obtain ⟨k0, k1, k2, k3, k4, k5, k6, k7, k8, k9, k10⟩ := bx_of hb
  have HB := Lib.hid ((Below.refl w.heap.size w).alloc (Nat.le_refl _) (.cells e.cells 25))
  clear hb
  cases has
  · go_enter Try.func64, Try.ntmps64
    go_wp2
    all_goals go_ret
    all_goals exact ⟨rfl, HB.out⟩
  · go_enter Try.func64, Try.ntmps64
    go_wp2
    all_goals go_ret
    all_goals exact ⟨rfl, HB.out⟩
/-- Is a number taken, and not -0? -/
def takeB (err : Int) (x : Nat) : Bool := err == 0 && (!isZ x || (x : Int) == 0)
set_option maxRecDepth 20000 in
theorem takes1_calls (x : Nat) (w : World) (hx : x < 18446744073709551616) : Calls Try.prog 63 #[.float .f64 x, .func (.func 62) #[] #[]] w fun e w' => e = .returned (.bool (takeB (pm x).2 x)) ∧ w' = w := by
  have HP := Lib.hid (ppm_calls x w hx)
  have h1 := bits_run
  unfold takeB
  generalize pm x = t at *
  obtain ⟨b, hb⟩ : ∃ b, isZ x = b := ⟨_, rfl⟩
  rw [hb]
  unfold isZ at hb
  obtain ⟨c, hc⟩ : ∃ c, (t.2 == 0) = c := ⟨_, rfl⟩
  rw [hc]
  go_enter Try.func63, Try.ntmps63
  go_wp2_with fail
  refine HP.out.mono ?_
  rintro e w1 ⟨rfl, rfl⟩
  have hb2 : (FloatKind.f64.format.order x 0 != some Ordering.eq) = !b := by rw [bne, hb]
  clear hb
  cases c <;> cases b
  all_goals
    simp only [Bool.not_true, Bool.not_false] at hb2
    go_wp2_with fail
    go_ret
    exact ⟨ret_bool (by simp), rfl⟩
set_option maxRecDepth 20000 in
theorem takes2_calls (x : Nat) (w : World) (hx : x < 18446744073709551616) : Calls Try.prog 68 #[.float .f64 x, .func (.func 67) #[] #[]] w fun e w' => e = .returned (.bool (takeB (tk x 100).2 x)) ∧ w' = w := by
  have HP := Lib.hid (cents_calls x w hx)
  have h1 := bits_run
  unfold takeB
  generalize tk x 100 = t at *
  obtain ⟨b, hb⟩ : ∃ b, isZ x = b := ⟨_, rfl⟩
  rw [hb]
  unfold isZ at hb
  obtain ⟨c, hc⟩ : ∃ c, (t.2 == 0) = c := ⟨_, rfl⟩
  rw [hc]
  go_enter Try.func68, Try.ntmps68
  go_wp2_with fail
  refine HP.out.mono ?_
  rintro e w1 ⟨rfl, rfl⟩
  have hb2 : (FloatKind.f64.format.order x 0 != some Ordering.eq) = !b := by rw [bne, hb]
  clear hb
  cases c <;> cases b
  all_goals
    simp only [Bool.not_true, Bool.not_false] at hb2
    go_wp2_with fail
    go_ret
    exact ⟨ret_bool (by simp), rfl⟩
def rateB (x : Nat) (has : Bool) : Bool := if has then takeB (pm x).2 x && decide ((pm x).1 ≤ 250000) else (x : Int) == 0
set_option maxRecDepth 20000 in
theorem g3_calls (e : E) (has : Bool) (w : World) (hx : e.rate < 18446744073709551616) : Calls Try.prog 60 #[e.v, .bool has] w fun r w' => r = .returned (.bool (rateB e.rate has)) ∧ Below w.heap.size w w' := by
  have hb := Blk.new w 25 e.cells
  obtain ⟨k0, k1, k2, k3, k4, k5, k6, k7, k8, k9, k10⟩ := bx_of hb
  have HB := Lib.hid ((Below.refl w.heap.size w).alloc (Nat.le_refl _) (.cells e.cells 25))
  clear hb
  unfold rateB
  cases has
  · go_enter Try.func60, Try.ntmps60
    go_wp2_with fail
    refine (zero_calls _ _).mono ?_
    rintro r w1 ⟨rfl, rfl⟩
    go_wp2_with fail
    go_ret
    exact ⟨rfl, HB.out⟩
  · have HP := Lib.hid (fun W => ppm_calls e.rate W hx)
    have HT := Lib.hid (fun W => takes1_calls e.rate W hx)
    have ht : takeB (pm e.rate).2 e.rate = true → ((pm e.rate).2 == 0) = true := by unfold takeB; intro h; simp at h; simp [h.1]
    generalize pm e.rate = t at *
    generalize takeB t.2 e.rate = c at *
    go_enter Try.func60, Try.ntmps60
    go_wp2_with fail
    refine (HP.out _).mono ?_
    rintro r w1 ⟨rfl, rfl⟩
    go_wp2_with fail
    refine (HT.out _).mono ?_
    rintro r w1 ⟨rfl, rfl⟩
    cases c
    · go_wp2_with fail
      go_ret
      exact ⟨rfl, HB.out⟩
    · have h2 := ht rfl
      go_wp2_with fail
      go_ret
      exact ⟨ret_bool (by simp), HB.out⟩
def planB (p f : Int) (x : Nat) (has : Bool) : Bool :=
  if has then
    (if p == 4 then takeB (tk x 100).2 x && (decide ((tk x 100).1 ≤ 1000000000) && (decide (1 ≤ f) && decide (f ≤ 30)))
     else (p == 1 || p == 2 || p == 3) && ((x : Int) == 0 && f == 0))
  else p == 0 && ((x : Int) == 0 && f == 0)
set_option maxRecDepth 20000 in
set_option maxHeartbeats 2000000 in
theorem g6_calls (e : E) (has : Bool) (w : World) (hx : e.income < 18446744073709551616) : Calls Try.prog 66 #[e.v, .bool has] w fun r w' => r = .returned (.bool (planB e.plan e.family e.income has)) ∧ Below w.heap.size w w' := by
  have hb := Blk.new w 25 e.cells
  obtain ⟨k0, k1, k2, k3, k4, k5, k6, k7, k8, k9, k10⟩ := bx_of hb
  have HB := Lib.hid ((Below.refl w.heap.size w).alloc (Nat.le_refl _) (.cells e.cells 25))
  clear hb k0 k1 k2 k3 k4 k5 k7 k8
  have HZ := Lib.hid (fun W => zero_calls e.income W)
  unfold planB
  obtain ⟨z, hz⟩ : ∃ c, ((e.income : Int) == 0) = c := ⟨_, rfl⟩
  rw [hz] at HZ ⊢
  clear hz
  cases has
  · go_enter Try.func66, Try.ntmps66
    go_upto_region 2 with fail
    generalize w.alloc (.cells e.cells 25) = W1 at *
    go_wp2_with (go_at_call 61; refine (HZ.out _).mono ?_; rintro r w1 ⟨rfl, rfl⟩)
    all_goals go_ret
    all_goals exact ⟨ret_bool (by simp_all), HB.out⟩
  · have HP := Lib.hid (fun W => cents_calls e.income W hx)
    have HT := Lib.hid (fun W => takes2_calls e.income W hx)
    have ht : takeB (tk e.income 100).2 e.income = true → ((tk e.income 100).2 == 0) = true := by unfold takeB; intro h; simp at h; simp [h.1]
    generalize tk e.income 100 = t at *
    generalize takeB t.2 e.income = c at *
    go_enter Try.func66, Try.ntmps66
    go_upto_region 3 with fail
    generalize w.alloc (.cells e.cells 25) = W1 at *
    go_wp2_with fail
    refine (HP.out _).mono ?_
    rintro r w1 ⟨rfl, rfl⟩
    go_wp2_with fail
    refine (HT.out _).mono ?_
    rintro r w1 ⟨rfl, rfl⟩
    cases c
    · clear ht
      go_wp2_with (go_at_call 61; refine (HZ.out _).mono ?_; rintro r w1 ⟨rfl, rfl⟩)
      all_goals go_ret
      all_goals exact ⟨ret_bool (by first | (simp_all; done) | (simp_all; omega)), HB.out⟩
    · have h2 := ht rfl
      clear ht
      go_wp2_with (go_at_call 61; refine (HZ.out _).mono ?_; rintro r w1 ⟨rfl, rfl⟩)
      all_goals go_ret
      all_goals exact ⟨ret_bool (by first | (simp_all; done) | (simp_all; omega)), HB.out⟩
end Go.Proofs.Ytadcpdpcpecooaa.Ev
