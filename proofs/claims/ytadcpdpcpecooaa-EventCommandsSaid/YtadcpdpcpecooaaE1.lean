/- event.fields, event.goods, event.Good. -/
import Derived.Test.YtadcpdpcpecooaaE0
import Derived.Deep.WholeRow
namespace Go.Proofs.Ytadcpdpcpecooaa.Ev
open Go.RowKit Go.Proofs.Ytadcpdpcpecooaa.Pk Go.Proofs.Ytadcpdpcpecooaa.Re

/-- The letters of a kind's fields. -/
def letters (k : Int) : ByteArray :=
  if k = 1 then ⟨#[108, 97, 114, 117]⟩ else if k = 2 then ⟨#[108, 115]⟩ else if k = 3 then ⟨#[97]⟩ else if k = 4 then ⟨#[108, 97]⟩ else if k = 5 then ⟨#[112]⟩ else if k = 7 then ⟨#[108]⟩ else if k = 8 then ⟨#[108]⟩ else ByteArray.empty
def kindB (k : Int) : Bool := decide (1 ≤ k) && decide (k ≤ 8)
set_option maxRecDepth 20000 in
theorem fields_calls (k : Int) (w : World) : Calls Try.prog 37 #[.int .i64 k] w fun e w' => e = .returned (.tuple #[.string (letters k), .bool (kindB k)]) ∧ w' = w := by
  by_cases h : 1 ≤ k ∧ k ≤ 8
  · obtain rfl | rfl | rfl | rfl | rfl | rfl | rfl | rfl : k = 1 ∨ k = 2 ∨ k = 3 ∨ k = 4 ∨ k = 5 ∨ k = 6 ∨ k = 7 ∨ k = 8 := by omega
    · have hix : ∀ W : World, (Instr.index 94 (.agg #[.string { data := #[] }, .string { data := #[108, 97, 114, 117] }, .string { data := #[108, 115] }, .string { data := #[97] }, .string { data := #[108, 97] }, .string { data := #[112] }, .string { data := #[] }, .string { data := #[108] }, .string { data := #[108] }]) (.int .i64 1)).run Try.prog W = .ok (.string (letters 1)) W := fun W => by kernel_rfl
      go_enter Try.func37, Try.ntmps37
      go_wp2_with fail
      go_ret2
      exact ⟨rfl, rfl⟩
    · have hix : ∀ W : World, (Instr.index 94 (.agg #[.string { data := #[] }, .string { data := #[108, 97, 114, 117] }, .string { data := #[108, 115] }, .string { data := #[97] }, .string { data := #[108, 97] }, .string { data := #[112] }, .string { data := #[] }, .string { data := #[108] }, .string { data := #[108] }]) (.int .i64 2)).run Try.prog W = .ok (.string (letters 2)) W := fun W => by kernel_rfl
      go_enter Try.func37, Try.ntmps37
      go_wp2_with fail
      go_ret2
      exact ⟨rfl, rfl⟩
    · have hix : ∀ W : World, (Instr.index 94 (.agg #[.string { data := #[] }, .string { data := #[108, 97, 114, 117] }, .string { data := #[108, 115] }, .string { data := #[97] }, .string { data := #[108, 97] }, .string { data := #[112] }, .string { data := #[] }, .string { data := #[108] }, .string { data := #[108] }]) (.int .i64 3)).run Try.prog W = .ok (.string (letters 3)) W := fun W => by kernel_rfl
      go_enter Try.func37, Try.ntmps37
      go_wp2_with fail
      go_ret2
      exact ⟨rfl, rfl⟩
    · have hix : ∀ W : World, (Instr.index 94 (.agg #[.string { data := #[] }, .string { data := #[108, 97, 114, 117] }, .string { data := #[108, 115] }, .string { data := #[97] }, .string { data := #[108, 97] }, .string { data := #[112] }, .string { data := #[] }, .string { data := #[108] }, .string { data := #[108] }]) (.int .i64 4)).run Try.prog W = .ok (.string (letters 4)) W := fun W => by kernel_rfl
      go_enter Try.func37, Try.ntmps37
      go_wp2_with fail
      go_ret2
      exact ⟨rfl, rfl⟩
    · have hix : ∀ W : World, (Instr.index 94 (.agg #[.string { data := #[] }, .string { data := #[108, 97, 114, 117] }, .string { data := #[108, 115] }, .string { data := #[97] }, .string { data := #[108, 97] }, .string { data := #[112] }, .string { data := #[] }, .string { data := #[108] }, .string { data := #[108] }]) (.int .i64 5)).run Try.prog W = .ok (.string (letters 5)) W := fun W => by kernel_rfl
      go_enter Try.func37, Try.ntmps37
      go_wp2_with fail
      go_ret2
      exact ⟨rfl, rfl⟩
    · have hix : ∀ W : World, (Instr.index 94 (.agg #[.string { data := #[] }, .string { data := #[108, 97, 114, 117] }, .string { data := #[108, 115] }, .string { data := #[97] }, .string { data := #[108, 97] }, .string { data := #[112] }, .string { data := #[] }, .string { data := #[108] }, .string { data := #[108] }]) (.int .i64 6)).run Try.prog W = .ok (.string (letters 6)) W := fun W => by kernel_rfl
      go_enter Try.func37, Try.ntmps37
      go_wp2_with fail
      go_ret2
      exact ⟨rfl, rfl⟩
    · have hix : ∀ W : World, (Instr.index 94 (.agg #[.string { data := #[] }, .string { data := #[108, 97, 114, 117] }, .string { data := #[108, 115] }, .string { data := #[97] }, .string { data := #[108, 97] }, .string { data := #[112] }, .string { data := #[] }, .string { data := #[108] }, .string { data := #[108] }]) (.int .i64 7)).run Try.prog W = .ok (.string (letters 7)) W := fun W => by kernel_rfl
      go_enter Try.func37, Try.ntmps37
      go_wp2_with fail
      go_ret2
      exact ⟨rfl, rfl⟩
    · have hix : ∀ W : World, (Instr.index 94 (.agg #[.string { data := #[] }, .string { data := #[108, 97, 114, 117] }, .string { data := #[108, 115] }, .string { data := #[97] }, .string { data := #[108, 97] }, .string { data := #[112] }, .string { data := #[] }, .string { data := #[108] }, .string { data := #[108] }]) (.int .i64 8)).run Try.prog W = .ok (.string (letters 8)) W := fun W => by kernel_rfl
      go_enter Try.func37, Try.ntmps37
      go_wp2_with fail
      go_ret2
      exact ⟨rfl, rfl⟩
  · have e1 : letters k = ByteArray.empty := by
      unfold letters
      repeat rw [if_neg (by omega)]
    have e2 : kindB k = false := by
      unfold kindB
      by_cases c : 1 ≤ k
      · simp; omega
      · simp [c]
    rw [e1, e2]
    have h' : k < 1 ∨ 9 ≤ k := by omega
    rcases h' with h' | h'
    all_goals
      go_enter Try.func37, Try.ntmps37
      go_wp2_with fail
      go_ret2
      exact ⟨rfl, rfl⟩
/-- The tests, each at its letter. -/
def goodsA : Array Value := (((((((Array.replicate 128 Value.nilFunc).setIfInBounds 108 (Value.func (Fn.func 58) #[] #[])).setIfInBounds 97 (Value.func (Fn.func 59) #[] #[])).setIfInBounds 114 (Value.func (Fn.func 60) #[] #[])).setIfInBounds 117 (Value.func (Fn.func 64) #[] #[])).setIfInBounds 115 (Value.func (Fn.func 65) #[] #[])).setIfInBounds 112 (Value.func (Fn.func 66) #[] #[]))
theorem zeros79 : Try.zeroCells79 = Array.replicate 128 .nilFunc := by kernel_rfl
theorem goods_size : goodsA.size = 128 := by simp [goodsA]
theorem goods_nil (f : Nat) (hf : f < 128) (h : f ≠ 97 ∧ f ≠ 108 ∧ f ≠ 112 ∧ f ≠ 114 ∧ f ≠ 115 ∧ f ≠ 117) : goodsA[f]? = some .nilFunc := by
  obtain ⟨h1, h2, h3, h4, h5, h6⟩ := h
  simp only [goodsA, Array.getElem?_setIfInBounds, Array.getElem?_replicate]
  rw [if_neg (by omega), if_neg (by omega), if_neg (by omega), if_neg (by omega), if_neg (by omega), if_neg (by omega), if_pos hf]
theorem goods_at : goodsA[97]? = some (.func (.func 59) #[] #[]) ∧ goodsA[108]? = some (.func (.func 58) #[] #[]) ∧ goodsA[112]? = some (.func (.func 66) #[] #[]) ∧
    goodsA[114]? = some (.func (.func 60) #[] #[]) ∧ goodsA[115]? = some (.func (.func 65) #[] #[]) ∧ goodsA[117]? = some (.func (.func 64) #[] #[]) := by
  refine ⟨?_, ?_, ?_, ?_, ?_, ?_⟩ <;> simp [goodsA]
set_option maxRecDepth 20000 in
theorem goods_calls (w : World) : Calls Try.prog 39 #[] w fun e w' => e = .returned (.agg goodsA) ∧ Below w.heap.size w w' := by
  have hst := run_storeCells_new (P := Try.prog) w 79 Try.zeroCells79 goodsA (by rw [goods_size]; kernel_rfl) (by rw [goods_size]; kernel_rfl) (by kernel_rfl)
  rw [show goodsA.toList = ((((((Try.zeroCells79.toList.set 108 (Value.func (Fn.func 58) #[] #[])).set 97 (Value.func (Fn.func 59) #[] #[])).set 114 (Value.func (Fn.func 60) #[] #[])).set 117 (Value.func (Fn.func 64) #[] #[])).set 115 (Value.func (Fn.func 65) #[] #[])).set 112 (Value.func (Fn.func 66) #[] #[])) by simp [goodsA, zeros79]] at hst
  have hnew := heap_alloc_new w (.cells goodsA 79)
  have HB := Lib.hid ((Below.refl w.heap.size w).alloc (Nat.le_refl _) (.cells goodsA 79))
  go_enter Try.func39, Try.ntmps39
  go_wp2_with fail
  (try simp only [Exit.inBlock, Exit.then])
  refine bodyPost_ret (results_cell_row (p := 0) (ty := 79) rfl _ _ w.heap.size 79 _ _ _ rfl hnew Try.underlying79 rfl (by kernel_rfl)) rfl ?_
  exact ⟨rfl, HB.out⟩
theorem index79 (f : Nat) (hf : f < 128) (v : Value) (hv : goodsA[f]? = some v) (W : World) : (Instr.index 79 (.agg goodsA) (.int .i64 (f : Int))).run Try.prog W = .ok v W := by
  have h1 : (0 : Int) ≤ f ∧ (f : Int) < 128 := by omega
  simp [Instr.index, run_underlying Try.underlying79, asIntOf, Try.sizeOf78, part, Try.isAgg78, hv, h1, hf, go_sem]
/-- Has a text a letter? -/
def hasL (l : ByteArray) (f : Int) : Bool := (ints l).any (· == f)
/-- The test at a letter. -/
def testF (e : E) (f : Int) : Bool :=
  if f = 97 then fieldB e.amount 1000000000 (hasL (letters e.kind) 97)
  else if f = 108 then fieldB e.loan 1000 (hasL (letters e.kind) 108)
  else if f = 112 then planB e.plan e.family e.income (hasL (letters e.kind) 112)
  else if f = 114 then rateB e.rate (hasL (letters e.kind) 114)
  else if f = 115 then fieldB e.status 5 (hasL (letters e.kind) 115)
  else if f = 117 then hasL (letters e.kind) 117 || !e.sub
  else true
/-- Has an event a form? -/
def goodE (e : E) : Bool := kindB e.kind && (dayB e.day && (testF e 97 && (testF e 108 && (testF e 112 && (testF e 114 && (testF e 115 && testF e 117))))))
theorem goodE_of (e : E) (h1 : kindB e.kind = true) (h2 : dayB e.day = true) (h : ∀ j : Nat, j < 128 → testF e (j : Int) = true) : goodE e = true := by
  unfold goodE
  have a97 : testF e 97 = true := h 97 (by decide)
  have a108 : testF e 108 = true := h 108 (by decide)
  have a112 : testF e 112 = true := h 112 (by decide)
  have a114 : testF e 114 = true := h 114 (by decide)
  have a115 : testF e 115 = true := h 115 (by decide)
  have a117 : testF e 117 = true := h 117 (by decide)
  rw [h1, h2, a97, a108, a112, a114, a115, a117]
  rfl
theorem goodE_not (e : E) (j : Nat) (h : testF e (j : Int) = false) : goodE e = false := by
  have hj : j = 97 ∨ j = 108 ∨ j = 112 ∨ j = 114 ∨ j = 115 ∨ j = 117 := by
    refine Decidable.byContradiction fun hn => ?_
    have : testF e (j : Int) = true := by
      unfold testF
      rw [if_neg (by omega), if_neg (by omega), if_neg (by omega), if_neg (by omega), if_neg (by omega), if_neg (by omega)]
    rw [this] at h
    cases h
  unfold goodE
  rcases hj with rfl | rfl | rfl | rfl | rfl | rfl
  · have h' : testF e 97 = false := h
    simp [h']
  · have h' : testF e 108 = false := h
    simp [h']
  · have h' : testF e 112 = false := h
    simp [h']
  · have h' : testF e 114 = false := h
    simp [h']
  · have h' : testF e 115 = false := h
    simp [h']
  · have h' : testF e 117 = false := h
    simp [h']
end Go.Proofs.Ytadcpdpcpecooaa.Ev
